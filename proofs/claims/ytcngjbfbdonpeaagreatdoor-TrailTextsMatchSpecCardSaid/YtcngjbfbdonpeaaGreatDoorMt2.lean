/- Several texts of this claim in one. -/
import Derived.Lib.Split
import Derived.Lib.ItoaMem
import Derived.Lib.AtoiTie
import Derived.Test.YtcngjbfbdonpeaaGreatDoorProg
import Derived.Test.YtcngjbfbdonpeaaGreatDoorMt1
import Derived.Lib.SlicesS
import Derived.WalkKit
import Derived.WalkSpells
import Derived.WalkLawsBesides
import Derived.Lib.Hide
import Derived.Test.YtcngjbfbdonpeaaGreatDoorShelf
import Derived.RegionTactic
import Derived.ChangeAlike
import Derived.Deep.QuietTactic
import Derived.BigQuiet
import Derived.Deep.Cut
import Derived.Deep.Slices
import Derived.ChangeSame
import Derived.Below
import Derived.Lib.SmallJoins
import Derived.OrdersHeld
import Derived.Lib.LaidTab
import Derived.Laws.AppendOwn
import Derived.Laws.StructEq
import Derived.Deep.AppendLies
import Derived.Lib.AppendZeros
/- A text of this claim. -/
namespace Go.Proofs.YtcngjbfbdonpeaaGreatDoor
namespace Txt
open Go.Lib (index indexB cut count countFrom split splitK splitB atoi itoa decDigits decNat decFrom digitVal)
theorem index1_hit (l r : List UInt8) (c : UInt8) (h : c ∉ l) : index (l ++ c :: r) [c] = l.length := by
 apply Lib.index_first (by simp)
 · unfold Lib.occAt
   rw [List.drop_left' rfl]
   simp [List.isPrefixOf]
 · intro j hj
   unfold Lib.occAt
   have hl : (l ++ c :: r).drop j = l.drop j ++ c :: r := by rw [List.drop_append_of_le_length (by omega)]
   rw [hl]
   cases hd : l.drop j with
   | nil =>
    have := congrArg List.length hd
    simp at this
    omega
   | cons a t =>
    have hm : a ∈ l := List.mem_of_mem_drop (by rw [hd]; simp)
    have hne : c ≠ a := fun e => h (e ▸ hm)
    simp [List.isPrefixOf, hne]
theorem index1_miss (l : List UInt8) (c : UInt8) (h : c ∉ l) : index l [c] = -1 := by
 apply Lib.index_none
 intro j hj
 unfold Lib.occAt
 cases hd : l.drop j with
 | nil => simp [List.isPrefixOf]
 | cons a t =>
  have hm : a ∈ l := List.mem_of_mem_drop (by rw [hd]; simp)
  have hne : c ≠ a := fun e => h (e ▸ hm)
  simp [List.isPrefixOf, hne]
theorem cut1_hit (l r : List UInt8) (c : UInt8) (h : c ∉ l) : cut (l ++ c :: r) [c] = (l, r, true) := by
 unfold cut
 rw [index1_hit l r c h, if_pos (by omega)]
 simp
theorem cut1_miss (l : List UInt8) (c : UInt8) (h : c ∉ l) : cut l [c] = (l, [], false) := by
 unfold cut
 rw [index1_miss l c h, if_neg (by omega)]
theorem cut_len (s sep : List UInt8) (h1 : 1 ≤ sep.length) : (cut s sep).1.length ≤ s.length ∧ (cut s sep).2.1.length ≤ s.length ∧ (s ≠ [] → (cut s sep).2.1.length < s.length) := by
 unfold cut
 split
 · rename_i h
   have := Lib.index_room s sep h
   simp only [List.length_take, List.length_drop]
   refine ⟨by omega, by omega, fun _ => by omega⟩
 · refine ⟨Nat.le_refl _, by simp, fun h => ?_⟩
   cases s with
   | nil => exact absurd rfl h
   | cons a t => simp
def joinL (c : UInt8) : List (List UInt8) → List UInt8
 | [] => []
 | [w] => w
 | w :: v :: ws => w ++ c :: joinL c (v :: ws)
def isD (b : UInt8) : Bool := decide (48 ≤ b.toNat) && decide (b.toNat ≤ 57)
def canon (l : List UInt8) : Bool := !l.isEmpty && l.all isD && !(decide (1 < l.length) && decide (l.head? = some 48))
theorem digitVal_of {b : UInt8} (h : isD b = true) : digitVal b = some (b.toNat - 48) := by
 unfold isD at h
 simp only [Bool.and_eq_true, decide_eq_true_eq] at h
 unfold digitVal
 rw [if_pos h]
theorem decFrom_some : ∀ (l : List UInt8) (acc : Nat), l.all isD = true → ∃ n, decFrom acc l = some n ∧ acc * 10 ^ l.length ≤ n
 | [], acc, _ => ⟨acc, rfl, by simp⟩
 | b :: l, acc, h => by
  rw [List.all_cons, Bool.and_eq_true] at h
  obtain ⟨n, h1, h2⟩ := decFrom_some l (acc * 10 + (b.toNat - 48)) h.2
  refine ⟨n, ?_, ?_⟩
  · rw [decFrom, digitVal_of h.1]
    exact h1
  · have e : acc * 10 ^ (b :: l).length ≤ (acc * 10 + (b.toNat - 48)) * 10 ^ l.length := by
     rw [List.length_cons, Nat.pow_succ, Nat.add_mul, Nat.mul_comm (10 ^ l.length) 10, ← Nat.mul_assoc]
     exact Nat.le_add_right _ _
    omega
theorem decFrom_snoc : ∀ (l : List UInt8) (acc n : Nat) (b : UInt8), decFrom acc l = some n → isD b = true → decFrom acc (l ++ [b]) = some (n * 10 + (b.toNat - 48))
 | [], acc, n, b, h, hb => by
  simp only [decFrom, Option.some.injEq] at h
  subst h
  rw [List.nil_append, decFrom, digitVal_of hb]
  rfl
 | a :: l, acc, n, b, h, hb => by
  rw [List.cons_append, decFrom]
  rw [decFrom] at h
  cases ha : digitVal a with
  | none => rw [ha] at h; cases h
  | some e =>
   rw [ha] at h
   exact decFrom_snoc l _ n b h hb
theorem ofNat_d {k : Nat} (h : k < 10) : isD (UInt8.ofNat (48 + k)) = true ∧ (UInt8.ofNat (48 + k)).toNat - 48 = k := by
 have e : (UInt8.ofNat (48 + k)).toNat = 48 + k := by
  rw [UInt8.toNat_ofNat']
  omega
 unfold isD
 rw [e]
 simp
 omega
theorem dec_back (n : Nat) : (decDigits n).all isD = true ∧ decDigits n ≠ [] ∧ decFrom 0 (decDigits n) = some n ∧ (1 < (decDigits n).length → (decDigits n).head? ≠ some 48) := by
 induction n using Nat.strongRecOn with
 | ind n ih =>
  by_cases h : n < 10
  · rw [decDigits, dif_pos h]
    have := ofNat_d h
    refine ⟨by rw [List.all_cons, this.1]; rfl, by simp, ?_, by simp⟩
    rw [decFrom, digitVal_of this.1, this.2]
    show decFrom (0 * 10 + n) [] = some n
    rw [Nat.zero_mul, Nat.zero_add]
    rfl
  · rw [decDigits, dif_neg h]
    obtain ⟨h1, h2, h3, h4⟩ := ih (n / 10) (by omega)
    have hd := ofNat_d (k := n % 10) (by omega)
    refine ⟨by rw [List.all_append, h1, List.all_cons, hd.1]; rfl, by simp, ?_, fun _ => ?_⟩
    · rw [decFrom_snoc _ _ _ _ h3 hd.1, hd.2]
      congr 1
      omega
    · have hh : (decDigits (n / 10) ++ [UInt8.ofNat (48 + n % 10)]).head? = (decDigits (n / 10)).head? := by
       cases hx : decDigits (n / 10) with
       | nil => exact absurd hx h2
       | cons a t => rfl
      rw [hh]
      by_cases hl : 1 < (decDigits (n / 10)).length
      · exact h4 hl
      · have hl1 : n / 10 < 10 := by
         apply Classical.byContradiction
         intro hge
         rw [decDigits, dif_neg hge] at hl
         have := (ih (n / 10 / 10) (by omega)).2.1
         cases hx : decDigits (n / 10 / 10) with
         | nil => exact this hx
         | cons a t => rw [hx] at hl; simp at hl
        rw [decDigits, dif_pos hl1]
        simp only [List.head?_cons]
        intro e
        injection e with e
        have := congrArg UInt8.toNat e
        rw [UInt8.toNat_ofNat'] at this
        simp at this
        omega
theorem dec_canon : ∀ (m : Nat) (l : List UInt8) (n : Nat), l.length = m → canon l = true → decFrom 0 l = some n → decDigits n = l := by
 intro m
 induction m with
 | zero =>
  intro l n hl hc _
  have : l = [] := List.eq_nil_of_length_eq_zero hl
  subst this
  simp [canon] at hc
 | succ m ih =>
  intro l n hl hc hn
  obtain ⟨t, b, rfl⟩ : ∃ t b, l = t ++ [b] := by
   refine ⟨l.dropLast, l.getLast (by intro e; rw [e] at hl; simp at hl), ?_⟩
   exact (List.dropLast_concat_getLast _).symm
  simp only [List.length_append, List.length_cons, List.length_nil, Nat.zero_add, Nat.add_right_cancel_iff] at hl
  simp only [canon, Bool.and_eq_true, List.all_append, List.all_cons, List.all_nil, Bool.and_true, Bool.not_eq_true'] at hc
  obtain ⟨⟨_, ht, hb⟩, hz⟩ := hc
  obtain ⟨k, hk, _⟩ := decFrom_some t 0 ht
  have e := decFrom_snoc t 0 k b hk hb
  rw [e] at hn
  injection hn with hn
  have hb2 := hb
  unfold isD at hb2
  simp only [Bool.and_eq_true, decide_eq_true_eq] at hb2
  have hbo : UInt8.ofNat (48 + (b.toNat - 48)) = b := by
   rw [show 48 + (b.toNat - 48) = b.toNat by omega]
   simp
  cases t with
  | nil =>
   simp only [decFrom, Option.some.injEq] at hk
   subst hk
   rw [decDigits, dif_pos (by omega), ← hn]
   simp only [Nat.zero_mul, Nat.zero_add, List.nil_append]
   rw [hbo]
  | cons a t =>
   have hz2 : a ≠ 48 := fun ea => by
    rw [ea] at hz
    simp at hz
   have hct : canon (a :: t) = true := by
    simp only [canon, Bool.and_eq_true, Bool.not_eq_true']
    refine ⟨⟨by simp, ht⟩, ?_⟩
    simp [hz2]
   have ek := ih (a :: t) k hl hct hk
   have hk10 : 1 ≤ k := by
    rw [decFrom] at hk
    rw [List.all_cons, Bool.and_eq_true] at ht
    rw [digitVal_of ht.1] at hk
    have hk : decFrom (0 * 10 + (a.toNat - 48)) t = some k := hk
    obtain ⟨k2, h1, h2⟩ := decFrom_some t (0 * 10 + (a.toNat - 48)) ht.2
    rw [h1] at hk
    injection hk with hk
    have ha := ht.1
    unfold isD at ha
    simp only [Bool.and_eq_true, decide_eq_true_eq] at ha
    have ha2 : a.toNat ≠ 48 := fun ea => hz2 (by rw [← UInt8.toNat_inj, ea]; rfl)
    have hp : 1 ≤ 10 ^ t.length := Nat.one_le_pow _ _ (by omega)
    have : 1 * 1 ≤ (0 * 10 + (a.toNat - 48)) * 10 ^ t.length := Nat.mul_le_mul (by omega) hp
    omega
   rw [decDigits, dif_neg (by omega), show n / 10 = k by omega, show n % 10 = b.toNat - 48 by omega, ek, hbo]
def numL (l : List UInt8) : Option Int := if decide (l.length ≤ 12) && canon l then atoi l else none
theorem atoi_canon {l : List UInt8} (h : canon l = true) : ∃ n : Nat, atoi l = some (n : Int) ∧ decDigits n = l ∧ decFrom 0 l = some n := by
 have hc := h
 simp only [canon, Bool.and_eq_true, Bool.not_eq_true'] at h
 obtain ⟨n, hn, _⟩ := decFrom_some l 0 h.1.2
 refine ⟨n, ?_, dec_canon _ l n rfl hc hn, hn⟩
 cases l with
 | nil => simp at h
 | cons a t =>
  have ha := h.1.2
  rw [List.all_cons, Bool.and_eq_true] at ha
  have ha1 := ha.1
  unfold isD at ha1
  simp only [Bool.and_eq_true, decide_eq_true_eq] at ha1
  rw [atoi, if_neg (by simp; intro e; rw [e] at ha1; simp at ha1), if_neg (by simp; intro e; rw [e] at ha1; simp at ha1), decNat, if_neg (by simp), hn]
  rfl
theorem canon_dec (n : Nat) : canon (decDigits n) = true := by
 obtain ⟨h1, h2, _, h4⟩ := dec_back n
 simp only [canon, Bool.and_eq_true, Bool.not_eq_true', h1, and_true]
 refine ⟨by simpa using h2, ?_⟩
 rw [Bool.and_eq_false_iff, decide_eq_false_iff_not, decide_eq_false_iff_not]
 by_cases hl : 1 < (decDigits n).length
 · exact Or.inr (h4 hl)
 · exact Or.inl hl
theorem numL_dec {n : Nat} (h : (decDigits n).length ≤ 12) : numL (decDigits n) = some (n : Int) := by
 unfold numL
 rw [canon_dec n, if_pos (by simpa using h)]
 obtain ⟨m, h1, _, h3⟩ := atoi_canon (canon_dec n)
 rw [(dec_back n).2.2.1] at h3
 injection h3 with h3
 rw [h1, h3]
theorem numL_prog (l : List UInt8) (h : l.length ≤ 12) : numL l = match atoi l with | some n => if 0 ≤ n ∧ itoa n = l then some n else none | none => none := by
 unfold numL
 by_cases hc : canon l = true
 · obtain ⟨n, h1, h2, _⟩ := atoi_canon hc
   rw [hc, if_pos (by simpa using h), h1]
   simp only
   rw [if_pos ⟨by omega, by rw [Lib.itoa_nonneg, h2]⟩]
 · rw [if_neg (by simp [hc])]
   cases ha : atoi l with
   | none => rfl
   | some n =>
    simp only
    rw [if_neg]
    rintro ⟨h1, h2⟩
    obtain ⟨m, rfl⟩ : ∃ m : Nat, n = m := ⟨n.toNat, by omega⟩
    rw [Lib.itoa_nonneg] at h2
    exact hc (by rw [← h2]; exact canon_dec m)
end Txt
end Go.Proofs.YtcngjbfbdonpeaaGreatDoor

/- A text of this claim. -/
namespace Go.Proofs.YtcngjbfbdonpeaaGreatDoor
namespace Txt
open Go.Lib
def numW (below : Bool) (l : List UInt8) : Option Int :=
 if l.head? = some 45 then (if below = true ∧ l.tail.length ≤ 12 ∧ canon l.tail = true ∧ l.tail ≠ [48] then (decNat l.tail).map fun (m : Nat) => -(m : Int) else none) else numL l
def bare (l : List UInt8) : List UInt8 := if l.head? = some 45 then l.tail else l
def numP (below : Bool) (l : List UInt8) : Option Int := match atoiAll l with
 | .ok n => if (bare l).length ≤ 12 ∧ itoa n = l ∧ (0 ≤ n ∨ below = true) then some n else none
 | _ => none
theorem decNat_canon {l : List UInt8} (h : canon l = true) : ∃ m : Nat, decNat l = some m ∧ decDigits m = l := by
 obtain ⟨n, _, h2, h3⟩ := atoi_canon h
 refine ⟨n, ?_, h2⟩
 unfold decNat
 have : l.isEmpty = false := by
  have hc := h
  simp only [canon, Bool.and_eq_true, Bool.not_eq_true'] at hc
  exact hc.1.1
 rw [this]
 exact h3
theorem decNat_zero : decNat [48] = some 0 := by decide
theorem decDigits_zero : decDigits 0 = [48] := by
 rw [decDigits, dif_pos (by omega)]
 rfl
theorem numP_is (below : Bool) (l : List UInt8) : numP below l = numW below l := by
 unfold numP numW bare
 by_cases hs : l.head? = some 45
 · rw [if_pos hs, if_pos hs]
   obtain ⟨r, rfl⟩ : ∃ r, l = 45 :: r := by
    cases l with
    | nil => cases hs
    | cons a r =>
     injection hs with hs
     exact ⟨r, by rw [hs]⟩
   rw [List.tail_cons]
   by_cases hl : r.length ≤ 12
   · rw [atoiAll_short _ (by rw [List.length_cons]; omega)]
     have ha : atoi (45 :: r) = (decNat r).map fun (m : Nat) => -(m : Int) := by
      rw [atoi, if_pos (by rfl)]
     rw [ha]
     by_cases hc : canon r = true
     · obtain ⟨m, h1, h2⟩ := decNat_canon hc
       rw [h1]
       simp only [Option.map_some, NumEnd.ofOption]
       by_cases hm : m = 0
       · subst hm
         rw [decDigits_zero] at h2
         rw [if_neg (fun e => ?_), if_neg (fun e => e.2.2.2 h2.symm)]
         have e2 := e.2.1
         unfold itoa at e2
         rw [if_neg (by decide)] at e2
         rw [show ((-((0 : Nat) : Int)).toNat) = 0 by decide, decDigits_zero] at e2
         injection e2 with e2 _
         exact absurd e2 (by decide)
       · have hr : r ≠ [48] := fun e => by
          rw [e, decNat_zero] at h1
          injection h1 with h1
          exact hm h1.symm
         have hi : itoa (-(m : Int)) = 45 :: r := by
          unfold itoa
          rw [if_pos (by omega), show (-(m : Int)).natAbs = m by omega, h2]
         cases below with
         | true => rw [if_pos ⟨hl, hi, Or.inr rfl⟩, if_pos ⟨rfl, hl, hc, hr⟩]
         | false => rw [if_neg (fun e => e.2.2.elim (fun e => by omega) (fun e => by cases e)), if_neg (fun e => by cases e.1)]
     · rw [if_neg (fun e => hc e.2.2.1)]
       cases hd : decNat r with
       | none => rfl
       | some m =>
        simp only [Option.map_some, NumEnd.ofOption]
        rw [if_neg]
        rintro ⟨_, h2, _⟩
        unfold itoa at h2
        by_cases hm : m = 0
        · subst hm
          rw [if_neg (by decide), show ((-((0 : Nat) : Int)).toNat) = 0 by decide, decDigits_zero] at h2
          injection h2 with h2 _
          exact absurd h2 (by decide)
        · rw [if_pos (by omega), show (-(m : Int)).natAbs = m by omega] at h2
          injection h2 with _ h2
          exact hc (by rw [← h2]; exact canon_dec m)
   · rw [if_neg (fun e => hl e.2.1)]
     cases atoiAll (45 :: r) with
     | ok n => simp only; rw [if_neg (fun e => hl e.1)]
     | _ => rfl
 · rw [if_neg hs, if_neg hs]
   by_cases hl : l.length ≤ 12
   · rw [atoiAll_short _ (by omega), numL_prog l hl]
     cases ha : atoi l with
     | none => rfl
     | some n =>
      have h0 : 0 ≤ n := by
       cases l with
       | nil => cases ha
       | cons a r =>
        have h45 : ¬ (a == 45) = true := fun e => hs (by rw [beq_iff_eq.1 e]; rfl)
        rw [atoi, if_neg h45] at ha
        split at ha
        · cases hd : decNat r with
          | none => rw [hd] at ha; cases ha
          | some m => rw [hd] at ha; injection ha with ha; rw [← ha]; exact Int.natCast_nonneg _
        · cases hd : decNat (a :: r) with
          | none => rw [hd] at ha; cases ha
          | some m => rw [hd] at ha; injection ha with ha; rw [← ha]; exact Int.natCast_nonneg _
      simp only [NumEnd.ofOption]
      by_cases hi : itoa n = l
      · rw [if_pos ⟨hl, hi, Or.inl h0⟩, if_pos ⟨h0, hi⟩]
      · rw [if_neg (fun e => hi e.2.1), if_neg (fun e => hi e.2)]
   · have hn : numL l = none := by
      unfold numL
      rw [if_neg]
      simp only [Bool.and_eq_true, decide_eq_true_eq]
      exact fun e => hl e.1
     rw [hn]
     cases atoiAll l with
     | ok n => simp only; rw [if_neg (fun e => hl e.1)]
     | _ => rfl
theorem numW_itoa {n : Int} (h : -1000000000000 < n ∧ n < 1000000000000) (below : Bool) (hb : 0 ≤ n ∨ below = true) (hlen : ∀ m : Nat, m < 1000000000000 → (decDigits m).length ≤ 12) : numW below (itoa n) = some n := by
 unfold numW itoa
 by_cases h0 : n < 0
 · rw [if_pos h0, if_pos (by rfl), List.tail_cons]
   obtain ⟨m, hm⟩ : ∃ m : Nat, n = -(m : Int) := ⟨n.natAbs, by omega⟩
   subst hm
   have hmn : (-(m : Int)).natAbs = m := by omega
   rw [hmn]
   obtain ⟨_, h2, h3, _⟩ := dec_back m
   have hd : decNat (decDigits m) = some m := by
    unfold decNat
    have : (decDigits m).isEmpty = false := by cases hx : decDigits m with | nil => exact absurd hx h2 | cons _ _ => rfl
    rw [this]
    exact h3
   have hne : decDigits m ≠ [48] := fun e => by
    rw [e, decNat_zero] at hd
    injection hd with hd
    omega
   rw [if_pos ⟨hb.resolve_left (by omega), hlen m (by omega), canon_dec m, hne⟩, hd]
   rfl
 · rw [if_neg h0]
   obtain ⟨m, rfl⟩ : ∃ m : Nat, n = m := ⟨n.toNat, by omega⟩
   rw [Int.toNat_natCast]
   have hne : ¬ (decDigits m).head? = some 45 := fun e => by
    have hc := (dec_back m).1
    cases hx : decDigits m with
    | nil => rw [hx] at e; cases e
    | cons a r =>
     rw [hx] at e hc
     injection e with e
     subst e
     rw [List.all_cons, Bool.and_eq_true] at hc
     exact absurd hc.1 (by decide)
   rw [if_neg hne, numL_dec (hlen m (by omega))]
end Txt
end Go.Proofs.YtcngjbfbdonpeaaGreatDoor

/- A text of this claim. -/
namespace Go.Proofs.YtcngjbfbdonpeaaGreatDoor
open Go
def nameC (x : Int) : Bool := (decide (97 ≤ x) && decide (x ≤ 122)) || (decide (65 ≤ x) && decide (x ≤ 90)) || (decide (48 ≤ x) && decide (x ≤ 57)) || decide (x = 45) || decide (x = 95) || decide (x = 46)
def nameB (s : ByteArray) : Bool := decide (1 ≤ s.size) && decide (s.size ≤ 60) && s.data.toList.all fun c => nameC c.toNat
namespace Gar
end Gar
end Go.Proofs.YtcngjbfbdonpeaaGreatDoor

/- A text of this claim. -/
namespace Tr
open Go
end Tr
namespace Go.Proofs.YtcngjbfbdonpeaaGreatDoor
open Go
open Tr (Ed inR united most)
def titleB (s : ByteArray) : Bool := decide (s.size ≤ 60) && s.data.toList.all fun c => decide (32 ≤ c.toNat) && decide (c.toNat ≤ 126)
def formE (x : Ed) : Bool :=
 if x.k = 1 ∨ x.k = 3 ∨ x.k = 4 then decide (x.n = 0) && decide (x.f = 0) && decide (x.t = 0)
 else if x.k = 8 then decide (x.n = 0) && decide (x.s.size = 0)
 else if x.k = 11 then decide (x.n = 0)
 else decide (x.f = 0) && decide (x.t = 0) && decide (x.s.size = 0)
def rngE (n lo hi : Int) : Int := if inR n lo hi = true then 0 else 9
def fieldE (x : Ed) : Int :=
 if x.k = 1 ∨ x.k = 3 ∨ x.k = 4 then (if nameB x.s = true then 0 else 8)
 else if x.k = 2 then (if inR x.n 1 5 = true then 0 else 7)
 else if x.k = 5 then rngE x.n (-86399999999) 86399999999
 else if x.k = 6 then rngE x.n (-200000) 200000
 else if x.k = 7 then rngE x.n 1 3
 else if x.k = 9 then rngE x.n 0 50
 else if x.k = 10 then rngE x.n 0 1000000
 else if x.k = 12 then rngE x.n 0 199
 else if x.f < 0 ∨ x.t ≤ x.f ∨ 1000000 < x.t then 9 else if titleB x.s = true then 0 else 8
def chkE (x : Ed) : Int := if x.k < 1 ∨ 12 < x.k then 7 else if formE x = false then 2 else fieldE x
def chkEs : List Ed → Int
 | [] => 0
 | x :: l => if chkE x = 0 then chkEs l else chkE x
def chkEL (l : List Ed) : Int := if 200 < l.length then 3 else chkEs l
theorem chkEs_zero : ∀ {l : List Ed}, chkEs l = 0 ↔ ∀ x, x ∈ l → chkE x = 0
 | [] => ⟨(fun _ x hx => by cases hx), fun _ => rfl⟩
 | x :: l => by
  rw [chkEs]
  by_cases h : chkE x = 0
  · rw [if_pos h, chkEs_zero]
    constructor
    · intro hl y hy
      rcases List.mem_cons.1 hy with rfl | hy
      · exact h
      · exact hl y hy
    · exact fun hl y hy => hl y (List.mem_cons_of_mem _ hy)
  · rw [if_neg h]
    exact ⟨fun e => absurd e h, fun hl => absurd (hl x (List.mem_cons_self ..)) h⟩
theorem united_ok (x y : Ed) (m : List Ed) (_ : chkE x = 0) (hy : chkE y = 0) (h : united x y = some m) : ∀ z, z ∈ m → chkE z = 0 := by
 unfold united at h
 split at h
 · injection h with h; subst h; intro z hz; cases hz
 · split at h
   · cases h
   · split at h
     · injection h with h; subst h
       intro z hz
       rw [List.mem_singleton.1 hz]
       exact hy
     · split at h
       · split at h
         · injection h with h; subst h
           intro z hz
           rw [List.mem_singleton.1 hz]
           exact hy
         · cases h
       · split at h
         · rename_i hxy _ _ hk
           have hxy : x.k = y.k := by
            rcases Int.lt_trichotomy x.k y.k with g | g | g
            · exact absurd (by omega) hxy
            · exact g
            · exact absurd (by omega) hxy
           split at h
           · rename_i hr
             injection h with h; subst h
             intro z hz
             rw [List.mem_singleton.1 hz]
             rw [hxy] at hk hr
             unfold chkE at hy ⊢
             by_cases hf : formE y = false
             · rw [if_pos hf] at hy
               split at hy <;> cases hy
             · have hform : formE { y with n := y.n + x.n } = formE y := by
                unfold formE
                rcases hk with e | e <;> simp [e]
               rw [hform, if_neg (show ¬ (y.k < 1 ∨ 12 < y.k) by omega), if_neg hf]
               unfold fieldE rngE
               unfold most at hr
               rcases hk with e | e
               · simp only [e] at hr ⊢
                 simpa using hr
               · simp only [e] at hr ⊢
                 simpa using hr
           · cases h
         · cases h
end Go.Proofs.YtcngjbfbdonpeaaGreatDoor

/- A text of this claim. -/
namespace Go.Proofs.YtcngjbfbdonpeaaGreatDoor
namespace Txt
open Go.Lib (index cut split splitK atoi itoa decDigits)
open Tr (Ed)
def sB (s : ByteArray) : List UInt8 := s.data.toList
theorem sB_inj {a b : ByteArray} (h : sB a = sB b) : a = b := by
 unfold sB at h
 cases a; cases b
 congr 1
 exact Array.toList_inj.1 h
def bt (l : List UInt8) : ByteArray := ⟨l.toArray⟩
theorem sB_bs (l : List UInt8) : sB (bt l) = l := rfl
theorem bs_sB (s : ByteArray) : bt (sB s) = s := sB_inj (sB_bs _)
def itoaB (n : Int) : ByteArray := bt (itoa n)
theorem cut1_len (s : List UInt8) (c : UInt8) : (cut s [c]).1.length ≤ s.length ∧ (cut s [c]).2.1.length ≤ s.length ∧ (s ≠ [] → (cut s [c]).2.1.length < s.length) := cut_len s [c] (by simp)
theorem cut1_is (s : List UInt8) (c : UInt8) : (c ∉ s ∧ cut s [c] = (s, [], false)) ∨ ∃ l r, c ∉ l ∧ s = l ++ c :: r ∧ cut s [c] = (l, r, true) := by
 by_cases h : c ∈ s
 · obtain ⟨l, r, rfl, hl⟩ := List.eq_append_cons_of_mem h
   exact Or.inr ⟨l, r, hl, rfl, cut1_hit l r c hl⟩
 · exact Or.inl ⟨h, cut1_miss s c h⟩
theorem cut1_mem {s : List UInt8} {c : UInt8} : (cut s [c]).2.2 = true ↔ c ∈ s := by
 rcases cut1_is s c with ⟨h, e⟩ | ⟨l, r, _, rfl, e⟩
 · rw [e]
   exact ⟨fun e2 => absurd e2 (by simp), fun h' => absurd h' h⟩
 · rw [e]
   exact ⟨fun _ => by simp, fun _ => rfl⟩
theorem splitK_cut (c : UInt8) (n : Nat) (s : List UInt8) : splitK [c] 0 (n + 1) s = if (cut s [c]).2.2 = true then (cut s [c]).1 :: splitK [c] 0 n (cut s [c]).2.1 else [s] := by
 rcases cut1_is s c with ⟨h, e⟩ | ⟨l, r, hl, rfl, e⟩
 · rw [e, splitK, index1_miss s c h]
   rfl
 · rw [e, splitK, index1_hit l r c hl, if_neg (by simp), if_pos rfl]
   congr 1
   · simp
   · congr 1
     simp
theorem splitK_more (c : UInt8) : ∀ (k k' : Nat) (s : List UInt8), s.length ≤ k → k ≤ k' → splitK [c] 0 k' s = splitK [c] 0 k s
 | 0, 0, s, _, _ => rfl
 | 0, k' + 1, s, h, _ => by
  have : s = [] := List.length_eq_zero_iff.1 (by omega)
  subst this
  rw [splitK_cut]
  rw [cut1_miss [] c (by simp)]
  rfl
 | k + 1, 0, s, _, h => by omega
 | k + 1, k' + 1, s, h, hk => by
  rw [splitK_cut, splitK_cut]
  split
  · rename_i hc
    have hne : s ≠ [] := fun e => by rw [e, cut1_miss [] c (by simp)] at hc; cases hc
    have := (cut1_len s c).2.2 hne
    rw [splitK_more c k k' _ (by omega) (by omega)]
  · rfl
theorem splitN4 (s : List UInt8) : splitK [32] 0 (min 4 (s.length + 1) - 1) s = splitK [32] 0 3 s := by
 by_cases h : 3 ≤ s.length
 · rw [show min 4 (s.length + 1) - 1 = 3 by omega]
 · exact (splitK_more 32 _ 3 s (by omega) (by omega)).symm
def k1 : ByteArray := ⟨#[110, 97, 109, 101]⟩
def k2 : ByteArray := ⟨#[115, 112, 111, 114, 116]⟩
def k3 : ByteArray := ⟨#[116, 97, 103]⟩
def k4 : ByteArray := ⟨#[117, 110, 116, 97, 103]⟩
def k5 : ByteArray := ⟨#[115, 104, 105, 102, 116]⟩
def k6 : ByteArray := ⟨#[114, 97, 105, 115, 101]⟩
def k7 : ByteArray := ⟨#[102, 105, 101, 108, 100]⟩
def k8 : ByteArray := ⟨#[99, 114, 111, 112]⟩
def k9 : ByteArray := ⟨#[108, 101, 118, 101, 108]⟩
def k10 : ByteArray := ⟨#[102, 105, 108, 108]⟩
def k11 : ByteArray := ⟨#[108, 97, 112]⟩
def k12 : ByteArray := ⟨#[117, 110, 108, 97, 112]⟩
def wordsT : List ByteArray := [⟨#[]⟩, k1, k2, k3, k4, k5, k6, k7, k8, k9, k10, k11, k12]
def wordK (k : Int) : ByteArray := (wordsT[k.toNat]?).getD ⟨#[]⟩
def kindW (s : ByteArray) : Nat := (Lib.idxOfS wordsT s).toNat
theorem kindW_word : ∀ k : Nat, 1 ≤ k → k ≤ 12 → kindW (wordK k) = k := by
 intro k h1 h2
 have : k = 1 ∨ k = 2 ∨ k = 3 ∨ k = 4 ∨ k = 5 ∨ k = 6 ∨ k = 7 ∨ k = 8 ∨ k = 9 ∨ k = 10 ∨ k = 11 ∨ k = 12 := by omega
 rcases this with rfl | rfl | rfl | rfl | rfl | rfl | rfl | rfl | rfl | rfl | rfl | rfl <;> decide
theorem idx_lt (x : ByteArray) : ∀ (zs : List ByteArray) (i : Nat), Lib.idxFromS zs x i < (i + zs.length : Nat) ∧ -1 ≤ Lib.idxFromS zs x i
 | [], i => by
  rw [Lib.idxFromS]
  omega
 | z :: zs, i => by
  have ih := idx_lt x zs (i + 1)
  rw [Lib.idxFromS, List.length_cons]
  split
  · omega
  · omega
theorem kindW_le (s : ByteArray) : kindW s ≤ 12 := by
 have h := idx_lt s wordsT 0
 have hl : wordsT.length = 13 := rfl
 rw [hl] at h
 unfold kindW Lib.idxOfS
 omega
theorem idx_kind (s : ByteArray) : (Lib.idxOfS wordsT s < 1 ∧ kindW s = 0) ∨ (Lib.idxOfS wordsT s = kindW s ∧ 1 ≤ kindW s) := by
 unfold kindW
 omega
def isText (k : Nat) : Bool := k == 1 || k == 3 || k == 4
def signed (k : Nat) : Bool := k == 5 || k == 6
def restW (x : Ed) : List ByteArray := if isText x.k.toNat = true then [x.s] else if x.k = 8 then [itoaB x.f, itoaB x.t] else if x.k = 11 then [itoaB x.f, itoaB x.t, x.s] else [itoaB x.n]
def lineW (x : Ed) : List UInt8 := joinL 32 ((wordK x.k :: restW x).map sB) ++ [10]
def textW (l : List Ed) : List UInt8 := l.flatMap lineW
def printS (l : List Ed) : ByteArray := if chkEL l = 0 then bt (textW l) else ⟨#[]⟩
def readW (s : List UInt8) : Option Ed :=
 let c := cut s [32]
 let d := cut c.2.1 [32]
 let g := cut d.2.1 [32]
 let k := kindW (bt c.1)
 if k = 0 ∨ c.2.2 = false then none
 else if isText k = true then (if c.2.1 ≠ [] ∧ d.2.2 = false then some ⟨k, 0, 0, 0, bt c.2.1⟩ else none)
 else if k = 8 then (if d.2.2 = true then (numW false d.1).bind fun f => (numW false d.2.1).map fun t => ⟨k, 0, f, t, ⟨#[]⟩⟩ else none)
 else if k = 11 then (if d.2.2 = true ∧ g.2.2 = true then (numW false d.1).bind fun f => (numW false g.1).map fun t => ⟨k, 0, f, t, bt g.2.1⟩ else none)
 else (numW (signed k) c.2.1).map fun n => ⟨k, n, 0, 0, ⟨#[]⟩⟩
def readV (k : Nat) : List (List UInt8) → Option Ed
 | [_, a] => if k = 8 ∨ k = 11 then none else if isText k = true then (if a ≠ [] then some ⟨k, 0, 0, 0, bt a⟩ else none) else (numW (signed k) a).map fun n => ⟨k, n, 0, 0, ⟨#[]⟩⟩
 | [_, a, b] => if k = 8 then (numW false a).bind fun f => (numW false b).map fun t => ⟨k, 0, f, t, ⟨#[]⟩⟩ else none
 | [_, a, b, s] => if k = 11 then (numW false a).bind fun f => (numW false b).map fun t => ⟨k, 0, f, t, bt s⟩ else none
 | _ => none
def readP (ws : List (List UInt8)) : Option Ed := if kindW (bt (ws.headD [])) = 0 then none else readV (kindW (bt (ws.headD []))) ws
theorem canon_mem {l : List UInt8} (h : canon l = true) : (32 : UInt8) ∉ l := fun hm => by
 simp only [canon, Bool.and_eq_true] at h
 have := List.all_eq_true.1 h.1.2 32 hm
 exact absurd this (by decide)
theorem numW_mem {b : Bool} {l : List UInt8} {n : Int} (h : numW b l = some n) : (32 : UInt8) ∉ l := by
 unfold numW at h
 split at h
 · rename_i hs
   split at h
   · rename_i hc
     intro hm
     cases l with
     | nil => cases hm
     | cons a r =>
      injection hs with hs
      subst hs
      rcases List.mem_cons.1 hm with e | hm
      · cases e
      · exact canon_mem hc.2.2.1 hm
   · cases h
 · unfold numL at h
   split at h
   · rename_i hc
     rw [Bool.and_eq_true] at hc
     exact canon_mem hc.2
   · cases h
theorem numW_none {b : Bool} {l : List UInt8} (h : (cut l [32]).2.2 = true) : numW b l = none := by
 cases hn : numW b l with
 | none => rfl
 | some n => exact absurd (cut1_mem.1 h) (numW_mem hn)
theorem readP_is (s : List UInt8) : readP (splitK [32] 0 3 s) = readW s := by
 unfold readP readW
 rw [splitK_cut]
 simp only
 cases hc : (cut s [32]).2.2 with
 | false =>
  rw [if_neg (show ¬ (false = true) by simp), if_pos (Or.inr rfl)]
  split
  · rfl
  · rfl
 | true =>
  rw [if_pos rfl, List.headD_cons]
  generalize hk : kindW (bt (cut s [32]).1) = k
  by_cases h0 : k = 0
  · rw [if_pos h0, if_pos (Or.inl h0)]
  rw [if_neg h0, if_neg (fun e => e.elim h0 (fun e => by cases e)), splitK_cut]
  generalize (cut s [32]).2.1 = r
  cases hd : (cut r [32]).2.2 with
  | false =>
   rw [if_neg (show ¬ (false = true) by simp)]
   simp only [readV]
   by_cases h8 : k = 8
   · subst h8
     rfl
   by_cases h11 : k = 11
   · subst h11
     simp [isText]
   rw [if_neg (fun e => e.elim h8 h11), if_neg h8, if_neg h11]
   simp
  | true =>
   rw [if_pos rfl, splitK_cut]
   have hn := fun b => numW_none (b := b) hd
   generalize (cut r [32]).1 = a at *
   generalize (cut r [32]).2.1 = q
   cases hg : (cut q [32]).2.2 with
   | false =>
    rw [if_neg (show ¬ (false = true) by simp)]
    simp only [readV]
    by_cases h8 : k = 8
    · subst h8
      rfl
    rw [if_neg h8, if_neg h8]
    by_cases ht : isText k = true
    · rw [if_pos ht]; simp
    rw [if_neg ht, hn]
    by_cases h11 : k = 11
    · rw [if_pos h11]; simp
    · rw [if_neg h11]; rfl
   | true =>
    rw [if_pos rfl]
    have hn2 := numW_none (b := false) hg
    generalize (cut q [32]).1 = b
    generalize (cut q [32]).2.1 = u
    show readV k [_, a, b, u] = _
    simp only [readV]
    by_cases h11 : k = 11
    · subst h11
      rfl
    rw [if_neg h11, hn, hn2]
    by_cases h8 : k = 8
    · subst h8
      simp [isText]
    rw [if_neg h8, if_neg h11]
    by_cases ht : isText k = true
    · rw [if_pos ht]; simp
    · rw [if_neg ht]; rfl
end Txt
end Go.Proofs.YtcngjbfbdonpeaaGreatDoor

/- A text of this claim. -/
namespace Go.Proofs.YtcngjbfbdonpeaaGreatDoor
namespace Txt
open Go.Lib (index cut split splitK atoi itoa decDigits)
open Tr (Ed inR)
inductive RE where
 | bad (n : Nat)
 | good (l : List Ed)
def readL : Nat → List UInt8 → Nat → List Ed → RE
 | 0, _, n, _ => .bad n
 | fuel + 1, s, n, acc =>
  if s = [] then .good acc else
  match readW (cut s [10]).1 with
  | some x => if (cut s [10]).2.2 = true then readL fuel (cut s [10]).2.1 (n + 1) (acc ++ [x]) else .bad n
  | none => .bad n
theorem readL_fuel : ∀ (f f' : Nat) (s : List UInt8) (n : Nat) (acc : List Ed), s.length < f → s.length < f' → readL f s n acc = readL f' s n acc := by
 intro f
 induction f with
 | zero => intro f' s n acc h; omega
 | succ f ih =>
  intro f' s n acc h h'
  cases f' with
  | zero => omega
  | succ f' =>
   rw [readL, readL]
   by_cases hs : s = []
   · rw [if_pos hs, if_pos hs]
   · rw [if_neg hs, if_neg hs]
     have hl := (cut1_len s 10).2.2 hs
     cases readW (cut s [10]).1 with
     | none => rfl
     | some x =>
      simp only
      split
      · exact ih f' _ _ _ (by omega) (by omega)
      · rfl
def readT (s : List UInt8) (n : Nat) (acc : List Ed) : RE := readL (s.length + 1) s n acc
theorem readT_nil (n : Nat) (acc : List Ed) : readT [] n acc = .good acc := rfl
theorem readT_step {s : List UInt8} (n : Nat) (acc : List Ed) (hs : s ≠ []) {x : Ed} (hx : readW (cut s [10]).1 = some x) (hc : (cut s [10]).2.2 = true) : readT s n acc = readT (cut s [10]).2.1 (n + 1) (acc ++ [x]) := by
 have hl := (cut1_len s 10).2.2 hs
 unfold readT
 rw [readL, if_neg hs, hx]
 simp only
 rw [if_pos hc]
 exact readL_fuel _ _ _ _ _ (by omega) (by omega)
theorem readT_bad {s : List UInt8} (n : Nat) (acc : List Ed) (hs : s ≠ []) (h : readW (cut s [10]).1 = none ∨ (cut s [10]).2.2 = false) : readT s n acc = .bad n := by
 unfold readT
 rw [readL, if_neg hs]
 rcases h with h | h
 · rw [h]
 · cases readW (cut s [10]).1 with
   | none => rfl
   | some x => simp only; rw [if_neg (by rw [h]; simp)]
def readErr (s : List UInt8) : Int := if 100000 < s.length then 3 else match readT s 1 [] with
 | .bad _ => 6
 | .good l => chkEL l
def readAt (s : List UInt8) : Int := if 100000 < s.length then 0 else match readT s 1 [] with
 | .bad n => n
 | .good _ => 0
def readEs (s : List UInt8) : List Ed := if readErr s ≠ 0 then [] else match readT s 1 [] with
 | .bad _ => []
 | .good l => l
theorem splitK_hit {l : List UInt8} (r : List UInt8) (n : Nat) (h : (32 : UInt8) ∉ l) : splitK [32] 0 (n + 1) (l ++ 32 :: r) = l :: splitK [32] 0 n r := by
 rw [splitK_cut, cut1_hit l r 32 h]
 rfl
theorem splitK_last {l : List UInt8} (n : Nat) (h : (32 : UInt8) ∉ l) : splitK [32] 0 n l = [l] := by
 cases n with
 | zero => rfl
 | succ n =>
  rw [splitK_cut, cut1_miss l 32 h]
  rfl
theorem dec_size : ∀ (k n : Nat), n < 10 ^ (k + 1) → (decDigits n).length ≤ k + 1
 | 0, n, h => by rw [decDigits, dif_pos (by simpa using h)]; simp
 | k + 1, n, h => by
  by_cases h10 : n < 10
  · rw [decDigits, dif_pos h10]; simp
  · rw [decDigits, dif_neg h10]
    have := dec_size k (n / 10) (by rw [Nat.pow_succ] at h; omega)
    simp only [List.length_append, List.length_cons, List.length_nil]
    omega
theorem dec12 (m : Nat) (h : m < 1000000000000) : (decDigits m).length ≤ 12 := dec_size 11 m (by omega)
def okB (n : Int) : Prop := -1000000000000 < n ∧ n < 1000000000000
theorem itoa_size {n : Int} (h : okB n) : (itoa n).length ≤ 13 := by
 unfold okB at h
 unfold itoa
 split
 · have := dec12 n.natAbs (by omega)
   simp only [List.length_cons]
   omega
 · have := dec12 n.toNat (by omega)
   omega
theorem itoa_mem (n : Int) {b : UInt8} (hb : b ∈ itoa n) : b = 45 ∨ isD b = true := by
 unfold itoa at hb
 split at hb
 · rcases List.mem_cons.1 hb with e | hb
   · exact Or.inl e
   · exact Or.inr (List.all_eq_true.1 (dec_back _).1 b hb)
 · exact Or.inr (List.all_eq_true.1 (dec_back _).1 b hb)
theorem itoa_no (n : Int) : (32 : UInt8) ∉ itoa n ∧ (10 : UInt8) ∉ itoa n := by
 constructor
 · intro h
   rcases itoa_mem n h with h | h
   · exact absurd h (by decide)
   · exact absurd h (by decide)
 · intro h
   rcases itoa_mem n h with h | h
   · exact absurd h (by decide)
   · exact absurd h (by decide)
theorem name_no {s : ByteArray} (h : nameB s = true) : (32 : UInt8) ∉ sB s ∧ (10 : UInt8) ∉ sB s ∧ sB s ≠ [] ∧ (sB s).length ≤ 60 := by
 unfold nameB at h
 rw [Bool.and_eq_true, Bool.and_eq_true, decide_eq_true_eq, decide_eq_true_eq, List.all_eq_true] at h
 refine ⟨fun hm => ?_, fun hm => ?_, fun e => ?_, ?_⟩
 · have := h.2 32 hm
   simp [nameC] at this
 · have := h.2 10 hm
   simp [nameC] at this
 · have h1 := h.1.1
   have : s.size = (sB s).length := rfl
   rw [e] at this
   rw [this] at h1
   exact absurd h1 (by decide)
 · have : s.size = (sB s).length := rfl
   omega
theorem title_no {s : ByteArray} (h : titleB s = true) : (10 : UInt8) ∉ sB s ∧ (sB s).length ≤ 60 := by
 unfold titleB at h
 rw [Bool.and_eq_true, decide_eq_true_eq, List.all_eq_true] at h
 refine ⟨fun hm => ?_, ?_⟩
 · have := h.2 10 hm
   simp at this
 · have : s.size = (sB s).length := rfl
   omega
theorem wordK_no : ∀ k : Nat, 1 ≤ k → k ≤ 12 → (32 : UInt8) ∉ sB (wordK k) ∧ (10 : UInt8) ∉ sB (wordK k) ∧ (sB (wordK k)).length ≤ 5 := by
 intro k h1 h2
 have : k = 1 ∨ k = 2 ∨ k = 3 ∨ k = 4 ∨ k = 5 ∨ k = 6 ∨ k = 7 ∨ k = 8 ∨ k = 9 ∨ k = 10 ∨ k = 11 ∨ k = 12 := by omega
 rcases this with rfl | rfl | rfl | rfl | rfl | rfl | rfl | rfl | rfl | rfl | rfl | rfl <;> decide
def bodyW (x : Ed) : List UInt8 := joinL 32 ((wordK x.k :: restW x).map sB)
structure LineOk (x : Ed) : Prop where
 read : readW (bodyW x) = some x
 no : (10 : UInt8) ∉ bodyW x
 len : (bodyW x).length ≤ 100
theorem line_text (k : Nat) (s : ByteArray) (hk : isText k = true) (h1 : 1 ≤ k) (h2 : k ≤ 12) (hs : nameB s = true) : LineOk ⟨k, 0, 0, 0, s⟩ := by
 obtain ⟨a, b, c, d⟩ := name_no hs
 obtain ⟨e, f, g⟩ := wordK_no k h1 h2
 have hb : bodyW ⟨k, 0, 0, 0, s⟩ = sB (wordK k) ++ 32 :: sB s := by
  unfold bodyW restW
  simp only [Int.toNat_natCast]
  rw [if_pos hk]
  rfl
 refine ⟨?_, ?_, ?_⟩
 · rw [← readP_is, hb, splitK_hit _ _ e, splitK_last _ a]
   unfold readP
   rw [List.headD_cons, bs_sB, kindW_word k h1 h2, if_neg (by omega)]
   simp only [readV]
   rw [if_neg (fun h => by rcases h with rfl | rfl <;> cases hk), if_pos hk, if_pos c, bs_sB]
 · rw [hb]
   simp only [List.mem_append, List.mem_cons, not_or]
   exact ⟨f, by decide, b⟩
 · rw [hb]
   simp only [List.length_append, List.length_cons]
   omega
theorem line_num (k : Nat) (n : Int) (hk : isText k = false) (h8 : k ≠ 8) (h11 : k ≠ 11) (h1 : 1 ≤ k) (h2 : k ≤ 12) (hn : okB n) (h0 : 0 ≤ n ∨ signed k = true) : LineOk ⟨k, n, 0, 0, ⟨#[]⟩⟩ := by
 obtain ⟨a, b⟩ := itoa_no n
 have hl := itoa_size hn
 obtain ⟨e, f, g⟩ := wordK_no k h1 h2
 have hb : bodyW ⟨k, n, 0, 0, ⟨#[]⟩⟩ = sB (wordK k) ++ 32 :: itoa n := by
  unfold bodyW restW
  simp only [Int.toNat_natCast]
  rw [if_neg (by rw [hk]; simp), if_neg (by omega), if_neg (by omega)]
  rfl
 refine ⟨?_, ?_, ?_⟩
 · rw [← readP_is, hb, splitK_hit _ _ e, splitK_last _ a]
   unfold readP
   rw [List.headD_cons, bs_sB, kindW_word k h1 h2, if_neg (by omega)]
   simp only [readV]
   rw [if_neg (fun h => h.elim h8 h11), if_neg (by rw [hk]; simp), numW_itoa hn _ h0 dec12]
   rfl
 · rw [hb]
   simp only [List.mem_append, List.mem_cons, not_or]
   exact ⟨f, by decide, b⟩
 · rw [hb]
   simp only [List.length_append, List.length_cons]
   omega
theorem line_crop (f t : Int) (hf : okB f) (ht : okB t) (hf0 : 0 ≤ f) (ht0 : 0 ≤ t) : LineOk ⟨8, 0, f, t, ⟨#[]⟩⟩ := by
 obtain ⟨a, b⟩ := itoa_no f
 obtain ⟨c, d⟩ := itoa_no t
 have hl := itoa_size hf
 have hm := itoa_size ht
 obtain ⟨e, i, g⟩ := (show (32 : UInt8) ∉ sB (wordK 8) ∧ (10 : UInt8) ∉ sB (wordK 8) ∧ (sB (wordK 8)).length ≤ 5 from wordK_no 8 (by omega) (by omega))
 have hb : bodyW ⟨8, 0, f, t, ⟨#[]⟩⟩ = sB (wordK 8) ++ 32 :: (itoa f ++ 32 :: itoa t) := rfl
 refine ⟨?_, ?_, ?_⟩
 · rw [← readP_is, hb, splitK_hit _ _ e, splitK_hit _ _ a, splitK_last _ c]
   unfold readP
   rw [List.headD_cons, bs_sB, show kindW (wordK 8) = 8 from kindW_word 8 (by omega) (by omega), if_neg (by omega)]
   simp only [readV]
   rw [if_pos trivial, numW_itoa hf _ (Or.inl hf0) dec12, numW_itoa ht _ (Or.inl ht0) dec12]
   rfl
 · rw [hb]
   simp only [List.mem_append, List.mem_cons, not_or]
   exact ⟨i, by decide, b, by decide, d⟩
 · rw [hb]
   simp only [List.length_append, List.length_cons]
   have : (sB (wordK 8)).length ≤ 5 := g
   omega
theorem line_lap (f t : Int) (s : ByteArray) (hf : okB f) (ht : okB t) (hf0 : 0 ≤ f) (ht0 : 0 ≤ t) (hs : titleB s = true) : LineOk ⟨11, 0, f, t, s⟩ := by
 obtain ⟨a, b⟩ := itoa_no f
 obtain ⟨c, d⟩ := itoa_no t
 obtain ⟨j, k⟩ := title_no hs
 have hl := itoa_size hf
 have hm := itoa_size ht
 obtain ⟨e, i, g⟩ := (show (32 : UInt8) ∉ sB (wordK 11) ∧ (10 : UInt8) ∉ sB (wordK 11) ∧ (sB (wordK 11)).length ≤ 5 from wordK_no 11 (by omega) (by omega))
 have hb : bodyW ⟨11, 0, f, t, s⟩ = sB (wordK 11) ++ 32 :: (itoa f ++ 32 :: (itoa t ++ 32 :: sB s)) := rfl
 refine ⟨?_, ?_, ?_⟩
 · rw [← readP_is, hb, splitK_hit _ _ e, splitK_hit _ _ a, splitK_hit _ _ c]
   unfold readP
   rw [List.headD_cons, bs_sB, show kindW (wordK 11) = 11 from kindW_word 11 (by omega) (by omega), if_neg (by omega)]
   show readV 11 [_, _, _, sB s] = _
   simp only [readV]
   rw [if_pos trivial, numW_itoa hf _ (Or.inl hf0) dec12, numW_itoa ht _ (Or.inl ht0) dec12, bs_sB]
   rfl
 · rw [hb]
   simp only [List.mem_append, List.mem_cons, not_or]
   exact ⟨i, by decide, b, by decide, d, by decide, j⟩
 · rw [hb]
   simp only [List.length_append, List.length_cons]
   have : (sB (wordK 11)).length ≤ 5 := g
   omega
theorem rng_of {n lo hi : Int} (h : rngE n lo hi = 0) : lo ≤ n ∧ n ≤ hi := by
 unfold rngE inR at h
 split at h
 · rename_i h1
   simpa using h1
 · omega
theorem size0 {s : ByteArray} (h : s.size = 0) : s = ⟨#[]⟩ := by
 apply sB_inj
 show s.data.toList = []
 exact List.length_eq_zero_iff.1 h
theorem line_ok {x : Ed} (h : chkE x = 0) : LineOk x := by
 unfold chkE at h
 split at h
 · omega
 rename_i hk
 split at h
 · omega
 rename_i hf
 have hf : formE x = true := by simpa using hf
 obtain ⟨k, n, f, t, s⟩ := x
 simp only at hk
 obtain ⟨m, rfl⟩ : ∃ m : Nat, k = m := ⟨k.toNat, by omega⟩
 unfold formE at hf
 unfold fieldE at h
 simp only at hf h
 by_cases c1 : (m : Int) = 1 ∨ (m : Int) = 3 ∨ (m : Int) = 4
 · rw [if_pos c1] at h hf
   simp only [Bool.and_eq_true, decide_eq_true_eq] at hf
   obtain ⟨⟨rfl, rfl⟩, rfl⟩ := hf
   refine line_text m s ?_ (by omega) (by omega) (by
    cases hn : nameB s with
    | true => rfl
    | false => rw [hn] at h; simp at h)
   have : m = 1 ∨ m = 3 ∨ m = 4 := by omega
   rcases this with rfl | rfl | rfl <;> rfl
 rw [if_neg c1] at h hf
 have ht : isText m = false := by
  unfold isText
  simp only [Bool.or_eq_false_iff, beq_eq_false_iff_ne]
  omega
 by_cases c8 : (m : Int) = 8
 · obtain rfl : m = 8 := by omega
   simp at hf h
   obtain ⟨rfl, hs⟩ := hf
   have hs0 : s = ⟨#[]⟩ := hs
   subst hs0
   have hft : ¬ (f < 0 ∨ t ≤ f ∨ 1000000 < t) := fun e => by rw [if_pos e] at h; omega
   exact line_crop f t (by unfold okB; omega) (by unfold okB; omega) (by omega) (by omega)
 by_cases c11 : (m : Int) = 11
 · obtain rfl : m = 11 := by omega
   simp at hf h
   subst hf
   have hft : ¬ (f < 0 ∨ t ≤ f ∨ 1000000 < t) := fun e => by rw [if_pos e] at h; omega
   rw [if_neg hft] at h
   exact line_lap f t s (by unfold okB; omega) (by unfold okB; omega) (by omega) (by omega) (by simpa using h)
 rw [if_neg c8, if_neg c11] at hf
 simp only [Bool.and_eq_true, decide_eq_true_eq] at hf
 obtain ⟨⟨rfl, rfl⟩, hs⟩ := hf
 rw [size0 hs]
 have hn : okB n ∧ (0 ≤ n ∨ m = 5 ∨ m = 6) := by
  unfold okB
  by_cases c2 : (m : Int) = 2
  · rw [if_pos c2] at h
    split at h
    · rename_i h1
      unfold inR at h1
      simp at h1
      omega
    · omega
  rw [if_neg c2] at h
  by_cases c5 : (m : Int) = 5
  · rw [if_pos c5] at h
    have := rng_of h
    omega
  rw [if_neg c5] at h
  by_cases c6 : (m : Int) = 6
  · rw [if_pos c6] at h
    have := rng_of h
    omega
  rw [if_neg c6] at h
  by_cases c7 : (m : Int) = 7
  · rw [if_pos c7] at h
    have := rng_of h
    omega
  rw [if_neg c7] at h
  by_cases c9 : (m : Int) = 9
  · rw [if_pos c9] at h
    have := rng_of h
    omega
  rw [if_neg c9] at h
  by_cases c10 : (m : Int) = 10
  · rw [if_pos c10] at h
    have := rng_of h
    omega
  rw [if_neg c10] at h
  by_cases c12 : (m : Int) = 12
  · rw [if_pos c12] at h
    have := rng_of h
    omega
  omega
 refine line_num m n ht (by omega) (by omega) (by omega) (by omega) hn.1 ?_
 rcases hn.2 with h | rfl | rfl
 · exact Or.inl h
 · exact Or.inr rfl
 · exact Or.inr rfl
theorem text_len : ∀ (l : List Ed), (∀ x, x ∈ l → chkE x = 0) → (textW l).length ≤ 101 * l.length
 | [], _ => by simp [textW]
 | x :: l, h => by
  have h1 := (line_ok (h x (List.mem_cons_self ..))).len
  have h2 := text_len l fun y hy => h y (List.mem_cons_of_mem _ hy)
  have e : textW (x :: l) = lineW x ++ textW l := rfl
  have e2 : lineW x = bodyW x ++ [10] := rfl
  rw [e, e2]
  simp only [List.length_append, List.length_cons, List.length_nil]
  omega
theorem text_back : ∀ (l : List Ed) (n : Nat) (acc : List Ed), (∀ x, x ∈ l → chkE x = 0) → readT (textW l) n acc = .good (acc ++ l)
 | [], n, acc, _ => by
  rw [List.append_nil]
  exact readT_nil n acc
 | x :: l, n, acc, h => by
  have h1 := line_ok (h x (List.mem_cons_self ..))
  have e : textW (x :: l) = bodyW x ++ 10 :: textW l := by
   show (bodyW x ++ [10]) ++ textW l = _
   simp
  have hc := cut1_hit (bodyW x) (textW l) 10 h1.no
  rw [e, readT_step n acc (by simp) (x := x) (by rw [hc]; exact h1.read) (by rw [hc]), hc]
  rw [text_back l (n + 1) (acc ++ [x]) fun y hy => h y (List.mem_cons_of_mem _ hy)]
  simp
theorem read_back {l : List Ed} (h : chkEL l = 0) : readErr (textW l) = 0 ∧ readAt (textW l) = 0 ∧ readEs (textW l) = l := by
 have h1 : l.length ≤ 200 := by
  unfold chkEL at h
  split at h
  · omega
  · omega
 have h2 : ∀ x, x ∈ l → chkE x = 0 := by
  unfold chkEL at h
  rw [if_neg (by omega)] at h
  exact chkEs_zero.1 h
 have hl := text_len l h2
 have hb := text_back l 1 [] h2
 rw [List.nil_append] at hb
 have he : readErr (textW l) = 0 := by
  unfold readErr
  rw [if_neg (by omega), hb]
  exact h
 refine ⟨he, ?_, ?_⟩
 · unfold readAt
   rw [if_neg (by omega), hb]
 · unfold readEs
   rw [if_neg (fun e => e he), hb]
end Txt
end Go.Proofs.YtcngjbfbdonpeaaGreatDoor

/- A text of this claim. -/
namespace Go.Proofs.YtcngjbfbdonpeaaGreatDoor
open Go.RowKit
theorem ret_int {k : IntKind} {a b : Int} (h : a = b) : Ending.returned (.int k a) = .returned (.int k b) := by rw [h]
theorem ret_bool {a b : Bool} (h : a = b) : Ending.returned (.bool a) = .returned (.bool b) := by rw [h]
end Go.Proofs.YtcngjbfbdonpeaaGreatDoor

/- A text of this claim. -/
namespace Go.Proofs.YtcngjbfbdonpeaaGreatDoor
open Go.RowKit
end Go.Proofs.YtcngjbfbdonpeaaGreatDoor

/- A text of this claim. -/
namespace Go.Proofs.YtcngjbfbdonpeaaGreatDoor
open Go.RowKit
end Go.Proofs.YtcngjbfbdonpeaaGreatDoor

/- A text of this claim. -/
namespace Go.Proofs.YtcngjbfbdonpeaaGreatDoor
open Go.RowKit
theorem below_drewN {B : Nat} {a w : World} (h : Below B a w) (n : Nat) : Below B a (w.drewN n) := h.trans ⟨rfl, rfl, rfl, Nat.le_refl _, fun _ _ => rfl⟩
end Go.Proofs.YtcngjbfbdonpeaaGreatDoor

/- A text of this claim. -/
namespace Go.Proofs.YtcngjbfbdonpeaaGreatDoor
open Go.RowKit
theorem below_cell {w w' : World} {p : Addr} {v : Value} (hb : Below w.heap.size w w') (h : w.cell? p = some v) : w'.cell? p = some v :=
 (hb.cell (World.block_lt_of_cell? w p h)).trans h
theorem below_al (w : World) (o : Obj) : Below w.heap.size w (w.alloc o) := (Below.refl _ _).alloc (Nat.le_refl _) _
theorem below_tr {B : Nat} {a b c : World} (h : Below B a b) (hB : B ≤ b.heap.size) (k : Below b.heap.size b c) : Below B a c := h.trans (k.mono hB)
theorem below_step {a b c : World} (h : Below a.heap.size a b) (k : Below b.heap.size b c) : Below a.heap.size a c := h.trans (k.mono h.size)
end Go.Proofs.YtcngjbfbdonpeaaGreatDoor

/- A text of this claim. -/
namespace Go.Proofs.YtcngjbfbdonpeaaGreatDoor
open Go.RowKit Go.BigFrame
def Ext (W : World) : Type := { w : World // Below W.heap.size W w }
instance (W : World) : Nonempty (Ext W) := ⟨⟨W, Below.refl _ _⟩⟩
theorem Ext.ex {W : World} {p : Addr} {v : Value} (h : W.cell? p = some v) : ∀ X : Ext W, X.1.cell? p = some v := fun X => below_cell X.2 h
theorem Ext.calls {P : Program} {W : World} {f : FuncId} {args : Array Value} {v : Value} (X : Ext W) (h : Calls P f args X.1 fun e w' => e = .returned v ∧ Below X.1.heap.size X.1 w') : Calls P f args X.1 fun e w'' => e = .returned v ∧ ∃ Y : Ext W, w'' = Y.1 :=
 h.mono fun _ w'' ⟨he, hb⟩ => ⟨he, ⟨w'', below_step X.2 hb⟩, rfl⟩
theorem wp_region_ext {P : Program} {id : Nat} {Q : Exit → Act → World → Prop} {a : Act} {W : World} (X : Ext W) {l : List Oper} (hm : P.follows .mixedOrders = true) (hB : Region.lexB .any l.toArray = true)
 (h : wpQuiet P l.toArray (fun w' => ∃ Y : Ext W, w' = Y.1) (fun a' => ∀ w', (∃ Y : Ext W, w' = Y.1) → Q .normal a' w') l a) : (Code.region id l.toArray true).wp P Q a X.1 :=
 wp_region_quiet (C := fun w' => ∃ Y : Ext W, w' = Y.1) hm hB ⟨⟨{ X.1 with drawn := X.1.drawn + 1 }, below_step X.2 ⟨rfl, rfl, rfl, Nat.le_refl _, fun _ _ => rfl⟩⟩, rfl⟩ (by simpa using h)
theorem alloc_cells (w : World) (cs : Array Value) (T : TypeId) : ∃ W, w.alloc (.cells cs T) = W ∧ Below w.heap.size w W ∧ W.heap.size = w.heap.size + 1 ∧ ∀ i v, cs[i]? = some v → W.cell? ⟨w.heap.size, i, none⟩ = some v :=
 ⟨_, rfl, below_al _ _, by simp, fun i v h => by rw [World.cell?_alloc_at _ _ _ _ rfl, h]⟩
theorem ext_wp {P : Program} {c : Code} {Q : Exit → Act → World → Prop} {a : Act} {W : World} (h : ∀ X : Ext W, c.wp P Q a X.1) : c.wp P Q a W := h ⟨W, Below.refl _ _⟩
theorem Ext.down {W : World} (X : Ext W) {B : Nat} {w : World} (h : Below B w W) (hB : B ≤ W.heap.size) : Below B w X.1 := h.trans (X.2.mono hB)
end Go.Proofs.YtcngjbfbdonpeaaGreatDoor

/- A text of this claim. -/
namespace Go.Proofs.YtcngjbfbdonpeaaGreatDoor
open Go.RowKit Go.ChangeShapes Go.WideShapes Go.Deep
structure RowK (w : World) (a : Option Addr) (len k : Nat) (V : Nat → List Value) : Prop where
 here : 0 < len → ∃ b off, a = some ⟨b, off, none⟩ ∧ b < w.heap.size ∧ ∀ i, i < len → ∀ j, j < k → w.cell? ⟨b, off + i * k + j, none⟩ = (V i)[j]?
section
variable {H : Type} {enc : TypeId × Value → H} {P : Program} {w : World} {base : Nat}
theorem open_rowK {t e : TypeId} {fs : Array Field} {fuel : Nat} {v : Value} {x : DataW H × List MemPlace} (ht : P.underlying t = some (.slice e)) (he : P.underlying e = some (.struct fs)) (hC : P.cellsOf e = fs.size) (hfs : 0 < fs.size)
 (hone : ∀ (i : Nat) (f : Field), fs[i]? = some f → f.offset = i ∧ P.cellsOf f.type = 1) (h : DataW.trod enc P w base (fun _ => true) true fuel t [v] = some x) :
 ∃ (a : Option Addr) (len cap : Nat) (V : Nat → List Value), v = .slice a len cap ∧ len ≤ cap ∧ cap ≤ maxLen ∧ RowK w a len fs.size V ∧
  ∀ i, i < len → (V i).length = fs.size ∧ ∀ (j : Nat) (f : Field), fs[j]? = some f → ∃ u n y, (V i)[j]? = some u ∧ DataW.trod enc P w base (fun _ => true) true n f.type [u] = some y := by
 rcases open_slice ht h with ⟨hc, _⟩ | ⟨a, len, cap, m, n, D, Pl, hc, _, hl, hm, hmm, _, hx⟩
 · simp only [List.cons.injEq, and_true] at hc
   exact ⟨none, 0, 0, fun _ => [], hc, Nat.le_refl _, Nat.zero_le _, ⟨fun h => absurd h (by omega)⟩, fun i hi => absurd hi (by omega)⟩
 · simp only [List.cons.injEq, and_true] at hc
   simp only [if_true] at hmm
   subst hmm
   have each : ∀ i, i < m → ∃ cs : List Value, cs.length = fs.size ∧ (∀ j, j < fs.size → w.cell? (a.add (i * fs.size + j)) = cs[j]?) ∧ ∀ (j : Nat) (f : Field), fs[j]? = some f → ∃ u n y, cs[j]? = some u ∧ DataW.trod enc P w base (fun _ => true) true n f.type [u] = some y := by
    intro i hi
    obtain ⟨cs, h1, h2⟩ := hx i hi
    rw [hC] at h1
    obtain ⟨_, hlen, hcell⟩ := World.cells?_some h1
    obtain ⟨xs, k, _, _, _, hxl, hf⟩ := DataW.trod_struct he h2
    refine ⟨cs, hlen, fun j hj => by rw [← add_add]; exact hcell j (by omega), fun j f hj => ?_⟩
    obtain ⟨o1, o2⟩ := hone j f hj
    have g := hf j f hj
    rw [o1, o2] at g
    have hjl : j < cs.length := by
     rw [hlen]
     exact (Array.getElem?_eq_some_iff.1 hj).1
    have hjx : j < xs.length := by rw [hxl]; rw [hlen] at hjl; exact hjl
    have e1 : (cs.drop j).take 1 = [cs[j]] := by rw [List.drop_eq_getElem_cons hjl]; rfl
    rw [e1, List.getElem?_eq_getElem hjx] at g
    exact ⟨cs[j], k, xs[j], List.getElem?_eq_getElem hjl, g⟩
   obtain ⟨V, hV⟩ := choose_lt each
   refine ⟨some a, len, m, V, hc, hl, hm, ⟨fun hl0 => ?_⟩, fun i hi => ⟨(hV i (by omega)).1, (hV i (by omega)).2.2⟩⟩
   obtain ⟨b, o, sp⟩ := a
   have hc0 : ∃ u, w.cell? ((⟨b, o, sp⟩ : Addr).add (0 * fs.size + 0)) = some u := by
    obtain ⟨g1, g2, g3⟩ := hV 0 (by omega)
    exact ⟨(V 0)[0]'(by omega), by rw [g2 0 hfs, List.getElem?_eq_getElem]⟩
   obtain ⟨u, hu⟩ := hc0
   have hspot : sp = none := by simpa [Addr.add] using World.cell?_spot hu
   subst hspot
   rw [Nat.zero_mul, add_plain] at hu
   refine ⟨b, o, rfl, World.block_lt_of_cell? w _ hu, fun i hi j hj => ?_⟩
   have := (hV i (by omega)).2.1 j hj
   rw [add_plain, ← Nat.add_assoc] at this
   exact this
end
end Go.Proofs.YtcngjbfbdonpeaaGreatDoor

/- A text of this claim. -/
namespace Go.Proofs.YtcngjbfbdonpeaaGreatDoor
open Go.RowKit Go.BigFrame
structure Kept (O : Nat → Prop) (w w' : World) : Prop where
 os : w'.os = w.os
 tape : w'.tape = w.tape
 output : w'.output = w.output
 size : w.heap.size ≤ w'.heap.size
 block : ∀ k, k < w.heap.size → ¬ O k → w'.heap[k]? = w.heap[k]?
theorem Kept.refl (O : Nat → Prop) (w : World) : Kept O w w := ⟨rfl, rfl, rfl, Nat.le_refl _, fun _ _ _ => rfl⟩
theorem Kept.trans {O : Nat → Prop} {a b c : World} (h : Kept O a b) (k : Kept O b c) : Kept O a c :=
 ⟨k.os.trans h.os, k.tape.trans h.tape, k.output.trans h.output, Nat.le_trans h.size k.size, fun i hi ho => (k.block i (Nat.lt_of_lt_of_le hi h.size) ho).trans (h.block i hi ho)⟩
theorem Kept.of_below {O : Nat → Prop} {a b : World} (h : Below a.heap.size a b) : Kept O a b := ⟨h.os, h.tape, h.output, h.size, fun k hk _ => h.block k hk⟩
theorem Kept.of_grown {O : Nat → Prop} {a b : World} {row : Option Nat} (h : a.grownBy b row) (hr : ∀ g, row = some g → g < a.heap.size → O g) : Kept O a b :=
 ⟨h.os, h.tape, h.output, h.size, fun k hk ho => h.block k hk (fun e => ho (hr k e.symm hk))⟩
theorem Kept.cell {O : Nat → Prop} {w w' : World} {p : Addr} {v : Value} (h : Kept O w w') (ho : ¬ O p.block) (hc : w.cell? p = some v) : w'.cell? p = some v :=
 (World.cell?_of_block (h.block p.block (World.block_lt_of_cell? w p hc) ho)).trans hc
theorem Kept.below {O : Nat → Prop} {B : Nat} {w a b : World} (hb : Below B w a) (h : Kept O a b) (hB : B ≤ a.heap.size) (hO : ∀ k, k < B → ¬ O k) : Below B w b :=
 hb.trans ⟨h.os, h.tape, h.output, h.size, fun k hk => h.block k (Nat.lt_of_lt_of_le hk hB) (hO k hk)⟩
def ExtO (O : Nat → Prop) (W : World) : Type := { w : World // Kept O W w }
instance (O : Nat → Prop) (W : World) : Nonempty (ExtO O W) := ⟨⟨W, Kept.refl _ _⟩⟩
section
variable {O : Nat → Prop} {W : World}
theorem ExtO.ex {p : Addr} {v : Value} (ho : ¬ O p.block) (h : W.cell? p = some v) : ∀ X : ExtO O W, X.1.cell? p = some v := fun X => X.2.cell ho h
theorem ExtO.down (X : ExtO O W) {B : Nat} {w : World} (h : Below B w W) (hB : B ≤ W.heap.size) (hO : ∀ k, k < B → ¬ O k) : Below B w X.1 := Kept.below h X.2 hB hO
end
def isCalm : Op → Bool
 | .move _ | .assign _ | .pick .. | .build .. | .load .. | .binOp .. | .unOp .. | .fieldAddr .. | .field .. | .indexAddr .. | .index .. | .lookup .. | .extract .. | .slice .. => true
 | _ => false
theorem run_val {α : Type} {P : Program} {s : Sem α} (f : α → Value) {w w' : World} {n : Next} (h : (do pure (Next.value (f (← s))) : Sem Next).run P w = .ok n w') : ∃ x, n = .value x := by
 rw [Sem.run_bind] at h
 cases hs : s.run P w with
 | ok x w1 => rw [hs] at h; simp at h; exact ⟨f x, h.1.symm⟩
 | halt e w1 => rw [hs] at h; simp at h
theorem calm_value {P : Program} {o : Oper} {ρ : Operand → Value} {w w' : World} {n : Next} (hc : isCalm o.op = true) (h : (execOp ρ o).run P w = .ok n w') : ∃ x, n = .value x := by
 obtain ⟨dst, op, type, pos, after, guard⟩ := o
 cases op <;> first | (simp [isCalm] at hc; done) | (simp only [execOp] at h; first | exact run_val (fun x => x) h | exact run_val (fun b : Bool => if b then _ else _) h | (simp at h; exact ⟨_, h.1.symm⟩))
section
variable {P : Program} {ops : Array Oper} {Q : Exit → Act → World → Prop} {C : World → Prop}
theorem yieldsIf_of_quiet {o : Oper} {a : Act} {v : Value} (hc : isCalm o.op = true) (hw : Region.wanted o (yielded ops a.tmps) = true) (h : ∀ w, C w → o.quietAt P a C w v) : YieldsIf P ops C o v a := by
 refine Or.inl ⟨hw, fun w hC => ?_⟩
 have h1 := h w hC
 unfold Oper.quietAt at h1
 cases hr : (execOp a.eval o).run P w with
 | ok n w' =>
  rw [hr] at h1
  obtain ⟨x, rfl⟩ := calm_value hc hr
  simp only [Oper.quietUpon] at h1
  rw [h1.1, h1.2]
 | halt e w' => rw [hr] at h1; simp [Oper.quietUpon] at h1
def calmB (ops : Array Oper) : List Nat → Array Bool → Bool
 | [], _ => true
 | i :: is, listed => ((ops[i]?).map fun o => isCalm o.op).getD false && Region.free .any ops listed i && (Region.ready .any ops listed).contains i && calmB ops is (listed.setIfInBounds i true)
def listAll (is : List Nat) (listed : Array Bool) : Array Bool := is.foldl (fun l i => l.setIfInBounds i true) listed
theorem held_calm (hsel : Region.noSelect ops = true) (hQ : ∀ c a d v w, Q (.panic c) (Act.put a d v) w → Q (.panic c) a w) {w : World} (hC : C w) : ∀ (is : List Nat) (fuel : Nat) (listed : Array Bool) (a : Act),
 calmB ops is listed = true → wpQuiet P ops C (fun a' => wpAnyH P .any ops Q C fuel (listAll is listed) a' w) (is.filterMap fun i => ops[i]?) a → wpAnyH P .any ops Q C (fuel + is.length) listed a w
 | [], _, _, _, _, h => h
 | i :: is, fuel, listed, a, hB, h => by
  simp only [calmB, Bool.and_eq_true] at hB
  obtain ⟨⟨⟨h1, h2⟩, h3⟩, h4⟩ := hB
  cases ho : ops[i]? with
  | none => rw [ho] at h1; simp at h1
  | some o =>
   rw [ho] at h1
   simp only [Option.map_some, Option.getD_some] at h1
   rw [List.filterMap_cons, ho] at h
   simp only [wpQuiet] at h
   have e : fuel + (i :: is).length = (fuel + is.length) + 1 := by simp; omega
   rw [e]
   by_cases hw : Region.wanted o (yielded ops a.tmps) = true
   · rw [if_pos hw] at h
     obtain ⟨v, hv, hn⟩ := h
     exact wpAnyH_take ho hsel h2 h3 (fun c a w => hQ c a _ _ w) (yieldsIf_of_quiet h1 hw hv) hC (held_calm hsel hQ hC is fuel _ _ h4 hn)
   · rw [if_neg hw] at h
     exact wpAnyH_take ho hsel h2 h3 (fun c a w => hQ c a _ _ w) (Or.inr ⟨by simpa using hw, rfl⟩) hC (held_calm hsel hQ hC is fuel _ _ h4 h)
def nth : List Oper → Nat → Option Oper
 | [], _ => none
 | o :: _, 0 => some o
 | _ :: l, i + 1 => nth l i
theorem nth_eq : ∀ (l : List Oper) (i : Nat), nth l i = l.toArray[i]?
 | [], i => by simp [nth]
 | o :: l, 0 => by simp [nth]
 | o :: l, i + 1 => by
  rw [nth, nth_eq l i]
  simp
theorem held_quiet {l : List Oper} (hsel : Region.noSelect l.toArray = true) (hQ : ∀ c a d v w, Q (.panic c) (Act.put a d v) w → Q (.panic c) a w) {w : World} (hC : C w) (is : List Nat) (fuel : Nat) (listed : Array Bool) (a : Act)
 (hB : calmB l.toArray is listed = true) (h : wpQuiet P l.toArray C (fun a' => wpAnyH P .any l.toArray Q C fuel (listAll is listed) a' w) (is.filterMap (nth l)) a) : wpAnyH P .any l.toArray Q C (fuel + is.length) listed a w :=
 held_calm hsel hQ hC is fuel listed a hB (by rw [show (fun i => l.toArray[i]?) = nth l from funext fun i => (nth_eq l i).symm]; exact h)
theorem held_do {l : List Oper} {i fuel : Nat} {listed : Array Bool} {a : Act} {w : World} (o : Oper) (hi : nth l i = some o) (hr : Region.ready .any l.toArray listed = [i]) (hw : Region.wanted o (yielded l.toArray a.tmps) = true)
 (h : ∀ K : Act → World → Prop, (∀ a' w', C w' → wpAnyH P .any l.toArray Q C fuel (listed.setIfInBounds i true) a' w' → K a' w') → o.wp P a w K Q) : wpAnyH P .any l.toArray Q C (fuel + 1) listed a w := by
 rw [nth_eq] at hi
 refine wpAnyH_all hr (by simp) fun j hj => ?_
 simp only [List.mem_singleton] at hj
 subst hj
 unfold wpOp
 simp only [hi, hw, if_true]
 exact Or.inl (h _ fun a' w' h1 h2 => ⟨h1, h2⟩)
theorem held_start {id : Nat} {a : Act} {w : World} {l : List Oper} (hm : P.follows .mixedOrders = true)
 (h : wpAnyH P .any l.toArray Q C l.length (Array.replicate l.length false) a { w with drawn := w.drawn + 1 }) : (Code.region id l.toArray true).wp P Q a w :=
 wp_region_held hm (by simpa using h)
end
end Go.Proofs.YtcngjbfbdonpeaaGreatDoor

/- A text of this claim. -/
namespace Go.Proofs.YtcngjbfbdonpeaaGreatDoor
open Go.Shelf Go.RowKit
theorem bld_size : (Tryz.prog.info? 37).map (·.size) = some 2 := by kernel_rfl
set_option maxHeartbeats 1000000 in
set_option maxRecDepth 100000 in
theorem copyCheck_used (b : Nat) (w : World) (h0 : w.cell? ⟨b, 0, none⟩ = some (.pointer (some ⟨b, 0, none⟩))) :
 Calls Tryz.prog 25 #[.pointer (some ⟨b, 0, none⟩)] w fun e w' => e = .returned (.tuple #[]) ∧ w' = w := by
 obtain ⟨j, hj, _⟩ := Option.map_eq_some_iff.1 bld_size
 go_enter Tryz.func25, Tryz.ntmps25
 go_wp2
 rw [Lib.run_neq_ptr_same w _ Tryz.underlying34 hj]
 go_wp2
 go_end0
 exact ⟨rfl, rfl⟩
set_option maxHeartbeats 1000000 in
set_option maxRecDepth 100000 in
theorem copyCheck_fresh (b : Nat) (w : World) (h0 : w.cell? ⟨b, 0, none⟩ = some (.pointer none)) (hsh : w.shape? b = some (37, 2)) (hfz : w.frozen? ⟨b, 0, none⟩ = false) :
 Calls Tryz.prog 25 #[.pointer (some ⟨b, 0, none⟩)] w fun e w' => e = .returned (.tuple #[]) ∧ w' = w.setCell ⟨b, 0, none⟩ (.pointer (some ⟨b, 0, none⟩)) := by
 obtain ⟨j, hj, hjs⟩ := Option.map_eq_some_iff.1 bld_size
 go_enter Tryz.func25, Tryz.ntmps25
 go_wp2
 rw [Lib.run_to_unsafe w ⟨b, 0, none⟩ Tryz.underlying34 Tryz.underlying75 hj (by rw [hjs]; decide) hsh (Nat.zero_lt_succ 1)]
 simp only [Result.andThen]
 rw [Oper.upon_value]
 go_wp2
 rw [run_callFunc_extern Tryz.func39 (by kernel_rfl) (by kernel_rfl) (by kernel_rfl) (e := Extern.AbiNoEscape.same) (by kernel_rfl)]
 rw [Lib.run_noEscape]
 simp only [Result.andThen]
 rw [Oper.upon_value]
 go_wp2
 rw [Lib.run_from_unsafe w ⟨b, 0, none⟩ Tryz.underlying75 Tryz.underlying34 hj hsh (by kernel_rfl)]
 simp only [Result.andThen]
 rw [Oper.upon_value]
 go_wp2
 go_end0
 exact ⟨rfl, rfl⟩
theorem kept_set1 {a : World} {b i : Nat} {v : Value} : Kept (fun k => k = b) a (a.setCell ⟨b, i, none⟩ v) := by
 refine ⟨rfl, rfl, rfl, by simp [World.setCell], fun k hk hne => ?_⟩
 simp only [World.setCell]
 rw [Array.getElem?_modify, if_neg (fun e => hne e.symm)]
theorem Kept.weaken2 {O O' : Nat → Prop} {a b : World} (h : Kept O a b) (hO : ∀ q, O q → O' q) : Kept O' a b := ⟨h.os, h.tape, h.output, h.size, fun k hk ho => h.block k hk (fun e => ho (hO k e))⟩
theorem copyCheck_any (B b : Nat) (bs : List Value) (w : World) (h : Lib.IsBuilder 37 5 B b bs w) :
 Calls Tryz.prog 25 #[.pointer (some ⟨b, 0, none⟩)] w fun e w' => e = .returned (.tuple #[]) ∧ (Lib.BuilderAt 37 5 B b (.pointer (some ⟨b, 0, none⟩)) bs w' ∧ Below B w w' ∧ Kept (fun k => k = b) w w' ∧ w'.heap.size = w.heap.size) := by
 rcases h with h | h
 · refine (copyCheck_fresh b w h.cell0 h.shape h.frozen0).mono ?_
   rintro e w' ⟨rfl, rfl⟩
   exact ⟨rfl, h.used _, (Below.refl B w).setCell (p := ⟨b, 0, none⟩) h.1 _, kept_set1, by simp [World.setCell]⟩
 · refine (copyCheck_used b w h.cell0).mono ?_
   rintro e w' ⟨rfl, rfl⟩
   exact ⟨rfl, h, Below.refl B _, Kept.refl _ _, rfl⟩
set_option maxHeartbeats 2000000 in
set_option maxRecDepth 100000 in
theorem writeString_any (B b : Nat) (bs : List Value) (s : ByteArray) (w : World) (h : Lib.IsBuilder 37 5 B b bs w) (hlen : bs.length + s.size ≤ 140737488355328) (hBw : B ≤ w.heap.size) :
 Calls Tryz.prog 11 #[.pointer (some ⟨b, 0, none⟩), .string s] w fun e w' => e = .returned (.tuple #[.int .i64 s.size, .nilIface]) ∧ (Lib.BuilderAt 37 5 B b (.pointer (some ⟨b, 0, none⟩)) (bs ++ Lib.strCells s) w' ∧ Below B w w' ∧ Kept (fun k => k = b ∨ ∃ cs fz, w.heap[k]? = some (.cells cs 5 fz)) w w') := by
 obtain ⟨i0, hi, hz0, hz1, hz2⟩ := info_parts (show (Tryz.prog.info? 5).map (fun i => (i.zero, i.size, i.bytes)) = some (some (.int .u8 0), 1, 1) by kernel_rfl)
 have HU := Lib.hid (show Tryz.prog.underlying 35 = some (.slice 5) by kernel_rfl)
 go_enter Tryz.func11, Tryz.ntmps11
 go_wp2_with (go_at_call 25; refine (copyCheck_any B b bs _ h).mono ?_; rintro e w1 ⟨rfl, h1, hb1, hk1, hz1'⟩; refine Hid.out ?_)
 refine Lib.hid ?_
 obtain ⟨hB, v, hbk, hown, hne⟩ := h1
 have c0 : w1.cell? ⟨b, 0, none⟩ = some (.pointer (some ⟨b, 0, none⟩)) := by rw [Lib.cell_of_heap hbk]; rfl
 have c1 : w1.cell? ⟨b, 1, none⟩ = some v := by rw [Lib.cell_of_heap hbk]; rfl
 go_wp2_with (at_builtin; refine Lib.wpList_append_own_string _ rfl _ _ 35 9 rfl B 5 i0 HU.out Tryz.underlying9 hi hz0 hz1 hz2 _ _ _ rfl hown s rfl ?c3 ?c4 ?c5 ?_)
 case c3 => unfold maxLen; omega
 case c4 => omega
 case c5 => have := hb1.size; omega
 intro v' w2 hown' hgrow _
 have hlt : b < w1.heap.size := by
  rcases Nat.lt_or_ge b w1.heap.size with h' | h'
  · exact h'
  · simp [Array.getElem?_eq_none h'] at hbk
 have hb2 : w2.heap[b]? = some (.cells #[.pointer (some ⟨b, 0, none⟩), v] 37 (0, 0)) := by
  rw [hgrow.block b hlt (fun e => hne e.symm)]
  exact hbk
 have d0 : w2.cell? ⟨b, 0, none⟩ = some (.pointer (some ⟨b, 0, none⟩)) := by rw [Lib.cell_of_heap hb2]; rfl
 have d1 : w2.cell? ⟨b, 1, none⟩ = some v := by rw [Lib.cell_of_heap hb2]; rfl
 have f1 : w2.frozen? ⟨b, 1, none⟩ = false := Lib.frozen_of_heap hb2 1
 obtain ⟨ao, n', cap, rfl⟩ : ∃ ao n' cap, v' = .slice ao n' cap := by
  rcases hown'.2 with ⟨hv, _⟩ | ⟨g, cap, cur, hv, _⟩
  · exact ⟨_, _, _, hv⟩
  · exact ⟨_, _, _, hv⟩
 go_wp2
 go_ret2
 refine ⟨rfl, ?_, ?_, ?_⟩
 · exact Lib.BuilderAt.put (T := 37) (e := 5) hB hb2 (bs' := bs ++ Lib.strCells s) (by simpa [Lib.strCells_length] using hown') (by decide)
 · exact (hb1.grown hgrow (by have := hb1.size; omega) (fun k hk => (hown.lt k hk).1)).setCell (p := ⟨b, 1, none⟩) hB _
 · refine ((hk1.weaken2 fun k e => Or.inl e).trans (Kept.of_grown hgrow fun g hg hgl => ?_)).trans (kept_set1.weaken2 fun k e => Or.inl e)
   refine Or.inr ?_
   rcases hown.2 with ⟨e, _⟩ | ⟨g', cap', cur, e, _, hh, _⟩
   · rw [e] at hg
     simp [Value.ownBlock] at hg
   · rw [e] at hg
     simp only [Value.ownBlock, Option.some.injEq] at hg
     subst hg
     have hne2 : g' ≠ b := fun e2 => hne (by rw [e, e2]; rfl)
     have hgw : g' < w.heap.size := by omega
     exact ⟨cur, (0, 0), (hk1.block g' hgw hne2).symm.trans hh⟩
end Go.Proofs.YtcngjbfbdonpeaaGreatDoor

/- A text of this claim. -/
namespace Go.Proofs.YtcngjbfbdonpeaaGreatDoor
open Go.RowKit Go.BigFrame
open Txt
structure Glo (w : World) : Prop where
 m : ∃ m : Int, w.cell? ⟨0, 0, none⟩ = some (.int .i64 m)
 t : Lib.TabIs Tryz.prog w "internal/strconv.uint64pow10" .u64 Lib.pow10Tab
 s : ∃ tp p, w.var? Tryz.prog "strconv.ErrSyntax" = some #[.iface tp p]
 r : ∃ tp p, w.var? Tryz.prog "strconv.ErrRange" = some #[.iface tp p]
theorem var_below {w w' : World} {nm : String} {cs : Array Value} (h : w.var? Tryz.prog nm = some cs) (hb : Below w.heap.size w w') : w'.var? Tryz.prog nm = some cs := by
 unfold World.var? at h ⊢
 cases hg : Tryz.prog.globalNamed nm with
 | none => rw [hg] at h; cases h
 | some g =>
  rw [hg] at h
  simp only [Option.bind_some] at h ⊢
  have hl : g < w.heap.size := by
   rcases Nat.lt_or_ge g w.heap.size with h' | h'
   · exact h'
   · rw [Array.getElem?_eq_none h'] at h
     cases h
  rw [hb.block g hl]
  exact h
theorem Glo.below {w w' : World} (h : Glo w) (hb : Below w.heap.size w w') : Glo w' := by
 obtain ⟨m, hm⟩ := h.m
 obtain ⟨t1, p1, h1⟩ := h.s
 obtain ⟨t2, p2, h2⟩ := h.r
 exact ⟨⟨m, below_cell hb hm⟩, var_below h.t hb, ⟨t1, p1, var_below h1 hb⟩, ⟨t2, p2, var_below h2 hb⟩⟩
theorem below_grow (w : World) (k : Nat) (os : Array Obj) : Below w.heap.size w (Go.Sort.grow (w.drewN k) os) := by
 refine ⟨rfl, rfl, rfl, ?_, ?_⟩
 · simp [Go.Sort.grow]
 · intro i hi
   simp only [Go.Sort.grow, World.drewN]
   exact Array.getElem?_append_left hi
theorem join_eq (c : UInt8) : ∀ ws : List (List UInt8), Lib.join ws [c] = joinL c ws
 | [] => rfl
 | [w] => by simp [Lib.join, joinL]
 | w :: v :: ws => by
  rw [joinL, ← join_eq c (v :: ws)]
  simp [Lib.join, List.intercalate, List.intersperse]
theorem itoa_any (n : Int) (h0 : -9223372036854775808 ≤ n) (h1 : n ≤ 9223372036854775807) (w : World) (hg : Glo w) :
 Calls Tryz.prog 17 #[.int .i64 n] w fun e w' => e = .returned (.string (itoaB n)) ∧ Below w.heap.size w w' := by
 refine (Tryz.strconv_Itoa n h0 h1 w hg.t).mono ?_
 rintro e w' ⟨rfl, k, os, rfl⟩
 exact ⟨rfl, below_grow w k os⟩
structure Bld (W1 wr : World) (l : List UInt8) : Prop where
 b : Lib.IsBuilder 37 5 W1.heap.size W1.heap.size (Lib.byteCells l) wr
 d : Below W1.heap.size W1 wr
theorem bat_below {T e : TypeId} {B b : Nat} {p : Value} {bt : List Value} {w w' : World} (h : Lib.BuilderAt T e B b p bt w) (hb : Below w.heap.size w w') : Lib.BuilderAt T e B b p bt w' := by
 obtain ⟨hB, v, hbk, hown, hne⟩ := h
 exact ⟨hB, v, (hb.block b (Lib.BuilderAt.lt ⟨hB, v, hbk, hown, hne⟩)).trans hbk, hown.kept (row := none) ⟨hb.os, hb.tape, hb.output, hb.size, fun k hk _ => hb.block k hk⟩ (by cases v.ownBlock <;> simp), hne⟩
theorem ib_below {T e : TypeId} {B b : Nat} {bt : List Value} {w w' : World} (h : Lib.IsBuilder T e B b bt w) (hb : Below w.heap.size w w') : Lib.IsBuilder T e B b bt w' := by
 rcases h with h | h
 · exact Or.inl (bat_below h hb)
 · exact Or.inr (bat_below h hb)
theorem Bld.below {W1 wr w' : World} {l : List UInt8} (h : Bld W1 wr l) (hb : Below wr.heap.size wr w') : Bld W1 w' l := ⟨ib_below h.b hb, h.d.trans (hb.mono h.d.size)⟩
theorem Bld.write {W1 w : World} {l : List UInt8} (h : Bld W1 w l) (s : List UInt8) (hl : l.length ≤ 100000000) (hs : s.length ≤ 1000000) :
 Calls Tryz.prog 11 #[.pointer (some ⟨W1.heap.size, 0, none⟩), .string (bt s)] w fun e w' => e = .returned (.tuple #[.int .i64 s.length, .nilIface]) ∧ Bld W1 w' (l ++ s) ∧
  ∀ V e cs T fz, Kept (fun k => W1.heap.size ≤ k ∧ k ≠ e) V w → V.heap[e]? = some (.cells cs T fz) → T ≠ 5 → e ≠ W1.heap.size → W1.heap.size ≤ V.heap.size → w.heap[e]? = V.heap[e]? → Kept (fun k => W1.heap.size ≤ k ∧ k ≠ e) V w' := by
 have hlen : (Lib.byteCells l).length = l.length := by simp [Lib.byteCells]
 refine (writeString_any W1.heap.size W1.heap.size (Lib.byteCells l) (bt s) w h.b (by rw [hlen]; show l.length + s.length ≤ _; omega) h.d.size).mono ?_
 rintro e w' ⟨rfl, hb, hbl, hk⟩
 refine ⟨rfl, ⟨Or.inr (by rw [Lib.byteCells_append]; exact hb), h.d.trans hbl⟩, fun V e cs T fz hkv hve hT hne hVs hwe => ?_⟩
 refine ⟨hk.os.trans hkv.os, hk.tape.trans hkv.tape, hk.output.trans hkv.output, Nat.le_trans hkv.size hk.size, fun k hk1 hno => ?_⟩
 by_cases hke : k = e
 · subst hke
   rw [← hwe]
   refine hk.block k (Nat.lt_of_lt_of_le hk1 hkv.size) ?_
   rintro (h1 | ⟨cs', fz', h1⟩)
   · exact hne h1
   · rw [hwe, hve] at h1
     injection h1 with h1
     injection h1 with _ h1
     exact hT h1
 · have hkB : k < W1.heap.size := by
    apply Classical.byContradiction
    intro hge
    exact hno ⟨by omega, hke⟩
   rw [hbl.block k hkB]
   exact hkv.block k hk1 hno
theorem atoi_every (s : ByteArray) (hs : s.size ≤ 1000000) (w : World) (hg : Glo w) :
 Calls Tryz.prog 48 #[.string s] w fun e w' => ∃ (n : Int) (ev : Value), e = .returned (.tuple #[.int .i64 n, ev]) ∧ Below w.heap.size w w' ∧ -9223372036854775808 ≤ n ∧ n ≤ 9223372036854775807 ∧
  ((ev = .nilIface ∧ Lib.atoiAll (sB s) = .ok n) ∨ ((∃ T N, ev = .iface T (.pointer (some ⟨N, 0, none⟩))) ∧ ∀ v, Lib.atoiAll (sB s) ≠ .ok v)) := by
 cases h : Lib.atoiAll s.data.toList
 case ok v =>
  have hb := Lib.atoiAll_bounds h
  refine (Tryz.strconv_Atoi_ok s (by omega) v h w).mono ?_
  rintro e w' ⟨rfl, hw⟩
  refine ⟨v, _, rfl, ?_, by omega, by omega, Or.inl ⟨rfl, h⟩⟩
  rcases hw with rfl | ⟨t, rfl⟩
  · exact Below.refl _ _
  · exact Lib.bytesWorld_below _ _ _
 case range =>
  obtain ⟨tp, p, hv⟩ := hg.r
  refine (Tryz.strconv_Atoi_range_var s (by omega) h tp p w hv).mono ?_
  rintro e w' ⟨N, rfl, _, _, hb⟩
  refine ⟨_, _, rfl, hb, ?_, ?_, Or.inr ⟨⟨_, N, rfl⟩, fun v e => by rw [show sB s = s.data.toList from rfl, h] at e; cases e⟩⟩
  · unfold Lib.atoiSat
    split <;> omega
  · unfold Lib.atoiSat
    split <;> omega
 · obtain ⟨tp, p, hv⟩ := hg.s
   refine (Tryz.strconv_Atoi_syntax_var s (by omega) h tp p w hv).mono ?_
   rintro e w' ⟨N, rfl, _, _, hb⟩
   exact ⟨0, _, rfl, hb, by omega, by omega, Or.inr ⟨⟨_, N, rfl⟩, fun v e => by rw [show sB s = s.data.toList from rfl, h] at e; cases e⟩⟩
end Go.Proofs.YtcngjbfbdonpeaaGreatDoor

/- A text of this claim. -/
namespace Go.Proofs.YtcngjbfbdonpeaaGreatDoor
open Go.RowKit
end Go.Proofs.YtcngjbfbdonpeaaGreatDoor

/- A text of this claim. -/
namespace Go.Proofs.YtcngjbfbdonpeaaGreatDoor
open Go.RowKit Go.BigFrame
theorem ownsRow_below {W W' : World} {base e k n : Nat} {v : Value} {xs : List Value} (h : W.ownsRow base e k v n xs) (hb : Below W.heap.size W W') : W'.ownsRow base e k v n xs :=
 h.kept (row := none) ⟨hb.os, hb.tape, hb.output, hb.size, fun k hk _ => hb.block k hk⟩ (by cases v.ownBlock <;> simp)
end Go.Proofs.YtcngjbfbdonpeaaGreatDoor

/- A text of this claim. -/
namespace Go.Proofs.YtcngjbfbdonpeaaGreatDoor
open Go.RowKit Go.BigFrame
open Tr (Ed)
def edC (x : Ed) : List Value := [.int .i64 x.k, .int .i64 x.n, .int .i64 x.f, .int .i64 x.t, .string x.s]
def edV (x : Ed) : Value := .agg #[.int .i64 x.k, .int .i64 x.n, .int .i64 x.f, .int .i64 x.t, .string x.s]
theorem edC_len (x : Ed) : (edC x).length = 5 := rfl
theorem flatEd_len (l : List Ed) : (l.flatMap edC).length = l.length * 5 := by
 induction l with
 | nil => rfl
 | cons t l ih => rw [List.flatMap_cons, List.length_append, ih]; show 5 + l.length * 5 = (l.length + 1) * 5; omega
theorem flatEd_get : ∀ (l : List Ed) (i : Nat) (x : Ed), l[i]? = some x → ∀ j v, (edC x)[j]? = some v → (l.flatMap edC)[i * 5 + j]? = some v
 | [], i, x, h, _, _, _ => by simp at h
 | y :: l, 0, x, h, j, v, hv => by
  injection h with h
  subst h
  rw [List.flatMap_cons, Nat.zero_mul, Nat.zero_add, List.getElem?_append_left (by have := (List.getElem?_eq_some_iff.1 hv).1; exact this)]
  exact hv
 | y :: l, i + 1, x, h, j, v, hv => by
  have ih := flatEd_get l i x (by simpa using h) j v hv
  rw [List.flatMap_cons, List.getElem?_append_right (by rw [edC_len]; omega), edC_len, show (i + 1) * 5 + j - 5 = i * 5 + j by omega]
  exact ih
structure ERow (w : World) (a : Option Addr) (l : List Ed) : Prop where
 here : 0 < l.length → ∃ b off, a = some ⟨b, off, none⟩ ∧ b < w.heap.size ∧ ∀ i x, l[i]? = some x → ∀ j v, (edC x)[j]? = some v → w.cell? ⟨b, off + i * 5 + j, none⟩ = some v
theorem ERow.below {w w' : World} {a : Option Addr} {l : List Ed} (h : ERow w a l) (hb : Below w.heap.size w w') : ERow w' a l :=
 ⟨fun hl => by
  obtain ⟨b, off, e, hbl, hc⟩ := h.here hl
  exact ⟨b, off, e, Nat.lt_of_lt_of_le hbl hb.size, fun i x hx j v hv => (hb.cell (p := ⟨b, off + i * 5 + j, none⟩) hbl).trans (hc i x hx j v hv)⟩⟩
theorem ERow.at {w : World} {a : Option Addr} {l : List Ed} (h : ERow w a l) {i : Nat} {x : Ed} (hx : l[i]? = some x) :
 ∃ b off, a = some ⟨b, off, none⟩ ∧ b < w.heap.size ∧ w.cell? ⟨b, off + i * 5, none⟩ = some (.int .i64 x.k) ∧ w.cell? ⟨b, off + i * 5 + 1, none⟩ = some (.int .i64 x.n) ∧ w.cell? ⟨b, off + i * 5 + 2, none⟩ = some (.int .i64 x.f) ∧ w.cell? ⟨b, off + i * 5 + 3, none⟩ = some (.int .i64 x.t) ∧ w.cell? ⟨b, off + i * 5 + 4, none⟩ = some (.string x.s) := by
 obtain ⟨b, off, e, hb, hc⟩ := h.here (by have := (List.getElem?_eq_some_iff.1 hx).1; omega)
 exact ⟨b, off, e, hb, hc i x hx 0 _ rfl, hc i x hx 1 _ rfl, hc i x hx 2 _ rfl, hc i x hx 3 _ rfl, hc i x hx 4 _ rfl⟩
def EdOwn (w : World) (base : Nat) (v : Value) (l : List Ed) : Prop := w.ownsRow base 30 5 v l.length (l.flatMap edC)
theorem EdOwn.below {w w' : World} {base : Nat} {v : Value} {l : List Ed} (h : EdOwn w base v l) (hb : Below w.heap.size w w') : EdOwn w' base v l := ownsRow_below h hb
theorem EdOwn.nil (w : World) (base : Nat) : EdOwn w base (.slice none 0 0) [] := World.ownsRow_nil _ _ _ _
theorem EdOwn.weaken {w : World} {base base' : Nat} {v : Value} {l : List Ed} (h : EdOwn w base v l) (hb : base' ≤ base) : EdOwn w base' v l := by
 refine ⟨h.1, ?_⟩
 rcases h.2 with e | ⟨g, cap, cur, h1, h2, h3⟩
 · exact Or.inl e
 · exact Or.inr ⟨g, cap, cur, h1, Nat.le_trans hb h2, h3⟩
theorem EdOwn.snoc {w' : World} {base : Nat} {v : Value} {l : List Ed} {x : Ed} (h : w'.ownsRow base 30 5 v (l.length + 1) (l.flatMap edC ++ edC x)) : EdOwn w' base v (l ++ [x]) := by
 unfold EdOwn
 rw [List.length_append, List.flatMap_append]
 rw [show ([x].flatMap edC) = edC x from List.append_nil _]
 exact h
theorem EdOwn.row {w : World} {base : Nat} {v : Value} {l : List Ed} (h : EdOwn w base v l) : ∃ a c, v = .slice a l.length c ∧ l.length ≤ c ∧ ERow w a l ∧ ∀ b, a = some b → base ≤ b.block := by
 have hh := h
 rcases h.2 with ⟨e, h0⟩ | ⟨g, cap, cur, e, hb, hg, hn, hm, hs, ht⟩
 · refine ⟨none, 0, ?_, by omega, ⟨fun hl => by omega⟩, fun b hb => by cases hb⟩
   rw [e, h0]
 · refine ⟨_, cap, e, hn, ⟨fun _ => ⟨g, 0, rfl, lt_of_block hg, fun i x hx j v hv => ?_⟩⟩, fun b hb' => by injection hb' with hb'; subst hb'; exact hb⟩
   have hc := World.ownsRow.cells hh (g := g) (by rw [e]; rfl) (i * 5 + j) _ (flatEd_get l i x hx j v hv)
   have : (⟨g, 0, none⟩ : Addr).add (i * 5 + j) = ⟨g, 0 + i * 5 + j, none⟩ := by
    unfold Addr.add
    split <;> simp_all
   rw [this] at hc
   exact hc
end Go.Proofs.YtcngjbfbdonpeaaGreatDoor

/- A text of this claim. -/
namespace Go.Proofs.YtcngjbfbdonpeaaGreatDoor
open Go.RowKit Go.BigFrame
open Tr (Ed inR)
theorem tin_any (n lo hi : Int) (w : World) : Calls Tryz.prog 72 #[.int .i64 n, .int .i64 lo, .int .i64 hi] w fun e w' => e = .returned (.bool (inR n lo hi)) ∧ w = w' := by
 cases h : decide (lo ≤ n)
 all_goals
  go_enter Tryz.func72, Tryz.ntmps72
  go_wp2
  go_ret
  exact ⟨ret_bool (by simp [inR, h]), rfl⟩
theorem rcin_any (n lo hi : Int) (w : World) : Calls Tryz.prog 137 #[.int .i64 n, .int .i64 lo, .int .i64 hi] w fun e w' => e = .returned (.bool (inR n lo hi)) ∧ w = w' := by
 cases h : decide (lo ≤ n)
 all_goals
  go_enter Tryz.func137, Tryz.ntmps137
  go_wp2
  go_ret
  exact ⟨ret_bool (by simp [inR, h]), rfl⟩
theorem tranged_any (n lo hi : Int) (w : World) : Calls Tryz.prog 135 #[.int .i64 n, .int .i64 lo, .int .i64 hi] w fun e w' => e = .returned (.int .i64 (rngE n lo hi)) ∧ w = w' := by
 have D := Lib.hid (tin_any n lo hi w)
 unfold rngE
 generalize inR n lo hi = b at D ⊢
 cases b
 all_goals
  go_enter Tryz.func135, Tryz.ntmps135
  go_wp2_with fail
  refine D.out.mono ?_
  rintro e _ ⟨rfl, rfl⟩
  go_wp2_with fail
  go_ret
  exact ⟨rfl, rfl⟩
def edI (x : Ed) : Value :=
 if x.k = 1 ∨ x.k = 3 ∨ x.k = 4 then .iface 58 (edV x)
 else if x.k = 2 ∨ x.k = 5 ∨ x.k = 6 ∨ x.k = 7 then .iface 77 (edV x)
 else if x.k = 9 ∨ x.k = 10 then .iface 78 (edV x)
 else if x.k = 8 ∨ x.k = 11 ∨ x.k = 12 then .iface 59 (edV x)
 else .nilIface
theorem kinds (k : Int) : k = 1 ∨ k = 2 ∨ k = 3 ∨ k = 4 ∨ k = 5 ∨ k = 6 ∨ k = 7 ∨ k = 8 ∨ k = 9 ∨ k = 10 ∨ k = 11 ∨ k = 12 ∨ k < 1 ∨ 12 < k := by omega
end Go.Proofs.YtcngjbfbdonpeaaGreatDoor

/- A text of this claim. -/
namespace Go.Proofs.YtcngjbfbdonpeaaGreatDoor
open Go.RowKit Go.BigFrame
open Tr (Ed)
theorem addr_plus (b off j : Nat) : (⟨b, off, none⟩ : Addr).add j = ⟨b, off + j, none⟩ := by
 unfold Addr.add
 split <;> simp_all
theorem edC_one : ∀ (x : Ed), ∀ v ∈ edC x, v.oneCell' = true := fun x v hv => by
 simp only [edC, List.mem_cons, List.not_mem_nil, or_false] at hv
 rcases hv with rfl | rfl | rfl | rfl | rfl <;> rfl
theorem flatEd_one (l : List Ed) : ∀ u ∈ l.flatMap edC, u.oneCell' = true := fun u hu => by
 obtain ⟨y, _, hy⟩ := List.mem_flatMap.1 hu
 exact edC_one y u hy
theorem flatEd_at : ∀ (l : List Ed) (j : Nat) (u : Value), (l.flatMap edC)[j]? = some u → ∃ x, l[j / 5]? = some x ∧ (edC x)[j % 5]? = some u
 | [], j, u, h => by simp at h
 | x :: l, j, u, h => by
  rw [List.flatMap_cons] at h
  by_cases hj : j < 5
  · rw [List.getElem?_append_left (by rw [edC_len]; exact hj)] at h
    exact ⟨x, by rw [Nat.div_eq_of_lt hj]; rfl, by rw [Nat.mod_eq_of_lt hj]; exact h⟩
  · rw [List.getElem?_append_right (by rw [edC_len]; omega), edC_len] at h
    obtain ⟨y, h1, h2⟩ := flatEd_at l (j - 5) u h
    refine ⟨y, ?_, ?_⟩
    · rw [show j / 5 = (j - 5) / 5 + 1 by omega]
      exact h1
    · rw [show j % 5 = (j - 5) % 5 by omega]
      exact h2
theorem ERow.flat {w : World} {a : Addr} {l : List Ed} (h : ERow w (some a) l) : ∀ j u, (l.flatMap edC)[j]? = some u → w.cell? (a.add j) = some u := by
 intro j u hj
 obtain ⟨x, hx, hu⟩ := flatEd_at l j u hj
 obtain ⟨b, off, e, _, hc⟩ := h.here (by have := (List.getElem?_eq_some_iff.1 hx).1; omega)
 injection e with e
 subst e
 have := hc _ x hx _ u hu
 rw [addr_plus, show off + j = off + j / 5 * 5 + j % 5 by omega]
 exact this
theorem ERow.nil_of {w : World} {l : List Ed} (h : ERow w none l) : l = [] := by
 cases l with
 | nil => rfl
 | cons x l =>
  obtain ⟨b, off, e, _⟩ := h.here (by simp)
  cases e
theorem append_noneE {P : Program} {t e : TypeId} {i : TypeInfo} (ht : P.underlying t = some (.slice e)) (hi : P.info? e = some i) (ty : TypeId) (base : Option Addr) (l c : Nat) (hlc : l ≤ c) (a : Option Addr) (k : Nat) (w : World) :
 (Builtin.append_ #[t, t] ty #[.slice base l c, .slice a 0 k]).run P w = .ok (.slice base l c) w := by
 cases base <;> cases a <;> simp [Builtin.append_, run_underlying ht, sizeOf, typeInfo, hi, Builtin.lenOf, Builtin.firstCells, hlc, loadCells, loadCellsFrom, storeCells]
set_option maxHeartbeats 2000000 in
set_option maxRecDepth 100000 in
theorem cloneE_any (a : Option Addr) (l : List Ed) (cap : Nat) (w : World) (hr : ERow w a l) (hl : l.length ≤ 1000000) :
 Calls Tryz.prog 37 #[.slice a l.length cap] w fun e w' => (∃ v, e = .returned v ∧ EdOwn w' w.heap.size v l) ∧ Below w.heap.size w w' := by
 have HU := Lib.hid (show Tryz.prog.underlying 22 = some (.slice 30) by kernel_rfl)
 have hq : ∀ (w : World) (a : Option Addr) (n c n' c' : Nat), (binOp .eql 22 (.slice a n c) (.slice none n' c')).run Tryz.prog w = .ok (.bool a.isNone) w := fun w a n c n' c' => Lib.run_eql_slice_nil w _ _ a n c n' c' HU.out
 have u22 : ∀ w, Sem.run Tryz.prog (underlying 22) w = .ok (TypeDesc.slice 30) w := run_underlying HU.out
 cases a with
 | none =>
  have h0 := hr.nil_of
  subst h0
  clear hr
  go_enter Tryz.func37, Tryz.ntmps37
  go_wp2_with fail
  go_ret
  exact ⟨⟨_, rfl, EdOwn.nil _ _⟩, Below.refl _ _⟩
 | some a =>
  obtain ⟨i0, hi0, hz0, hz1, hz2⟩ := info_parts (show (Tryz.prog.info? 30).map (fun i => (i.zero, i.size, i.bytes)) = some (some (.agg #[.int .i64 0, .int .i64 0, .int .i64 0, .int .i64 0, .string ⟨#[]⟩]), 5, 48) by kernel_rfl)
  have HI0 := Lib.hid hi0
  have HZ0 := Lib.hid hz0
  have HZ1 := Lib.hid hz1
  have HZ2 := Lib.hid hz2
  have HC := Lib.hid hr.flat
  have HL := Lib.hid (flatEd_len l)
  have H1 := Lib.hid (flatEd_one l)
  clear hi0 hz0 hz1 hz2 hr
  go_enter Tryz.func37, Tryz.ntmps37
  go_wp2_with (at_builtin; refine wpList_append_own _ rfl _ _ 22 rfl w.heap.size 30 i0 (.agg #[.int .i64 0, .int .i64 0, .int .i64 0, .int .i64 0, .string ⟨#[]⟩]) 5 48 HU.out HI0.out HZ0.out HZ1.out HZ2.out rfl (by decide) _ _ _ rfl (World.ownsRow_made w #[] 0 (Nat.le_refl _) (Nat.zero_le _) (by simp)) a l.length cap (l.flatMap edC) rfl ?qc1 ?qc2 ?qc3 ?qc4 ?qc5 ?qc6 ?_)
  case qc1 => exact HL.out
  case qc2 =>
   intro j u hj
   exact Lib.cell?_alloc_some _ (HC.out j u hj)
  case qc3 => exact H1.out
  case qc4 => rw [Nat.zero_add]; unfold maxLen; omega
  case qc5 => rw [Nat.zero_add]; omega
  case qc6 => simp
  intro v' w1 hown hgrow hnil
  go_wp2_with fail
  go_ret
  exact ⟨⟨v', rfl, by unfold EdOwn; simpa using hown⟩, ((Below.refl _ w).alloc (Nat.le_refl _) _).grown hgrow (by simp) (by intro k hk; simp [Value.ownBlock] at hk; omega)⟩
def eqE (x y : Ed) : Bool := decide (x.k = y.k) && decide (x.n = y.n) && decide (x.f = y.f) && decide (x.t = y.t) && decide (x.s = y.s)
theorem eqE_iff {x y : Ed} : eqE x y = true ↔ x = y := by
 unfold eqE
 simp only [Bool.and_eq_true, decide_eq_true_eq]
 exact ⟨fun ⟨⟨⟨⟨a, b⟩, c⟩, d⟩, e⟩ => Tr.Ed.ext' a b c d e, fun h => by subst h; exact ⟨⟨⟨⟨rfl, rfl⟩, rfl⟩, rfl⟩, rfl⟩⟩
theorem strEq (a b : ByteArray) : (a.toList == b.toList) = decide (a = b) := by
 rw [ByteArray.toList_eq, ByteArray.toList_eq, Bool.eq_iff_iff, beq_iff_eq, decide_eq_true_eq]
 constructor
 · intro h
   cases a; cases b
   congr 1
   exact Array.toList_inj.1 h
 · intro h; rw [h]
set_option maxHeartbeats 2000000 in
theorem eqEdit (x y : Ed) (w : World) : (Op.equalIn 10000 30 (edV x) (edV y)).run Tryz.prog w = .ok (eqE x y) w := by
 have u3 := Tryz.underlying3
 have a3 := Tryz.isAgg3
 have z3 := Tryz.sizeOf3
 have u9 := Tryz.underlying9
 have a9 := Tryz.isAgg9
 have z9 := Tryz.sizeOf9
 have hS : Tryz.prog.underlying 30 = some (.struct (Tryz.prog.fieldsOf 30)) := by kernel_rfl
 have hp : Tryz.prog.stoodInHeld 30 = false := by kernel_rfl
 obtain ⟨k, n, f, t, s⟩ := x
 obtain ⟨k', n', f', t', s'⟩ := y
 unfold eqE edV
 simp only
 have h5 := strEq s s'
 rw [show (10000 : Nat) = 9999 + 1 from rfl, run_equalIn_agg w 9999 30 _ _ hS hp]
 simp only [Program.fieldsOf, Tryz.underlying30]
 have h1 : (k == k') = decide (k = k') := rfl
 have h2 : (n == n') = decide (n = n') := rfl
 have h3 : (f == f') = decide (f = f') := rfl
 have h4 : (t == t') = decide (t = t') := rfl
 generalize decide (k = k') = b1 at h1 ⊢
 generalize decide (n = n') = b2 at h2 ⊢
 generalize decide (f = f') = b3 at h3 ⊢
 generalize decide (t = t') = b4 at h4 ⊢
 generalize decide (s = s') = b5 at h5 ⊢
 cases b1 <;> cases b2 <;> cases b3 <;> cases b4 <;> cases b5 <;> go_simp
def eqEs (l m : List Ed) : Bool := decide (l.length = m.length) && (List.range l.length).all fun i => match l[i]?, m[i]? with
 | some x, some y => eqE x y
 | _, _ => true
theorem eqEs_self (l : List Ed) : eqEs l l = true := by
 unfold eqEs
 rw [decide_eq_true rfl, Bool.true_and, List.all_eq_true]
 intro i _
 cases l[i]? with
 | none => rfl
 | some x => exact eqE_iff.2 rfl
set_option maxHeartbeats 4000000 in
set_option maxRecDepth 100000 in
theorem equalE_any (l m : List Ed) (a b : Option Addr) (c d : Nat) (w : World) (hr : ERow w a l) (hq : ERow w b m) (hl : l.length ≤ 1000000) :
 Calls Tryz.prog 8 #[.slice a l.length c, .slice b m.length d] w fun e w' => e = .returned (.bool (eqEs l m)) ∧ ∃ q, w' = w.drewN q := by
 by_cases hn : l.length = m.length
 · have hneq : ((l.length : Int) != (m.length : Int)) = false := by rw [hn]; simp
   have HR := Lib.hid hr
   have HQ := Lib.hid hq
   have HN := Lib.hid hn
   obtain ⟨z, hz⟩ : ∃ z, eqEs l m = z := ⟨_, rfl⟩
   have HZ := Lib.hid hz
   rw [hz]
   obtain ⟨nl, hnl⟩ : ∃ n, l.length = n := ⟨_, rfl⟩
   have HNL := Lib.hid hnl
   have HNM := Lib.hid (show m.length = nl by omega)
   rw [show m.length = l.length from hn.symm, hnl]
   rw [show m.length = l.length from hn.symm, hnl] at hneq
   rw [hnl] at hl
   clear hr hq hn hz hnl
   go_enter Tryz.func8, Tryz.ntmps8
   go_wp2_with fail
   go_loopw [13] (fun iv wr => ∃ (k : Nat), iv = .int .i64 k ∧ k ≤ nl ∧ (∃ q, wr = w.drewN q) ∧ Hid (∀ i x y, i < k → l[i]? = some x → m[i]? = some y → eqE x y = true)) (fun iv _ => nl - (intOf iv).toNat)
   case atStart => exact ⟨0, rfl, by omega, ⟨0, rfl⟩, Lib.hid (fun i x y hi => by omega)⟩
   case round =>
    obtain ⟨k, rfl, hk, ⟨q, rfl⟩, HE⟩ := hrel
    by_cases hlt : k < nl
    · have t1 : decide ((k : Int) < (nl : Int)) = true := by rw [decide_eq_true_eq]; omega
      have t1' : decide (k < nl) = true := by simpa using hlt
      obtain ⟨x, hx⟩ : ∃ x, l[k]? = some x := ⟨_, List.getElem?_eq_getElem (by rw [HNL.out]; exact hlt)⟩
      obtain ⟨y, hy⟩ : ∃ y, m[k]? = some y := ⟨_, List.getElem?_eq_getElem (by rw [HNM.out]; exact hlt)⟩
      obtain ⟨b1, o1, rfl, hb1, e0, e1, e2, e3, e4⟩ := HR.out.at hx
      obtain ⟨b2, o2, rfl, hb2, f0, f1, f2, f3, f4⟩ := HQ.out.at hy
      have hgd : Tryz.prog.eqGuardType Tryz.prog.depth 30 = false := by kernel_rfl
      have hq : ∀ W, (Op.equalIn 10000 30 (.agg #[.int .i64 x.k, .int .i64 x.n, .int .i64 x.f, .int .i64 x.t, .string x.s]) (.agg #[.int .i64 y.k, .int .i64 y.n, .int .i64 y.f, .int .i64 y.t, .string y.s])).run Tryz.prog W = .ok (eqE x y) W := fun W => eqEdit x y W
      have HXY := Lib.hid (And.intro hx hy)
      clear hx hy
      cases hb : eqE x y
      · rw [hb] at hq
        have HF : Hid (z = false) := Lib.hid (by
         rw [← HZ.out]
         unfold eqEs
         rw [Bool.and_eq_false_iff]
         refine Or.inr ?_
         rw [List.all_eq_false]
         exact ⟨k, List.mem_range.2 (by rw [HNL.out]; exact hlt), by rw [HXY.out.1, HXY.out.2]; simp [hb]⟩)
        clear hb
        go_wp2_with fail
        go_quiet (fail)
        go_wp2_with fail
        go_ret
        exact ⟨ret_bool HF.out.symm, q + nq, by rw [World.drewN_drewN]⟩
      · rw [hb] at hq
        have HE2 : Hid (∀ i x y, i < k + 1 → l[i]? = some x → m[i]? = some y → eqE x y = true) := Lib.hid (fun i x' y' hi h1 h2 => by
         by_cases e : i = k
         · subst e
           rw [HXY.out.1] at h1
           rw [HXY.out.2] at h2
           injection h1 with h1
           injection h2 with h2
           subst h1 h2
           exact hb
         · exact HE.out i x' y' (by omega) h1 h2)
        clear hb
        go_wp2_with fail
        go_quiet (fail)
        go_wp2_with fail
        go_roundw
        case rel => exact ⟨k + 1, by go_num, by omega, ⟨_, rfl⟩, HE2⟩
        case measure => simp [intOf]; omega
    · have t1 : decide ((k : Int) < (nl : Int)) = false := by rw [decide_eq_false_iff_not]; omega
      have t1' : decide (k < nl) = false := by simpa using hlt
      have HF : Hid (z = true) := Lib.hid (by
       rw [← HZ.out]
       unfold eqEs
       rw [Bool.and_eq_true, decide_eq_true_eq, List.all_eq_true]
       refine ⟨by rw [HNL.out, HNM.out], fun i hi => ?_⟩
       have hi := List.mem_range.1 hi
       rw [HNL.out] at hi
       cases h1 : l[i]? with
       | none => rfl
       | some x =>
        cases h2 : m[i]? with
        | none => rfl
        | some y => exact HE.out i x y (by omega) h1 h2)
      clear hlt
      go_wp2_with fail
      go_ret
      exact ⟨ret_bool HF.out.symm, _, rfl⟩
 · have hneq : ((l.length : Int) != (m.length : Int)) = true := by rw [bne_iff_ne]; omega
   have HF := Lib.hid (show eqEs l m = false by unfold eqEs; rw [decide_eq_false hn, Bool.false_and])
   clear hn
   go_enter Tryz.func8, Tryz.ntmps8
   go_wp2_with fail
   go_ret
   exact ⟨ret_bool HF.out.symm, 0, rfl⟩
end Go.Proofs.YtcngjbfbdonpeaaGreatDoor

/- A text of this claim. -/
namespace Go.Proofs.YtcngjbfbdonpeaaGreatDoor
open Go.RowKit
def allN (s : ByteArray) (k : Nat) : Bool := (s.data.toList.take k).all fun c => nameC c.toNat
theorem allN_step {s : ByteArray} {k : Nat} (hk : k < s.size) (h : allN s k = true) (hc : nameC (s[k].toNat : Int) = true) : allN s (k + 1) = true := by
 unfold allN at h ⊢
 rw [List.take_succ_eq_append_getElem (by simpa using hk), List.all_append, h, Bool.true_and]
 simpa [ByteArray.getElem_eq_getElem_data] using hc
theorem allN_bad {s : ByteArray} {k : Nat} (hk : k < s.size) (hc : nameC (s[k].toNat : Int) = false) : nameB s = false := by
 unfold nameB
 have h1 : (s.data.toList.all fun c => nameC c.toNat) = false := by
  rw [List.all_eq_false]
  exact ⟨s[k], by simp [ByteArray.getElem_eq_getElem_data], by rw [hc]; simp⟩
 rw [h1, Bool.and_false]
theorem nameB_of {s : ByteArray} (h : allN s s.size = true) : nameB s = (decide (1 ≤ s.size) && decide (s.size ≤ 60)) := by
 unfold nameB
 unfold allN at h
 rw [List.take_of_length_le (by simp)] at h
 rw [h, Bool.and_true]
def digB (x : Int) : Bool := decide (48 ≤ x) && decide (x ≤ 57)
theorem ndigit_any (x : Int) (w : World) : Calls Tryz.prog 131 #[.int .u8 x] w fun e w' => e = .returned (.bool (digB x)) ∧ w = w' := by
 cases h : decide (48 ≤ x)
 all_goals
  go_enter Tryz.func131, Tryz.ntmps131
  go_wp2
  go_ret
  exact ⟨ret_bool (by simp [digB, h]), rfl⟩
theorem nrdigit_any (x : Int) (w : World) : Calls Tryz.prog 58 #[.int .u8 x] w fun e w' => e = .returned (.bool (digB x)) ∧ w = w' := by
 cases h : decide (48 ≤ x)
 all_goals
  go_enter Tryz.func58, Tryz.ntmps58
  go_wp2
  go_ret
  exact ⟨ret_bool (by simp [digB, h]), rfl⟩
set_option maxHeartbeats 4000000 in
set_option maxRecDepth 100000 in
theorem isName_any (s : ByteArray) (w : World) (hs : s.size ≤ maxLen) :
 Calls Tryz.prog 130 #[.string s] w fun e w' => e = .returned (.bool (nameB s)) ∧ w = w' := by
 unfold maxLen at hs
 go_enter Tryz.func130, Tryz.ntmps130
 go_wp2_with fail
 go_loop [8] (fun iv => ∃ (k : Nat), iv = .int .i64 k ∧ k ≤ s.size ∧ Hid (allN s k = true)) (fun iv => s.size - (intOf iv).toNat)
 case atStart => exact ⟨0, rfl, by omega, Lib.hid rfl⟩
 case round =>
  obtain ⟨k, rfl, hk, HA⟩ := hrel
  by_cases hlt : k < s.size
  · have t3 : decide ((k : Int) < (s.size : Int)) = true := by rw [decide_eq_true_eq]; omega
    have t3' : decide (k < s.size) = true := by simpa using hlt
    have hub : (s[k].toNat : Int) ≤ 255 := by have := s[k].toNat_lt; omega
    have OKN := fun (h : Hid (nameC (s[k].toNat : Int) = true)) => Lib.hid (allN_step hlt HA.out h.out)
    have BADN := fun (h : Hid (nameC (s[k].toNat : Int) = false)) => allN_bad hlt h.out
    have OKN := Lib.hid OKN
    have BADN := Lib.hid BADN
    have hnn : 0 ≤ (s[k].toNat : Int) := Int.natCast_nonneg _
    obtain ⟨x, hx⟩ : ∃ x : Int, (s[k].toNat : Int) = x := ⟨_, rfl⟩
    rw [hx] at hub hnn OKN BADN
    have hways : (0 ≤ x ∧ x ≤ 44) ∨ (45 ≤ x ∧ x ≤ 45) ∨ (46 ≤ x ∧ x ≤ 46) ∨ (47 ≤ x ∧ x ≤ 47) ∨ (48 ≤ x ∧ x ≤ 57) ∨ (58 ≤ x ∧ x ≤ 64) ∨ (65 ≤ x ∧ x ≤ 90) ∨ (91 ≤ x ∧ x ≤ 94) ∨ (95 ≤ x ∧ x ≤ 95) ∨ (96 ≤ x ∧ x ≤ 96) ∨ (97 ≤ x ∧ x ≤ 122) ∨ (123 ≤ x ∧ x ≤ 255) := by omega
    rcases hways with hways | hways | hways | hways | hways | hways | hways | hways | hways | hways | hways | hways
    · have hx0 : 0 ≤ x := by omega
      have hx1 : x ≤ 44 := by omega
      have d1 : decide ((97 : Int) ≤ x) = false := by rw [decide_eq_false_iff_not]; omega
      have d2 : decide (x ≤ (122 : Int)) = true := by rw [decide_eq_true_eq]; omega
      have d3 : decide ((65 : Int) ≤ x) = false := by rw [decide_eq_false_iff_not]; omega
      have d4 : decide (x ≤ (90 : Int)) = true := by rw [decide_eq_true_eq]; omega
      have b0 : (x != (45 : Int)) = true := by rw [bne_iff_ne]; omega
      have b1 : (x != (95 : Int)) = true := by rw [bne_iff_ne]; omega
      have b2 : (x != (46 : Int)) = true := by rw [bne_iff_ne]; omega
      have hc : nameC x = false := by unfold nameC; simp; omega
      have HC := Lib.hid hc
      have HD := Lib.hid (ndigit_any x)
      rw [show digB x = false by unfold digB; simp; omega] at HD
      clear hc hx0 hx1 hways
      go_wp2_with fail
      refine (HD.out _).mono ?_
      rintro e w1 ⟨rfl, rfl⟩
      go_wp2_with fail
      go_ret
      exact ⟨ret_bool (BADN.out HC).symm, rfl⟩
    · have hx0 : 45 ≤ x := by omega
      have hx1 : x ≤ 45 := by omega
      have d1 : decide ((97 : Int) ≤ x) = false := by rw [decide_eq_false_iff_not]; omega
      have d2 : decide (x ≤ (122 : Int)) = true := by rw [decide_eq_true_eq]; omega
      have d3 : decide ((65 : Int) ≤ x) = false := by rw [decide_eq_false_iff_not]; omega
      have d4 : decide (x ≤ (90 : Int)) = true := by rw [decide_eq_true_eq]; omega
      have b0 : (x != (45 : Int)) = false := by rw [show x = 45 by omega]; rfl
      have b1 : (x != (95 : Int)) = true := by rw [bne_iff_ne]; omega
      have b2 : (x != (46 : Int)) = true := by rw [bne_iff_ne]; omega
      have hc : nameC x = true := by unfold nameC; simp; omega
      have HC := Lib.hid hc
      have HD := Lib.hid (ndigit_any x)
      rw [show digB x = false by unfold digB; simp; omega] at HD
      clear hc hx0 hx1 hways
      go_wp2_with fail
      refine (HD.out _).mono ?_
      rintro e w1 ⟨rfl, rfl⟩
      go_wp2_with fail
      go_round
      case rel => exact ⟨k + 1, by go_num, by omega, OKN.out HC⟩
      case measure => simp [intOf]; omega
    · have hx0 : 46 ≤ x := by omega
      have hx1 : x ≤ 46 := by omega
      have d1 : decide ((97 : Int) ≤ x) = false := by rw [decide_eq_false_iff_not]; omega
      have d2 : decide (x ≤ (122 : Int)) = true := by rw [decide_eq_true_eq]; omega
      have d3 : decide ((65 : Int) ≤ x) = false := by rw [decide_eq_false_iff_not]; omega
      have d4 : decide (x ≤ (90 : Int)) = true := by rw [decide_eq_true_eq]; omega
      have b0 : (x != (45 : Int)) = true := by rw [bne_iff_ne]; omega
      have b1 : (x != (95 : Int)) = true := by rw [bne_iff_ne]; omega
      have b2 : (x != (46 : Int)) = false := by rw [show x = 46 by omega]; rfl
      have hc : nameC x = true := by unfold nameC; simp; omega
      have HC := Lib.hid hc
      have HD := Lib.hid (ndigit_any x)
      rw [show digB x = false by unfold digB; simp; omega] at HD
      clear hc hx0 hx1 hways
      go_wp2_with fail
      refine (HD.out _).mono ?_
      rintro e w1 ⟨rfl, rfl⟩
      go_wp2_with fail
      go_round
      case rel => exact ⟨k + 1, by go_num, by omega, OKN.out HC⟩
      case measure => simp [intOf]; omega
    · have hx0 : 47 ≤ x := by omega
      have hx1 : x ≤ 47 := by omega
      have d1 : decide ((97 : Int) ≤ x) = false := by rw [decide_eq_false_iff_not]; omega
      have d2 : decide (x ≤ (122 : Int)) = true := by rw [decide_eq_true_eq]; omega
      have d3 : decide ((65 : Int) ≤ x) = false := by rw [decide_eq_false_iff_not]; omega
      have d4 : decide (x ≤ (90 : Int)) = true := by rw [decide_eq_true_eq]; omega
      have b0 : (x != (45 : Int)) = true := by rw [bne_iff_ne]; omega
      have b1 : (x != (95 : Int)) = true := by rw [bne_iff_ne]; omega
      have b2 : (x != (46 : Int)) = true := by rw [bne_iff_ne]; omega
      have hc : nameC x = false := by unfold nameC; simp; omega
      have HC := Lib.hid hc
      have HD := Lib.hid (ndigit_any x)
      rw [show digB x = false by unfold digB; simp; omega] at HD
      clear hc hx0 hx1 hways
      go_wp2_with fail
      refine (HD.out _).mono ?_
      rintro e w1 ⟨rfl, rfl⟩
      go_wp2_with fail
      go_ret
      exact ⟨ret_bool (BADN.out HC).symm, rfl⟩
    · have hx0 : 48 ≤ x := by omega
      have hx1 : x ≤ 57 := by omega
      have d1 : decide ((97 : Int) ≤ x) = false := by rw [decide_eq_false_iff_not]; omega
      have d2 : decide (x ≤ (122 : Int)) = true := by rw [decide_eq_true_eq]; omega
      have d3 : decide ((65 : Int) ≤ x) = false := by rw [decide_eq_false_iff_not]; omega
      have d4 : decide (x ≤ (90 : Int)) = true := by rw [decide_eq_true_eq]; omega
      have b0 : (x != (45 : Int)) = true := by rw [bne_iff_ne]; omega
      have b1 : (x != (95 : Int)) = true := by rw [bne_iff_ne]; omega
      have b2 : (x != (46 : Int)) = true := by rw [bne_iff_ne]; omega
      have hc : nameC x = true := by unfold nameC; simp; omega
      have HC := Lib.hid hc
      have HD := Lib.hid (ndigit_any x)
      rw [show digB x = true by unfold digB; simp; omega] at HD
      clear hc hx0 hx1 hways
      go_wp2_with fail
      refine (HD.out _).mono ?_
      rintro e w1 ⟨rfl, rfl⟩
      go_wp2_with fail
      go_round
      case rel => exact ⟨k + 1, by go_num, by omega, OKN.out HC⟩
      case measure => simp [intOf]; omega
    · have hx0 : 58 ≤ x := by omega
      have hx1 : x ≤ 64 := by omega
      have d1 : decide ((97 : Int) ≤ x) = false := by rw [decide_eq_false_iff_not]; omega
      have d2 : decide (x ≤ (122 : Int)) = true := by rw [decide_eq_true_eq]; omega
      have d3 : decide ((65 : Int) ≤ x) = false := by rw [decide_eq_false_iff_not]; omega
      have d4 : decide (x ≤ (90 : Int)) = true := by rw [decide_eq_true_eq]; omega
      have b0 : (x != (45 : Int)) = true := by rw [bne_iff_ne]; omega
      have b1 : (x != (95 : Int)) = true := by rw [bne_iff_ne]; omega
      have b2 : (x != (46 : Int)) = true := by rw [bne_iff_ne]; omega
      have hc : nameC x = false := by unfold nameC; simp; omega
      have HC := Lib.hid hc
      have HD := Lib.hid (ndigit_any x)
      rw [show digB x = false by unfold digB; simp; omega] at HD
      clear hc hx0 hx1 hways
      go_wp2_with fail
      refine (HD.out _).mono ?_
      rintro e w1 ⟨rfl, rfl⟩
      go_wp2_with fail
      go_ret
      exact ⟨ret_bool (BADN.out HC).symm, rfl⟩
    · have hx0 : 65 ≤ x := by omega
      have hx1 : x ≤ 90 := by omega
      have d1 : decide ((97 : Int) ≤ x) = false := by rw [decide_eq_false_iff_not]; omega
      have d2 : decide (x ≤ (122 : Int)) = true := by rw [decide_eq_true_eq]; omega
      have d3 : decide ((65 : Int) ≤ x) = true := by rw [decide_eq_true_eq]; omega
      have d4 : decide (x ≤ (90 : Int)) = true := by rw [decide_eq_true_eq]; omega
      have b0 : (x != (45 : Int)) = true := by rw [bne_iff_ne]; omega
      have b1 : (x != (95 : Int)) = true := by rw [bne_iff_ne]; omega
      have b2 : (x != (46 : Int)) = true := by rw [bne_iff_ne]; omega
      have hc : nameC x = true := by unfold nameC; simp; omega
      have HC := Lib.hid hc
      have HD := Lib.hid (ndigit_any x)
      rw [show digB x = false by unfold digB; simp; omega] at HD
      clear hc hx0 hx1 hways
      go_wp2_with fail
      go_round
      case rel => exact ⟨k + 1, by go_num, by omega, OKN.out HC⟩
      case measure => simp [intOf]; omega
    · have hx0 : 91 ≤ x := by omega
      have hx1 : x ≤ 94 := by omega
      have d1 : decide ((97 : Int) ≤ x) = false := by rw [decide_eq_false_iff_not]; omega
      have d2 : decide (x ≤ (122 : Int)) = true := by rw [decide_eq_true_eq]; omega
      have d3 : decide ((65 : Int) ≤ x) = true := by rw [decide_eq_true_eq]; omega
      have d4 : decide (x ≤ (90 : Int)) = false := by rw [decide_eq_false_iff_not]; omega
      have b0 : (x != (45 : Int)) = true := by rw [bne_iff_ne]; omega
      have b1 : (x != (95 : Int)) = true := by rw [bne_iff_ne]; omega
      have b2 : (x != (46 : Int)) = true := by rw [bne_iff_ne]; omega
      have hc : nameC x = false := by unfold nameC; simp; omega
      have HC := Lib.hid hc
      have HD := Lib.hid (ndigit_any x)
      rw [show digB x = false by unfold digB; simp; omega] at HD
      clear hc hx0 hx1 hways
      go_wp2_with fail
      refine (HD.out _).mono ?_
      rintro e w1 ⟨rfl, rfl⟩
      go_wp2_with fail
      go_ret
      exact ⟨ret_bool (BADN.out HC).symm, rfl⟩
    · have hx0 : 95 ≤ x := by omega
      have hx1 : x ≤ 95 := by omega
      have d1 : decide ((97 : Int) ≤ x) = false := by rw [decide_eq_false_iff_not]; omega
      have d2 : decide (x ≤ (122 : Int)) = true := by rw [decide_eq_true_eq]; omega
      have d3 : decide ((65 : Int) ≤ x) = true := by rw [decide_eq_true_eq]; omega
      have d4 : decide (x ≤ (90 : Int)) = false := by rw [decide_eq_false_iff_not]; omega
      have b0 : (x != (45 : Int)) = true := by rw [bne_iff_ne]; omega
      have b1 : (x != (95 : Int)) = false := by rw [show x = 95 by omega]; rfl
      have b2 : (x != (46 : Int)) = true := by rw [bne_iff_ne]; omega
      have hc : nameC x = true := by unfold nameC; simp; omega
      have HC := Lib.hid hc
      have HD := Lib.hid (ndigit_any x)
      rw [show digB x = false by unfold digB; simp; omega] at HD
      clear hc hx0 hx1 hways
      go_wp2_with fail
      refine (HD.out _).mono ?_
      rintro e w1 ⟨rfl, rfl⟩
      go_wp2_with fail
      go_round
      case rel => exact ⟨k + 1, by go_num, by omega, OKN.out HC⟩
      case measure => simp [intOf]; omega
    · have hx0 : 96 ≤ x := by omega
      have hx1 : x ≤ 96 := by omega
      have d1 : decide ((97 : Int) ≤ x) = false := by rw [decide_eq_false_iff_not]; omega
      have d2 : decide (x ≤ (122 : Int)) = true := by rw [decide_eq_true_eq]; omega
      have d3 : decide ((65 : Int) ≤ x) = true := by rw [decide_eq_true_eq]; omega
      have d4 : decide (x ≤ (90 : Int)) = false := by rw [decide_eq_false_iff_not]; omega
      have b0 : (x != (45 : Int)) = true := by rw [bne_iff_ne]; omega
      have b1 : (x != (95 : Int)) = true := by rw [bne_iff_ne]; omega
      have b2 : (x != (46 : Int)) = true := by rw [bne_iff_ne]; omega
      have hc : nameC x = false := by unfold nameC; simp; omega
      have HC := Lib.hid hc
      have HD := Lib.hid (ndigit_any x)
      rw [show digB x = false by unfold digB; simp; omega] at HD
      clear hc hx0 hx1 hways
      go_wp2_with fail
      refine (HD.out _).mono ?_
      rintro e w1 ⟨rfl, rfl⟩
      go_wp2_with fail
      go_ret
      exact ⟨ret_bool (BADN.out HC).symm, rfl⟩
    · have hx0 : 97 ≤ x := by omega
      have hx1 : x ≤ 122 := by omega
      have d1 : decide ((97 : Int) ≤ x) = true := by rw [decide_eq_true_eq]; omega
      have d2 : decide (x ≤ (122 : Int)) = true := by rw [decide_eq_true_eq]; omega
      have d3 : decide ((65 : Int) ≤ x) = true := by rw [decide_eq_true_eq]; omega
      have d4 : decide (x ≤ (90 : Int)) = false := by rw [decide_eq_false_iff_not]; omega
      have b0 : (x != (45 : Int)) = true := by rw [bne_iff_ne]; omega
      have b1 : (x != (95 : Int)) = true := by rw [bne_iff_ne]; omega
      have b2 : (x != (46 : Int)) = true := by rw [bne_iff_ne]; omega
      have hc : nameC x = true := by unfold nameC; simp; omega
      have HC := Lib.hid hc
      have HD := Lib.hid (ndigit_any x)
      rw [show digB x = false by unfold digB; simp; omega] at HD
      clear hc hx0 hx1 hways
      go_wp2_with fail
      go_round
      case rel => exact ⟨k + 1, by go_num, by omega, OKN.out HC⟩
      case measure => simp [intOf]; omega
    · have hx0 : 123 ≤ x := by omega
      have hx1 : x ≤ 255 := by omega
      have d1 : decide ((97 : Int) ≤ x) = true := by rw [decide_eq_true_eq]; omega
      have d2 : decide (x ≤ (122 : Int)) = false := by rw [decide_eq_false_iff_not]; omega
      have d3 : decide ((65 : Int) ≤ x) = true := by rw [decide_eq_true_eq]; omega
      have d4 : decide (x ≤ (90 : Int)) = false := by rw [decide_eq_false_iff_not]; omega
      have b0 : (x != (45 : Int)) = true := by rw [bne_iff_ne]; omega
      have b1 : (x != (95 : Int)) = true := by rw [bne_iff_ne]; omega
      have b2 : (x != (46 : Int)) = true := by rw [bne_iff_ne]; omega
      have hc : nameC x = false := by unfold nameC; simp; omega
      have HC := Lib.hid hc
      have HD := Lib.hid (ndigit_any x)
      rw [show digB x = false by unfold digB; simp; omega] at HD
      clear hc hx0 hx1 hways
      go_wp2_with fail
      refine (HD.out _).mono ?_
      rintro e w1 ⟨rfl, rfl⟩
      go_wp2_with fail
      go_ret
      exact ⟨ret_bool (BADN.out HC).symm, rfl⟩
  · have t3 : decide ((k : Int) < (s.size : Int)) = false := by rw [decide_eq_false_iff_not]; omega
    have t3' : decide (k < s.size) = false := by simpa using hlt
    obtain rfl : k = s.size := by omega
    have HE := Lib.hid (nameB_of HA.out)
    clear hlt hk
    by_cases h1 : 1 ≤ s.size
    · have t4 : decide ((1 : Int) ≤ (s.size : Int)) = true := by rw [decide_eq_true_eq]; omega
      have t4' : decide (1 ≤ s.size) = true := by simpa using h1
      rw [t4', Bool.true_and] at HE
      by_cases h6 : s.size ≤ 60
      · have t5 : decide ((s.size : Int) ≤ (60 : Int)) = true := by rw [decide_eq_true_eq]; omega
        have t5' : decide (s.size ≤ 60) = true := by simpa using h6
        rw [t5'] at HE
        go_wp2_with fail
        go_ret
        exact ⟨ret_bool HE.out.symm, rfl⟩
      · have t5 : decide ((s.size : Int) ≤ (60 : Int)) = false := by rw [decide_eq_false_iff_not]; omega
        have t5' : decide (s.size ≤ 60) = false := by simpa using h6
        rw [t5'] at HE
        go_wp2_with fail
        go_ret
        exact ⟨ret_bool HE.out.symm, rfl⟩
    · have t4 : decide ((1 : Int) ≤ (s.size : Int)) = false := by rw [decide_eq_false_iff_not]; omega
      have t4' : decide (1 ≤ s.size) = false := by simpa using h1
      rw [t4', Bool.false_and] at HE
      go_wp2_with fail
      go_ret
      exact ⟨ret_bool HE.out.symm, rfl⟩
set_option maxHeartbeats 4000000 in
set_option maxRecDepth 100000 in
theorem risName_any (s : ByteArray) (w : World) (hs : s.size ≤ maxLen) :
 Calls Tryz.prog 42 #[.string s] w fun e w' => e = .returned (.bool (nameB s)) ∧ w = w' := by
 unfold maxLen at hs
 by_cases hsz : 1 ≤ s.size ∧ s.size ≤ 60
 case neg =>
  have HN := Lib.hid (show nameB s = false by unfold nameB; rw [Bool.and_eq_false_iff, Bool.and_eq_false_iff, decide_eq_false_iff_not, decide_eq_false_iff_not]; omega)
  by_cases h1 : s.size < 1
  · have t1 : decide ((s.size : Int) < 1) = true := by rw [decide_eq_true_eq]; omega
    have t1' : decide (s.size < 1) = true := by simpa using h1
    clear hsz h1
    go_enter Tryz.func42, Tryz.ntmps42
    go_wp2_with fail
    go_ret
    exact ⟨ret_bool HN.out.symm, rfl⟩
  · have t1 : decide ((s.size : Int) < 1) = false := by rw [decide_eq_false_iff_not]; omega
    have t2 : decide ((60 : Int) < (s.size : Int)) = true := by rw [decide_eq_true_eq]; omega
    have t2' : decide (60 < s.size) = true := by rw [decide_eq_true_eq]; omega
    clear hsz h1
    go_enter Tryz.func42, Tryz.ntmps42
    go_wp2_with fail
    go_ret
    exact ⟨ret_bool HN.out.symm, rfl⟩
 obtain ⟨hsz1, hsz2⟩ := hsz
 have t1 : decide ((s.size : Int) < 1) = false := by rw [decide_eq_false_iff_not]; omega
 have t2 : decide ((60 : Int) < (s.size : Int)) = false := by rw [decide_eq_false_iff_not]; omega
 go_enter Tryz.func42, Tryz.ntmps42
 go_wp2_with fail
 go_loop [3] (fun iv => ∃ (k : Nat), iv = .int .i64 k ∧ k ≤ s.size ∧ Hid (allN s k = true)) (fun iv => s.size - (intOf iv).toNat)
 case atStart => exact ⟨0, rfl, by omega, Lib.hid rfl⟩
 case round =>
  obtain ⟨k, rfl, hk, HA⟩ := hrel
  by_cases hlt : k < s.size
  · have t3 : decide ((k : Int) < (s.size : Int)) = true := by rw [decide_eq_true_eq]; omega
    have t3' : decide (k < s.size) = true := by simpa using hlt
    have hub : (s[k].toNat : Int) ≤ 255 := by have := s[k].toNat_lt; omega
    have OKN := fun (h : Hid (nameC (s[k].toNat : Int) = true)) => Lib.hid (allN_step hlt HA.out h.out)
    have BADN := fun (h : Hid (nameC (s[k].toNat : Int) = false)) => allN_bad hlt h.out
    have OKN := Lib.hid OKN
    have BADN := Lib.hid BADN
    have hnn : 0 ≤ (s[k].toNat : Int) := Int.natCast_nonneg _
    obtain ⟨x, hx⟩ : ∃ x : Int, (s[k].toNat : Int) = x := ⟨_, rfl⟩
    rw [hx] at hub hnn OKN BADN
    have hways : (0 ≤ x ∧ x ≤ 44) ∨ (45 ≤ x ∧ x ≤ 45) ∨ (46 ≤ x ∧ x ≤ 46) ∨ (47 ≤ x ∧ x ≤ 47) ∨ (48 ≤ x ∧ x ≤ 57) ∨ (58 ≤ x ∧ x ≤ 64) ∨ (65 ≤ x ∧ x ≤ 90) ∨ (91 ≤ x ∧ x ≤ 94) ∨ (95 ≤ x ∧ x ≤ 95) ∨ (96 ≤ x ∧ x ≤ 96) ∨ (97 ≤ x ∧ x ≤ 122) ∨ (123 ≤ x ∧ x ≤ 255) := by omega
    rcases hways with hways | hways | hways | hways | hways | hways | hways | hways | hways | hways | hways | hways
    · have hx0 : 0 ≤ x := by omega
      have hx1 : x ≤ 44 := by omega
      have d1 : decide ((97 : Int) ≤ x) = false := by rw [decide_eq_false_iff_not]; omega
      have d2 : decide (x ≤ (122 : Int)) = true := by rw [decide_eq_true_eq]; omega
      have d3 : decide ((65 : Int) ≤ x) = false := by rw [decide_eq_false_iff_not]; omega
      have d4 : decide (x ≤ (90 : Int)) = true := by rw [decide_eq_true_eq]; omega
      have b0 : (x != (45 : Int)) = true := by rw [bne_iff_ne]; omega
      have b1 : (x != (95 : Int)) = true := by rw [bne_iff_ne]; omega
      have b2 : (x != (46 : Int)) = true := by rw [bne_iff_ne]; omega
      have hc : nameC x = false := by unfold nameC; simp; omega
      have HC := Lib.hid hc
      have HD := Lib.hid (nrdigit_any x)
      rw [show digB x = false by unfold digB; simp; omega] at HD
      clear hc hx0 hx1 hways
      go_wp2_with fail
      refine (HD.out _).mono ?_
      rintro e w1 ⟨rfl, rfl⟩
      go_wp2_with fail
      go_ret
      exact ⟨ret_bool (BADN.out HC).symm, rfl⟩
    · have hx0 : 45 ≤ x := by omega
      have hx1 : x ≤ 45 := by omega
      have d1 : decide ((97 : Int) ≤ x) = false := by rw [decide_eq_false_iff_not]; omega
      have d2 : decide (x ≤ (122 : Int)) = true := by rw [decide_eq_true_eq]; omega
      have d3 : decide ((65 : Int) ≤ x) = false := by rw [decide_eq_false_iff_not]; omega
      have d4 : decide (x ≤ (90 : Int)) = true := by rw [decide_eq_true_eq]; omega
      have b0 : (x != (45 : Int)) = false := by rw [show x = 45 by omega]; rfl
      have b1 : (x != (95 : Int)) = true := by rw [bne_iff_ne]; omega
      have b2 : (x != (46 : Int)) = true := by rw [bne_iff_ne]; omega
      have hc : nameC x = true := by unfold nameC; simp; omega
      have HC := Lib.hid hc
      have HD := Lib.hid (nrdigit_any x)
      rw [show digB x = false by unfold digB; simp; omega] at HD
      clear hc hx0 hx1 hways
      go_wp2_with fail
      refine (HD.out _).mono ?_
      rintro e w1 ⟨rfl, rfl⟩
      go_wp2_with fail
      go_round
      case rel => exact ⟨k + 1, by go_num, by omega, OKN.out HC⟩
      case measure => simp [intOf]; omega
    · have hx0 : 46 ≤ x := by omega
      have hx1 : x ≤ 46 := by omega
      have d1 : decide ((97 : Int) ≤ x) = false := by rw [decide_eq_false_iff_not]; omega
      have d2 : decide (x ≤ (122 : Int)) = true := by rw [decide_eq_true_eq]; omega
      have d3 : decide ((65 : Int) ≤ x) = false := by rw [decide_eq_false_iff_not]; omega
      have d4 : decide (x ≤ (90 : Int)) = true := by rw [decide_eq_true_eq]; omega
      have b0 : (x != (45 : Int)) = true := by rw [bne_iff_ne]; omega
      have b1 : (x != (95 : Int)) = true := by rw [bne_iff_ne]; omega
      have b2 : (x != (46 : Int)) = false := by rw [show x = 46 by omega]; rfl
      have hc : nameC x = true := by unfold nameC; simp; omega
      have HC := Lib.hid hc
      have HD := Lib.hid (nrdigit_any x)
      rw [show digB x = false by unfold digB; simp; omega] at HD
      clear hc hx0 hx1 hways
      go_wp2_with fail
      refine (HD.out _).mono ?_
      rintro e w1 ⟨rfl, rfl⟩
      go_wp2_with fail
      go_round
      case rel => exact ⟨k + 1, by go_num, by omega, OKN.out HC⟩
      case measure => simp [intOf]; omega
    · have hx0 : 47 ≤ x := by omega
      have hx1 : x ≤ 47 := by omega
      have d1 : decide ((97 : Int) ≤ x) = false := by rw [decide_eq_false_iff_not]; omega
      have d2 : decide (x ≤ (122 : Int)) = true := by rw [decide_eq_true_eq]; omega
      have d3 : decide ((65 : Int) ≤ x) = false := by rw [decide_eq_false_iff_not]; omega
      have d4 : decide (x ≤ (90 : Int)) = true := by rw [decide_eq_true_eq]; omega
      have b0 : (x != (45 : Int)) = true := by rw [bne_iff_ne]; omega
      have b1 : (x != (95 : Int)) = true := by rw [bne_iff_ne]; omega
      have b2 : (x != (46 : Int)) = true := by rw [bne_iff_ne]; omega
      have hc : nameC x = false := by unfold nameC; simp; omega
      have HC := Lib.hid hc
      have HD := Lib.hid (nrdigit_any x)
      rw [show digB x = false by unfold digB; simp; omega] at HD
      clear hc hx0 hx1 hways
      go_wp2_with fail
      refine (HD.out _).mono ?_
      rintro e w1 ⟨rfl, rfl⟩
      go_wp2_with fail
      go_ret
      exact ⟨ret_bool (BADN.out HC).symm, rfl⟩
    · have hx0 : 48 ≤ x := by omega
      have hx1 : x ≤ 57 := by omega
      have d1 : decide ((97 : Int) ≤ x) = false := by rw [decide_eq_false_iff_not]; omega
      have d2 : decide (x ≤ (122 : Int)) = true := by rw [decide_eq_true_eq]; omega
      have d3 : decide ((65 : Int) ≤ x) = false := by rw [decide_eq_false_iff_not]; omega
      have d4 : decide (x ≤ (90 : Int)) = true := by rw [decide_eq_true_eq]; omega
      have b0 : (x != (45 : Int)) = true := by rw [bne_iff_ne]; omega
      have b1 : (x != (95 : Int)) = true := by rw [bne_iff_ne]; omega
      have b2 : (x != (46 : Int)) = true := by rw [bne_iff_ne]; omega
      have hc : nameC x = true := by unfold nameC; simp; omega
      have HC := Lib.hid hc
      have HD := Lib.hid (nrdigit_any x)
      rw [show digB x = true by unfold digB; simp; omega] at HD
      clear hc hx0 hx1 hways
      go_wp2_with fail
      refine (HD.out _).mono ?_
      rintro e w1 ⟨rfl, rfl⟩
      go_wp2_with fail
      go_round
      case rel => exact ⟨k + 1, by go_num, by omega, OKN.out HC⟩
      case measure => simp [intOf]; omega
    · have hx0 : 58 ≤ x := by omega
      have hx1 : x ≤ 64 := by omega
      have d1 : decide ((97 : Int) ≤ x) = false := by rw [decide_eq_false_iff_not]; omega
      have d2 : decide (x ≤ (122 : Int)) = true := by rw [decide_eq_true_eq]; omega
      have d3 : decide ((65 : Int) ≤ x) = false := by rw [decide_eq_false_iff_not]; omega
      have d4 : decide (x ≤ (90 : Int)) = true := by rw [decide_eq_true_eq]; omega
      have b0 : (x != (45 : Int)) = true := by rw [bne_iff_ne]; omega
      have b1 : (x != (95 : Int)) = true := by rw [bne_iff_ne]; omega
      have b2 : (x != (46 : Int)) = true := by rw [bne_iff_ne]; omega
      have hc : nameC x = false := by unfold nameC; simp; omega
      have HC := Lib.hid hc
      have HD := Lib.hid (nrdigit_any x)
      rw [show digB x = false by unfold digB; simp; omega] at HD
      clear hc hx0 hx1 hways
      go_wp2_with fail
      refine (HD.out _).mono ?_
      rintro e w1 ⟨rfl, rfl⟩
      go_wp2_with fail
      go_ret
      exact ⟨ret_bool (BADN.out HC).symm, rfl⟩
    · have hx0 : 65 ≤ x := by omega
      have hx1 : x ≤ 90 := by omega
      have d1 : decide ((97 : Int) ≤ x) = false := by rw [decide_eq_false_iff_not]; omega
      have d2 : decide (x ≤ (122 : Int)) = true := by rw [decide_eq_true_eq]; omega
      have d3 : decide ((65 : Int) ≤ x) = true := by rw [decide_eq_true_eq]; omega
      have d4 : decide (x ≤ (90 : Int)) = true := by rw [decide_eq_true_eq]; omega
      have b0 : (x != (45 : Int)) = true := by rw [bne_iff_ne]; omega
      have b1 : (x != (95 : Int)) = true := by rw [bne_iff_ne]; omega
      have b2 : (x != (46 : Int)) = true := by rw [bne_iff_ne]; omega
      have hc : nameC x = true := by unfold nameC; simp; omega
      have HC := Lib.hid hc
      have HD := Lib.hid (nrdigit_any x)
      rw [show digB x = false by unfold digB; simp; omega] at HD
      clear hc hx0 hx1 hways
      go_wp2_with fail
      go_round
      case rel => exact ⟨k + 1, by go_num, by omega, OKN.out HC⟩
      case measure => simp [intOf]; omega
    · have hx0 : 91 ≤ x := by omega
      have hx1 : x ≤ 94 := by omega
      have d1 : decide ((97 : Int) ≤ x) = false := by rw [decide_eq_false_iff_not]; omega
      have d2 : decide (x ≤ (122 : Int)) = true := by rw [decide_eq_true_eq]; omega
      have d3 : decide ((65 : Int) ≤ x) = true := by rw [decide_eq_true_eq]; omega
      have d4 : decide (x ≤ (90 : Int)) = false := by rw [decide_eq_false_iff_not]; omega
      have b0 : (x != (45 : Int)) = true := by rw [bne_iff_ne]; omega
      have b1 : (x != (95 : Int)) = true := by rw [bne_iff_ne]; omega
      have b2 : (x != (46 : Int)) = true := by rw [bne_iff_ne]; omega
      have hc : nameC x = false := by unfold nameC; simp; omega
      have HC := Lib.hid hc
      have HD := Lib.hid (nrdigit_any x)
      rw [show digB x = false by unfold digB; simp; omega] at HD
      clear hc hx0 hx1 hways
      go_wp2_with fail
      refine (HD.out _).mono ?_
      rintro e w1 ⟨rfl, rfl⟩
      go_wp2_with fail
      go_ret
      exact ⟨ret_bool (BADN.out HC).symm, rfl⟩
    · have hx0 : 95 ≤ x := by omega
      have hx1 : x ≤ 95 := by omega
      have d1 : decide ((97 : Int) ≤ x) = false := by rw [decide_eq_false_iff_not]; omega
      have d2 : decide (x ≤ (122 : Int)) = true := by rw [decide_eq_true_eq]; omega
      have d3 : decide ((65 : Int) ≤ x) = true := by rw [decide_eq_true_eq]; omega
      have d4 : decide (x ≤ (90 : Int)) = false := by rw [decide_eq_false_iff_not]; omega
      have b0 : (x != (45 : Int)) = true := by rw [bne_iff_ne]; omega
      have b1 : (x != (95 : Int)) = false := by rw [show x = 95 by omega]; rfl
      have b2 : (x != (46 : Int)) = true := by rw [bne_iff_ne]; omega
      have hc : nameC x = true := by unfold nameC; simp; omega
      have HC := Lib.hid hc
      have HD := Lib.hid (nrdigit_any x)
      rw [show digB x = false by unfold digB; simp; omega] at HD
      clear hc hx0 hx1 hways
      go_wp2_with fail
      refine (HD.out _).mono ?_
      rintro e w1 ⟨rfl, rfl⟩
      go_wp2_with fail
      go_round
      case rel => exact ⟨k + 1, by go_num, by omega, OKN.out HC⟩
      case measure => simp [intOf]; omega
    · have hx0 : 96 ≤ x := by omega
      have hx1 : x ≤ 96 := by omega
      have d1 : decide ((97 : Int) ≤ x) = false := by rw [decide_eq_false_iff_not]; omega
      have d2 : decide (x ≤ (122 : Int)) = true := by rw [decide_eq_true_eq]; omega
      have d3 : decide ((65 : Int) ≤ x) = true := by rw [decide_eq_true_eq]; omega
      have d4 : decide (x ≤ (90 : Int)) = false := by rw [decide_eq_false_iff_not]; omega
      have b0 : (x != (45 : Int)) = true := by rw [bne_iff_ne]; omega
      have b1 : (x != (95 : Int)) = true := by rw [bne_iff_ne]; omega
      have b2 : (x != (46 : Int)) = true := by rw [bne_iff_ne]; omega
      have hc : nameC x = false := by unfold nameC; simp; omega
      have HC := Lib.hid hc
      have HD := Lib.hid (nrdigit_any x)
      rw [show digB x = false by unfold digB; simp; omega] at HD
      clear hc hx0 hx1 hways
      go_wp2_with fail
      refine (HD.out _).mono ?_
      rintro e w1 ⟨rfl, rfl⟩
      go_wp2_with fail
      go_ret
      exact ⟨ret_bool (BADN.out HC).symm, rfl⟩
    · have hx0 : 97 ≤ x := by omega
      have hx1 : x ≤ 122 := by omega
      have d1 : decide ((97 : Int) ≤ x) = true := by rw [decide_eq_true_eq]; omega
      have d2 : decide (x ≤ (122 : Int)) = true := by rw [decide_eq_true_eq]; omega
      have d3 : decide ((65 : Int) ≤ x) = true := by rw [decide_eq_true_eq]; omega
      have d4 : decide (x ≤ (90 : Int)) = false := by rw [decide_eq_false_iff_not]; omega
      have b0 : (x != (45 : Int)) = true := by rw [bne_iff_ne]; omega
      have b1 : (x != (95 : Int)) = true := by rw [bne_iff_ne]; omega
      have b2 : (x != (46 : Int)) = true := by rw [bne_iff_ne]; omega
      have hc : nameC x = true := by unfold nameC; simp; omega
      have HC := Lib.hid hc
      have HD := Lib.hid (nrdigit_any x)
      rw [show digB x = false by unfold digB; simp; omega] at HD
      clear hc hx0 hx1 hways
      go_wp2_with fail
      go_round
      case rel => exact ⟨k + 1, by go_num, by omega, OKN.out HC⟩
      case measure => simp [intOf]; omega
    · have hx0 : 123 ≤ x := by omega
      have hx1 : x ≤ 255 := by omega
      have d1 : decide ((97 : Int) ≤ x) = true := by rw [decide_eq_true_eq]; omega
      have d2 : decide (x ≤ (122 : Int)) = false := by rw [decide_eq_false_iff_not]; omega
      have d3 : decide ((65 : Int) ≤ x) = true := by rw [decide_eq_true_eq]; omega
      have d4 : decide (x ≤ (90 : Int)) = false := by rw [decide_eq_false_iff_not]; omega
      have b0 : (x != (45 : Int)) = true := by rw [bne_iff_ne]; omega
      have b1 : (x != (95 : Int)) = true := by rw [bne_iff_ne]; omega
      have b2 : (x != (46 : Int)) = true := by rw [bne_iff_ne]; omega
      have hc : nameC x = false := by unfold nameC; simp; omega
      have HC := Lib.hid hc
      have HD := Lib.hid (nrdigit_any x)
      rw [show digB x = false by unfold digB; simp; omega] at HD
      clear hc hx0 hx1 hways
      go_wp2_with fail
      refine (HD.out _).mono ?_
      rintro e w1 ⟨rfl, rfl⟩
      go_wp2_with fail
      go_ret
      exact ⟨ret_bool (BADN.out HC).symm, rfl⟩
  · have t3 : decide ((k : Int) < (s.size : Int)) = false := by rw [decide_eq_false_iff_not]; omega
    have t3' : decide (k < s.size) = false := by simpa using hlt
    obtain rfl : k = s.size := by omega
    have HE := Lib.hid (nameB_of HA.out)
    clear hlt hk
    have HE2 := Lib.hid (show nameB s = true by rw [HE.out]; simp; omega)
    go_wp2_with fail
    go_ret
    exact ⟨ret_bool HE2.out.symm, rfl⟩
end Go.Proofs.YtcngjbfbdonpeaaGreatDoor

/- A text of this claim. -/
namespace Go.Proofs.YtcngjbfbdonpeaaGreatDoor
open Go.RowKit Go.BigFrame
open Tr (Ed inR)
def allT (s : ByteArray) (k : Nat) : Bool := (s.data.toList.take k).all fun c => decide (32 ≤ c.toNat) && decide (c.toNat ≤ 126)
theorem allT_step {s : ByteArray} {k : Nat} (hk : k < s.size) (h : allT s k = true) (h1 : 32 ≤ s[k].toNat) (h2 : s[k].toNat ≤ 126) : allT s (k + 1) = true := by
 unfold allT at h ⊢
 rw [List.take_succ_eq_append_getElem (by simpa using hk), List.all_append, h, Bool.true_and]
 simp [← ByteArray.getElem_eq_getElem_data, h1, h2]
theorem titleB_bad {s : ByteArray} {k : Nat} (hk : k < s.size) (h : ¬ (32 ≤ s[k].toNat ∧ s[k].toNat ≤ 126)) : titleB s = false := by
 unfold titleB
 have h1 : (s.data.toList.all fun c => decide (32 ≤ c.toNat) && decide (c.toNat ≤ 126)) = false := by
  rw [List.all_eq_false]
  exact ⟨s[k], by simp [ByteArray.getElem_eq_getElem_data], by simp; omega⟩
 rw [h1, Bool.and_false]
theorem titleB_of {s : ByteArray} (h : allT s s.size = true) : titleB s = decide (s.size ≤ 60) := by
 unfold titleB
 unfold allT at h
 rw [List.take_of_length_le (by simp)] at h
 rw [h, Bool.and_true]
set_option maxHeartbeats 2000000 in
set_option maxRecDepth 100000 in
theorem isTitle_any (s : ByteArray) (w : World) (hs : s.size ≤ maxLen) :
 Calls Tryz.prog 136 #[.string s] w fun e w' => e = .returned (.bool (titleB s)) ∧ w = w' := by
 unfold maxLen at hs
 have DI := Lib.hid (fun (n : Int) => rcin_any n 32 126)
 go_enter Tryz.func136, Tryz.ntmps136
 go_wp2_with fail
 go_loop [6] (fun iv => ∃ (k : Nat), iv = .int .i64 k ∧ k ≤ s.size ∧ Hid (allT s k = true)) (fun iv => s.size - (intOf iv).toNat)
 case atStart => exact ⟨0, rfl, by omega, Lib.hid rfl⟩
 case round =>
  obtain ⟨k, rfl, hk, HA⟩ := hrel
  by_cases hlt : k < s.size
  · have t3 : decide ((k : Int) < (s.size : Int)) = true := by rw [decide_eq_true_eq]; omega
    have t3' : decide (k < s.size) = true := by simpa using hlt
    have hub : (s[k].toNat : Int) ≤ 255 := by have := s[k].toNat_lt; omega
    have OKN := Lib.hid (fun (h1 : 32 ≤ s[k].toNat) (h2 : s[k].toNat ≤ 126) => allT_step hlt HA.out h1 h2)
    have BADN := Lib.hid (fun (h : ¬ (32 ≤ s[k].toNat ∧ s[k].toNat ≤ 126)) => titleB_bad hlt h)
    have D := DI.out (s[k].toNat : Int)
    have hi : inR (s[k].toNat : Int) 32 126 = true ↔ (32 ≤ s[k].toNat ∧ s[k].toNat ≤ 126) := by
     unfold inR
     simp only [Bool.and_eq_true, decide_eq_true_eq]
     omega
    cases hb : inR (s[k].toNat : Int) 32 126
    · rw [hb] at D hi
      have HF := Lib.hid (BADN.out (fun h => by have := hi.2 h; cases this))
      have D := Lib.hid D
      clear hi hb OKN BADN
      go_wp2_with fail
      refine (D.out _).mono ?_
      rintro e w1 ⟨rfl, rfl⟩
      go_wp2_with fail
      go_ret
      exact ⟨ret_bool HF.out.symm, rfl⟩
    · rw [hb] at D hi
      have HF := Lib.hid (OKN.out (hi.1 rfl).1 (hi.1 rfl).2)
      have D := Lib.hid D
      clear hi hb OKN BADN
      go_wp2_with fail
      refine (D.out _).mono ?_
      rintro e w1 ⟨rfl, rfl⟩
      go_wp2_with fail
      go_round
      case rel => exact ⟨k + 1, by go_num, by omega, HF⟩
      case measure => simp [intOf]; omega
  · have t3 : decide ((k : Int) < (s.size : Int)) = false := by rw [decide_eq_false_iff_not]; omega
    have t3' : decide (k < s.size) = false := by simpa using hlt
    have HF := Lib.hid (show titleB s = decide (s.size ≤ 60) from titleB_of (by have := HA.out; rwa [show k = s.size by omega] at this))
    clear hlt
    by_cases h6 : s.size ≤ 60
    · have t4 : decide ((s.size : Int) ≤ 60) = true := by rw [decide_eq_true_eq]; omega
      have HG := Lib.hid (HF.out.trans (decide_eq_true h6))
      clear h6
      go_wp2_with fail
      go_ret
      exact ⟨ret_bool HG.out.symm, rfl⟩
    · have t4 : decide ((s.size : Int) ≤ 60) = false := by rw [decide_eq_false_iff_not]; omega
      have HG := Lib.hid (HF.out.trans (decide_eq_false h6))
      clear h6
      go_wp2_with fail
      go_ret
      exact ⟨ret_bool HG.out.symm, rfl⟩
set_option maxHeartbeats 2000000 in
set_option maxRecDepth 100000 in
theorem editOf_any (x : Ed) (w : World) : Calls Tryz.prog 27 #[edV x] w fun e w' => e = .returned (edI x) ∧ Below w.heap.size w w' := by
 obtain ⟨k, n, f, t, s⟩ := x
 rcases kinds k with rfl | rfl | rfl | rfl | rfl | rfl | rfl | rfl | rfl | rfl | rfl | rfl | h | h
 · show Calls _ _ _ _ fun e w' => e = .returned (.iface 58 (edV ⟨1, n, f, t, s⟩)) ∧ _
   unfold edV
   go_enter Tryz.func27, Tryz.ntmps27
   go_wp2_with fail
   go_ret
   exact ⟨rfl, below_al w _⟩
 · show Calls _ _ _ _ fun e w' => e = .returned (.iface 77 (edV ⟨2, n, f, t, s⟩)) ∧ _
   unfold edV
   go_enter Tryz.func27, Tryz.ntmps27
   go_wp2_with fail
   go_ret
   exact ⟨rfl, below_al w _⟩
 · show Calls _ _ _ _ fun e w' => e = .returned (.iface 58 (edV ⟨3, n, f, t, s⟩)) ∧ _
   unfold edV
   go_enter Tryz.func27, Tryz.ntmps27
   go_wp2_with fail
   go_ret
   exact ⟨rfl, below_al w _⟩
 · show Calls _ _ _ _ fun e w' => e = .returned (.iface 58 (edV ⟨4, n, f, t, s⟩)) ∧ _
   unfold edV
   go_enter Tryz.func27, Tryz.ntmps27
   go_wp2_with fail
   go_ret
   exact ⟨rfl, below_al w _⟩
 · show Calls _ _ _ _ fun e w' => e = .returned (.iface 77 (edV ⟨5, n, f, t, s⟩)) ∧ _
   unfold edV
   go_enter Tryz.func27, Tryz.ntmps27
   go_wp2_with fail
   go_ret
   exact ⟨rfl, below_al w _⟩
 · show Calls _ _ _ _ fun e w' => e = .returned (.iface 77 (edV ⟨6, n, f, t, s⟩)) ∧ _
   unfold edV
   go_enter Tryz.func27, Tryz.ntmps27
   go_wp2_with fail
   go_ret
   exact ⟨rfl, below_al w _⟩
 · show Calls _ _ _ _ fun e w' => e = .returned (.iface 77 (edV ⟨7, n, f, t, s⟩)) ∧ _
   unfold edV
   go_enter Tryz.func27, Tryz.ntmps27
   go_wp2_with fail
   go_ret
   exact ⟨rfl, below_al w _⟩
 · show Calls _ _ _ _ fun e w' => e = .returned (.iface 59 (edV ⟨8, n, f, t, s⟩)) ∧ _
   unfold edV
   go_enter Tryz.func27, Tryz.ntmps27
   go_wp2_with fail
   go_ret
   exact ⟨rfl, below_al w _⟩
 · show Calls _ _ _ _ fun e w' => e = .returned (.iface 78 (edV ⟨9, n, f, t, s⟩)) ∧ _
   unfold edV
   go_enter Tryz.func27, Tryz.ntmps27
   go_wp2_with fail
   go_ret
   exact ⟨rfl, below_al w _⟩
 · show Calls _ _ _ _ fun e w' => e = .returned (.iface 78 (edV ⟨10, n, f, t, s⟩)) ∧ _
   unfold edV
   go_enter Tryz.func27, Tryz.ntmps27
   go_wp2_with fail
   go_ret
   exact ⟨rfl, below_al w _⟩
 · show Calls _ _ _ _ fun e w' => e = .returned (.iface 59 (edV ⟨11, n, f, t, s⟩)) ∧ _
   unfold edV
   go_enter Tryz.func27, Tryz.ntmps27
   go_wp2_with fail
   go_ret
   exact ⟨rfl, below_al w _⟩
 · show Calls _ _ _ _ fun e w' => e = .returned (.iface 59 (edV ⟨12, n, f, t, s⟩)) ∧ _
   unfold edV
   go_enter Tryz.func27, Tryz.ntmps27
   go_wp2_with fail
   go_ret
   exact ⟨rfl, below_al w _⟩
 all_goals
  have hI : edI ⟨k, n, f, t, s⟩ = .nilIface := by
   unfold edI
   simp only
   rw [if_neg (by omega), if_neg (by omega), if_neg (by omega), if_neg (by omega)]
  rw [hI]
  unfold edV
  have b1 : (k == 1) = false := by rw [beq_eq_false_iff_ne]; omega
  have b2 : (k == 2) = false := by rw [beq_eq_false_iff_ne]; omega
  have b3 : (k == 3) = false := by rw [beq_eq_false_iff_ne]; omega
  have b4 : (k == 4) = false := by rw [beq_eq_false_iff_ne]; omega
  have b5 : (k == 5) = false := by rw [beq_eq_false_iff_ne]; omega
  have b6 : (k == 6) = false := by rw [beq_eq_false_iff_ne]; omega
  have b7 : (k == 7) = false := by rw [beq_eq_false_iff_ne]; omega
  have b8 : (k == 8) = false := by rw [beq_eq_false_iff_ne]; omega
  have b9 : (k == 9) = false := by rw [beq_eq_false_iff_ne]; omega
  have b10 : (k == 10) = false := by rw [beq_eq_false_iff_ne]; omega
  have b11 : (k == 11) = false := by rw [beq_eq_false_iff_ne]; omega
  have b12 : (k == 12) = false := by rw [beq_eq_false_iff_ne]; omega
  clear h hI
  go_enter Tryz.func27, Tryz.ntmps27
  go_wp2_with fail
  go_ret
  exact ⟨rfl, below_al w _⟩
end Go.Proofs.YtcngjbfbdonpeaaGreatDoor

/- A text of this claim. -/
namespace Go.Proofs.YtcngjbfbdonpeaaGreatDoor
open Go.RowKit Go.BigFrame
open Txt
open Tr (Ed inR)
def SOwn (w : World) (base : Nat) (v : Value) (l : List ByteArray) : Prop := w.ownsRow base 9 1 v l.length (l.map Value.string)
theorem SOwn.below {w w' : World} {base : Nat} {v : Value} {l : List ByteArray} (h : SOwn w base v l) (hb : Below w.heap.size w w') : SOwn w' base v l := ownsRow_below h hb
theorem SOwn.cells {w : World} {base g n c : Nat} {l : List ByteArray} (h : SOwn w base (.slice (some ⟨g, 0, none⟩) n c) l) : n = l.length ∧ l.length ≤ c ∧ g < w.heap.size ∧ base ≤ g ∧ ∀ j x, l[j]? = some x → w.cell? ⟨g, 0 + j, none⟩ = some (.string x) := by
 have hc := World.ownsRow.cells h (g := g) rfl
 rcases h.2 with ⟨e, _⟩ | ⟨g', cap, cur, e, hb, hg, hn, hm, hs, ht⟩
 · cases e
 · injection e with e1 e2 e3
   injection e1 with e1
   injection e1 with e1
   subst e1 e2 e3
   refine ⟨rfl, hn, lt_of_block hg, hb, fun j x hx => ?_⟩
   have := hc j (.string x) (by rw [List.getElem?_map, hx]; rfl)
   rw [addr_plus] at this
   exact this
theorem SOwn.one (w : World) (s : ByteArray) : SOwn (w.alloc (.cells #[.string s] 9)) w.heap.size (.slice (some ⟨w.heap.size, 0, none⟩) 1 1) [s] := by
 refine ⟨rfl, Or.inr ⟨w.heap.size, 1, #[.string s], rfl, Nat.le_refl _, heap_alloc_new w _, Nat.le_refl _, by decide, ?_, ?_⟩⟩
 · rfl
 · rfl
theorem append_s {ops : Array Oper} {rest : List Oper} {o : Oper} {a : Act} {Q : Exit → Act → World → Prop} {w : World} (hgd : o.guard = none) (s x : Operand)
 (ho : o.op = .call { callee := .builtin .append, args := #[s, x], argTypes := #[53, 53] }) {base : Nat} {v : Value} {l : List ByteArray} (hs : a.eval s = v) (hown : SOwn w base v l)
 {g m k : Nat} {ys : List ByteArray} (hx : a.eval x = .slice (some ⟨g, 0, none⟩) m k) (hm : ys.length = m) (hm0 : 0 < m) (hr : ∀ j u, ys[j]? = some u → w.cell? ⟨g, j, none⟩ = some (.string u)) (hn : l.length + m ≤ 1000) (hb : base ≤ w.heap.size)
 (h : ∀ g' c' w', SOwn w' base (.slice (some ⟨g', 0, none⟩) (l.length + m) c') (l ++ ys) → w.grownBy w' v.ownBlock → wpList Tryz.prog ops Q rest (a.put o.dst (.slice (some ⟨g', 0, none⟩) (l.length + m) c')) w') : wpList Tryz.prog ops Q (o :: rest) a w := by
 obtain ⟨i0, hi0, hy0, hy1, hy2⟩ := info_parts (show (Tryz.prog.info? 9).map (fun i => (i.zero, i.size, i.bytes)) = some (some (.string ⟨#[]⟩), 1, 16) by kernel_rfl)
 refine wpList_append_lies w hgd s x 53 ho base 9 i0 (.string ⟨#[]⟩) 1 16 Tryz.underlying53 hi0 hy0 hy1 hy2 rfl (by decide) v l.length (l.map Value.string) hs hown ⟨g, 0, none⟩ m k (ys.map Value.string) hx (by rw [List.length_map, hm, Nat.mul_one])
  (fun j u hj => ?_) (fun u hu => ?_) hm0 (by unfold maxLen; omega) (by omega) hb _ rfl ?_
 · rw [List.getElem?_map] at hj
   cases hy : ys[j]? with
   | none => rw [hy] at hj; cases hj
   | some y =>
    rw [hy] at hj
    obtain rfl : Value.string y = u := Option.some.inj hj
    rw [addr_plus, Nat.zero_add]
    exact hr j y hy
 · obtain ⟨y, _, rfl⟩ := List.mem_map.1 hu
   rfl
 · intro g' cap w' h1 h2 _ _
   refine h g' cap w' ?_ h2
   unfold SOwn
   rw [List.length_append, List.map_append, hm]
   exact h1
theorem wp_append_s {o : Oper} {a : Act} {K : Act → World → Prop} {Q : Exit → Act → World → Prop} {w : World} (s x : Operand)
 (ho : o.op = .call { callee := .builtin .append, args := #[s, x], argTypes := #[53, 53] }) {base : Nat} {v : Value} {l : List ByteArray} (hs : a.eval s = v) (hown : SOwn w base v l)
 {g m k : Nat} {ys : List ByteArray} (hx : a.eval x = .slice (some ⟨g, 0, none⟩) m k) (hm : ys.length = m) (hm0 : 0 < m) (hr : ∀ j u, ys[j]? = some u → w.cell? ⟨g, j, none⟩ = some (.string u)) (hn : l.length + m ≤ 1000) (hb : base ≤ w.heap.size)
 (h : ∀ g' c' w', SOwn w' base (.slice (some ⟨g', 0, none⟩) (l.length + m) c') (l ++ ys) → w.grownBy w' v.ownBlock → K (a.put o.dst (.slice (some ⟨g', 0, none⟩) (l.length + m) c')) w') : o.wp Tryz.prog a w K Q := by
 obtain ⟨i0, hi0, hy0, hy1, hy2⟩ := info_parts (show (Tryz.prog.info? 9).map (fun i => (i.zero, i.size, i.bytes)) = some (some (.string ⟨#[]⟩), 1, 16) by kernel_rfl)
 refine wp_append_lies w s x 53 ho base 9 i0 (.string ⟨#[]⟩) 1 16 Tryz.underlying53 hi0 hy0 hy1 hy2 rfl (by decide) v l.length (l.map Value.string) hs hown ⟨g, 0, none⟩ m k (ys.map Value.string) hx (by rw [List.length_map, hm, Nat.mul_one])
  (fun j u hj => ?_) (fun u hu => ?_) hm0 (by unfold maxLen; omega) (by omega) hb _ rfl ?_
 · rw [List.getElem?_map] at hj
   cases hy : ys[j]? with
   | none => rw [hy] at hj; cases hj
   | some y =>
    rw [hy] at hj
    obtain rfl : Value.string y = u := Option.some.inj hj
    rw [addr_plus, Nat.zero_add]
    exact hr j y hy
 · obtain ⟨y, _, rfl⟩ := List.mem_map.1 hu
   rfl
 · intro g' cap w' h1 h2 _ _
   refine h g' cap w' ?_ h2
   unfold SOwn
   rw [List.length_append, List.map_append, hm]
   exact h1
def wordsV : Array Value := #[.string ⟨#[]⟩, .string k1, .string k2, .string k3, .string k4, .string k5, .string k6, .string k7, .string k8, .string k9, .string k10, .string k11, .string k12]
theorem wordsV_at {m : Nat} (h : m < 13) : wordsV[m]? = some (.string (wordK m)) := by
 have : m = 0 ∨ m = 1 ∨ m = 2 ∨ m = 3 ∨ m = 4 ∨ m = 5 ∨ m = 6 ∨ m = 7 ∨ m = 8 ∨ m = 9 ∨ m = 10 ∨ m = 11 ∨ m = 12 := by omega
 rcases this with rfl | rfl | rfl | rfl | rfl | rfl | rfl | rfl | rfl | rfl | rfl | rfl | rfl <;> rfl
theorem words_any (w : World) : Calls Tryz.prog 26 #[] w fun e w' => e = .returned (.slice (some ⟨w.heap.size, 0, none⟩) 13 13) ∧ w' = w.alloc (.cells wordsV 9) := by
 go_enter Tryz.func26, Tryz.ntmps26
 go_wp2_with fail
 go_ret
 exact ⟨rfl, rfl⟩
theorem joinS_any (b c : Nat) (ws : List ByteArray) (w : World) (hc : ∀ j x, ws[j]? = some x → w.cell? ⟨b, 0 + j, none⟩ = some (.string x)) (hb : b < w.heap.size) (hl : ws.length ≤ c) (hn : ws.length ≤ 10) (hsz : (joinL 32 (ws.map sB)).length ≤ 1000000) :
 Calls Tryz.prog 28 #[.slice (some ⟨b, 0, none⟩) ws.length c, .string ⟨#[32]⟩] w fun e w' => e = .returned (.string (bt (joinL 32 (ws.map sB)))) ∧ Below w.heap.size w w' := by
 have DJ := Tryz.strings_Join b 0 c ws ⟨#[32]⟩ w hc hb (by omega) hl (by
  rw [show (ByteArray.mk #[32]).data.toList = [32] from rfl, join_eq]
  show (joinL 32 (ws.map sB)).length ≤ _
  omega)
 rw [show (ByteArray.mk #[32]).data.toList = [32] from rfl, join_eq] at DJ
 exact DJ
theorem bt_snoc (l : List UInt8) (b : UInt8) : bt l ++ ⟨#[b]⟩ = bt (l ++ [b]) := by
 apply sB_inj
 simp [sB, bt]
end Go.Proofs.YtcngjbfbdonpeaaGreatDoor

/- A text of this claim. -/
namespace Go.Proofs.YtcngjbfbdonpeaaGreatDoor
open Go.RowKit Go.BigFrame
open Txt
open Tr (Ed inR)
theorem st_cell1 {w : World} {p : Nat} {v : Value} {T : TypeId} (h : w.heap[p]? = some (.cells #[v] T (0, 0))) : w.cell? ⟨p, 0, none⟩ = some v := by
 simp [World.cell?, h]
theorem set_cells1 {w : World} {p : Nat} {v u : Value} {T : TypeId} (h : w.heap[p]? = some (.cells #[v] T (0, 0))) : (w.setCell ⟨p, 0, none⟩ u).heap[p]? = some (.cells #[u] T (0, 0)) := by
 simp [World.setCell, Array.getElem?_modify, h]
theorem str_eq (a b : ByteArray) : (a.toList == b.toList) = decide (a = b) := by
 rw [ByteArray.toList_eq, ByteArray.toList_eq, Bool.eq_iff_iff, beq_iff_eq, decide_eq_true_eq]
 exact ⟨fun h => Go.WideShapes.bytes_inj h, fun h => by rw [h]⟩
theorem trim_bare (l : List UInt8) : Lib.trimPrefix l [45] = bare l := by
 unfold Lib.trimPrefix bare
 cases l with
 | nil => rfl
 | cons a r =>
  by_cases h : a = 45
  · subst h
    simp [Lib.hasPrefix]
  · have h2 : ¬ (some a = some (45 : UInt8)) := fun e => h (Option.some.inj e)
    rw [List.head?_cons, if_neg h2, if_neg]
    simp [Lib.hasPrefix, Ne.symm h]
theorem numP_ok {below : Bool} {l : List UInt8} {n : Int} (h : Lib.atoiAll l = .ok n) : numP below l = if (bare l).length ≤ 12 ∧ Lib.itoa n = l ∧ (0 ≤ n ∨ below = true) then some n else none := by
 unfold numP
 rw [h]
theorem numP_bad {below : Bool} {l : List UInt8} (h : ∀ v, Lib.atoiAll l ≠ .ok v) : numP below l = none := by
 unfold numP
 cases ha : Lib.atoiAll l with
 | ok v => exact absurd ha (h v)
 | _ => rfl
theorem numP_val {below : Bool} {l : List UInt8} {n v : Int} (h : Lib.atoiAll l = .ok n) (hv : numP below l = some v) : n = v := by
 rw [numP_ok h] at hv
 split at hv
 · exact Option.some.inj hv
 · cases hv
set_option maxHeartbeats 8000000 in
set_option maxRecDepth 100000 in
theorem number_any (s : ByteArray) (below : Bool) (p : Nat) (b : Bool) (w : World) (hp : w.heap[p]? = some (.cells #[.bool b] 4 (0, 0))) (hg : Glo w) (hs : s.size ≤ 1000000) :
 Calls Tryz.prog 34 #[.string s, .bool below, .pointer (some ⟨p, 0, none⟩)] w fun e w' => ∃ n : Int, e = .returned (.int .i64 n) ∧ (∀ v, numP below (sB s) = some v → n = v) ∧ w'.heap[p]? = some (.cells #[.bool (b && (numP below (sB s)).isSome)] 4 (0, 0)) ∧ Kept (fun k => k = p) w w' := by
 have DA := Lib.hid (atoi_every s hs w hg)
 have HG := Lib.hid hg
 have hpl := lt_of_block hp
 have C := Ext.ex (st_cell1 hp)
 have F : ∀ X : Ext w, X.1.frozen? ⟨p, 0, none⟩ = false := fun X => Lib.frozen_of_heap ((X.2.block p hpl).trans hp) 0
 have FIN := Lib.hid (fun (r : Bool) (X : Ext w) => (show (X.1.setCell ⟨p, 0, none⟩ (.bool r)).heap[p]? = some (.cells #[.bool r] 4 (0, 0)) ∧ Kept (fun k => k = p) w (X.1.setCell ⟨p, 0, none⟩ (.bool r)) from
  ⟨set_cells1 ((X.2.block p hpl).trans hp), (Kept.of_below X.2).trans kept_set1⟩))
 obtain ⟨q, hq⟩ : ∃ q, bt (bare (sB s)) = q := ⟨_, rfl⟩
 have DP := Lib.hid (fun W : World => Tryz.strings_TrimPrefix s ⟨#[45]⟩ W)
 rw [show (⟨(Lib.trimPrefix s.data.toList (ByteArray.mk #[45]).data.toList).toArray⟩ : ByteArray) = q from by rw [← hq]; exact congrArg bt (trim_bare (sB s))] at DP
 have HQ := Lib.hid (show (bare (sB s)).length = q.size from by rw [← hq]; rfl)
 clear hp hg hq
 go_enter Tryz.func34, Tryz.ntmps34
 go_upto_region 2 with (go_at_call 48; refine DA.out.mono ?_; rintro e w2 ⟨n, ev, rfl, hb2, hn0, hn1, hcase⟩)
 obtain ⟨Y, rfl⟩ : ∃ Y : Ext w, w2 = Y.1 := ⟨⟨w2, hb2⟩, rfl⟩
 have c0 := C Y
 have f0 := F Y
 have HY := Lib.hid hb2
 clear hb2 DA
 have HV : Hid (∀ v, numP below (sB s) = some v → n = v) := Lib.hid (fun v hv => by
  rcases hcase with ⟨_, h2⟩ | ⟨_, h2⟩
  · exact numP_val h2 hv
  · rw [numP_bad h2] at hv; cases hv)
 cases b
 case false =>
  have FX := Lib.hid (FIN.out false Y)
  clear hcase C F
  go_wp2_with fail
  go_ret
  exact ⟨n, rfl, HV.out, FX.out.1, FX.out.2⟩
 case true =>
 rcases hcase with ⟨rfl, hok⟩ | ⟨⟨T, N, rfl⟩, hne⟩
 case inr =>
  have HR : Hid ((numP below (sB s)).isSome = false) := Lib.hid (by rw [numP_bad hne]; rfl)
  have FX := Lib.hid (FIN.out false Y)
  clear hne C F
  go_wp2_with fail
  go_ret
  exact ⟨n, rfl, HV.out, by rw [HR.out]; exact FX.out.1, FX.out.2⟩
 case inl =>
 have HNP := Lib.hid (numP_ok (below := below) hok)
 rw [HQ.out] at HNP
 by_cases hl : q.size ≤ 12
 case neg =>
  have t1 : decide ((q.size : Int) ≤ 12) = false := by rw [decide_eq_false_iff_not]; omega
  have t1' : decide (q.size ≤ 12) = false := by simpa using hl
  have HR : Hid ((numP below (sB s)).isSome = false) := Lib.hid (by rw [HNP.out, if_neg (fun e => hl e.1)]; rfl)
  have FX := Lib.hid (FIN.out false Y)
  clear hok C F hl
  go_wp2_with (go_at_call 49; refine (DP.out _).mono ?_; rintro e w3 ⟨rfl, rfl⟩)
  go_ret
  exact ⟨n, rfl, HV.out, by rw [HR.out]; exact FX.out.1, FX.out.2⟩
 case pos =>
 have t1 : decide ((q.size : Int) ≤ 12) = true := by rw [decide_eq_true_eq]; omega
 have t1' : decide (q.size ≤ 12) = true := by simpa using hl
 have DI := Lib.hid (itoa_any n hn0 hn1 Y.1 (HG.out.below HY.out))
 have hse := str_eq (itoaB n) s
 have HR : Hid ((numP below (sB s)).isSome = (decide (itoaB n = s) && (decide (0 ≤ n) || below))) := Lib.hid (by
  rw [HNP.out]
  by_cases e : itoaB n = s
  · have e2 : Lib.itoa n = sB s := by rw [← e]; rfl
    by_cases h0 : 0 ≤ n
    · rw [if_pos ⟨hl, e2, Or.inl h0⟩]; simp [e, h0]
    · cases below
      · rw [if_neg (fun x => x.2.2.elim h0 (fun y => by cases y))]; simp [h0]
      · rw [if_pos ⟨hl, e2, Or.inr rfl⟩]; simp [e]
  · rw [if_neg (fun x => e (by rw [← bs_sB s, ← x.2.1]; rfl))]; simp [e])
 obtain ⟨st, hst⟩ : ∃ x, itoaB n = x := ⟨_, rfl⟩
 rw [hst] at DI hse HR
 obtain ⟨r, hr⟩ : ∃ x, decide (st = s) = x := ⟨_, rfl⟩
 rw [hr] at hse HR
 obtain ⟨z, y2⟩ : ∃ z, decide (0 ≤ n) = z := ⟨_, rfl⟩
 have y1 : decide (n ≥ 0) = z := y2
 rw [y2] at HR
 clear hok hl hst hr
 cases r <;> cases z <;> cases below
 all_goals
  go_wp2_with (first | (go_at_call 49; refine (DP.out _).mono ?_; rintro e w3 ⟨rfl, rfl⟩) | (go_at_call 17; refine DI.out.mono ?_; rintro e w3 ⟨rfl, hb3⟩; refine Hid.out ?_))
  refine Lib.hid ?_
  obtain ⟨Z, rfl⟩ : ∃ Z : Ext w, w3 = Z.1 := ⟨⟨w3, below_step Y.2 hb3⟩, rfl⟩
  have c1 := C Z
  have f1 := F Z
  have FX := Lib.hid (FIN.out true Z)
  have FY := Lib.hid (FIN.out false Z)
  clear hb3 c0 f0
  go_wp2_with fail
  go_ret
  exact ⟨n, rfl, HV.out, by rw [HR.out]; first | exact FX.out.1 | exact FY.out.1, by first | exact FX.out.2 | exact FY.out.2⟩
end Go.Proofs.YtcngjbfbdonpeaaGreatDoor

/- A text of this claim. -/
namespace Go.Proofs.YtcngjbfbdonpeaaGreatDoor
open Go.RowKit Go.BigFrame
open Tr (Ed inR)
abbrev noB : ByteArray := ⟨#[]⟩
theorem edSize : Hid ((Tryz.prog.info? 30).map (·.size) = some 5) := Lib.hid (by kernel_rfl)
theorem texted_plain (x : Ed) (w : World) : Calls Tryz.prog 129 #[edV x] w fun e w' => e = .returned (edV ⟨x.k, 0, 0, 0, x.s⟩) ∧ Below w.heap.size w w' := by
 obtain ⟨k, n, f, t, s⟩ := x
 have HI := edSize
 unfold edV
 go_enter Tryz.func129, Tryz.ntmps129
 go_wp2_with fail
 exact bodyPost_ret (v := _) (results_cell_row Tryz.results129 _ _ (w.heap.size + 1) _ _ _ _ rfl (heap_alloc2_new w _ _) Tryz.underlying30 rfl HI.out) rfl ⟨rfl, (below_al w _).alloc (by simp) _⟩
theorem counted_plain (x : Ed) (w : World) : Calls Tryz.prog 140 #[edV x] w fun e w' => e = .returned (edV ⟨x.k, x.n, 0, 0, noB⟩) ∧ Below w.heap.size w w' := by
 obtain ⟨k, n, f, t, s⟩ := x
 have HI := edSize
 unfold edV
 go_enter Tryz.func140, Tryz.ntmps140
 go_wp2_with fail
 exact bodyPost_ret (v := _) (results_cell_row Tryz.results140 _ _ (w.heap.size + 1) _ _ _ _ rfl (heap_alloc2_new w _ _) Tryz.underlying30 rfl HI.out) rfl ⟨rfl, (below_al w _).alloc (by simp) _⟩
theorem tracked_plain (x : Ed) (w : World) : Calls Tryz.prog 143 #[edV x] w fun e w' => e = .returned (edV ⟨x.k, x.n, 0, 0, noB⟩) ∧ Below w.heap.size w w' := by
 obtain ⟨k, n, f, t, s⟩ := x
 have HI := edSize
 unfold edV
 go_enter Tryz.func143, Tryz.ntmps143
 go_wp2_with fail
 exact bodyPost_ret (v := _) (results_cell_row Tryz.results143 _ _ (w.heap.size + 1) _ _ _ _ rfl (heap_alloc2_new w _ _) Tryz.underlying30 rfl HI.out) rfl ⟨rfl, (below_al w _).alloc (by simp) _⟩
theorem parted_plain8 (n f t : Int) (s : ByteArray) (w : World) : Calls Tryz.prog 134 #[edV ⟨8, n, f, t, s⟩] w fun e w' => e = .returned (edV ⟨8, 0, f, t, noB⟩) ∧ Below w.heap.size w w' := by
 have HI := edSize
 unfold edV
 go_enter Tryz.func134, Tryz.ntmps134
 go_wp2_with fail
 exact bodyPost_ret (v := _) (results_cell_row Tryz.results134 _ _ (w.heap.size + 1) _ _ _ _ rfl (heap_alloc2_new w _ _) Tryz.underlying30 rfl HI.out) rfl ⟨rfl, (below_al w _).alloc (by simp) _⟩
theorem parted_plain11 (n f t : Int) (s : ByteArray) (w : World) : Calls Tryz.prog 134 #[edV ⟨11, n, f, t, s⟩] w fun e w' => e = .returned (edV ⟨11, 0, f, t, s⟩) ∧ Below w.heap.size w w' := by
 have HI := edSize
 unfold edV
 go_enter Tryz.func134, Tryz.ntmps134
 go_wp2_with fail
 exact bodyPost_ret (v := _) (results_cell_row Tryz.results134 _ _ (w.heap.size + 1) _ _ _ _ rfl (heap_alloc2_new w _ _) Tryz.underlying30 rfl HI.out) rfl ⟨rfl, (below_al w _).alloc (by simp) _⟩
theorem parted_plain12 (n f t : Int) (s : ByteArray) (w : World) : Calls Tryz.prog 134 #[edV ⟨12, n, f, t, s⟩] w fun e w' => e = .returned (edV ⟨12, n, 0, 0, noB⟩) ∧ Below w.heap.size w w' := by
 have HI := edSize
 unfold edV
 go_enter Tryz.func134, Tryz.ntmps134
 go_wp2_with fail
 exact bodyPost_ret (v := _) (results_cell_row Tryz.results134 _ _ (w.heap.size + 1) _ _ _ _ rfl (heap_alloc2_new w _ _) Tryz.underlying30 rfl HI.out) rfl ⟨rfl, (below_al w _).alloc (by simp) _⟩
set_option maxHeartbeats 1000000 in
theorem texted_check1 (n f t : Int) (s : ByteArray) (w : World) (hs : s.size ≤ maxLen) : Calls Tryz.prog 128 #[edV ⟨1, n, f, t, s⟩] w fun e w' => e = .returned (.int .i64 (fieldE ⟨1, n, f, t, s⟩)) ∧ Below w.heap.size w w' := by
 have D := Lib.hid (fun w => isName_any s w hs)
 have hE : fieldE ⟨1, n, f, t, s⟩ = if nameB s = true then 0 else 8 := rfl
 rw [hE]
 clear hE
 unfold edV
 cases hb : nameB s
 all_goals
  rw [hb] at D
  clear hb
  go_enter Tryz.func128, Tryz.ntmps128
  go_wp2_with fail
  refine (D.out _).mono ?_
  rintro e w1 ⟨rfl, rfl⟩
  go_wp2_with fail
  go_ret
  exact ⟨rfl, below_al w _⟩
set_option maxHeartbeats 1000000 in
theorem texted_check3 (n f t : Int) (s : ByteArray) (w : World) (hs : s.size ≤ maxLen) : Calls Tryz.prog 128 #[edV ⟨3, n, f, t, s⟩] w fun e w' => e = .returned (.int .i64 (fieldE ⟨3, n, f, t, s⟩)) ∧ Below w.heap.size w w' := by
 have D := Lib.hid (fun w => isName_any s w hs)
 have hE : fieldE ⟨3, n, f, t, s⟩ = if nameB s = true then 0 else 8 := rfl
 rw [hE]
 clear hE
 unfold edV
 cases hb : nameB s
 all_goals
  rw [hb] at D
  clear hb
  go_enter Tryz.func128, Tryz.ntmps128
  go_wp2_with fail
  refine (D.out _).mono ?_
  rintro e w1 ⟨rfl, rfl⟩
  go_wp2_with fail
  go_ret
  exact ⟨rfl, below_al w _⟩
set_option maxHeartbeats 1000000 in
theorem texted_check4 (n f t : Int) (s : ByteArray) (w : World) (hs : s.size ≤ maxLen) : Calls Tryz.prog 128 #[edV ⟨4, n, f, t, s⟩] w fun e w' => e = .returned (.int .i64 (fieldE ⟨4, n, f, t, s⟩)) ∧ Below w.heap.size w w' := by
 have D := Lib.hid (fun w => isName_any s w hs)
 have hE : fieldE ⟨4, n, f, t, s⟩ = if nameB s = true then 0 else 8 := rfl
 rw [hE]
 clear hE
 unfold edV
 cases hb : nameB s
 all_goals
  rw [hb] at D
  clear hb
  go_enter Tryz.func128, Tryz.ntmps128
  go_wp2_with fail
  refine (D.out _).mono ?_
  rintro e w1 ⟨rfl, rfl⟩
  go_wp2_with fail
  go_ret
  exact ⟨rfl, below_al w _⟩
set_option maxHeartbeats 1000000 in
theorem counted_check5 (n f t : Int) (s : ByteArray) (w : World) : Calls Tryz.prog 139 #[edV ⟨5, n, f, t, s⟩] w fun e w' => e = .returned (.int .i64 (fieldE ⟨5, n, f, t, s⟩)) ∧ Below w.heap.size w w' := by
 have D := Lib.hid (tranged_any n (-86399999999) 86399999999)
 have hE : fieldE ⟨5, n, f, t, s⟩ = rngE n (-86399999999) 86399999999 := rfl
 rw [hE]
 clear hE
 unfold edV
 go_enter Tryz.func139, Tryz.ntmps139
 go_wp2_with fail
 refine (D.out _).mono ?_
 rintro e w1 ⟨rfl, rfl⟩
 go_wp2_with fail
 go_ret
 exact ⟨rfl, below_al w _⟩
set_option maxHeartbeats 1000000 in
theorem counted_check6 (n f t : Int) (s : ByteArray) (w : World) : Calls Tryz.prog 139 #[edV ⟨6, n, f, t, s⟩] w fun e w' => e = .returned (.int .i64 (fieldE ⟨6, n, f, t, s⟩)) ∧ Below w.heap.size w w' := by
 have D := Lib.hid (tranged_any n (-200000) 200000)
 have hE : fieldE ⟨6, n, f, t, s⟩ = rngE n (-200000) 200000 := rfl
 rw [hE]
 clear hE
 unfold edV
 go_enter Tryz.func139, Tryz.ntmps139
 go_wp2_with fail
 refine (D.out _).mono ?_
 rintro e w1 ⟨rfl, rfl⟩
 go_wp2_with fail
 go_ret
 exact ⟨rfl, below_al w _⟩
set_option maxHeartbeats 1000000 in
theorem counted_check7 (n f t : Int) (s : ByteArray) (w : World) : Calls Tryz.prog 139 #[edV ⟨7, n, f, t, s⟩] w fun e w' => e = .returned (.int .i64 (fieldE ⟨7, n, f, t, s⟩)) ∧ Below w.heap.size w w' := by
 have D := Lib.hid (tranged_any n 1 3)
 have hE : fieldE ⟨7, n, f, t, s⟩ = rngE n 1 3 := rfl
 rw [hE]
 clear hE
 unfold edV
 go_enter Tryz.func139, Tryz.ntmps139
 go_wp2_with fail
 refine (D.out _).mono ?_
 rintro e w1 ⟨rfl, rfl⟩
 go_wp2_with fail
 go_ret
 exact ⟨rfl, below_al w _⟩
set_option maxHeartbeats 1000000 in
theorem tracked_check9 (n f t : Int) (s : ByteArray) (w : World) : Calls Tryz.prog 142 #[edV ⟨9, n, f, t, s⟩] w fun e w' => e = .returned (.int .i64 (fieldE ⟨9, n, f, t, s⟩)) ∧ Below w.heap.size w w' := by
 have D := Lib.hid (tranged_any n 0 50)
 have hE : fieldE ⟨9, n, f, t, s⟩ = rngE n 0 50 := rfl
 rw [hE]
 clear hE
 unfold edV
 go_enter Tryz.func142, Tryz.ntmps142
 go_wp2_with fail
 refine (D.out _).mono ?_
 rintro e w1 ⟨rfl, rfl⟩
 go_wp2_with fail
 go_ret
 exact ⟨rfl, below_al w _⟩
set_option maxHeartbeats 1000000 in
theorem tracked_check10 (n f t : Int) (s : ByteArray) (w : World) : Calls Tryz.prog 142 #[edV ⟨10, n, f, t, s⟩] w fun e w' => e = .returned (.int .i64 (fieldE ⟨10, n, f, t, s⟩)) ∧ Below w.heap.size w w' := by
 have D := Lib.hid (tranged_any n 0 1000000)
 have hE : fieldE ⟨10, n, f, t, s⟩ = rngE n 0 1000000 := rfl
 rw [hE]
 clear hE
 unfold edV
 go_enter Tryz.func142, Tryz.ntmps142
 go_wp2_with fail
 refine (D.out _).mono ?_
 rintro e w1 ⟨rfl, rfl⟩
 go_wp2_with fail
 go_ret
 exact ⟨rfl, below_al w _⟩
set_option maxHeartbeats 1000000 in
theorem parted_check12 (n f t : Int) (s : ByteArray) (w : World) : Calls Tryz.prog 133 #[edV ⟨12, n, f, t, s⟩] w fun e w' => e = .returned (.int .i64 (fieldE ⟨12, n, f, t, s⟩)) ∧ Below w.heap.size w w' := by
 have D := Lib.hid (tranged_any n 0 199)
 have hE : fieldE ⟨12, n, f, t, s⟩ = rngE n 0 199 := rfl
 rw [hE]
 clear hE
 unfold edV
 go_enter Tryz.func133, Tryz.ntmps133
 go_wp2_with fail
 refine (D.out _).mono ?_
 rintro e w1 ⟨rfl, rfl⟩
 go_wp2_with fail
 go_ret
 exact ⟨rfl, below_al w _⟩
set_option maxHeartbeats 1000000 in
theorem counted_check2 (n f t : Int) (s : ByteArray) (w : World) : Calls Tryz.prog 139 #[edV ⟨2, n, f, t, s⟩] w fun e w' => e = .returned (.int .i64 (fieldE ⟨2, n, f, t, s⟩)) ∧ Below w.heap.size w w' := by
 have D := Lib.hid (tin_any n 1 5)
 have hE : fieldE ⟨2, n, f, t, s⟩ = if inR n 1 5 = true then 0 else 7 := rfl
 rw [hE]
 clear hE
 unfold edV
 cases hb : inR n 1 5
 all_goals
  rw [hb] at D
  clear hb
  go_enter Tryz.func139, Tryz.ntmps139
  go_wp2_with fail
  refine (D.out _).mono ?_
  rintro e w1 ⟨rfl, rfl⟩
  go_wp2_with fail
  go_ret
  exact ⟨rfl, below_al w _⟩
set_option maxHeartbeats 2000000 in
theorem parted_check8 (n f t : Int) (s : ByteArray) (w : World) (hs : s.size ≤ maxLen) : Calls Tryz.prog 133 #[edV ⟨8, n, f, t, s⟩] w fun e w' => e = .returned (.int .i64 (fieldE ⟨8, n, f, t, s⟩)) ∧ Below w.heap.size w w' := by
 have D := Lib.hid (fun w => isTitle_any s w hs)
 have HE : Hid (fieldE ⟨8, n, f, t, s⟩ = if f < 0 ∨ t ≤ f ∨ 1000000 < t then 9 else if titleB s = true then 0 else 8) := Lib.hid rfl
 unfold edV
 by_cases hbad : f < 0 ∨ t ≤ f ∨ 1000000 < t
 · have HV := Lib.hid (HE.out.trans (if_pos hbad))
   clear HE
   rcases Classical.em (f < 0) with h1 | h1
   · have t1 : decide (f < 0) = true := by simpa using h1
     clear h1 hbad
     go_enter Tryz.func133, Tryz.ntmps133
     go_wp2_with fail
     go_ret
     exact ⟨by rw [HV.out]; rfl, below_al w _⟩
   · have t1 : decide (f < 0) = false := by simpa using h1
     rcases Classical.em (t ≤ f) with h2 | h2
     · have t2 : decide (t ≤ f) = true := by simpa using h2
       clear h1 h2 hbad
       go_enter Tryz.func133, Tryz.ntmps133
       go_wp2_with fail
       go_ret
       exact ⟨by rw [HV.out]; rfl, below_al w _⟩
     · have t2 : decide (t ≤ f) = false := by simpa using h2
       have t3 : decide (1000000 < t) = true := by rw [decide_eq_true_eq]; omega
       clear h1 h2 hbad
       go_enter Tryz.func133, Tryz.ntmps133
       go_wp2_with fail
       go_ret
       exact ⟨by rw [HV.out]; rfl, below_al w _⟩
 · have HV := Lib.hid (HE.out.trans (if_neg hbad))
   have t1 : decide (f < 0) = false := by rw [decide_eq_false_iff_not]; omega
   have t2 : decide (t ≤ f) = false := by rw [decide_eq_false_iff_not]; omega
   have t3 : decide (1000000 < t) = false := by rw [decide_eq_false_iff_not]; omega
   clear HE hbad
   cases hb : titleB s
   all_goals
    rw [hb] at D HV
    clear hb
    go_enter Tryz.func133, Tryz.ntmps133
    go_wp2_with fail
    refine (D.out _).mono ?_
    rintro e w1 ⟨rfl, rfl⟩
    go_wp2_with fail
    go_ret
    exact ⟨by rw [HV.out]; rfl, below_al w _⟩
set_option maxHeartbeats 2000000 in
theorem parted_check11 (n f t : Int) (s : ByteArray) (w : World) (hs : s.size ≤ maxLen) : Calls Tryz.prog 133 #[edV ⟨11, n, f, t, s⟩] w fun e w' => e = .returned (.int .i64 (fieldE ⟨11, n, f, t, s⟩)) ∧ Below w.heap.size w w' := by
 have D := Lib.hid (fun w => isTitle_any s w hs)
 have HE : Hid (fieldE ⟨11, n, f, t, s⟩ = if f < 0 ∨ t ≤ f ∨ 1000000 < t then 9 else if titleB s = true then 0 else 8) := Lib.hid rfl
 unfold edV
 by_cases hbad : f < 0 ∨ t ≤ f ∨ 1000000 < t
 · have HV := Lib.hid (HE.out.trans (if_pos hbad))
   clear HE
   rcases Classical.em (f < 0) with h1 | h1
   · have t1 : decide (f < 0) = true := by simpa using h1
     clear h1 hbad
     go_enter Tryz.func133, Tryz.ntmps133
     go_wp2_with fail
     go_ret
     exact ⟨by rw [HV.out]; rfl, below_al w _⟩
   · have t1 : decide (f < 0) = false := by simpa using h1
     rcases Classical.em (t ≤ f) with h2 | h2
     · have t2 : decide (t ≤ f) = true := by simpa using h2
       clear h1 h2 hbad
       go_enter Tryz.func133, Tryz.ntmps133
       go_wp2_with fail
       go_ret
       exact ⟨by rw [HV.out]; rfl, below_al w _⟩
     · have t2 : decide (t ≤ f) = false := by simpa using h2
       have t3 : decide (1000000 < t) = true := by rw [decide_eq_true_eq]; omega
       clear h1 h2 hbad
       go_enter Tryz.func133, Tryz.ntmps133
       go_wp2_with fail
       go_ret
       exact ⟨by rw [HV.out]; rfl, below_al w _⟩
 · have HV := Lib.hid (HE.out.trans (if_neg hbad))
   have t1 : decide (f < 0) = false := by rw [decide_eq_false_iff_not]; omega
   have t2 : decide (t ≤ f) = false := by rw [decide_eq_false_iff_not]; omega
   have t3 : decide (1000000 < t) = false := by rw [decide_eq_false_iff_not]; omega
   clear HE hbad
   cases hb : titleB s
   all_goals
    rw [hb] at D HV
    clear hb
    go_enter Tryz.func133, Tryz.ntmps133
    go_wp2_with fail
    refine (D.out _).mono ?_
    rintro e w1 ⟨rfl, rfl⟩
    go_wp2_with fail
    go_ret
    exact ⟨by rw [HV.out]; rfl, below_al w _⟩
end Go.Proofs.YtcngjbfbdonpeaaGreatDoor

/- A text of this claim. -/
namespace Go.Proofs.YtcngjbfbdonpeaaGreatDoor
open Go.RowKit Go.BigFrame
open Tr (Ed inR)
set_option maxHeartbeats 2000000 in
theorem checkEdit_go (x y : Ed) (T : TypeId) (fp fc : FuncId) (w : World) (hE : edI x = .iface T (edV x))
 (hm1 : ∀ m w, (method (m + 1) T (edV x) "harrier/trail.plain").run Tryz.prog w = .ok (fp, edV x) w)
 (hm2 : ∀ m w, (method (m + 1) T (edV x) "harrier/trail.check").run Tryz.prog w = .ok (fc, edV x) w)
 (hf1 : ∀ (args : Array Value) w, (callFunc fp args).run Tryz.prog w = .ok (.enter fp args) w) (hf2 : ∀ (args : Array Value) w, (callFunc fc args).run Tryz.prog w = .ok (.enter fc args) w)
 (hP : ∀ w, Calls Tryz.prog fp #[edV x] w fun e w' => e = .returned (edV y) ∧ Below w.heap.size w w')
 (hC : formE x = true → ∀ w, Calls Tryz.prog fc #[edV x] w fun e w' => e = .returned (.int .i64 (fieldE x)) ∧ Below w.heap.size w w')
 (hy : eqE y x = formE x) (hk : 1 ≤ x.k ∧ x.k ≤ 12) :
 Calls Tryz.prog 24 #[edV x] w fun e w' => e = .returned (.int .i64 (chkE x)) ∧ Below w.heap.size w w' := by
 -- 199: how many types the program has, and 100
 have hm1 := hm1 273
 have hm2 := hm2 273
 simp only [Nat.reduceAdd] at hm1 hm2
 have DE := Lib.hid (editOf_any x)
 rw [hE] at DE
 have hq : ∀ W, (Op.equalIn 10000 30 (edV y) (edV x)).run Tryz.prog W = .ok (eqE y x) W := fun W => eqEdit y x W
 rw [hy] at hq
 have HP := Lib.hid hP
 have HC := Lib.hid hC
 obtain ⟨k, n, f, t, s⟩ := x
 obtain ⟨k', n', f', t', s'⟩ := y
 have hgd : Tryz.prog.eqGuardType Tryz.prog.depth 30 = false := by kernel_rfl
 have HV : Hid (chkE ⟨k, n, f, t, s⟩ = if formE ⟨k, n, f, t, s⟩ = false then 2 else fieldE ⟨k, n, f, t, s⟩) := Lib.hid (by
  unfold chkE
  rw [if_neg (show ¬ (k < 1 ∨ 12 < k) by simp only at hk; omega)])
 obtain ⟨W0, hW0, hb0, hs0, hl0⟩ := alloc_cells w #[.int .i64 k, .int .i64 n, .int .i64 f, .int .i64 t, .string s] 30
 have G0 := Ext.ex (hl0 0 _ rfl)
 have G1 := Ext.ex (hl0 1 _ rfl)
 have G2 := Ext.ex (hl0 2 _ rfl)
 have G3 := Ext.ex (hl0 3 _ rfl)
 have G4 := Ext.ex (hl0 4 _ rfl)
 have HW0 := Lib.hid hW0
 have HB0 := Lib.hid hb0
 have hs0' : w.heap.size ≤ W0.heap.size := by omega
 have DE' := Lib.hid (fun Y : Ext W0 => Y.calls (DE.out Y.1))
 have DP := Lib.hid (fun Y : Ext W0 => Y.calls (HP.out Y.1))
 clear hy hk hE hP hC hl0 hs0 hW0 hb0 DE HP
 unfold edV at *
 simp only at *
 cases hb : formE ⟨k, n, f, t, s⟩
 · rw [hb] at hq HV
   clear hb HC hm2
   go_enter Tryz.func24, Tryz.ntmps24
   go_upto_region 1 with (fail)
   rw [HW0.out]
   refine ext_wp fun X => ?_
   go_wp2_with fail
   refine (DE'.out _).mono ?_
   rintro e w1 ⟨rfl, Y, rfl⟩
   clear DE'
   go_wp2_with fail
   refine wp_region_ext (W := W0) _ (by kernel_rfl) (by kernel_rfl) ?_
   repeat go_big_quiet_step (exact DP.out _)
   refine wpQuiet_nil ?_
   intro _ hw'
   obtain ⟨Z, rfl⟩ := hw'
   go_wp2_with fail
   go_ret
   exact ⟨by rw [HV.out]; rfl, Z.down HB0.out hs0'⟩
 · rw [hb] at hq HV
   have DC := Lib.hid (fun Y : Ext W0 => Y.calls (HC.out hb Y.1))
   clear hb HC
   go_enter Tryz.func24, Tryz.ntmps24
   go_upto_region 1 with (fail)
   rw [HW0.out]
   refine ext_wp fun X => ?_
   go_wp2_with fail
   refine (DE'.out _).mono ?_
   rintro e w1 ⟨rfl, Y, rfl⟩
   clear DE'
   go_wp2_with fail
   refine wp_region_ext (W := W0) _ (by kernel_rfl) (by kernel_rfl) ?_
   repeat go_big_quiet_step (exact DP.out _)
   refine wpQuiet_nil ?_
   intro _ hw'
   obtain ⟨Z, rfl⟩ := hw'
   clear DP
   go_wp2_with fail
   refine (DC.out _).mono ?_
   rintro e w1 ⟨rfl, V, rfl⟩
   go_wp2_with fail
   go_ret
   exact ⟨by rw [HV.out]; rfl, V.down HB0.out hs0'⟩
theorem noB_iff (s : ByteArray) : decide (noB = s) = decide (s.size = 0) := by
 rw [decide_eq_decide]
 constructor
 · rintro rfl
   rfl
 · intro h
   cases s with
   | mk d =>
    have : d = #[] := Array.eq_empty_of_size_eq_zero h
    rw [this]
theorem zero_comm (n : Int) : decide ((0 : Int) = n) = decide (n = 0) := by
 rw [decide_eq_decide]
 exact eq_comm
set_option maxHeartbeats 1000000 in
theorem checkEdit_any (x : Ed) (w : World) (hs : x.s.size ≤ maxLen) : Calls Tryz.prog 24 #[edV x] w fun e w' => e = .returned (.int .i64 (chkE x)) ∧ Below w.heap.size w w' := by
 obtain ⟨k, n, f, t, s⟩ := x
 rcases kinds k with rfl | rfl | rfl | rfl | rfl | rfl | rfl | rfl | rfl | rfl | rfl | rfl | h | h
 · exact checkEdit_go ⟨1, n, f, t, s⟩ ⟨1, 0, 0, 0, s⟩ 58 129 128 w rfl (fun _ _ => by kernel_rfl) (fun _ _ => by kernel_rfl) (fun _ _ => by kernel_rfl) (fun _ _ => by kernel_rfl) (fun w => texted_plain ⟨1, n, f, t, s⟩ w) (fun _ w => texted_check1 n f t s w hs) (by simp only [eqE, formE, zero_comm]; simp) (show (1 : Int) ≤ 1 ∧ (1 : Int) ≤ 12 by decide)
 · exact checkEdit_go ⟨2, n, f, t, s⟩ ⟨2, n, 0, 0, noB⟩ 77 140 139 w rfl (fun _ _ => by kernel_rfl) (fun _ _ => by kernel_rfl) (fun _ _ => by kernel_rfl) (fun _ _ => by kernel_rfl) (fun w => counted_plain ⟨2, n, f, t, s⟩ w) (fun _ w => counted_check2 n f t s w) (by simp only [eqE, formE, noB_iff, zero_comm]; simp) (show (1 : Int) ≤ 2 ∧ (2 : Int) ≤ 12 by decide)
 · exact checkEdit_go ⟨3, n, f, t, s⟩ ⟨3, 0, 0, 0, s⟩ 58 129 128 w rfl (fun _ _ => by kernel_rfl) (fun _ _ => by kernel_rfl) (fun _ _ => by kernel_rfl) (fun _ _ => by kernel_rfl) (fun w => texted_plain ⟨3, n, f, t, s⟩ w) (fun _ w => texted_check3 n f t s w hs) (by simp only [eqE, formE, zero_comm]; simp) (show (1 : Int) ≤ 3 ∧ (3 : Int) ≤ 12 by decide)
 · exact checkEdit_go ⟨4, n, f, t, s⟩ ⟨4, 0, 0, 0, s⟩ 58 129 128 w rfl (fun _ _ => by kernel_rfl) (fun _ _ => by kernel_rfl) (fun _ _ => by kernel_rfl) (fun _ _ => by kernel_rfl) (fun w => texted_plain ⟨4, n, f, t, s⟩ w) (fun _ w => texted_check4 n f t s w hs) (by simp only [eqE, formE, zero_comm]; simp) (show (1 : Int) ≤ 4 ∧ (4 : Int) ≤ 12 by decide)
 · exact checkEdit_go ⟨5, n, f, t, s⟩ ⟨5, n, 0, 0, noB⟩ 77 140 139 w rfl (fun _ _ => by kernel_rfl) (fun _ _ => by kernel_rfl) (fun _ _ => by kernel_rfl) (fun _ _ => by kernel_rfl) (fun w => counted_plain ⟨5, n, f, t, s⟩ w) (fun _ w => counted_check5 n f t s w) (by simp only [eqE, formE, noB_iff, zero_comm]; simp) (show (1 : Int) ≤ 5 ∧ (5 : Int) ≤ 12 by decide)
 · exact checkEdit_go ⟨6, n, f, t, s⟩ ⟨6, n, 0, 0, noB⟩ 77 140 139 w rfl (fun _ _ => by kernel_rfl) (fun _ _ => by kernel_rfl) (fun _ _ => by kernel_rfl) (fun _ _ => by kernel_rfl) (fun w => counted_plain ⟨6, n, f, t, s⟩ w) (fun _ w => counted_check6 n f t s w) (by simp only [eqE, formE, noB_iff, zero_comm]; simp) (show (1 : Int) ≤ 6 ∧ (6 : Int) ≤ 12 by decide)
 · exact checkEdit_go ⟨7, n, f, t, s⟩ ⟨7, n, 0, 0, noB⟩ 77 140 139 w rfl (fun _ _ => by kernel_rfl) (fun _ _ => by kernel_rfl) (fun _ _ => by kernel_rfl) (fun _ _ => by kernel_rfl) (fun w => counted_plain ⟨7, n, f, t, s⟩ w) (fun _ w => counted_check7 n f t s w) (by simp only [eqE, formE, noB_iff, zero_comm]; simp) (show (1 : Int) ≤ 7 ∧ (7 : Int) ≤ 12 by decide)
 · exact checkEdit_go ⟨8, n, f, t, s⟩ ⟨8, 0, f, t, noB⟩ 59 134 133 w rfl (fun _ _ => by kernel_rfl) (fun _ _ => by kernel_rfl) (fun _ _ => by kernel_rfl) (fun _ _ => by kernel_rfl) (fun w => parted_plain8 n f t s w) (fun _ w => parted_check8 n f t s w hs) (by simp only [eqE, formE, noB_iff, zero_comm]; simp) (show (1 : Int) ≤ 8 ∧ (8 : Int) ≤ 12 by decide)
 · exact checkEdit_go ⟨9, n, f, t, s⟩ ⟨9, n, 0, 0, noB⟩ 78 143 142 w rfl (fun _ _ => by kernel_rfl) (fun _ _ => by kernel_rfl) (fun _ _ => by kernel_rfl) (fun _ _ => by kernel_rfl) (fun w => tracked_plain ⟨9, n, f, t, s⟩ w) (fun _ w => tracked_check9 n f t s w) (by simp only [eqE, formE, noB_iff, zero_comm]; simp) (show (1 : Int) ≤ 9 ∧ (9 : Int) ≤ 12 by decide)
 · exact checkEdit_go ⟨10, n, f, t, s⟩ ⟨10, n, 0, 0, noB⟩ 78 143 142 w rfl (fun _ _ => by kernel_rfl) (fun _ _ => by kernel_rfl) (fun _ _ => by kernel_rfl) (fun _ _ => by kernel_rfl) (fun w => tracked_plain ⟨10, n, f, t, s⟩ w) (fun _ w => tracked_check10 n f t s w) (by simp only [eqE, formE, noB_iff, zero_comm]; simp) (show (1 : Int) ≤ 10 ∧ (10 : Int) ≤ 12 by decide)
 · exact checkEdit_go ⟨11, n, f, t, s⟩ ⟨11, 0, f, t, s⟩ 59 134 133 w rfl (fun _ _ => by kernel_rfl) (fun _ _ => by kernel_rfl) (fun _ _ => by kernel_rfl) (fun _ _ => by kernel_rfl) (fun w => parted_plain11 n f t s w) (fun _ w => parted_check11 n f t s w hs) (by simp only [eqE, formE, zero_comm]; simp) (show (1 : Int) ≤ 11 ∧ (11 : Int) ≤ 12 by decide)
 · exact checkEdit_go ⟨12, n, f, t, s⟩ ⟨12, n, 0, 0, noB⟩ 59 134 133 w rfl (fun _ _ => by kernel_rfl) (fun _ _ => by kernel_rfl) (fun _ _ => by kernel_rfl) (fun _ _ => by kernel_rfl) (fun w => parted_plain12 n f t s w) (fun _ w => parted_check12 n f t s w) (by simp only [eqE, formE, noB_iff, zero_comm]; simp) (show (1 : Int) ≤ 12 ∧ (12 : Int) ≤ 12 by decide)
 all_goals
  have hI : edI ⟨k, n, f, t, s⟩ = .nilIface := by
   unfold edI
   simp only
   rw [if_neg (by omega), if_neg (by omega), if_neg (by omega), if_neg (by omega)]
  have DE := Lib.hid (editOf_any ⟨k, n, f, t, s⟩)
  rw [hI] at DE
  have HV := Lib.hid (show chkE ⟨k, n, f, t, s⟩ = 7 by
   unfold chkE
   rw [if_pos (by simp only; omega)])
  unfold edV at *
  simp only at *
  clear hI h
  go_enter Tryz.func24, Tryz.ntmps24
  go_wp2_with fail
  refine (DE.out _).mono ?_
  rintro e w1 ⟨rfl, hb⟩
  have HB := Lib.hid ((below_al w _).trans (hb.mono (by simp)))
  clear hb
  go_wp2_with fail
  go_ret
  exact ⟨by rw [HV.out]; rfl, HB.out⟩
end Go.Proofs.YtcngjbfbdonpeaaGreatDoor
