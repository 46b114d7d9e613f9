/- Several texts of this claim in one. -/
import Derived.Test.YtaghhndcimjjgaaGreatDoorRs1
import Derived.Test.YtaghhndcimjjgaaGreatDoorRs2
import Derived.Lib.Join
import Derived.Test.YtaghhndcimjjgaaGreatDoorProg
import Derived.WalkKit
import Derived.WalkSpells
import Derived.WalkLawsBesides
import Derived.Lib.Hide
import Derived.Test.YtaghhndcimjjgaaGreatDoorShelf
import Derived.RegionTactic
import Derived.ChangeAlike
import Derived.Deep.QuietTactic
import Derived.BigQuiet
import Derived.Deep.Cut
import Derived.Deep.Slices
import Derived.ChangeSame
import Derived.Below
import Derived.Lib.SmallJoins
import Derived.OrdersHeld
import Derived.Lib.LaidTab
import Derived.Laws.AppendOwn
import Derived.Deep.Onto
import Derived.Lib.OwnKind
import Derived.Deep.AppendLies
/- Sets: the text of a set, and what reading one does, in plain words. -/
namespace Rd
open Sp (mem Norm joinAll joinStep)
open Go.Lib (decDigits)
def minusB : ByteArray := ⟨#[45]⟩
def commaB : ByteArray := ⟨#[44]⟩
def spanT (x : Int × Int) : ByteArray := if x.1 < x.2 then itoaB x.1 ++ (minusB ++ itoaB x.2) else itoaB x.1
def spansT (l : List (Int × Int)) : ByteArray := bt (Go.Lib.join ((l.map spanT).map sB) [44])
theorem spansT_nil : spansT [] = ⟨#[]⟩ := rfl
theorem bt_app (a b : List UInt8) : bt (a ++ b) = bt a ++ bt b := by
  apply sB_inj
  rw [sB_app]
  simp [sB, bt]
theorem bt_sB (a : ByteArray) : bt (sB a) = a := sB_inj (by simp [sB, bt])
theorem sB_bt (l : List UInt8) : sB (bt l) = l := by simp [sB, bt]
theorem join_snoc (sep : List UInt8) : ∀ (xs : List (List UInt8)) (y : List UInt8), xs ≠ [] → Go.Lib.join (xs ++ [y]) sep = Go.Lib.join xs sep ++ sep ++ y
  | [], _, h => absurd rfl h
  | x :: r, y, _ => by
    rw [List.cons_append, Go.Lib.join_cons, Go.Lib.join_cons]
    simp [Go.Lib.joinTail, List.append_assoc]
theorem spansT_snoc (l : List (Int × Int)) (x : Int × Int) : spansT (l ++ [x]) = (if l = [] then spansT l else spansT l ++ commaB) ++ spanT x := by
  unfold spansT
  by_cases h : l = []
  · subst h
    rw [if_pos rfl]
    apply sB_inj
    rw [sB_app]
    simp [Go.Lib.join_one, Go.Lib.join_nil, sB_bt]
  · rw [if_neg h, List.map_append, List.map_append, List.map_cons, List.map_nil, List.map_cons, List.map_nil, join_snoc _ _ _ (by simpa using h), bt_app, bt_app, bt_sB]
    rfl
theorem snoc_ind {α : Type} {P : List α → Prop} (h0 : P []) (h1 : ∀ l x, P l → P (l ++ [x])) (l : List α) : P l := by
  have h : ∀ r : List α, P r.reverse := fun r => by
    induction r with
    | nil => exact h0
    | cons x r ih => rw [List.reverse_cons]; exact h1 _ _ ih
  rw [← List.reverse_reverse l]
  exact h _
theorem spanT_size {x : Int × Int} (h0 : 0 ≤ x.1) (h1 : x.1 ≤ 9999999999999) (h2 : 0 ≤ x.2) (h3 : x.2 ≤ 9999999999999) : (spanT x).size ≤ 43 := by
  have e1 := itoaB_size (n := x.1) (by omega) (by omega)
  have e2 := itoaB_size (n := x.2) (by omega) (by omega)
  unfold spanT
  split
  · rw [ByteArray.size_append, ByteArray.size_append]
    show _ + (1 + _) ≤ _
    omega
  · omega
theorem spansT_size (l : List (Int × Int)) (k : Nat) : (∀ x, x ∈ l → (spanT x).size ≤ k) → (spansT l).size ≤ l.length * (k + 1) := by
  refine snoc_ind (P := fun l => (∀ x, x ∈ l → (spanT x).size ≤ k) → (spansT l).size ≤ l.length * (k + 1)) ?_ ?_ l
  · intro _; exact Nat.zero_le _
  · intro l x ih h
    have h1 := ih (fun y hy => h y (List.mem_append_left _ hy))
    have h2 := h x (List.mem_append_right _ (List.mem_cons_self ..))
    rw [spansT_snoc, List.length_append, ByteArray.size_append, List.length_singleton, Nat.succ_mul]
    split
    · omega
    · rw [ByteArray.size_append]
      have : commaB.size = 1 := rfl
      omega
/-! ### reading -/
def numS (s : ByteArray) (p : Nat) : Int × Nat × Nat := numAt s 13 0 9999999999999 true p
def rd1 (s : ByteArray) (p : Nat) : (Int × Int) × Nat × Bool :=
  if numOk 0 true (numS s p) = true then
    if begAt s 45 (numS s p).2.2 true = true then (((numS s p).1, (numS s ((numS s p).2.2 + 1)).1), (numS s ((numS s p).2.2 + 1)).2.2, numOk 0 true (numS s ((numS s p).2.2 + 1)))
    else (((numS s p).1, (numS s p).1), (numS s p).2.2, true)
  else (((numS s p).1, (numS s p).1), (numS s p).2.2, false)
def rdAll (s : ByteArray) : Nat → Nat → List (Int × Int) → List (Int × Int) × Nat × Bool
  | 0, p, l => (l, p, false)
  | f + 1, p, l =>
    if (rd1 s p).2.2 = true ∧ begAt s 44 (rd1 s p).2.1 true = true then rdAll s f ((rd1 s p).2.1 + 1) (l ++ [(rd1 s p).1])
    else (l ++ [(rd1 s p).1], (rd1 s p).2.1, (rd1 s p).2.2 && decide ((rd1 s p).2.1 = s.size))
def rdStart (s : ByteArray) : List (Int × Int) × Nat × Bool := if s.size = 0 then ([], 0, true) else rdAll s (s.size + 1) 0 []
def mostL (l : List (Int × Int)) : Int := l.foldl (fun m x => max (max m x.1) x.2) 0
def wrongL (l : List (Int × Int)) : Bool := l.any fun x => decide (x.2 < x.1)
def nfL (l : List (Int × Int)) : List (Int × Int) := joinAll (l.mergeSort fun x y => decide (x.1 ≤ y.1))
def readR (s : ByteArray) : List (Int × Int) × Nat × Int :=
  if 40000 < s.size then ([], 0, 3)
  else if (rdStart s).2.2 = false then ([], (rdStart s).2.1, 6)
  else if 1000000000000 < mostL (rdStart s).1 then ([], 0, 9)
  else if wrongL (rdStart s).1 = true then ([], 0, 10)
  else if 1000 < (nfL (rdStart s).1).length then ([], 0, 3) else (nfL (rdStart s).1, 0, 0)
theorem num_val (s : ByteArray) (p : Nat) : 0 ≤ (numS s p).1 ∧ (numS s p).1 ≤ 9999999999999 := numAt_val s 13 0 9999999999999 true p (by omega)
theorem num_ge (s : ByteArray) (p : Nat) : p ≤ (numS s p).2.2 := numLoop_ge _ _ _ _ _ _ _ _ _
theorem numLoop_in (s : ByteArray) (digits : Nat) (least most : Int) (ok : Bool) : ∀ (f : Nat) (n : Int) (m p : Nat), p ≤ s.size → (numLoop s digits least most ok f n m p).2.2 ≤ s.size
  | 0, n, m, p, h => h
  | f + 1, n, m, p, h => by
    unfold numLoop
    split
    · rename_i hc
      split
      · exact h
      · exact numLoop_in s digits least most ok f _ _ _ (by have := (digAt_true hc.2).2.1; omega)
    · exact h
theorem num_in {s : ByteArray} {p : Nat} (h : p ≤ s.size) : (numS s p).2.2 ≤ s.size := numLoop_in _ _ _ _ _ _ _ _ _ h
theorem begAt_true {s : ByteArray} {c p : Nat} {ok : Bool} (h : begAt s c p ok = true) : ok = true ∧ p < s.size ∧ byte s p = c := by
  unfold begAt at h
  simpa using h
theorem rd1_val (s : ByteArray) (p : Nat) : (0 ≤ (rd1 s p).1.1 ∧ (rd1 s p).1.1 ≤ 9999999999999) ∧ 0 ≤ (rd1 s p).1.2 ∧ (rd1 s p).1.2 ≤ 9999999999999 := by
  unfold rd1
  have h1 := num_val s p
  have h2 := num_val s ((numS s p).2.2 + 1)
  split
  · split
    · exact ⟨h1, h2⟩
    · exact ⟨h1, h1⟩
  · exact ⟨h1, h1⟩
theorem rd1_place {s : ByteArray} {p : Nat} (h : p ≤ s.size) : p ≤ (rd1 s p).2.1 ∧ (rd1 s p).2.1 ≤ s.size := by
  unfold rd1
  have h1 := num_ge s p
  have h2 := num_ge s ((numS s p).2.2 + 1)
  have h3 := num_in h
  split
  · split
    · rename_i hb
      have h4 := (begAt_true hb).2.1
      have h5 := num_in (s := s) (p := (numS s p).2.2 + 1) (by omega)
      exact ⟨by show p ≤ (numS s ((numS s p).2.2 + 1)).2.2; omega, h5⟩
    · exact ⟨h1, h3⟩
  · exact ⟨h1, h3⟩
theorem mostL_snoc (l : List (Int × Int)) (x : Int × Int) : mostL (l ++ [x]) = max (max (mostL l) x.1) x.2 := by unfold mostL; rw [List.foldl_append]; rfl
theorem wrongL_snoc (l : List (Int × Int)) (x : Int × Int) : wrongL (l ++ [x]) = (wrongL l || decide (x.2 < x.1)) := by unfold wrongL; simp
theorem mostL_gt (M : Int) (hM : 0 ≤ M) (l : List (Int × Int)) : M < mostL l ↔ ∃ x, x ∈ l ∧ (M < x.1 ∨ M < x.2) := by
  refine snoc_ind (P := fun l => M < mostL l ↔ ∃ x, x ∈ l ∧ (M < x.1 ∨ M < x.2)) ?_ ?_ l
  · exact ⟨fun h => absurd h (by show ¬ M < 0; omega), fun ⟨x, hx, _⟩ => by cases hx⟩
  · intro l x ih
    rw [mostL_snoc]
    constructor
    · intro hm
      rcases (show M < mostL l ∨ M < x.1 ∨ M < x.2 by omega) with g | g
      · obtain ⟨y, hy, e⟩ := ih.1 g
        exact ⟨y, List.mem_append_left _ hy, e⟩
      · exact ⟨x, List.mem_append_right _ (List.mem_cons_self ..), g⟩
    · rintro ⟨y, hy, e⟩
      rcases List.mem_append.1 hy with hy | hy
      · have := ih.2 ⟨y, hy, e⟩
        omega
      · rw [List.mem_singleton.1 hy] at e
        omega
theorem wrongL_iff (l : List (Int × Int)) : wrongL l = true ↔ ∃ x, x ∈ l ∧ x.2 < x.1 := by unfold wrongL; simp
theorem nfL_ok {l : List (Int × Int)} (h : wrongL l = false) : Norm (nfL l) ∧ ∀ n, mem (nfL l) n ↔ mem l n := by
  have hp := List.mergeSort_perm l (fun x y => decide (x.1 ≤ y.1))
  have hs : (l.mergeSort fun x y => decide (x.1 ≤ y.1)).Pairwise (fun x y => x.1 ≤ y.1) := by
    have := List.pairwise_mergeSort (le := fun (x y : Int × Int) => decide (x.1 ≤ y.1)) (fun a b c h1 h2 => by simp only [decide_eq_true_eq] at h1 h2 ⊢; omega) (fun a b => by simp only [Bool.or_eq_true, decide_eq_true_eq]; omega) l
    exact this.imp (fun h => by simpa using h)
  have hj := Sp.join_all (l := l.mergeSort fun x y => decide (x.1 ≤ y.1)) (fun x hx => by
    rcases Int.lt_or_le x.2 x.1 with g | g
    · have := (wrongL_iff l).2 ⟨x, hp.mem_iff.1 hx, g⟩
      rw [h] at this
      cases this
    · exact g) hs
  refine ⟨hj.1, fun n => (hj.2 n).trans ?_⟩
  exact ⟨fun ⟨x, hx, e⟩ => ⟨x, hp.mem_iff.1 hx, e⟩, fun ⟨x, hx, e⟩ => ⟨x, hp.mem_iff.2 hx, e⟩⟩
/-- whatever right row has the same numbers is this one -/
theorem nfL_unique {l u : List (Int × Int)} (h : wrongL l = false) (hu : Norm u) (hm : ∀ n, mem u n ↔ mem l n) : u = nfL l :=
  Sp.norm_unique hu (nfL_ok h).1 (fun n => (hm n).trans ((nfL_ok h).2 n).symm)
theorem rdAll_vals (s : ByteArray) : ∀ (f p : Nat) (l : List (Int × Int)), (∀ x, x ∈ l → (0 ≤ x.1 ∧ x.1 ≤ 9999999999999) ∧ 0 ≤ x.2 ∧ x.2 ≤ 9999999999999) → ∀ x, x ∈ (rdAll s f p l).1 → (0 ≤ x.1 ∧ x.1 ≤ 9999999999999) ∧ 0 ≤ x.2 ∧ x.2 ≤ 9999999999999
  | 0, p, l, h => h
  | f + 1, p, l, h => by
    have h2 : ∀ x, x ∈ l ++ [(rd1 s p).1] → (0 ≤ x.1 ∧ x.1 ≤ 9999999999999) ∧ 0 ≤ x.2 ∧ x.2 ≤ 9999999999999 := fun x hx => by
      rcases List.mem_append.1 hx with hx | hx
      · exact h x hx
      · rw [List.mem_singleton.1 hx]
        exact rd1_val s p
    rw [rdAll]
    split
    · exact rdAll_vals s f _ _ h2
    · exact h2
/-! ### what is written is read as it was -/
theorem sB_nat {n : Int} (h : 0 ≤ n) : sB (itoaB n) = decDigits n.toNat := by
  obtain ⟨k, rfl⟩ : ∃ k : Nat, n = (k : Int) := ⟨n.toNat, by omega⟩
  rw [sB_itoa]
  rfl
theorem rd1_back {s : ByteArray} {p : Nat} {x : Int × Int} {pre post : List UInt8} (h0 : 0 ≤ x.1) (h1 : x.1 ≤ x.2) (h2 : x.2 ≤ 1000000000000) (hs : sB s = pre ++ (sB (spanT x) ++ post)) (hp : pre.length = p) (hpost : post = [] ∨ ∃ r, post = 44 :: r) :
    rd1 s p = (x, p + (spanT x).size, true) := by
  obtain ⟨a, b⟩ := x
  simp only at h0 h1 h2
  obtain ⟨i, rfl⟩ : ∃ i : Nat, a = (i : Int) := ⟨a.toNat, by omega⟩
  obtain ⟨j, rfl⟩ : ∃ j : Nat, b = (j : Int) := ⟨b.toNat, by omega⟩
  have hli := dec_len i 12 (by omega)
  have hlj := dec_len j 12 (by omega)
  have nodig : ∀ (q : List UInt8), sB s = q ++ post → digAt s q.length true = false := fun q e => by
    rcases hpost with rfl | ⟨r, rfl⟩
    · exact no_end (by rw [size_sB, e]; simp)
    · exact no_dig (byte_after e rfl) (Or.inl (by decide))
  have nobeg : ∀ (q : List UInt8), sB s = q ++ post → begAt s 45 q.length true = false := fun q e => by
    unfold begAt
    rcases hpost with rfl | ⟨r, rfl⟩
    · have : ¬ q.length < s.size := by rw [size_sB, e]; simp
      simp [this]
    · have := (byte_after e rfl).2
      rw [this]
      simp
  by_cases hlt : (i : Int) < (j : Int)
  · have hsp : sB (spanT ((i : Int), (j : Int))) = decDigits i ++ (45 :: decDigits j) := by
      unfold spanT
      rw [if_pos hlt, sB_app, sB_app, sB_itoa, sB_itoa]
      rfl
    rw [hsp] at hs
    have hsz : (spanT ((i : Int), (j : Int))).size = (decDigits i).length + 1 + (decDigits j).length := by
      rw [size_sB, hsp, List.length_append, List.length_cons]
      omega
    have e1 : sB s = (pre ++ decDigits i) ++ (45 :: (decDigits j ++ post)) := by rw [hs]; simp
    have e2 : sB s = (pre ++ decDigits i ++ [45]) ++ (decDigits j ++ post) := by rw [hs]; simp
    have e3 : sB s = (pre ++ decDigits i ++ [45] ++ decDigits j) ++ post := by rw [hs]; simp
    have b1 := byte_after e1 (p := p + (decDigits i).length) (by rw [List.length_append, hp])
    have n1 : numS s p = ((i : Int), (decDigits i).length, p + (decDigits i).length) := numAt_beg (beg_of (l := decDigits i) (post := 45 :: (decDigits j ++ post)) (by rw [hs]; simp) hp) (by omega) (by omega) (Or.inl (by omega)) (Or.inr (no_dig b1 (Or.inl (by decide))))
    have d3 := nodig _ e3
    have l3 : (pre ++ decDigits i ++ [45] ++ decDigits j).length = p + (decDigits i).length + 1 + (decDigits j).length := by simp only [List.length_append, List.length_singleton, hp]
    rw [l3] at d3
    have n2 : numS s (p + (decDigits i).length + 1) = ((j : Int), (decDigits j).length, p + (decDigits i).length + 1 + (decDigits j).length) := numAt_beg (beg_of (l := decDigits j) (post := post) e2 (by simp; omega)) (by omega) (by omega) (Or.inl (by omega)) (Or.inr d3)
    have g1 : begAt s 45 (p + (decDigits i).length) true = true := by
      unfold begAt
      rw [b1.2]
      simp [b1.1]
    unfold rd1
    rw [n1]
    simp only
    rw [if_pos (numOk_yes (dec_pos i) (by omega)), if_pos g1, n2]
    simp only
    rw [numOk_yes (dec_pos j) (by omega), hsz]
    simp only [Prod.mk.injEq, and_true, true_and]
    omega
  · have hij : i = j := by omega
    subst hij
    have hsp : sB (spanT ((i : Int), (i : Int))) = decDigits i := by
      unfold spanT
      rw [if_neg hlt, sB_itoa]
    rw [hsp] at hs
    have hsz : (spanT ((i : Int), (i : Int))).size = (decDigits i).length := by rw [size_sB, hsp]
    have e1 : sB s = (pre ++ decDigits i) ++ post := by rw [hs]; simp
    have d1 := nodig _ e1
    have g1 := nobeg _ e1
    have l1 : (pre ++ decDigits i).length = p + (decDigits i).length := by rw [List.length_append, hp]
    rw [l1] at d1 g1
    have n1 : numS s p = ((i : Int), (decDigits i).length, p + (decDigits i).length) := numAt_beg (beg_of (l := decDigits i) (post := post) hs hp) (by omega) (by omega) (Or.inl (by omega)) (Or.inr d1)
    unfold rd1
    rw [n1]
    simp only
    rw [if_pos (numOk_yes (dec_pos i) (by omega)), g1, if_neg (by simp), hsz]
/-- the text of the spans that follow -/
def tailT : List (Int × Int) → List UInt8
  | [] => []
  | x :: l => 44 :: (sB (spanT x) ++ tailT l)
theorem sB_spansT : ∀ (x : Int × Int) (l : List (Int × Int)), sB (spansT (x :: l)) = sB (spanT x) ++ tailT l := fun x l => by
  unfold spansT
  rw [sB_bt, List.map_cons, List.map_cons, Go.Lib.join_cons]
  congr 1
  induction l with
  | nil => rfl
  | cons y l ih =>
    rw [tailT, ← ih]
    simp [Go.Lib.joinTail]
theorem rdAll_back {s : ByteArray} : ∀ (l : List (Int × Int)) (x : Int × Int) (f p : Nat) (o : List (Int × Int)) (pre : List UInt8), (∀ y, y ∈ x :: l → 0 ≤ y.1 ∧ y.1 ≤ y.2 ∧ y.2 ≤ 1000000000000) → sB s = pre ++ (sB (spanT x) ++ tailT l) → pre.length = p → l.length < f → rdAll s f p o = (o ++ x :: l, s.size, true)
  | [], x, 0, _, _, _, _, _, _, h => by omega
  | _ :: _, x, 0, _, _, _, _, _, _, h => by simp at h
  | [], x, f + 1, p, o, pre, hv, hs, hp, _ => by
    obtain ⟨v0, v1, v2⟩ := hv x (List.mem_cons_self ..)
    have h1 := rd1_back (post := tailT []) v0 v1 v2 hs hp (Or.inl rfl)
    have hsz : s.size = p + (spanT x).size := by
      rw [size_sB, hs, List.length_append, List.length_append, hp, size_sB (spanT x)]
      rfl
    have hb : begAt s 44 s.size true = false := by unfold begAt; simp
    rw [rdAll, h1]
    simp only
    rw [← hsz, hb, if_neg (by simp)]
    simp
  | y :: l, x, f + 1, p, o, pre, hv, hs, hp, hf => by
    obtain ⟨v0, v1, v2⟩ := hv x (List.mem_cons_self ..)
    have h1 := rd1_back (post := tailT (y :: l)) v0 v1 v2 hs hp (Or.inr ⟨_, rfl⟩)
    have e1 : sB s = (pre ++ sB (spanT x)) ++ (44 :: (sB (spanT y) ++ tailT l)) := by rw [hs, tailT]; simp
    have b1 := byte_after e1 (p := p + (spanT x).size) (by rw [List.length_append, hp]; rfl)
    have hb : begAt s 44 (p + (spanT x).size) true = true := by
      unfold begAt
      rw [b1.2]
      simp [b1.1]
    rw [rdAll, h1]
    simp only
    rw [hb, if_pos (by simp)]
    rw [rdAll_back l y f (p + (spanT x).size + 1) (o ++ [x]) (pre ++ sB (spanT x) ++ [44]) (fun z hz => hv z (List.mem_cons_of_mem _ hz)) (by rw [e1]; simp) (by rw [List.length_append, List.length_append, hp]; rfl) (by simp at hf; omega)]
    simp
theorem mostL_le {l : List (Int × Int)} (h : ∀ y, y ∈ l → 0 ≤ y.1 ∧ y.1 ≤ y.2 ∧ y.2 ≤ 1000000000000) : ¬ 1000000000000 < mostL l := fun hm => by
  obtain ⟨x, hx, e⟩ := (mostL_gt 1000000000000 (by omega) l).1 hm
  have := h x hx
  omega
/-- the text of a right row is read as this row -/
theorem read_back {l : List (Int × Int)} (hn : Norm l) (hl : l.length ≤ 1000) (hv : ∀ y, y ∈ l → 0 ≤ y.1 ∧ y.1 ≤ y.2 ∧ y.2 ≤ 1000000000000) : readR (spansT l) = (l, 0, 0) := by
  have hsz : (spansT l).size ≤ 1000 * 28 := by
    have hk : ∀ x, x ∈ l → (spanT x).size ≤ 27 := fun x hx => by
      obtain ⟨v0, v1, v2⟩ := hv x hx
      have h1 : (itoaB x.1).size ≤ 13 := by
        rw [size_sB, sB_nat v0]
        exact dec_len _ 12 (by omega)
      have h2 : (itoaB x.2).size ≤ 13 := by
        rw [size_sB, sB_nat (by omega)]
        exact dec_len _ 12 (by omega)
      unfold spanT
      split
      · rw [ByteArray.size_append, ByteArray.size_append]
        show _ + (1 + _) ≤ _
        omega
      · omega
    exact Nat.le_trans (spansT_size l 27 hk) (Nat.mul_le_mul_right _ hl)
  have hR : rdStart (spansT l) = (l, (spansT l).size, true) ∨ (l = [] ∧ rdStart (spansT l) = ([], 0, true)) := by
    cases l with
    | nil => exact Or.inr ⟨rfl, rfl⟩
    | cons x l =>
      refine Or.inl ?_
      have e := sB_spansT x l
      have h0 : (spansT (x :: l)).size ≠ 0 := by
        rw [size_sB, e, List.length_append]
        have := hv x (List.mem_cons_self ..)
        have : 0 < (sB (spanT x)).length := by
          unfold spanT
          split
          · rw [sB_app, List.length_append, sB_nat (by omega)]
            have := dec_pos x.1.toNat
            omega
          · rw [sB_nat (by omega)]
            exact dec_pos _
        omega
      have tail_len : ∀ l : List (Int × Int), l.length ≤ (tailT l).length := fun l => by
        induction l with
        | nil => exact Nat.le_refl _
        | cons y l ih => rw [tailT, List.length_cons, List.length_cons, List.length_append]; omega
      unfold rdStart
      rw [if_neg h0, rdAll_back l x _ 0 [] [] hv (by rw [e]; rfl) rfl (by rw [size_sB, e, List.length_append]; have := tail_len l; omega)]
      rfl
  have hw : wrongL l = false := by
    cases h : wrongL l with
    | false => rfl
    | true =>
      obtain ⟨x, hx, e⟩ := (wrongL_iff l).1 h
      have := hv x hx
      omega
  have hu := nfL_unique hw hn (fun n => Iff.rfl)
  have hm := mostL_le hv
  unfold readR
  rw [if_neg (by omega)]
  rcases hR with e | ⟨rfl, e⟩
  · rw [e]
    simp only
    rw [if_neg (by simp), if_neg hm, hw, if_neg (by simp), ← hu, if_neg (by omega)]
  · rw [e]
    simp only
    rw [if_neg (by simp), if_neg hm, hw, if_neg (by simp), ← hu, if_neg (by simp)]
end Rd

/- Contracts of small functions of rounding: outside, size, more, ways and its functions, IndexFunc over the ways, Compare. -/
namespace Go.Proofs.YtaghhndcimjjgaaGreatDoor
open Go.RowKit

theorem ret_int {k : IntKind} {a b : Int} (h : a = b) : Ending.returned (.int k a) = .returned (.int k b) := by rw [h]
theorem ret_bool {a b : Bool} (h : a = b) : Ending.returned (.bool a) = .returned (.bool b) := by rw [h]

theorem outside_any (n lo hi : Int) (w : World) :
    Calls Tryz.prog 36 #[.int .i64 n, .int .i64 lo, .int .i64 hi] w fun e w' => e = .returned (.bool (decide (n < lo) || decide (hi < n))) ∧ w = w' := by
  by_cases h1 : n < lo
  · go_enter Tryz.func36, Tryz.ntmps36
    go_wp2
    go_ret
    exact ⟨by simp [h1], rfl⟩
  · have h2 : decide (n < lo) = false := by simpa using h1
    go_enter Tryz.func36, Tryz.ntmps36
    go_wp2
    go_ret
    exact ⟨by simp, rfl⟩

def cmpF (a b : Int) : Int := if a < b then -1 else if b < a then 1 else 0

theorem compare_any (a b : Int) (w : World) :
    Calls Tryz.prog 64 #[.int .u64 a, .int .u64 b] w fun e w' => e = .returned (.int .i64 (cmpF a b)) ∧ w = w' := by
  go_enter Tryz.func64, Tryz.ntmps64
  go_wp2
  all_goals go_ret
  all_goals refine ⟨ret_int ?_, rfl⟩
  all_goals (unfold cmpF; split <;> (try split) <;> first | rfl | (exfalso; omega))

/-! ### the functions of the table -/
theorem way1 (b : Bool) (q h : Int) (w : World) : Calls Tryz.prog 93 #[.bool b, .int .u64 q, .int .i64 h] w fun e w' => e = .returned (.bool b) ∧ w = w' := by
  go_enter Tryz.func93, Tryz.ntmps93
  go_wp2
  go_ret
  exact ⟨rfl, rfl⟩
theorem way2 (b : Bool) (q h : Int) (w : World) : Calls Tryz.prog 94 #[.bool b, .int .u64 q, .int .i64 h] w fun e w' => e = .returned (.bool (!b)) ∧ w = w' := by
  go_enter Tryz.func94, Tryz.ntmps94
  go_wp2
  go_ret
  exact ⟨rfl, rfl⟩
theorem way3 (b : Bool) (q h : Int) (w : World) : Calls Tryz.prog 95 #[.bool b, .int .u64 q, .int .i64 h] w fun e w' => e = .returned (.bool false) ∧ w = w' := by
  go_enter Tryz.func95, Tryz.ntmps95
  go_wp2
  go_ret
  exact ⟨rfl, rfl⟩
theorem way4 (b : Bool) (q h : Int) (w : World) : Calls Tryz.prog 96 #[.bool b, .int .u64 q, .int .i64 h] w fun e w' => e = .returned (.bool (decide (0 < h) || (h == 0 && !b))) ∧ w = w' := by
  by_cases h1 : 0 < h
  · go_enter Tryz.func96, Tryz.ntmps96
    go_wp2
    go_ret
    exact ⟨by simp [h1], rfl⟩
  · have h2 : decide (0 < h) = false := by simpa using h1
    cases h3 : (h == 0)
    all_goals
      go_enter Tryz.func96, Tryz.ntmps96
      go_wp2
      go_ret
      exact ⟨by simp, rfl⟩
theorem way5 (b : Bool) (q h : Int) (w : World) (hq : 0 ≤ q) : Calls Tryz.prog 97 #[.bool b, .int .u64 q, .int .i64 h] w fun e w' => e = .returned (.bool (decide (0 < h) || (h == 0 && (q % 2 == 1)))) ∧ w = w' := by
  by_cases h1 : 0 < h
  · go_enter Tryz.func97, Tryz.ntmps97
    go_wp2
    go_ret
    exact ⟨by simp [h1], rfl⟩
  · have h2 : decide (0 < h) = false := by simpa using h1
    cases h3 : (h == 0)
    all_goals
      go_enter Tryz.func97, Tryz.ntmps97
      go_wp2
      go_ret
      exact ⟨by simp, rfl⟩

def fnv (k : Nat) : Value := .func (.func k) #[] #[]
/-- the row of the table in memory -/
def wayRow : Array Value := #[.int .i64 1, fnv 93, .int .i64 2, fnv 94, .int .i64 3, fnv 95, .int .i64 4, fnv 96, .int .i64 5, fnv 97]
theorem ways_any (w : World) : Calls Tryz.prog 59 #[] w fun e w' => e = .returned (.slice (some ⟨w.heap.size, 0, none⟩) 5 5) ∧ w' = w.alloc (.cells wayRow 98) := by
  go_enter Tryz.func59, Tryz.ntmps59
  go_wp2
  go_ret
  exact ⟨rfl, rfl⟩

/-- the closure that looks for a way -/
theorem has_any (k h : Int) (f : Value) (a : Addr) (w : World) (ha : w.cell? a = some (.int .i64 h)) (hb : a.block < w.heap.size) :
    Calls Tryz.prog 61 #[.agg #[.int .i64 k, f], .pointer (some a)] w fun e w' => e = .returned (.bool (k == h)) ∧ Below w.heap.size w w' := by
  go_enter Tryz.func61, Tryz.ntmps61
  go_wp2
  go_ret
  exact ⟨rfl, (Below.refl _ _).alloc (Nat.le_refl _) _⟩
/-- what 'more' returns -/
def moreF (q r d : Int) (m : Bool) (how : Int) : Bool :=
  if r = 0 then false else if how = 1 then m else if how = 2 then !m else if how = 3 then false else if r ≠ d - r then decide (d - r < r) else if how = 4 then !m else q % 2 == 1
end Go.Proofs.YtaghhndcimjjgaaGreatDoor

/- math/bits.Div64: the contract, for all arguments whose quotient fits. -/
namespace Go.Proofs.YtaghhndcimjjgaaGreatDoor
open Go.RowKit

/-- the high part is 0 -/
theorem div64_low (lo y : Int) (w : World) (h0 : 0 ≤ lo) (hy : 1 ≤ y) (hL : lo ≤ 18446744073709551615) :
    Calls Tryz.prog 63 #[.int .u64 0, .int .u64 lo, .int .u64 y] w fun e w' => e = .returned (.tuple #[.int .u64 (lo / y), .int .u64 (lo % y)]) ∧ ∃ n, w' = w.drewN n := by
  have b1 : (y == 0) = false := by rw [beq_eq_false_iff_ne]; omega
  have b2 : decide (y ≤ 0) = false := by simp; omega
  go_enter Tryz.func63, Tryz.ntmps63
  go_wp2
  go_quiet (fail)
  go_wp2
  go_ret2
  exact ⟨rfl, _, rfl⟩

set_option maxHeartbeats 4000000 in
set_option maxRecDepth 100000 in
theorem div64_high (hi lo y : Int) (s Y a b u l d1 d0 u2 qh rh qh2 rh2 qq rr Q1 Q0 : Nat) (w : World) (h1 : 1 ≤ hi) (hy : hi < y) (hY : y ≤ 18446744073709551615)
    (hs : Hid (64 - (Lib.bitLen y.toNat : Int) = (s : Int))) (hs63 : s ≤ 63)
    (e1 : IntKind.u64.wrap (y * 2 ^ s) = Y) (e2 : (Y : Int) / 4294967296 = a) (e3 : bits BinOp.and IntKind.u64 Y 4294967295 = b)
    (e4 : bits BinOp.or IntKind.u64 (IntKind.u64.wrap (hi * 2 ^ s)) (lo / 2 ^ (64 - s)) = u) (e5 : IntKind.u64.wrap (lo * 2 ^ s) = l) (e6 : (l : Int) / 4294967296 = d1) (e7 : bits BinOp.and IntKind.u64 l 4294967295 = d0)
    (e8 : (u : Int) / a = qh) (e9 : IntKind.u64.wrap (u - IntKind.u64.wrap (qh * a)) = rh) (hst : Hid (Knuth.Dig u d1 a b qh rh))
    (e10 : IntKind.u64.wrap (IntKind.u64.wrap (IntKind.u64.wrap ((u : Int) * 4294967296) + d1) - IntKind.u64.wrap ((Q1 : Int) * Y)) = u2)
    (e11 : (u2 : Int) / a = qh2) (e12 : IntKind.u64.wrap (u2 - IntKind.u64.wrap (qh2 * a)) = rh2) (hst2 : Hid (Knuth.Dig u2 d0 a b qh2 rh2))
    (e13 : IntKind.u64.wrap (IntKind.u64.wrap ((Q1 : Int) * 4294967296) + Q0) = qq) (e14 : IntKind.u64.wrap (IntKind.u64.wrap (IntKind.u64.wrap ((u2 : Int) * 4294967296) + d0) - IntKind.u64.wrap ((Q0 : Int) * Y)) / 2 ^ s = rr)
    (hP : Hid (Knuth.Par u d1 a b)) (hP2 : Hid (Knuth.Par u2 d0 a b))
    (hQ1 : Hid (Q1 = (u * 4294967296 + d1) / (a * 4294967296 + b))) (hQ0 : Hid (Q0 = (u2 * 4294967296 + d0) / (a * 4294967296 + b)))
    (ha : (2147483648 : Int) ≤ a) (ha' : (a : Int) < 4294967296) (hb' : Hid (b < 4294967296)) (_hb2 : (b : Int) < 4294967296) (_hu' : (u : Int) ≤ 18446744073709551615) (hd1' : (d1 : Int) < 4294967296) (hd0' : (d0 : Int) < 4294967296) (hqh : (qh : Int) ≤ 4294967297) (_hrh : (rh : Int) < 4294967296)
    (_hu2 : (u2 : Int) ≤ 18446744073709551615) (hqh2 : (qh2 : Int) ≤ 4294967297) (_hrh2 : (rh2 : Int) < 4294967296) :
    Calls Tryz.prog 63 #[.int .u64 hi, .int .u64 lo, .int .u64 y] w fun e w' => e = .returned (.tuple #[.int .u64 qq, .int .u64 rr]) ∧ w' = w := by
  have b1 : (y == 0) = false := by rw [beq_eq_false_iff_ne]; omega
  have b2 : decide (y ≤ hi) = false := by simp; omega
  have b3 : (hi == 0) = false := by rw [beq_eq_false_iff_ne]; omega
  go_enter Tryz.func63, Tryz.ntmps63
  go_wp2_with fail
  refine (Go.Proofs.Tryz.bits_LeadingZeros64 _ _ (by omega) (by omega)).mono ?_
  rintro e w' ⟨rfl, rfl⟩
  rw [hs.out]
  go_wp2_with fail
  clear e1 e2 e3 e4 e5 e6 e7 e8 e9 b1 b2 b3
  go_loop [15, 16] (fun q r => ∃ qn rn : Nat, q = .int .u64 qn ∧ r = .int .u64 rn ∧ Knuth.Dig u d1 a b qn rn) (fun q _ => (intOf q).toNat)
  case atStart => exact ⟨_, _, rfl, rfl, hst.out⟩
  case round =>
    obtain ⟨q, r, rfl, rfl, hD'⟩ := hrel
    have hD := Lib.hid hD'
    have hq1 : (q : Int) ≤ 4294967297 := by have := hD'.1; omega
    have hr1 : (r : Int) < 4294967296 := by have := hD'.2.1; omega
    clear hD'
    by_cases hq : 4294967296 ≤ q
    · have c1 : decide ((4294967296 : Int) ≤ (q : Int)) = true := by rw [decide_eq_true_eq]; omega
      have hpos := hD.out.pos hP.out (.inl hq)
      have hqi : (1 : Int) ≤ q := by omega
      by_cases hr : r + a < 4294967296
      · have c3 : decide ((4294967296 : Int) ≤ (r : Int) + (a : Int)) = false := by rw [decide_eq_false_iff_not]; omega
        have hN := Lib.hid (hD.out.less hP.out (.inl hq) hr)
        have Hp := Lib.hid hpos; clear hpos
        clear hq hr
        go_wp2
        go_round
        case rel => exact ⟨q - 1, r + a, by rw [Int.ofNat_sub Hp.out]; rfl, by go_num, hN.out⟩
        case measure => simp [intOf]; omega
      · have c3 : decide ((4294967296 : Int) ≤ (r : Int) + (a : Int)) = true := by rw [decide_eq_true_eq]; omega
        have hN := hD.out.last hP.out (.inl hq) (by omega)
        have e15 : (q : Int) - 1 = (Q1 : Nat) := by rw [hQ1.out, ← hN]; omega
        clear hN
        clear hq hr
        clear hpos
        go_wp2_with fail
        go_loop [18, 16] (fun q r => ∃ qn rn : Nat, q = .int .u64 qn ∧ r = .int .u64 rn ∧ Knuth.Dig u2 d0 a b qn rn) (fun q _ => (intOf q).toNat)
        case atStart => exact ⟨_, _, rfl, rfl, hst2.out⟩
        case round =>
          obtain ⟨q, r, rfl, rfl, hD'⟩ := hrel
          have hD := Lib.hid hD'
          have hq1 : (q : Int) ≤ 4294967297 := by have := hD'.1; omega
          have hr1 : (r : Int) < 4294967296 := by have := hD'.2.1; omega
          clear hD'
          by_cases hq : 4294967296 ≤ q
          · have c1 : decide ((4294967296 : Int) ≤ (q : Int)) = true := by rw [decide_eq_true_eq]; omega
            have hpos := hD.out.pos hP2.out (.inl hq)
            have hqi : (1 : Int) ≤ q := by omega
            by_cases hr : r + a < 4294967296
            · have c3 : decide ((4294967296 : Int) ≤ (r : Int) + (a : Int)) = false := by rw [decide_eq_false_iff_not]; omega
              have hN := Lib.hid (hD.out.less hP2.out (.inl hq) hr)
              have Hp := Lib.hid hpos; clear hpos
              clear hq hr
              go_wp2
              go_round
              case rel => exact ⟨q - 1, r + a, by rw [Int.ofNat_sub Hp.out]; rfl, by go_num, hN.out⟩
              case measure => simp [intOf]; omega
            · have c3 : decide ((4294967296 : Int) ≤ (r : Int) + (a : Int)) = true := by rw [decide_eq_true_eq]; omega
              have hN := hD.out.last hP2.out (.inl hq) (by omega)
              have e15 : (q : Int) - 1 = (Q0 : Nat) := by rw [hQ0.out, ← hN]; omega
              clear hN
              clear hq hr
              clear hpos
              go_wp2
              go_ret2
              exact ⟨rfl, rfl⟩
          · have c1 : decide ((4294967296 : Int) ≤ (q : Int)) = false := by rw [decide_eq_false_iff_not]; omega
            have hq' : q < 4294967296 := by omega
            clear hq
            obtain ⟨m, hm0⟩ : ∃ m : Nat, m = q * b := ⟨_, rfl⟩
            have hm : IntKind.u64.wrap ((q : Int) * b) = m := by
              rw [IntKind.wrap_u64]; have := Knuth.mul_half hq' hb'.out
              rw [← Int.natCast_mul, ← hm0]; omega
            have Hm := Lib.hid hm0
            clear hm0 hq'
            by_cases ht : 4294967296 * r + d0 < m
            · have c2 : decide (4294967296 * (r : Int) + (d0 : Int) < (m : Int)) = true := by rw [decide_eq_true_eq]; omega
              have hpos := hD.out.pos hP2.out (.inr (by rw [← Hm.out]; omega))
              have hqi : (1 : Int) ≤ q := by omega
              by_cases hr : r + a < 4294967296
              · have c3 : decide ((4294967296 : Int) ≤ (r : Int) + (a : Int)) = false := by rw [decide_eq_false_iff_not]; omega
                have hN := Lib.hid (hD.out.less hP2.out (.inr (by rw [← Hm.out]; omega)) hr)
                have Hp := Lib.hid hpos; clear hpos
                clear ht hr
                go_wp2
                go_round
                case rel => exact ⟨q - 1, r + a, by rw [Int.ofNat_sub Hp.out]; rfl, by go_num, hN.out⟩
                case measure => simp [intOf]; omega
              · have c3 : decide ((4294967296 : Int) ≤ (r : Int) + (a : Int)) = true := by rw [decide_eq_true_eq]; omega
                have hN := hD.out.last hP2.out (.inr (by rw [← Hm.out]; omega)) (by omega)
                have e15 : (q : Int) - 1 = (Q0 : Nat) := by rw [hQ0.out, ← hN]; omega
                clear hN
                clear ht hr
                clear hpos
                go_wp2
                go_ret2
                exact ⟨rfl, rfl⟩
            · have c2 : decide (4294967296 * (r : Int) + (d0 : Int) < (m : Int)) = false := by rw [decide_eq_false_iff_not]; omega
              have hN := hD.out.done hP2.out (by rw [← Hm.out]; omega)
              rw [← hQ0.out] at hN
              subst hN
              clear ht
              go_wp2
              go_ret2
              exact ⟨rfl, rfl⟩
    · have c1 : decide ((4294967296 : Int) ≤ (q : Int)) = false := by rw [decide_eq_false_iff_not]; omega
      have hq' : q < 4294967296 := by omega
      clear hq
      obtain ⟨m, hm0⟩ : ∃ m : Nat, m = q * b := ⟨_, rfl⟩
      have hm : IntKind.u64.wrap ((q : Int) * b) = m := by
        rw [IntKind.wrap_u64]; have := Knuth.mul_half hq' hb'.out
        rw [← Int.natCast_mul, ← hm0]; omega
      have Hm := Lib.hid hm0
      clear hm0 hq'
      by_cases ht : 4294967296 * r + d1 < m
      · have c2 : decide (4294967296 * (r : Int) + (d1 : Int) < (m : Int)) = true := by rw [decide_eq_true_eq]; omega
        have hpos := hD.out.pos hP.out (.inr (by rw [← Hm.out]; omega))
        have hqi : (1 : Int) ≤ q := by omega
        by_cases hr : r + a < 4294967296
        · have c3 : decide ((4294967296 : Int) ≤ (r : Int) + (a : Int)) = false := by rw [decide_eq_false_iff_not]; omega
          have hN := Lib.hid (hD.out.less hP.out (.inr (by rw [← Hm.out]; omega)) hr)
          have Hp := Lib.hid hpos; clear hpos
          clear ht hr
          go_wp2
          go_round
          case rel => exact ⟨q - 1, r + a, by rw [Int.ofNat_sub Hp.out]; rfl, by go_num, hN.out⟩
          case measure => simp [intOf]; omega
        · have c3 : decide ((4294967296 : Int) ≤ (r : Int) + (a : Int)) = true := by rw [decide_eq_true_eq]; omega
          have hN := hD.out.last hP.out (.inr (by rw [← Hm.out]; omega)) (by omega)
          have e15 : (q : Int) - 1 = (Q1 : Nat) := by rw [hQ1.out, ← hN]; omega
          clear hN
          clear ht hr
          clear hpos
          go_wp2_with fail
          go_loop [18, 16] (fun q r => ∃ qn rn : Nat, q = .int .u64 qn ∧ r = .int .u64 rn ∧ Knuth.Dig u2 d0 a b qn rn) (fun q _ => (intOf q).toNat)
          case atStart => exact ⟨_, _, rfl, rfl, hst2.out⟩
          case round =>
            obtain ⟨q, r, rfl, rfl, hD'⟩ := hrel
            have hD := Lib.hid hD'
            have hq1 : (q : Int) ≤ 4294967297 := by have := hD'.1; omega
            have hr1 : (r : Int) < 4294967296 := by have := hD'.2.1; omega
            clear hD'
            by_cases hq : 4294967296 ≤ q
            · have c1 : decide ((4294967296 : Int) ≤ (q : Int)) = true := by rw [decide_eq_true_eq]; omega
              have hpos := hD.out.pos hP2.out (.inl hq)
              have hqi : (1 : Int) ≤ q := by omega
              by_cases hr : r + a < 4294967296
              · have c3 : decide ((4294967296 : Int) ≤ (r : Int) + (a : Int)) = false := by rw [decide_eq_false_iff_not]; omega
                have hN := Lib.hid (hD.out.less hP2.out (.inl hq) hr)
                have Hp := Lib.hid hpos; clear hpos
                clear hq hr
                go_wp2
                go_round
                case rel => exact ⟨q - 1, r + a, by rw [Int.ofNat_sub Hp.out]; rfl, by go_num, hN.out⟩
                case measure => simp [intOf]; omega
              · have c3 : decide ((4294967296 : Int) ≤ (r : Int) + (a : Int)) = true := by rw [decide_eq_true_eq]; omega
                have hN := hD.out.last hP2.out (.inl hq) (by omega)
                have e15 : (q : Int) - 1 = (Q0 : Nat) := by rw [hQ0.out, ← hN]; omega
                clear hN
                clear hq hr
                clear hpos
                go_wp2
                go_ret2
                exact ⟨rfl, rfl⟩
            · have c1 : decide ((4294967296 : Int) ≤ (q : Int)) = false := by rw [decide_eq_false_iff_not]; omega
              have hq' : q < 4294967296 := by omega
              clear hq
              obtain ⟨m, hm0⟩ : ∃ m : Nat, m = q * b := ⟨_, rfl⟩
              have hm : IntKind.u64.wrap ((q : Int) * b) = m := by
                rw [IntKind.wrap_u64]; have := Knuth.mul_half hq' hb'.out
                rw [← Int.natCast_mul, ← hm0]; omega
              have Hm := Lib.hid hm0
              clear hm0 hq'
              by_cases ht : 4294967296 * r + d0 < m
              · have c2 : decide (4294967296 * (r : Int) + (d0 : Int) < (m : Int)) = true := by rw [decide_eq_true_eq]; omega
                have hpos := hD.out.pos hP2.out (.inr (by rw [← Hm.out]; omega))
                have hqi : (1 : Int) ≤ q := by omega
                by_cases hr : r + a < 4294967296
                · have c3 : decide ((4294967296 : Int) ≤ (r : Int) + (a : Int)) = false := by rw [decide_eq_false_iff_not]; omega
                  have hN := Lib.hid (hD.out.less hP2.out (.inr (by rw [← Hm.out]; omega)) hr)
                  have Hp := Lib.hid hpos; clear hpos
                  clear ht hr
                  go_wp2
                  go_round
                  case rel => exact ⟨q - 1, r + a, by rw [Int.ofNat_sub Hp.out]; rfl, by go_num, hN.out⟩
                  case measure => simp [intOf]; omega
                · have c3 : decide ((4294967296 : Int) ≤ (r : Int) + (a : Int)) = true := by rw [decide_eq_true_eq]; omega
                  have hN := hD.out.last hP2.out (.inr (by rw [← Hm.out]; omega)) (by omega)
                  have e15 : (q : Int) - 1 = (Q0 : Nat) := by rw [hQ0.out, ← hN]; omega
                  clear hN
                  clear ht hr
                  clear hpos
                  go_wp2
                  go_ret2
                  exact ⟨rfl, rfl⟩
              · have c2 : decide (4294967296 * (r : Int) + (d0 : Int) < (m : Int)) = false := by rw [decide_eq_false_iff_not]; omega
                have hN := hD.out.done hP2.out (by rw [← Hm.out]; omega)
                rw [← hQ0.out] at hN
                subst hN
                clear ht
                go_wp2
                go_ret2
                exact ⟨rfl, rfl⟩
      · have c2 : decide (4294967296 * (r : Int) + (d1 : Int) < (m : Int)) = false := by rw [decide_eq_false_iff_not]; omega
        have hN := hD.out.done hP.out (by rw [← Hm.out]; omega)
        rw [← hQ1.out] at hN
        subst hN
        clear ht
        go_wp2_with fail
        go_loop [18, 16] (fun q r => ∃ qn rn : Nat, q = .int .u64 qn ∧ r = .int .u64 rn ∧ Knuth.Dig u2 d0 a b qn rn) (fun q _ => (intOf q).toNat)
        case atStart => exact ⟨_, _, rfl, rfl, hst2.out⟩
        case round =>
          obtain ⟨q, r, rfl, rfl, hD'⟩ := hrel
          have hD := Lib.hid hD'
          have hq1 : (q : Int) ≤ 4294967297 := by have := hD'.1; omega
          have hr1 : (r : Int) < 4294967296 := by have := hD'.2.1; omega
          clear hD'
          by_cases hq : 4294967296 ≤ q
          · have c1 : decide ((4294967296 : Int) ≤ (q : Int)) = true := by rw [decide_eq_true_eq]; omega
            have hpos := hD.out.pos hP2.out (.inl hq)
            have hqi : (1 : Int) ≤ q := by omega
            by_cases hr : r + a < 4294967296
            · have c3 : decide ((4294967296 : Int) ≤ (r : Int) + (a : Int)) = false := by rw [decide_eq_false_iff_not]; omega
              have hN := Lib.hid (hD.out.less hP2.out (.inl hq) hr)
              have Hp := Lib.hid hpos; clear hpos
              clear hq hr
              go_wp2
              go_round
              case rel => exact ⟨q - 1, r + a, by rw [Int.ofNat_sub Hp.out]; rfl, by go_num, hN.out⟩
              case measure => simp [intOf]; omega
            · have c3 : decide ((4294967296 : Int) ≤ (r : Int) + (a : Int)) = true := by rw [decide_eq_true_eq]; omega
              have hN := hD.out.last hP2.out (.inl hq) (by omega)
              have e15 : (q : Int) - 1 = (Q0 : Nat) := by rw [hQ0.out, ← hN]; omega
              clear hN
              clear hq hr
              clear hpos
              go_wp2
              go_ret2
              exact ⟨rfl, rfl⟩
          · have c1 : decide ((4294967296 : Int) ≤ (q : Int)) = false := by rw [decide_eq_false_iff_not]; omega
            have hq' : q < 4294967296 := by omega
            clear hq
            obtain ⟨m, hm0⟩ : ∃ m : Nat, m = q * b := ⟨_, rfl⟩
            have hm : IntKind.u64.wrap ((q : Int) * b) = m := by
              rw [IntKind.wrap_u64]; have := Knuth.mul_half hq' hb'.out
              rw [← Int.natCast_mul, ← hm0]; omega
            have Hm := Lib.hid hm0
            clear hm0 hq'
            by_cases ht : 4294967296 * r + d0 < m
            · have c2 : decide (4294967296 * (r : Int) + (d0 : Int) < (m : Int)) = true := by rw [decide_eq_true_eq]; omega
              have hpos := hD.out.pos hP2.out (.inr (by rw [← Hm.out]; omega))
              have hqi : (1 : Int) ≤ q := by omega
              by_cases hr : r + a < 4294967296
              · have c3 : decide ((4294967296 : Int) ≤ (r : Int) + (a : Int)) = false := by rw [decide_eq_false_iff_not]; omega
                have hN := Lib.hid (hD.out.less hP2.out (.inr (by rw [← Hm.out]; omega)) hr)
                have Hp := Lib.hid hpos; clear hpos
                clear ht hr
                go_wp2
                go_round
                case rel => exact ⟨q - 1, r + a, by rw [Int.ofNat_sub Hp.out]; rfl, by go_num, hN.out⟩
                case measure => simp [intOf]; omega
              · have c3 : decide ((4294967296 : Int) ≤ (r : Int) + (a : Int)) = true := by rw [decide_eq_true_eq]; omega
                have hN := hD.out.last hP2.out (.inr (by rw [← Hm.out]; omega)) (by omega)
                have e15 : (q : Int) - 1 = (Q0 : Nat) := by rw [hQ0.out, ← hN]; omega
                clear hN
                clear ht hr
                clear hpos
                go_wp2
                go_ret2
                exact ⟨rfl, rfl⟩
            · have c2 : decide (4294967296 * (r : Int) + (d0 : Int) < (m : Int)) = false := by rw [decide_eq_false_iff_not]; omega
              have hN := hD.out.done hP2.out (by rw [← Hm.out]; omega)
              rw [← hQ0.out] at hN
              subst hN
              clear ht
              go_wp2
              go_ret2
              exact ⟨rfl, rfl⟩
end Go.Proofs.YtaghhndcimjjgaaGreatDoor

/- math/bits.Div64: the contract, for all arguments whose quotient fits: the exact quotient and the rest. -/
namespace Go.Proofs.YtaghhndcimjjgaaGreatDoor
open Go.RowKit

theorem bitLen_spec : ∀ (n x : Nat), x ≤ n → x ≠ 0 → x < 2 ^ 64 → 1 ≤ Lib.bitLen x ∧ 2 ^ (Lib.bitLen x - 1) ≤ x ∧ x < 2 ^ Lib.bitLen x
  | 0, x, h, h0, _ => absurd (Nat.le_zero.1 h) h0
  | n + 1, x, h, h0, hx => by
    rw [Lib.bitLen_half x h0 hx]
    by_cases h1 : x / 2 = 0
    · have : x = 1 := by omega
      subst this
      decide
    · have ⟨i1, i2, i3⟩ := bitLen_spec n (x / 2) (by omega) h1 (by omega)
      refine ⟨by omega, ?_, ?_⟩
      · obtain ⟨k, hk⟩ : ∃ k, Lib.bitLen (x / 2) = k + 1 := ⟨Lib.bitLen (x / 2) - 1, by omega⟩
        rw [hk] at i2 ⊢
        rw [show 1 + (k + 1) - 1 = k + 1 by omega, Nat.pow_succ]
        rw [Nat.add_sub_cancel] at i2
        omega
      · rw [Nat.add_comm, Nat.pow_succ]; omega
theorem bitLen_le {x : Nat} (h0 : x ≠ 0) (hx : x < 2 ^ 64) : Lib.bitLen x ≤ 64 := by
  have ⟨_, h2, _⟩ := bitLen_spec x x (Nat.le_refl _) h0 hx
  rcases Nat.lt_or_ge 64 (Lib.bitLen x) with h | h
  · have : 2 ^ 64 ≤ 2 ^ (Lib.bitLen x - 1) := Nat.pow_le_pow_right (by omega) (by omega)
    omega
  · exact h

theorem wrap_nat {n : Nat} (h : n < 18446744073709551616) : IntKind.u64.wrap (n : Int) = n := by rw [IntKind.wrap_u64]; omega

theorem cast_pow2 (s : Nat) : ((2 ^ s : Nat) : Int) = (2 : Int) ^ s := by rw [Int.natCast_pow]; rfl

/-- the rest of a digit's step, as the walk reckons it -/
theorem step_rest {u d q Y r : Nat} (h : Y * q + r = u * 4294967296 + d) (hr : r < 18446744073709551616) :
    IntKind.u64.wrap (IntKind.u64.wrap (IntKind.u64.wrap ((u : Int) * 4294967296) + d) - IntKind.u64.wrap ((q : Int) * Y)) = r := by
  have h' : (q : Int) * Y + r = u * 4294967296 + d := by
    have := congrArg (fun n : Nat => (n : Int)) h
    simp only [Int.natCast_add, Int.natCast_mul] at this
    rw [Int.mul_comm]; exact this
  generalize (q : Int) * Y = C at *
  simp only [IntKind.wrap_u64]; omega

theorem rest_wrap {u a : Nat} (hu : u < 18446744073709551616) : IntKind.u64.wrap (u - IntKind.u64.wrap (((u / a : Nat) : Int) * a)) = (u % a : Nat) := by
  have h := Nat.div_add_mod u a
  rw [← Int.natCast_mul]
  have hm : u / a * a ≤ u := Nat.div_mul_le_self u a
  rw [wrap_nat (show u / a * a < _ by omega), IntKind.wrap_u64]
  rw [Nat.mul_comm] at h
  omega

theorem div64_nat (hi lo y : Nat) (w : World) (h1 : 1 ≤ hi) (hy : hi < y) (hL : lo < 18446744073709551616) (hY : y < 18446744073709551616) :
    Calls Tryz.prog 63 #[.int .u64 hi, .int .u64 lo, .int .u64 y] w fun e w' =>
      e = .returned (.tuple #[.int .u64 ((hi * 18446744073709551616 + lo) / y : Nat), .int .u64 ((hi * 18446744073709551616 + lo) % y : Nat)]) ∧ w' = w := by
  obtain ⟨hB1, hB2, hB3⟩ := bitLen_spec y y (Nat.le_refl _) (by omega) hY
  have hB4 := bitLen_le (x := y) (by omega) hY
  obtain ⟨s, hs⟩ : ∃ s, s = 64 - Lib.bitLen y := ⟨_, rfl⟩
  have hP : 0 < 2 ^ s := Nat.two_pow_pos s
  have hPP : 2 ^ (64 - s) * 2 ^ s = 18446744073709551616 := by rw [← Nat.pow_add, show 64 - s + s = 64 by omega]
  -- the divisor
  have hY1 : 9223372036854775808 ≤ y * 2 ^ s := by
    have : 2 ^ (Lib.bitLen y - 1) * 2 ^ s ≤ y * 2 ^ s := Nat.mul_le_mul_right _ hB2
    rw [← Nat.pow_add, show Lib.bitLen y - 1 + s = 63 by omega] at this
    omega
  have hY2 : y * 2 ^ s < 18446744073709551616 := by
    have : y * 2 ^ s < 2 ^ Lib.bitLen y * 2 ^ s := Nat.mul_lt_mul_of_pos_right hB3 hP
    rw [← Nat.pow_add, show Lib.bitLen y + s = 64 by omega] at this
    omega
  generalize hYe : y * 2 ^ s = Y at *
  have hhi : hi * 2 ^ s < 18446744073709551616 := by
    have : hi * 2 ^ s ≤ y * 2 ^ s := Nat.mul_le_mul_right _ (Nat.le_of_lt hy)
    omega
  have hlo : lo / 2 ^ (64 - s) < 2 ^ s := by
    rw [Nat.div_lt_iff_lt_mul (Nat.two_pow_pos _), Nat.mul_comm, hPP]; exact hL
  -- the dividend
  have hsplit : lo * 2 ^ s = lo / 2 ^ (64 - s) * 18446744073709551616 + lo * 2 ^ s % 18446744073709551616 := by
    have h := Nat.div_add_mod (lo * 2 ^ s) 18446744073709551616
    have e : lo * 2 ^ s / 18446744073709551616 = lo / 2 ^ (64 - s) := by
      rw [← hPP, Nat.mul_div_mul_right _ _ hP]
    rw [e] at h
    omega
  generalize hl : lo * 2 ^ s % 18446744073709551616 = l at *
  have hl2 : l < 18446744073709551616 := by rw [← hl]; exact Nat.mod_lt _ (by omega)
  obtain ⟨u, hu⟩ : ∃ u, u = hi * 2 ^ s + lo / 2 ^ (64 - s) := ⟨_, rfl⟩
  have hN : (hi * 18446744073709551616 + lo) * 2 ^ s = (u * 4294967296 + l / 4294967296) * 4294967296 + l % 4294967296 := by
    rw [Nat.add_mul, hsplit, hu]
    have : hi * 18446744073709551616 * 2 ^ s = hi * 2 ^ s * 18446744073709551616 := by rw [Nat.mul_right_comm]
    omega
  have huY : u < Y := by
    have h2 : (hi * 18446744073709551616 + lo) * 2 ^ s < Y * 18446744073709551616 := by
      have h3 : hi * 18446744073709551616 + lo < y * 18446744073709551616 := by omega
      have h4 := Nat.mul_lt_mul_of_pos_right h3 hP
      rw [Nat.mul_right_comm y, hYe] at h4
      exact h4
    omega
  have hl3 : l / 4294967296 < 4294967296 := by omega
  generalize hd1 : l / 4294967296 = d1 at *
  generalize hd0 : l % 4294967296 = d0 at *
  have hd0' : d0 < 4294967296 := by omega
  generalize ha : Y / 4294967296 = a at *
  generalize hb : Y % 4294967296 = b at *
  have hb' : b < 4294967296 := by omega
  have hYab : a * 4294967296 + b = Y := by omega
  have ha1 : 2147483648 ≤ a := by omega
  have ha2 : a < 4294967296 := by omega
  have hPar : Knuth.Par u d1 a b := ⟨by omega, hl3, ha1, ha2, hb'⟩
  obtain ⟨Q1, u2, Q0, r2, hQ1, hQ0, c1, c2, hu2, hr2, hq, hr⟩ := Knuth.digits hYe (by omega) hN
  rw [hq, hr]
  have hlt := Knuth.dig_lt hPar
  rw [hYab, ← hQ1] at hlt
  have hPar2 : Knuth.Par u2 d0 a b := ⟨by omega, hd0', ha1, ha2, hb'⟩
  have hlt2 := Knuth.dig_lt hPar2
  rw [hYab, ← hQ0] at hlt2
  obtain ⟨qh, rh, g1, g2, f1, m1, hD⟩ := Knuth.start hPar
  obtain ⟨qh2, rh2, g3, g4, f2, m2, hD2⟩ := Knuth.start hPar2
  have w1 := rest_wrap (u := u) (a := a) (by omega)
  have w2 := rest_wrap (u := u2) (a := a) (by omega)
  have v1 := (Int.natCast_ediv u a).symm
  have v2 := (Int.natCast_ediv u2 a).symm
  rw [← g1] at v1 w1
  rw [← g2] at w1
  rw [← g3] at v2 w2
  rw [← g4] at w2
  have s1 := step_rest c1 (by omega)
  have s2 := step_rest c2 (by omega)
  refine div64_high hi lo y s Y a b u l d1 d0 u2 qh rh qh2 rh2 _ _ Q1 Q0 w
    (by omega) (by omega) (by omega) (Lib.hid (by rw [Int.toNat_natCast]; omega)) (by omega)
    ?e1 (by omega) ?e3 ?e4 ?e5 (by omega) ?e7 v1 w1 (Lib.hid hD)
    s1 v2 w2 (Lib.hid hD2) ?e13 ?e14 (Lib.hid hPar) (Lib.hid hPar2) (Lib.hid (by rw [hYab]; exact hQ1)) (Lib.hid (by rw [hYab]; exact hQ0))
    (by omega) (by omega) (Lib.hid hb') (by omega) (by omega) (by omega) (by omega) (by omega) (by omega) (by omega) (by omega) (by omega)
  case e1 => rw [← cast_pow2, ← Int.natCast_mul, hYe]; exact wrap_nat hY2
  case e3 => rw [show (4294967295 : Int) = ((4294967295 : Nat) : Int) from rfl, bits_and_u64_nat _ _ hY2 (by omega), show (4294967295 : Nat) = 2 ^ 32 - 1 from rfl, Nat.and_two_pow_sub_one_eq_mod]; omega
  case e4 =>
    rw [← cast_pow2, ← cast_pow2, ← Int.natCast_mul, wrap_nat hhi, ← Int.natCast_ediv, bits_or_u64_nat _ _ hhi (by omega), hu, Nat.mul_comm hi, Nat.two_pow_add_eq_or_of_lt hlo]
  case e5 => rw [← cast_pow2, ← Int.natCast_mul, IntKind.wrap_u64]; omega
  case e7 => rw [show (4294967295 : Int) = ((4294967295 : Nat) : Int) from rfl, bits_and_u64_nat _ _ hl2 (by omega), show (4294967295 : Nat) = 2 ^ 32 - 1 from rfl, Nat.and_two_pow_sub_one_eq_mod]; omega
  case e13 => rw [IntKind.wrap_u64, IntKind.wrap_u64]; omega
  case e14 => rw [s2, ← cast_pow2, ← Int.natCast_ediv]
end Go.Proofs.YtaghhndcimjjgaaGreatDoor

/- Scale: of the program and of the reference: both return 'Sc.sc'. -/
namespace Go.Proofs.YtaghhndcimjjgaaGreatDoor
open Go.RowKit

theorem div64_any (hi lo y : Nat) (w : World) (hy : hi < y) (hL : lo < 18446744073709551616) (hY : y < 18446744073709551616) :
    Calls Tryz.prog 63 #[.int .u64 hi, .int .u64 lo, .int .u64 y] w fun e w' =>
      e = .returned (.tuple #[.int .u64 ((hi * 18446744073709551616 + lo) / y : Nat), .int .u64 ((hi * 18446744073709551616 + lo) % y : Nat)]) ∧ ∃ n, w' = w.drewN n := by
  by_cases h : hi = 0
  · subst h
    refine (div64_low lo y w (by omega) (by omega) (by omega)).mono ?_
    rintro e w' ⟨rfl, h⟩
    refine ⟨?_, h⟩
    simp only [Nat.zero_mul, Nat.zero_add, Int.natCast_ediv, Int.natCast_emod]
  · refine (div64_nat hi lo y w (by omega) hy hL hY).mono ?_
    rintro e w' ⟨rfl, rfl⟩
    exact ⟨rfl, 0, rfl⟩

/-- where a way of rounding stands in the table -/
def wayAt (how : Int) : Int := if 1 ≤ how ∧ how ≤ 5 then how - 1 else -1
def HasRow (w : World) (R : Nat) : Prop := ∀ j, j < 10 → w.cell? ⟨R, j, none⟩ = some (wayRow.getD j undef)
theorem HasRow.at {w w' : World} {R B : Nat} (h : HasRow w R) (hb : Below B w w') (hR : R < B) : HasRow w' R := fun j hj => (hb.cell (p := ⟨R, j, none⟩) hR).trans (h j hj)

set_option maxHeartbeats 400000 in
theorem index_any (R H : Nat) (how : Int) (w : World) (hr : HasRow w R) (hh : w.cell? ⟨H, 0, none⟩ = some (.int .i64 how)) (hR : R < w.heap.size) (hH : H < w.heap.size) :
    Calls Tryz.prog 60 #[.slice (some ⟨R, 0, none⟩) 5 5, .func (.func 61) #[] #[.pointer (some ⟨H, 0, none⟩)]] w fun e w' => e = .returned (.int .i64 (wayAt how)) ∧ Below w.heap.size w w' := by
  go_enter Tryz.func60, Tryz.ntmps60
  go_wp2_with fail
  go_loopw [8] (fun i wr => ∃ k : Nat, k ≤ 5 ∧ i = .int .i64 k ∧ (∀ j : Nat, j < k → (j : Int) + 1 ≠ how) ∧ Below w.heap.size w wr) (fun i _ => 5 - (intOf i).toNat)
  case atStart => exact ⟨0, by omega, rfl, fun j hj => by omega, Below.refl _ _⟩
  case round =>
    obtain ⟨k, hk, rfl, hno, hb⟩ := hrel
    have Hno := Lib.hid hno
    clear hno
    by_cases h5 : k = 5
    · subst h5
      go_wp2
      go_ret
      refine ⟨ret_int ?_, hb⟩
      unfold wayAt; rw [if_neg]
      intro ⟨h1, h2⟩
      exact Hno.out (how - 1).toNat (by omega) (by omega)
    · have hr' := hr.at hb hR
      have hh' := (hb.cell (p := ⟨H, 0, none⟩) hH).trans hh
      have hsz := hb.size
      have c0 := hr' (k * 2) (by omega)
      have c1 := hr' (k * 2 + 1) (by omega)
      clear hr' hr
      obtain ⟨f, e0, e1⟩ : ∃ f, wayRow.getD (k * 2) undef = .int .i64 ((k : Int) + 1) ∧ wayRow.getD (k * 2 + 1) undef = fnv f := by
        rcases (show k = 0 ∨ k = 1 ∨ k = 2 ∨ k = 3 ∨ k = 4 by omega) with rfl | rfl | rfl | rfl | rfl
        all_goals exact ⟨_, rfl, rfl⟩
      rw [e0] at c0; rw [e1] at c1
      unfold fnv at c1
      clear e0 e1
      go_wp2_with fail
      refine (has_any _ how _ _ wr hh' (by exact Nat.lt_of_lt_of_le hH hsz)).mono ?_
      rintro e w1 ⟨rfl, hb1⟩
      have hb2 := hb.trans (hb1.mono hsz)
      by_cases hd : (k : Int) + 1 = how
      · have hd' : ((k : Int) + 1 == how) = true := by simpa using hd
        have Hd := Lib.hid hd
        clear hd
        go_wp2
        go_ret
        refine ⟨ret_int ?_, hb2⟩
        have := Hd.out
        unfold wayAt; rw [if_pos (by omega)]; show (k : Int) = _; omega
      · have hd' : ((k : Int) + 1 == how) = false := by simpa using hd
        have Hd := Lib.hid hd
        clear hd
        go_wp2
        go_roundw
        case rel =>
          refine ⟨k + 1, by omega, by go_num, fun j hj => ?_, hb2⟩
          rcases Nat.lt_or_ge j k with h | h
          · exact Hno.out j h
          · rw [show j = k by omega]; exact Hd.out
        case measure => simp [intOf]; omega

/-- what the functions of the table return -/
def wayF (how : Int) (b : Bool) (q h : Int) : Bool :=
  if how = 1 then b else if how = 2 then !b else if how = 3 then false else if how = 4 then decide (0 < h) || (h == 0 && !b) else decide (0 < h) || (h == 0 && (q % 2 == 1))
theorem wayF_away (how : Int) (b : Bool) (q r d : Nat) : wayF how b q (cmpF r ((d : Int) - r)) = Sc.away how b q r d := by
  have e1 : (0 < cmpF (r : Int) ((d : Int) - r)) ↔ d < 2 * r := by unfold cmpF; split <;> (try split) <;> omega
  have e2 : (cmpF (r : Int) ((d : Int) - r) = 0) ↔ 2 * r = d := by unfold cmpF; split <;> (try split) <;> omega
  have e3 : ((q : Int) % 2 = 1) ↔ q % 2 = 1 := by omega
  have e4 : (cmpF (r : Int) ((d : Int) - r) == 0) = decide (2 * r = d) := by rw [Bool.eq_iff_iff, beq_iff_eq, decide_eq_true_eq]; exact e2
  have e5 : ((q : Int) % 2 == 1) = decide (q % 2 = 1) := by rw [Bool.eq_iff_iff, beq_iff_eq, decide_eq_true_eq]; exact e3
  unfold wayF Sc.away
  rw [decide_eq_decide.2 e1, e4, e5]
theorem way_any (k : Nat) (hk : k < 5) : ∃ f, wayRow.getD (k * 2) undef = .int .i64 ((k : Int) + 1) ∧ wayRow.getD (k * 2 + 1) undef = fnv f ∧ (∀ args w, Sem.run Tryz.prog (callFunc f args) w = .ok (.enter f args) w) ∧
    ∀ (b : Bool) (q h : Int) (w : World), 0 ≤ q → Calls Tryz.prog f #[.bool b, .int .u64 q, .int .i64 h] w fun e w' => e = .returned (.bool (wayF ((k : Int) + 1) b q h)) ∧ w = w' := by
  rcases (show k = 0 ∨ k = 1 ∨ k = 2 ∨ k = 3 ∨ k = 4 by omega) with rfl | rfl | rfl | rfl | rfl
  · exact ⟨_, rfl, rfl, fun _ _ => by kernel_rfl, fun b q h w _ => way1 b q h w⟩
  · exact ⟨_, rfl, rfl, fun _ _ => by kernel_rfl, fun b q h w _ => way2 b q h w⟩
  · exact ⟨_, rfl, rfl, fun _ _ => by kernel_rfl, fun b q h w _ => way3 b q h w⟩
  · exact ⟨_, rfl, rfl, fun _ _ => by kernel_rfl, fun b q h w _ => way4 b q h w⟩
  · exact ⟨_, rfl, rfl, fun _ _ => by kernel_rfl, fun b q h w hq => way5 b q h w hq⟩
theorem quiet_eq {P : Program} {f : FuncId} {args : Array Value} {w : World} {n : Nat} {v : Value}
    (h : Calls P f args (w.drewN n) fun e w' => e = .returned v ∧ w.drewN n = w') : Calls P f args (w.drewN n) fun e w'' => e = .returned v ∧ ∃ m, w'' = w.drewN m :=
  h.mono fun _ _ ⟨he, hm⟩ => ⟨he, n, hm.symm⟩
theorem below_drewN {B : Nat} {a w : World} (h : Below B a w) (n : Nat) : Below B a (w.drewN n) := h.trans ⟨rfl, rfl, rfl, Nat.le_refl _, fun _ _ => rfl⟩
end Go.Proofs.YtaghhndcimjjgaaGreatDoor

/- Small lemmas on memory: what a world keeps. -/
namespace Go.Proofs.YtaghhndcimjjgaaGreatDoor
open Go.RowKit

theorem below_cell {w w' : World} {p : Addr} {v : Value} (hb : Below w.heap.size w w') (h : w.cell? p = some v) : w'.cell? p = some v :=
  (hb.cell (World.block_lt_of_cell? w p h)).trans h
theorem below_al (w : World) (o : Obj) : Below w.heap.size w (w.alloc o) := (Below.refl _ _).alloc (Nat.le_refl _) _
theorem below_ad (w : World) (o : Obj) (n : Nat) : Below w.heap.size w ((w.alloc o).drewN n) := below_drewN (below_al w o) n
/-- two steps, each of which keeps all that was there -/
theorem below_tr {B : Nat} {a b c : World} (h : Below B a b) (hB : B ≤ b.heap.size) (k : Below b.heap.size b c) : Below B a c := h.trans (k.mono hB)
theorem below_step {a b c : World} (h : Below a.heap.size a b) (k : Below b.heap.size b c) : Below a.heap.size a c := h.trans (k.mono h.size)
end Go.Proofs.YtaghhndcimjjgaaGreatDoor

/- A region that draws its order, whose operations only read, but whose callees may make memory: one walk in the order of the text (the kit's law wp_region_quiet at the class 'all that was there is as it was'). -/
namespace Go.Proofs.YtaghhndcimjjgaaGreatDoor
open Go.RowKit Go.BigFrame

/-- a world in which all that was there is as it was -/
def Ext (W : World) : Type := { w : World // Below W.heap.size W w }
instance (W : World) : Nonempty (Ext W) := ⟨⟨W, Below.refl _ _⟩⟩
theorem Ext.ex {W : World} {p : Addr} {v : Value} (h : W.cell? p = some v) : ∀ X : Ext W, X.1.cell? p = some v := fun X => below_cell X.2 h
theorem Ext.exa {W : World} {p : Addr} {v : Value} (e : ∀ X : Ext W, X.1.cell? p = some v) : ∀ (X : Ext W) (o : Obj), (X.1.alloc o).cell? p = some v := fun X o => below_cell (below_al _ o) (e X)
theorem Ext.calls {P : Program} {W : World} {f : FuncId} {args : Array Value} {v : Value} (X : Ext W) (h : Calls P f args X.1 fun e w' => e = .returned v ∧ Below X.1.heap.size X.1 w') : Calls P f args X.1 fun e w'' => e = .returned v ∧ ∃ Y : Ext W, w'' = Y.1 :=
  h.mono fun _ w'' ⟨he, hb⟩ => ⟨he, ⟨w'', below_step X.2 hb⟩, rfl⟩
theorem Ext.same {P : Program} {W : World} {f : FuncId} {args : Array Value} {v : Value} (X : Ext W) (h : Calls P f args X.1 fun e w' => e = .returned v ∧ X.1 = w') : Calls P f args X.1 fun e w'' => e = .returned v ∧ ∃ Y : Ext W, w'' = Y.1 :=
  h.mono fun _ _ ⟨he, hb⟩ => ⟨he, X, hb.symm⟩
theorem wp_region_ext {P : Program} {id : Nat} {Q : Exit → Act → World → Prop} {a : Act} {W : World} (X : Ext W) {l : List Oper} (hm : P.follows .mixedOrders = true) (hB : Region.lexB .any l.toArray = true)
    (h : wpQuiet P l.toArray (fun w' => ∃ Y : Ext W, w' = Y.1) (fun a' => ∀ w', (∃ Y : Ext W, w' = Y.1) → Q .normal a' w') l a) : (Code.region id l.toArray true).wp P Q a X.1 :=
  wp_region_quiet (C := fun w' => ∃ Y : Ext W, w' = Y.1) hm hB ⟨⟨{ X.1 with drawn := X.1.drawn + 1 }, below_step X.2 ⟨rfl, rfl, rfl, Nat.le_refl _, fun _ _ => rfl⟩⟩, rfl⟩ (by simpa using h)
/-- the world behind an allocation of cells, under one name -/
theorem alloc_cells (w : World) (cs : Array Value) (T : TypeId) : ∃ W, w.alloc (.cells cs T) = W ∧ Below w.heap.size w W ∧ W.heap.size = w.heap.size + 1 ∧ ∀ i v, cs[i]? = some v → W.cell? ⟨w.heap.size, i, none⟩ = some v :=
  ⟨_, rfl, below_al _ _, by simp, fun i v h => by rw [World.cell?_alloc_at _ _ _ _ rfl, h]⟩
/-- go on in an arbitrary later world -/
theorem ext_wp {P : Program} {c : Code} {Q : Exit → Act → World → Prop} {a : Act} {W : World} (h : ∀ X : Ext W, c.wp P Q a X.1) : c.wp P Q a W := h ⟨W, Below.refl _ _⟩
theorem ext_calls {P : Program} {f : FuncId} {args : Array Value} {R : Ending → World → Prop} {W : World} (h : ∀ X : Ext W, Calls P f args X.1 R) : Calls P f args W R := h ⟨W, Below.refl _ _⟩
theorem Ext.down {W : World} (X : Ext W) {B : Nat} {w : World} (h : Below B w W) (hB : B ≤ W.heap.size) : Below B w X.1 := h.trans (X.2.mono hB)
/-- a later base -/
theorem Ext.re {W W' : World} (h : Below W.heap.size W W') {p : Addr} {v : Value} (e : ∀ X : Ext W, X.1.cell? p = some v) : ∀ X : Ext W', X.1.cell? p = some v := fun X => e ⟨X.1, below_step h X.2⟩
end Go.Proofs.YtaghhndcimjjgaaGreatDoor

/- Slices of structs of one-cell fields that came in: how they read (any program). -/
namespace Go.Proofs.YtaghhndcimjjgaaGreatDoor
open Go.RowKit Go.ChangeShapes Go.WideShapes Go.Deep

/-- a slice of structs of k one-cell fields, as it lies in memory: element i has the cells V i -/
structure RowK (w : World) (a : Option Addr) (len k : Nat) (V : Nat → List Value) : Prop where
  here : 0 < len → ∃ b off, a = some ⟨b, off, none⟩ ∧ b < w.heap.size ∧ ∀ i, i < len → ∀ j, j < k → w.cell? ⟨b, off + i * k + j, none⟩ = (V i)[j]?
theorem RowK.below {w w' : World} {a : Option Addr} {len k B : Nat} {V : Nat → List Value} (h : RowK w a len k V) (hb : Below B w w') (hB : w.heap.size ≤ B) : RowK w' a len k V := by
  refine ⟨fun hl => ?_⟩
  obtain ⟨b, off, rfl, hlt, hc⟩ := h.here hl
  exact ⟨b, off, rfl, Nat.lt_of_lt_of_le hlt hb.size, fun i hi j hj => (hb.cell (p := ⟨b, off + i * k + j, none⟩) (Nat.lt_of_lt_of_le hlt hB)).trans (hc i hi j hj)⟩

theorem RowK.at {w : World} {b off len k : Nat} {V : Nat → List Value} (h : RowK w (some ⟨b, off, none⟩) len k V) {i j : Nat} (hi : i < len) (hj : j < k) : w.cell? ⟨b, off + i * k + j, none⟩ = (V i)[j]? := by
  obtain ⟨b', off', he, _, hc⟩ := h.here (by omega)
  injection he with he
  injection he with h1 h2
  subst h1
  subst h2
  exact hc i hi j hj

section
variable {H : Type} {enc : TypeId × Value → H} {P : Program} {w : World} {base : Nat}
theorem open_rowK {t e : TypeId} {fs : Array Field} {fuel : Nat} {v : Value} {x : DataW H × List MemPlace} (ht : P.underlying t = some (.slice e)) (he : P.underlying e = some (.struct fs)) (hC : P.cellsOf e = fs.size) (hfs : 0 < fs.size)
    (hone : ∀ (i : Nat) (f : Field), fs[i]? = some f → f.offset = i ∧ P.cellsOf f.type = 1) (h : DataW.trod enc P w base (fun _ => true) true fuel t [v] = some x) :
    ∃ (a : Option Addr) (len cap : Nat) (V : Nat → List Value), v = .slice a len cap ∧ len ≤ cap ∧ cap ≤ maxLen ∧ RowK w a len fs.size V ∧
      ∀ i, i < len → (V i).length = fs.size ∧ ∀ (j : Nat) (f : Field), fs[j]? = some f → ∃ u n y, (V i)[j]? = some u ∧ DataW.trod enc P w base (fun _ => true) true n f.type [u] = some y := by
  rcases open_slice ht h with ⟨hc, _⟩ | ⟨a, len, cap, m, n, D, Pl, hc, _, hl, hm, hmm, _, hx⟩
  · simp only [List.cons.injEq, and_true] at hc
    exact ⟨none, 0, 0, fun _ => [], hc, Nat.le_refl _, Nat.zero_le _, ⟨fun h => absurd h (by omega)⟩, fun i hi => absurd hi (by omega)⟩
  · simp only [List.cons.injEq, and_true] at hc
    simp only [if_true] at hmm
    subst hmm
    have each : ∀ i, i < m → ∃ cs : List Value, cs.length = fs.size ∧ (∀ j, j < fs.size → w.cell? (a.add (i * fs.size + j)) = cs[j]?) ∧ ∀ (j : Nat) (f : Field), fs[j]? = some f → ∃ u n y, cs[j]? = some u ∧ DataW.trod enc P w base (fun _ => true) true n f.type [u] = some y := by
      intro i hi
      obtain ⟨cs, h1, h2⟩ := hx i hi
      rw [hC] at h1
      obtain ⟨_, hlen, hcell⟩ := World.cells?_some h1
      obtain ⟨xs, k, _, _, _, hxl, hf⟩ := DataW.trod_struct he h2
      refine ⟨cs, hlen, fun j hj => by rw [← add_add]; exact hcell j (by omega), fun j f hj => ?_⟩
      obtain ⟨o1, o2⟩ := hone j f hj
      have g := hf j f hj
      rw [o1, o2] at g
      have hjl : j < cs.length := by
        rw [hlen]
        exact (Array.getElem?_eq_some_iff.1 hj).1
      have hjx : j < xs.length := by rw [hxl]; rw [hlen] at hjl; exact hjl
      have e1 : (cs.drop j).take 1 = [cs[j]] := by rw [List.drop_eq_getElem_cons hjl]; rfl
      rw [e1, List.getElem?_eq_getElem hjx] at g
      exact ⟨cs[j], k, xs[j], List.getElem?_eq_getElem hjl, g⟩
    obtain ⟨V, hV⟩ := choose_lt each
    refine ⟨some a, len, m, V, hc, hl, hm, ⟨fun hl0 => ?_⟩, fun i hi => ⟨(hV i (by omega)).1, (hV i (by omega)).2.2⟩⟩
    obtain ⟨b, o, sp⟩ := a
    have hc0 : ∃ u, w.cell? ((⟨b, o, sp⟩ : Addr).add (0 * fs.size + 0)) = some u := by
      obtain ⟨g1, g2, g3⟩ := hV 0 (by omega)
      exact ⟨(V 0)[0]'(by omega), by rw [g2 0 hfs, List.getElem?_eq_getElem]⟩
    obtain ⟨u, hu⟩ := hc0
    have hspot : sp = none := by simpa [Addr.add] using World.cell?_spot hu
    subst hspot
    rw [Nat.zero_mul, add_plain] at hu
    refine ⟨b, o, rfl, World.block_lt_of_cell? w _ hu, fun i hi j hj => ?_⟩
    have := (hV i (by omega)).2.1 j hj
    rw [add_plain, ← Nat.add_assoc] at this
    exact this
end
end Go.Proofs.YtaghhndcimjjgaaGreatDoor

/- Worlds in which all that was there is as it was, but for some blocks of the call's own; and drawn regions walked in an order of one's own: quiet operations as soon as they may come up, the others one by one. -/
namespace Go.Proofs.YtaghhndcimjjgaaGreatDoor
open Go.RowKit Go.BigFrame

/-- all blocks but those in O are as they were -/
structure Kept (O : Nat → Prop) (w w' : World) : Prop where
  os : w'.os = w.os
  tape : w'.tape = w.tape
  output : w'.output = w.output
  size : w.heap.size ≤ w'.heap.size
  block : ∀ k, k < w.heap.size → ¬ O k → w'.heap[k]? = w.heap[k]?
theorem Kept.refl (O : Nat → Prop) (w : World) : Kept O w w := ⟨rfl, rfl, rfl, Nat.le_refl _, fun _ _ _ => rfl⟩
theorem Kept.trans {O : Nat → Prop} {a b c : World} (h : Kept O a b) (k : Kept O b c) : Kept O a c :=
  ⟨k.os.trans h.os, k.tape.trans h.tape, k.output.trans h.output, Nat.le_trans h.size k.size, fun i hi ho => (k.block i (Nat.lt_of_lt_of_le hi h.size) ho).trans (h.block i hi ho)⟩
theorem Kept.of_below {O : Nat → Prop} {a b : World} (h : Below a.heap.size a b) : Kept O a b := ⟨h.os, h.tape, h.output, h.size, fun k hk _ => h.block k hk⟩
theorem Kept.of_grown {O : Nat → Prop} {a b : World} {row : Option Nat} (h : a.grownBy b row) (hr : ∀ g, row = some g → g < a.heap.size → O g) : Kept O a b :=
  ⟨h.os, h.tape, h.output, h.size, fun k hk ho => h.block k hk (fun e => ho (hr k e.symm hk))⟩
theorem Kept.cell {O : Nat → Prop} {w w' : World} {p : Addr} {v : Value} (h : Kept O w w') (ho : ¬ O p.block) (hc : w.cell? p = some v) : w'.cell? p = some v :=
  (World.cell?_of_block (h.block p.block (World.block_lt_of_cell? w p hc) ho)).trans hc
theorem Kept.grown {O : Nat → Prop} {a b c : World} (h : Kept O a b) {row : Option Nat} (hg : b.grownBy c row) (hr : ∀ g, row = some g → g < a.heap.size → O g) : Kept O a c :=
  ⟨hg.os.trans h.os, hg.tape.trans h.tape, hg.output.trans h.output, Nat.le_trans h.size hg.size, fun k hk ho => (hg.block k (Nat.lt_of_lt_of_le hk h.size) (fun e => ho (hr k e.symm hk))).trans (h.block k hk ho)⟩
/-- below the base of the call, nothing has turned -/
theorem Kept.below {O : Nat → Prop} {B : Nat} {w a b : World} (hb : Below B w a) (h : Kept O a b) (hB : B ≤ a.heap.size) (hO : ∀ k, k < B → ¬ O k) : Below B w b :=
  hb.trans ⟨h.os, h.tape, h.output, h.size, fun k hk => h.block k (Nat.lt_of_lt_of_le hk hB) (hO k hk)⟩
theorem Kept.row {O : Nat → Prop} {w w' : World} {a : Option Addr} {len k : Nat} {V : Nat → List Value} (h : RowK w a len k V) (hk : Kept O w w') (hO : ∀ b off, a = some ⟨b, off, none⟩ → ¬ O b) : RowK w' a len k V := by
  refine ⟨fun hl => ?_⟩
  obtain ⟨b, off, rfl, hlt, hc⟩ := h.here hl
  exact ⟨b, off, rfl, Nat.lt_of_lt_of_le hlt hk.size, fun i hi j hj => (World.cell?_of_block (hk.block b hlt (hO _ _ rfl))).trans (hc i hi j hj)⟩
def ExtO (O : Nat → Prop) (W : World) : Type := { w : World // Kept O W w }
instance (O : Nat → Prop) (W : World) : Nonempty (ExtO O W) := ⟨⟨W, Kept.refl _ _⟩⟩
section
variable {O : Nat → Prop} {W : World}
theorem ExtO.ex {p : Addr} {v : Value} (ho : ¬ O p.block) (h : W.cell? p = some v) : ∀ X : ExtO O W, X.1.cell? p = some v := fun X => X.2.cell ho h
theorem ExtO.exa {p : Addr} {v : Value} (e : ∀ X : ExtO O W, X.1.cell? p = some v) : ∀ (X : ExtO O W) (o : Obj), (X.1.alloc o).cell? p = some v := fun X o => below_cell (below_al _ o) (e X)
theorem ExtO.re {W' : World} (h : Kept O W W') {p : Addr} {v : Value} (e : ∀ X : ExtO O W, X.1.cell? p = some v) : ∀ X : ExtO O W', X.1.cell? p = some v := fun X => e ⟨X.1, h.trans X.2⟩
theorem ExtO.calls {P : Program} {f : FuncId} {args : Array Value} {v : Value} (X : ExtO O W) (h : Calls P f args X.1 fun e w' => e = .returned v ∧ Below X.1.heap.size X.1 w') : Calls P f args X.1 fun e w'' => e = .returned v ∧ ∃ Y : ExtO O W, w'' = Y.1 :=
  h.mono fun _ w' ⟨he, hb⟩ => ⟨he, ⟨w', X.2.trans (Kept.of_below hb)⟩, rfl⟩
theorem ExtO.same {P : Program} {f : FuncId} {args : Array Value} {v : Value} (X : ExtO O W) (h : Calls P f args X.1 fun e w' => e = .returned v ∧ X.1 = w') : Calls P f args X.1 fun e w'' => e = .returned v ∧ ∃ Y : ExtO O W, w'' = Y.1 :=
  h.mono fun _ _ ⟨he, hb⟩ => ⟨he, X, hb.symm⟩
/-- go on in an arbitrary later world -/
theorem extO_wp {P : Program} {c : Code} {Q : Exit → Act → World → Prop} {a : Act} (h : ∀ X : ExtO O W, c.wp P Q a X.1) : c.wp P Q a W := h ⟨W, Kept.refl _ _⟩
theorem extO_calls {P : Program} {f : FuncId} {args : Array Value} {R : Ending → World → Prop} (h : ∀ X : ExtO O W, Calls P f args X.1 R) : Calls P f args W R := h ⟨W, Kept.refl _ _⟩
theorem ExtO.down (X : ExtO O W) {B : Nat} {w : World} (h : Below B w W) (hB : B ≤ W.heap.size) (hO : ∀ k, k < B → ¬ O k) : Below B w X.1 := Kept.below h X.2 hB hO
theorem wp_region_extO {P : Program} {id : Nat} {Q : Exit → Act → World → Prop} {a : Act} (X : ExtO O W) {l : List Oper} (hm : P.follows .mixedOrders = true) (hB : Region.lexB .any l.toArray = true)
    (h : wpQuiet P l.toArray (fun w' => ∃ Y : ExtO O W, w' = Y.1) (fun a' => ∀ w', (∃ Y : ExtO O W, w' = Y.1) → Q .normal a' w') l a) : (Code.region id l.toArray true).wp P Q a X.1 :=
  wp_region_quiet (C := fun w' => ∃ Y : ExtO O W, w' = Y.1) hm hB ⟨⟨{ X.1 with drawn := X.1.drawn + 1 }, X.2.trans ⟨rfl, rfl, rfl, Nat.le_refl _, fun _ _ _ => rfl⟩⟩, rfl⟩ (by simpa using h)
end

/-- operations that yield a value and do nothing else -/
def isCalm : Op → Bool
  | .move _ | .assign _ | .pick .. | .build .. | .load .. | .binOp .. | .unOp .. | .fieldAddr .. | .field .. | .indexAddr .. | .index .. | .lookup .. | .extract .. | .slice .. => true
  | _ => false
theorem run_val {α : Type} {P : Program} {s : Sem α} (f : α → Value) {w w' : World} {n : Next} (h : (do pure (Next.value (f (← s))) : Sem Next).run P w = .ok n w') : ∃ x, n = .value x := by
  rw [Sem.run_bind] at h
  cases hs : s.run P w with
  | ok x w1 => rw [hs] at h; simp at h; exact ⟨f x, h.1.symm⟩
  | halt e w1 => rw [hs] at h; simp at h
theorem calm_value {P : Program} {o : Oper} {ρ : Operand → Value} {w w' : World} {n : Next} (hc : isCalm o.op = true) (h : (execOp ρ o).run P w = .ok n w') : ∃ x, n = .value x := by
  obtain ⟨dst, op, type, pos, after, guard⟩ := o
  cases op <;> first | (simp [isCalm] at hc; done) | (simp only [execOp] at h; first | exact run_val (fun x => x) h | exact run_val (fun b : Bool => if b then _ else _) h | (simp at h; exact ⟨_, h.1.symm⟩))
section
variable {P : Program} {ops : Array Oper} {Q : Exit → Act → World → Prop} {C : World → Prop}
theorem yieldsIf_of_quiet {o : Oper} {a : Act} {v : Value} (hc : isCalm o.op = true) (hw : Region.wanted o (yielded ops a.tmps) = true) (h : ∀ w, C w → o.quietAt P a C w v) : YieldsIf P ops C o v a := by
  refine Or.inl ⟨hw, fun w hC => ?_⟩
  have h1 := h w hC
  unfold Oper.quietAt at h1
  cases hr : (execOp a.eval o).run P w with
  | ok n w' =>
    rw [hr] at h1
    obtain ⟨x, rfl⟩ := calm_value hc hr
    simp only [Oper.quietUpon] at h1
    rw [h1.1, h1.2]
  | halt e w' => rw [hr] at h1; simp [Oper.quietUpon] at h1
/-- may these come up now, one behind the other, and is each apart from all that could come before it? -/
def calmB (ops : Array Oper) : List Nat → Array Bool → Bool
  | [], _ => true
  | i :: is, listed => ((ops[i]?).map fun o => isCalm o.op).getD false && Region.free .any ops listed i && (Region.ready .any ops listed).contains i && calmB ops is (listed.setIfInBounds i true)
def listAll (is : List Nat) (listed : Array Bool) : Array Bool := is.foldl (fun l i => l.setIfInBounds i true) listed
theorem held_calm (hsel : Region.noSelect ops = true) (hQ : ∀ c a d v w, Q (.panic c) (Act.put a d v) w → Q (.panic c) a w) {w : World} (hC : C w) : ∀ (is : List Nat) (fuel : Nat) (listed : Array Bool) (a : Act),
    calmB ops is listed = true → wpQuiet P ops C (fun a' => wpAnyH P .any ops Q C fuel (listAll is listed) a' w) (is.filterMap fun i => ops[i]?) a → wpAnyH P .any ops Q C (fuel + is.length) listed a w
  | [], _, _, _, _, h => h
  | i :: is, fuel, listed, a, hB, h => by
    simp only [calmB, Bool.and_eq_true] at hB
    obtain ⟨⟨⟨h1, h2⟩, h3⟩, h4⟩ := hB
    cases ho : ops[i]? with
    | none => rw [ho] at h1; simp at h1
    | some o =>
      rw [ho] at h1
      simp only [Option.map_some, Option.getD_some] at h1
      rw [List.filterMap_cons, ho] at h
      simp only [wpQuiet] at h
      have e : fuel + (i :: is).length = (fuel + is.length) + 1 := by simp; omega
      rw [e]
      by_cases hw : Region.wanted o (yielded ops a.tmps) = true
      · rw [if_pos hw] at h
        obtain ⟨v, hv, hn⟩ := h
        exact wpAnyH_take ho hsel h2 h3 (fun c a w => hQ c a _ _ w) (yieldsIf_of_quiet h1 hw hv) hC (held_calm hsel hQ hC is fuel _ _ h4 hn)
      · rw [if_neg hw] at h
        exact wpAnyH_take ho hsel h2 h3 (fun c a w => hQ c a _ _ w) (Or.inr ⟨by simpa using hw, rfl⟩) hC (held_calm hsel hQ hC is fuel _ _ h4 h)
/-- the i-th of a list, by looking -/
def nth : List Oper → Nat → Option Oper
  | [], _ => none
  | o :: _, 0 => some o
  | _ :: l, i + 1 => nth l i
theorem nth_eq : ∀ (l : List Oper) (i : Nat), nth l i = l.toArray[i]?
  | [], i => by simp [nth]
  | o :: l, 0 => by simp [nth]
  | o :: l, i + 1 => by
    rw [nth, nth_eq l i]
    simp
theorem held_quiet {l : List Oper} (hsel : Region.noSelect l.toArray = true) (hQ : ∀ c a d v w, Q (.panic c) (Act.put a d v) w → Q (.panic c) a w) {w : World} (hC : C w) (is : List Nat) (fuel : Nat) (listed : Array Bool) (a : Act)
    (hB : calmB l.toArray is listed = true) (h : wpQuiet P l.toArray C (fun a' => wpAnyH P .any l.toArray Q C fuel (listAll is listed) a' w) (is.filterMap (nth l)) a) : wpAnyH P .any l.toArray Q C (fuel + is.length) listed a w :=
  held_calm hsel hQ hC is fuel listed a hB (by rw [show (fun i => l.toArray[i]?) = nth l from funext fun i => (nth_eq l i).symm]; exact h)
/-- one operation that alone may come up -/
theorem held_do {l : List Oper} {i fuel : Nat} {listed : Array Bool} {a : Act} {w : World} (o : Oper) (hi : nth l i = some o) (hr : Region.ready .any l.toArray listed = [i]) (hw : Region.wanted o (yielded l.toArray a.tmps) = true)
    (h : ∀ K : Act → World → Prop, (∀ a' w', C w' → wpAnyH P .any l.toArray Q C fuel (listed.setIfInBounds i true) a' w' → K a' w') → o.wp P a w K Q) : wpAnyH P .any l.toArray Q C (fuel + 1) listed a w := by
  rw [nth_eq] at hi
  refine wpAnyH_all hr (by simp) fun j hj => ?_
  simp only [List.mem_singleton] at hj
  subst hj
  unfold wpOp
  simp only [hi, hw, if_true]
  exact Or.inl (h _ fun a' w' h1 h2 => ⟨h1, h2⟩)
theorem held_start {id : Nat} {a : Act} {w : World} {l : List Oper} (hm : P.follows .mixedOrders = true)
    (h : wpAnyH P .any l.toArray Q C l.length (Array.replicate l.length false) a { w with drawn := w.drawn + 1 }) : (Code.region id l.toArray true).wp P Q a w :=
  wp_region_held hm (by simpa using h)
end
end Go.Proofs.YtaghhndcimjjgaaGreatDoor

/- What stays of the library's variables; numbers as texts and back (contracts). -/
namespace Go.Proofs.YtaghhndcimjjgaaGreatDoor
open Go.RowKit Go.BigFrame
open Rd (sB sB_inj bt itoaB padB zeroB DigRow)

/-- what the variables of the library hold -/
structure Glo (w : World) : Prop where
  t : Lib.TabIs Tryz.prog w "internal/strconv.uint64pow10" .u64 Lib.pow10Tab
  s : ∃ tp p, w.var? Tryz.prog "strconv.ErrSyntax" = some #[.iface tp p]
  r : ∃ tp p, w.var? Tryz.prog "strconv.ErrRange" = some #[.iface tp p]
theorem var_below {w w' : World} {nm : String} {cs : Array Value} (h : w.var? Tryz.prog nm = some cs) (hb : Below w.heap.size w w') : w'.var? Tryz.prog nm = some cs := by
  unfold World.var? at h ⊢
  cases hg : Tryz.prog.globalNamed nm with
  | none => rw [hg] at h; cases h
  | some g =>
    rw [hg] at h
    simp only [Option.bind_some] at h ⊢
    have hl : g < w.heap.size := by
      rcases Nat.lt_or_ge g w.heap.size with h' | h'
      · exact h'
      · rw [Array.getElem?_eq_none h'] at h
        cases h
    rw [hb.block g hl]
    exact h
theorem Glo.below {w w' : World} (h : Glo w) (hb : Below w.heap.size w w') : Glo w' := by
  obtain ⟨t1, p1, h1⟩ := h.s
  obtain ⟨t2, p2, h2⟩ := h.r
  exact ⟨var_below h.t hb, ⟨t1, p1, var_below h1 hb⟩, ⟨t2, p2, var_below h2 hb⟩⟩
theorem below_grow (w : World) (k : Nat) (os : Array Obj) : Below w.heap.size w (Go.Sort.grow (w.drewN k) os) := by
  refine ⟨rfl, rfl, rfl, ?_, ?_⟩
  · simp [Go.Sort.grow]
  · intro i hi
    simp only [Go.Sort.grow, World.drewN]
    exact Array.getElem?_append_left hi
theorem itoa_any (n : Int) (h0 : -9223372036854775808 ≤ n) (h1 : n ≤ 9223372036854775807) (w : World) (hg : Glo w) :
    Calls Tryz.prog 34 #[.int .i64 n] w fun e w' => e = .returned (.string (itoaB n)) ∧ Below w.heap.size w w' := by
  refine (Tryz.strconv_Itoa n h0 h1 w hg.t).mono ?_
  rintro e w' ⟨rfl, k, os, rfl⟩
  exact ⟨rfl, below_grow w k os⟩
/-- Atoi at every text that is not too long -/
theorem atoi_every (s : ByteArray) (hs : s.size ≤ 1000000) (w : World) (hg : Glo w) :
    Calls Tryz.prog 84 #[.string s] w fun e w' => ∃ (n : Int) (ev : Value), e = .returned (.tuple #[.int .i64 n, ev]) ∧ Below w.heap.size w w' ∧ -9223372036854775808 ≤ n ∧ n ≤ 9223372036854775807 ∧ (∀ v, Lib.atoiAll (sB s) = .ok v → n = v) := by
  cases h : Lib.atoiAll s.data.toList
  case ok v =>
    have hb := Lib.atoiAll_bounds h
    refine (Tryz.strconv_Atoi_ok s (by omega) v h w).mono ?_
    rintro e w' ⟨rfl, hw⟩
    refine ⟨v, _, rfl, ?_, by omega, by omega, fun v' e => by rw [show sB s = s.data.toList from rfl, h] at e; injection e⟩
    rcases hw with rfl | ⟨t, rfl⟩
    · exact Below.refl _ _
    · exact Lib.bytesWorld_below _ _ _
  case range =>
    obtain ⟨tp, p, hv⟩ := hg.r
    refine (Tryz.strconv_Atoi_range_var s (by omega) h tp p w hv).mono ?_
    rintro e w' ⟨N, rfl, _, _, hb⟩
    refine ⟨_, _, rfl, hb, ?_, ?_, fun v e => by rw [show sB s = s.data.toList from rfl, h] at e; cases e⟩
    · unfold Lib.atoiSat
      split <;> omega
    · unfold Lib.atoiSat
      split <;> omega
  · obtain ⟨tp, p, hv⟩ := hg.s
    refine (Tryz.strconv_Atoi_syntax_var s (by omega) h tp p w hv).mono ?_
    rintro e w' ⟨N, rfl, _, _, hb⟩
    exact ⟨0, _, rfl, hb, by omega, by omega, fun v e => by rw [show sB s = s.data.toList from rfl, h] at e; cases e⟩
end Go.Proofs.YtaghhndcimjjgaaGreatDoor

/- An append to a row of the call's own: where the new row lies (the old block, or a new one). -/
namespace Go.Proofs.YtaghhndcimjjgaaGreatDoor
open Go.RowKit

theorem append_where {P : Program} (w : World) (base : Nat) (t ty e : TypeId) (i : TypeInfo) (z : Value) (size bytes : Nat) (ht : P.underlying t = some (.slice e)) (hi : P.info? e = some i) (hz : i.zero = some z)
    (hsize : i.size = size) (hby : i.bytes = bytes) (hsz : 0 < size) (v : Value) (n : Nat) (xs : List Value) (hown : w.ownsRow base e size v n xs)
    (a : Addr) (m c : Nat) (news : List Value) (hl : news.length = m * size) (hnews : ∀ j u, news[j]? = some u → w.cell? (a.add j) = some u) (h1 : ∀ u ∈ news, u.oneCell' = true) (hm : 0 < m)
    (h63 : n + m ≤ maxLen) (hbytes : (n + m) * bytes ≤ 140737488355328) :
    ∃ v' w', (Builtin.append_ #[t, t] ty #[v, .slice (some a) m c]).run P w = .ok v' w' ∧ (v'.ownBlock = v.ownBlock ∨ v'.ownBlock = some w.heap.size) := by
  subst hsize
  subst hby
  have hsmall : n + m ≤ 9223372036854775807 := by simp only [maxLen] at h63; omega
  rcases hown.2 with ⟨rfl, rfl⟩ | ⟨g, cap, cur, rfl, _, hg, hnc, _, hcs, _⟩
  · exact ⟨_, _, run_append_nil w t ty e i z ht hi hz a m c news hl hnews hm (by omega) (by have hb := hbytes; simp only [Nat.zero_add] at hb; omega), Or.inr rfl⟩
  · by_cases hroom : n + m ≤ cap
    · have hfit : n * i.size + news.length ≤ cur.size := by rw [hl, hcs, ← Nat.add_mul]; exact Nat.mul_le_mul_right _ hroom
      exact ⟨_, _, run_append_room w t ty e i ht hi g n cap cur hg a m c news hl hnews h1 hroom hfit, Or.inl rfl⟩
    · have holds : ∀ j u, xs[j]? = some u → w.cell? ((⟨g, 0, none⟩ : Addr).add j) = some u := hown.cells (g := g) rfl
      exact ⟨_, _, run_append_grow w t ty e i z ht hi hz ⟨g, 0, none⟩ n cap xs hown.1 holds a m c news hl hnews (by omega) (by omega) (growslice_fits (by omega) hbytes), Or.inr rfl⟩
theorem wpList_append_where {P : Program} (w : World) {ops : Array Oper} {rest : List Oper} {o : Oper} {a : Act} {Q : Exit → Act → World → Prop} (hgd : o.guard = none) (s x : Operand) (t : TypeId)
    (ho : o.op = .call { callee := .builtin .append, args := #[s, x], argTypes := #[t, t] })
    (base : Nat) (e : TypeId) (i : TypeInfo) (z : Value) (size bytes : Nat) (ht : P.underlying t = some (.slice e)) (hi : P.info? e = some i) (hz : i.zero = some z)
    (hsize : i.size = size) (hby : i.bytes = bytes) (hzs : z.cells.size = size) (hsz : 0 < size)
    (v : Value) (n : Nat) (xs : List Value) (hs : a.eval s = v) (hown : w.ownsRow base e size v n xs)
    (ad : Addr) (m c : Nat) (news : List Value) (hx : a.eval x = .slice (some ad) m c) (hm : 0 < m) (hl : news.length = m * size) (hnews : ∀ j u, news[j]? = some u → w.cell? (ad.add j) = some u) (h1 : ∀ u ∈ news, u.oneCell' = true)
    (h63 : n + m ≤ maxLen) (hbytes : (n + m) * bytes ≤ 140737488355328) (hbase : base ≤ w.heap.size)
    (h : ∀ v' w', w'.ownsRow base e size v' (n + m) (xs ++ news) → w.grownBy w' v.ownBlock → (v'.ownBlock = v.ownBlock ∨ v'.ownBlock = some w.heap.size) → wpList P ops Q rest (a.put o.dst v') w') : wpList P ops Q (o :: rest) a w := by
  refine wpList_plain hgd fun K hK => ?_
  obtain ⟨v', w', hr, h2, h3, _⟩ := run_append_own (P := P) w base t o.type e i z size bytes ht hi hz hsize hby hzs hsz v n xs hown ad m c news hl hnews h1 h63 hbytes hbase
  obtain ⟨v2, w2, hr2, h4⟩ := append_where (P := P) w base t o.type e i z size bytes ht hi hz hsize hby hsz v n xs hown ad m c news hl hnews h1 hm h63 hbytes
  rw [hr] at hr2
  injection hr2 with e1 e2
  subst e1
  unfold Oper.wp execOp
  simp only [ho, resolve, invoke, builtin, Sem.run_bind, Sem.run_pure, Result.andThen_ok, List.map_toArray, List.map_cons, List.map_nil, hs, hx, hr]
  exact hK _ _ (h v' w' h2 h3 h4)
end Go.Proofs.YtaghhndcimjjgaaGreatDoor

/- A row of a call's own in a loop that appends to it: what is kept (tools). -/
namespace Go.Proofs.YtaghhndcimjjgaaGreatDoor
open Go.RowKit Go.BigFrame

theorem ownsRow_below {W W' : World} {base e k n : Nat} {v : Value} {xs : List Value} (h : W.ownsRow base e k v n xs) (hb : Below W.heap.size W W') : W'.ownsRow base e k v n xs :=
  h.kept (row := none) ⟨hb.os, hb.tape, hb.output, hb.size, fun k hk _ => hb.block k hk⟩ (by cases v.ownBlock <;> simp)
/-- the row v, which began as v0 in the world V: whatever else was there is kept -/
structure OwnR (V wr : World) (base e k : Nat) (v0 v : Value) (n : Nat) (xs : List Value) : Prop where
  own : wr.ownsRow base e k v n xs
  kept : Kept (fun b => v0.ownBlock = some b) V wr
  lies : ∀ b, v.ownBlock = some b → v0.ownBlock = some b ∨ V.heap.size ≤ b
section
variable {V wr wr' : World} {base e k n : Nat} {v0 v : Value} {xs : List Value}
theorem OwnR.start (h : V.ownsRow base e k v n xs) : OwnR V V base e k v v n xs := ⟨h, Kept.refl _ _, fun _ h => Or.inl h⟩
theorem OwnR.below (h : OwnR V wr base e k v0 v n xs) (hb : Below wr.heap.size wr wr') : OwnR V wr' base e k v0 v n xs := ⟨ownsRow_below h.own hb, h.kept.trans (Kept.of_below hb), h.lies⟩
theorem OwnR.back {V' : World} {n' : Nat} {v' : Value} {xs' : List Value} (h : OwnR V wr base e k v0 v n xs) (hb : Below wr.heap.size wr V') (h' : OwnR V' wr' base e k v v' n' xs') : OwnR V wr' base e k v0 v' n' xs' := by
  have hs : V.heap.size ≤ V'.heap.size := Nat.le_trans h.kept.size hb.size
  refine ⟨h'.own, ⟨h'.kept.os.trans (hb.os.trans h.kept.os), h'.kept.tape.trans (hb.tape.trans h.kept.tape), h'.kept.output.trans (hb.output.trans h.kept.output), Nat.le_trans hs h'.kept.size, fun b hb1 ho => ?_⟩, fun b hb' => ?_⟩
  · have hn : ¬ v.ownBlock = some b := fun e => (h.lies b e).elim ho (fun h => by omega)
    exact (h'.kept.block b (by omega) hn).trans ((hb.block b (Nat.lt_of_lt_of_le hb1 h.kept.size)).trans (h.kept.block b hb1 ho))
  · rcases h'.lies b hb' with e | e
    · exact h.lies b e
    · exact Or.inr (by omega)
theorem OwnR.append {W2 w' : World} {v' : Value} {n' : Nat} {xs' : List Value} (h : OwnR V wr base e k v0 v n xs) (hb : Below wr.heap.size wr W2) (ho : w'.ownsRow base e k v' n' xs') (hg : W2.grownBy w' v.ownBlock) (hw : v'.ownBlock = v.ownBlock ∨ v'.ownBlock = some W2.heap.size) :
    OwnR V w' base e k v0 v' n' xs' := by
  refine ⟨ho, (h.kept.trans (Kept.of_below hb)).grown hg (fun q hq hl => (h.lies q hq).elim id (fun h => by omega)), fun b hb' => ?_⟩
  rcases hw with e | e
  · exact h.lies b (by rw [← e]; exact hb')
  · rw [e] at hb'
    injection hb' with hb'
    exact Or.inr (by have := h.kept.size; have := hb.size; omega)
theorem OwnR.down {n0 B : Nat} {xs0 : List Value} (h : OwnR V wr base e k v0 v n xs) {w : World} (hb : Below B w V) (hB : B ≤ V.heap.size) (hBb : B ≤ base) (ho : V.ownsRow base e k v0 n0 xs0) : Below B w wr :=
  Kept.below hb h.kept hB (fun b hb1 e => by have := (ho.lt b e).1; omega)
theorem OwnR.row (h : OwnR V wr base e k v0 v n xs) {a : Option Addr} {len kk : Nat} {R : Nat → List Value} (hr : RowK V a len kk R) (hn : ∀ b off, a = some ⟨b, off, none⟩ → ¬ v0.ownBlock = some b) : RowK wr a len kk R := Kept.row hr h.kept hn
theorem OwnR.cell (h : OwnR V wr base e k v0 v n xs) {p : Addr} {u : Value} (hn : ¬ v0.ownBlock = some p.block) (hc : V.cell? p = some u) : wr.cell? p = some u := h.kept.cell hn hc
end
end Go.Proofs.YtaghhndcimjjgaaGreatDoor

/- Tokens: the functions that make them; are digits the beginning of a number (reference). -/
namespace Go.Proofs.YtaghhndcimjjgaaGreatDoor
open Go.RowKit Go.BigFrame
open Rd (sB bt itoaB Tok begF)

def tokCells (t : Tok) : List Value := [.int .i64 t.kind, .string t.text, .int .i64 t.low, .int .i64 t.high, .int .i64 t.digits]
def tokV (t : Tok) : Value := .agg #[.int .i64 t.kind, .string t.text, .int .i64 t.low, .int .i64 t.high, .int .i64 t.digits]
theorem rIsDigit_any (c : Nat) (w : World) : Calls Tryz.prog 38 #[.int .u8 c] w fun e w' => e = .returned (.bool (Rd.isD c)) ∧ w = w' := by
  by_cases h : 48 ≤ c
  · have h1 : decide ((48 : Int) ≤ (c : Int)) = true := by rw [decide_eq_true_eq]; omega
    by_cases h2 : c ≤ 57
    · have h3 : decide ((c : Int) ≤ 57) = true := by rw [decide_eq_true_eq]; omega
      go_enter Tryz.func38, Tryz.ntmps38
      go_wp2
      go_ret
      exact ⟨ret_bool (by simp [Rd.isD, h, h2]), rfl⟩
    · have h3 : decide ((c : Int) ≤ 57) = false := by rw [decide_eq_false_iff_not]; omega
      go_enter Tryz.func38, Tryz.ntmps38
      go_wp2
      go_ret
      exact ⟨ret_bool (by simp [Rd.isD, h2]), rfl⟩
  · have h1 : decide ((48 : Int) ≤ (c : Int)) = false := by rw [decide_eq_false_iff_not]; omega
    go_enter Tryz.func38, Tryz.ntmps38
    go_wp2
    go_ret
    exact ⟨ret_bool (by simp [Rd.isD, h]), rfl⟩
theorem num_any (lo hi : Int) (dg : Nat) (w : World) : Calls Tryz.prog 43 #[.int .i64 lo, .int .i64 hi, .int .i64 dg] w fun e w' => e = .returned (tokV (Rd.numT lo hi dg)) ∧ Below w.heap.size w w' := by
  obtain ⟨V, hV, hbV, hsV, hcV⟩ := alloc_cells w #[.int .i64 2, .string ⟨#[]⟩, .int .i64 lo, .int .i64 hi, .int .i64 dg] 71
  have g0 := hcV 0 _ rfl
  have g1 := hcV 1 _ rfl
  have g2 := hcV 2 _ rfl
  have g3 := hcV 3 _ rfl
  have g4 := hcV 4 _ rfl
  have HV := Lib.hid hV
  have HB := Lib.hid hbV
  clear hcV hV hbV hsV
  go_enter Tryz.func43, Tryz.ntmps43
  go_wp2_with fail
  rw [HV.out]
  exact bodyPost_ret (v := .agg #[.int .i64 2, .string ⟨#[]⟩, .int .i64 lo, .int .i64 hi, .int .i64 dg]) (by simp [results, Tryz.results43, go_sem, g0, g1, g2, g3, g4]) rfl ⟨rfl, HB.out⟩
set_option maxHeartbeats 4000000 in
set_option maxRecDepth 100000 in
/-- digits that spell n -/
theorem begins_any (t : Tok) (s : ByteArray) (n : Int) (w : World) (hg : Glo w) (h0 : 0 < s.size) (h18 : s.size ≤ 18) (hn : Lib.atoiAll (sB s) = .ok n) (hn0 : 0 ≤ n) (hlow : t.low = 0 ∨ t.low = 1) :
    Calls Tryz.prog 83 #[tokV t, .string s] w fun e w' => e = .returned (.bool (begF t.digits t.low t.high s.size (Rd.byte s 0) n)) ∧ Below w.heap.size w w' := by
  obtain ⟨kd, tx, lo, hi, dg⟩ := t
  unfold tokV
  simp only at hlow ⊢
  obtain ⟨V, hV, hbV, hsV, hcV⟩ := alloc_cells w #[.int .i64 kd, .string tx, .int .i64 lo, .int .i64 hi, .int .i64 dg] 71
  have c2 := Ext.ex (hcV 2 _ rfl)
  have c3 := Ext.ex (hcV 3 _ rfl)
  have c4 := Ext.ex (hcV 4 _ rfl)
  have DA := Lib.hid (fun (X : Ext V) => atoi_every s (by omega) X.1 (hg.below (below_step hbV X.2)))
  have END := Lib.hid (fun (X : Ext V) => below_step hbV X.2)
  have HV := Lib.hid hV
  have HN := Lib.hid hn
  have e0 := Rd.byte_lt h0
  clear hcV hV hg hn hbV
  obtain ⟨bt0, hbt⟩ : ∃ x : Bool, decide (s[0].toNat = 48) = x := ⟨_, rfl⟩
  have hbi : (((s[0].toNat : Nat) : Int) == 48) = bt0 := by
    rw [← hbt]
    by_cases e : s[0].toNat = 48
    · simp [e]
    · simp [e]; omega
  by_cases hA : dg < s.size
  · have t1 : decide ((dg : Int) < (s.size : Int)) = true := by rw [decide_eq_true_eq]; omega
    have t2 : decide (dg < s.size) = true := by simpa using hA
    go_enter Tryz.func83, Tryz.ntmps83
    go_upto_region 1 with fail
    rw [HV.out]
    refine ext_wp fun X => ?_
    have c4' := c4 X
    go_wp2_with fail
    go_ret
    refine ⟨ret_bool ?_, END.out X⟩
    unfold begF
    have : decide (s.size ≤ dg) = false := by rw [decide_eq_false_iff_not]; omega
    rw [this]; rfl
  have t1 : decide ((dg : Int) < (s.size : Int)) = false := by rw [decide_eq_false_iff_not]; omega
  have t2 : decide (dg < s.size) = false := by simpa using hA
  have B1 : decide (s.size ≤ dg) = true := by rw [decide_eq_true_eq]; omega
  have FIRST : Hid (∀ b : Bool, b = (decide (1 < s.size) && bt0) → b = true → Calls Tryz.prog 83 #[.agg #[.int .i64 kd, .string tx, .int .i64 lo, .int .i64 hi, .int .i64 dg], .string s] w fun e w' => e = .returned (.bool (begF dg lo hi s.size (Rd.byte s 0) n)) ∧ Below w.heap.size w w') := Lib.hid (by
    intro b hb hbt'
    rw [hbt', eq_comm, Bool.and_eq_true] at hb
    obtain ⟨u1, u2⟩ := hb
    have u1' : decide ((1 : Int) < (s.size : Int)) = true := by
      rw [decide_eq_true_eq] at u1 ⊢; omega
    rw [u2] at hbi hbt
    go_enter Tryz.func83, Tryz.ntmps83
    go_upto_region 1 with fail
    rw [HV.out]
    refine ext_wp fun X => ?_
    have c4' := c4 X
    go_wp2_with fail
    go_ret
    refine ⟨ret_bool ?_, END.out X⟩
    unfold begF
    rw [u1, e0, hbt, Bool.and_self, Bool.not_true, Bool.and_false]; rfl)
  obtain ⟨bz, hbz⟩ : ∃ x : Bool, x = (decide (1 < s.size) && bt0) := ⟨_, rfl⟩
  cases bz
  case true => exact FIRST.out true hbz rfl
  clear FIRST
  have B2 : (decide (1 < s.size) && decide (Rd.byte s 0 = 48)) = false := by rw [e0, hbt, ← hbz]
  have RES : begF dg lo hi s.size (Rd.byte s 0) n = (decide (n ≤ hi) && decide (lo ≤ n)) := by
    unfold begF
    rw [B1, B2]; rfl
  rw [RES]
  have u1 : decide ((1 : Int) < (s.size : Int)) = decide (1 < s.size) := by
    by_cases e : 1 < s.size
    · rw [decide_eq_true e, decide_eq_true_eq]; omega
    · rw [decide_eq_false e, decide_eq_false_iff_not]; omega
  clear RES B1 B2 e0
  obtain ⟨bs1, hbs1⟩ : ∃ x : Bool, decide (1 < s.size) = x := ⟨_, rfl⟩
  rw [hbs1] at u1 hbz
  go_enter Tryz.func83, Tryz.ntmps83
  go_upto_region 1 with fail
  rw [HV.out]
  refine ext_wp fun X => ?_
  have c4' := c4 X
  have HZ : Hid (false = (bs1 && bt0)) := Lib.hid hbz
  clear hbz
  have GO : Hid (∀ (X : Ext V), True) := Lib.hid fun _ => trivial
  cases bs1
  all_goals cases bt0
  case true.true => exact absurd HZ.out (by decide)
  all_goals
    go_upto_region 4 with (go_at_call 84; refine (DA.out X).mono ?_; rintro e w2 ⟨nn, ev, rfl, hb2, _, _, hv⟩; obtain rfl := hv n HN.out)
    obtain ⟨Y, rfl⟩ : ∃ Y : Ext V, w2 = Y.1 := ⟨⟨w2, below_step X.2 hb2⟩, rfl⟩
    clear hb2
    go_wp2_with fail
    go_loopw [7] (fun mv wr => mv = .int .i64 nn ∧ wr = Y.1) (fun _ _ => 1)
    case atStart => exact ⟨rfl, rfl⟩
    case round =>
      obtain ⟨rfl, rfl⟩ := hrel
      have c2' := c2 Y
      have c3' := c3 Y
      by_cases hH : nn ≤ hi
      · have v1 : decide (nn ≤ hi) = true := by simpa using hH
        by_cases hL : lo ≤ nn
        · have v2 : decide (lo ≤ nn) = true := by simpa using hL
          go_wp2_with fail
          go_ret
          exact ⟨ret_bool (by first | rfl | (rw [v1, v2]; rfl) | simp_all), END.out Y⟩
        · have v2 : decide (lo ≤ nn) = false := by simpa using hL
          obtain rfl : nn = 0 := by omega
          go_wp2_with fail
          go_ret
          exact ⟨ret_bool (by first | rfl | (rw [v1, v2]; rfl) | simp_all), END.out Y⟩
      · have v1 : decide (nn ≤ hi) = false := by simpa using hH
        go_wp2_with fail
        go_ret
        exact ⟨ret_bool (by first | rfl | (rw [v1]; rfl) | simp_all), END.out Y⟩
end Go.Proofs.YtaghhndcimjjgaaGreatDoor

/- A token's way along a text (reference). -/
namespace Go.Proofs.YtaghhndcimjjgaaGreatDoor
open Go.RowKit Go.BigFrame
open Rd (sB bt itoaB Tok begF numAt pairAt exactAt NumSt RowSt DigRow byte isD digAt)

/-- what run hands back -/
def RunRet (s : ByteArray) (t : Tok) (p : Nat) (w : World) (e : Ending) (w' : World) : Prop :=
  ∃ v : Int, e = .returned (.tuple #[.int .i64 (Rd.runT s t p).1, .int .i64 v, .bool (Rd.runT s t p).2.2]) ∧ ((Rd.runT s t p).2.2 = true → v = (Rd.runT s t p).2.1) ∧ Below w.heap.size w w'
theorem RunRet.mk {s : ByteArray} {t : Tok} {p : Nat} {w w' : World} {e : Ending} (q : Nat) (v : Int) (b : Bool) {u : Int} (he : e = .returned (.tuple #[.int .i64 q, .int .i64 v, .bool b])) (h : Rd.runT s t p = (q, u, b)) (hv : b = true → v = u) (hb : Below w.heap.size w w') : RunRet s t p w e w' := by
  refine ⟨v, ?_, ?_, hb⟩
  · rw [h]; exact he
  · rw [h]; exact hv
theorem dig_cases (s : ByteArray) (q : Nat) (hq : q ≤ s.size) : q = s.size ∧ digAt s q true = false ∨ (∃ h : q < s.size, isD (s[q].toNat) = false ∧ digAt s q true = false) ∨ (∃ h : q < s.size, isD (s[q].toNat) = true ∧ digAt s q true = true ∧ 48 ≤ s[q].toNat ∧ s[q].toNat ≤ 57 ∧ byte s q = s[q].toNat) := by
  unfold digAt
  rcases Nat.lt_or_ge q s.size with h | h
  · have e := Rd.byte_lt h
    cases hd : isD (s[q].toNat)
    · exact Or.inr (Or.inl ⟨h, hd, by rw [e, hd]; simp⟩)
    · have := Rd.isD_bounds hd
      exact Or.inr (Or.inr ⟨h, hd, by rw [e, hd]; simp [h], this.1, this.2, e⟩)
  · exact Or.inl ⟨by omega, by simp; omega⟩
theorem lt_b {a b : Nat} : decide ((a : Int) < (b : Int)) = decide (a < b) := by
  by_cases h : a < b
  · rw [decide_eq_true h, decide_eq_true_eq]; omega
  · rw [decide_eq_false h, decide_eq_false_iff_not]; omega
theorem eq_b {a b : Nat} : ((a : Int) == (b : Int)) = decide (a = b) := by
  by_cases h : a = b
  · simp [h]
  · rw [decide_eq_false h]; simp; omega
set_option maxHeartbeats 8000000 in
set_option maxRecDepth 100000 in
theorem runNum_any (t : Tok) (hk : t.kind = 2) (s : ByteArray) (p : Nat) (hs : s.size ≤ 1000000) (hp : p ≤ s.size) (hT : (t.low = 0 ∨ t.low = 1) ∧ 0 ≤ t.high ∧ t.high ≤ 9999999999999 ∧ t.digits ≤ 13) (w : World) (hg : Glo w) :
    Calls Tryz.prog 44 #[tokV t, .string s, .int .i64 p] w fun e w' => RunRet s t p w e w' := by
  obtain ⟨kd, tx, lo, hi, dg⟩ := t
  simp only at hk hT
  subst hk
  unfold tokV
  simp only
  obtain ⟨V, hV, hbV, hsV, hcV⟩ := alloc_cells w #[.int .i64 (2 : Nat), .string tx, .int .i64 lo, .int .i64 hi, .int .i64 dg] 71
  have hkI : ((2 : Nat) : Int) = 2 := rfl
  rw [hkI] at hV hcV ⊢
  have c0 := Ext.ex (hcV 0 _ rfl)
  have c1 := Ext.ex (hcV 1 _ rfl)
  have c2 := Ext.ex (hcV 2 _ rfl)
  have c3 := Ext.ex (hcV 3 _ rfl)
  have c4 := Ext.ex (hcV 4 _ rfl)
  have END := Lib.hid (fun (X : Ext V) => below_step hbV X.2)
  have HG := Lib.hid (fun (X : Ext V) => hg.below (below_step hbV X.2))
  have HD := Lib.hid (fun (c : Nat) (X : Ext V) => Ext.same X (rIsDigit_any c X.1))
  have HV := Lib.hid hV
  have HP := Lib.hid hp
  have HS := Lib.hid hs
  clear hcV hV hbV hg hkI
  have RT : ∀ x, numAt s dg lo hi true p = x → Rd.runT s ⟨2, tx, lo, hi, dg⟩ p = (x.2.2, x.1, Rd.numOk lo true x) := fun x hx => by simp [Rd.runT, hx]
  have RT := Lib.hid RT
  have HTT := Lib.hid hT
  go_enter Tryz.func44, Tryz.ntmps44
  go_upto_region 1 with fail
  rw [HV.out]
  refine ext_wp fun X => ?_
  have x0 := c0 X
  go_upto_region 18 with fail
  go_wp2_with fail
  go_loopw [2] (fun mv wr => ∃ (q m : Nat) (n : Int) (Y : Ext V), mv = .int .i64 q ∧ q = p + m ∧ wr = Y.1 ∧ NumSt s dg lo hi p m n) (fun mv _ => s.size - (intOf mv).toNat)
  case atStart => exact ⟨p, 0, 0, X, rfl, rfl, rfl, NumSt.start HP.out⟩
  case round =>
    obtain ⟨q, m, n, Y, rfl, hqm, rfl, hN⟩ := hrel
    have y0 := c0 Y
    have y1 := c1 Y
    have y2 := c2 Y
    have y3 := c3 Y
    have y4 := c4 Y
    have hle := hN.row.le
    have hm13 := hN.le
    have HN := Lib.hid hN
    have hq1 : q ≤ 1000000 := by omega
    clear hN x0
    rcases dig_cases s q (by omega) with ⟨hq, hd⟩ | ⟨hq, hisd, hd⟩ | ⟨hq, hisd, hd, h48, h57, hby⟩
    rotate_left
    rotate_left
    · have hqd : decide ((q : Int) < (s.size : Int)) = true := by rw [decide_eq_true_eq]; omega
      have hqd' : decide (q < s.size) = true := by simpa using hq
      have hd' : digAt s (p + m) true = true := by rw [← hqm]; exact hd
      have hrow := HN.out.row.next hd'
      have hex : p + (m + 1) ≤ s.size := by omega
      have DB := Lib.hid (fun (X : Ext V) => Ext.calls X (begins_any ⟨2, tx, lo, hi, dg⟩ (s.extract p (p + (m + 1))) _ X.1 (HG.out X) (by rw [Rd.ext_size hex]; omega) (by rw [Rd.ext_size hex]; have := HTT.out.2.2.2; omega) (hrow.num (by omega) (by have := HTT.out.2.2.2; omega)) hrow.lt.1 HTT.out.1))
      rw [Rd.ext_size hex, Rd.ext_byte hex (by omega)] at DB
      simp only at DB
      unfold tokV at DB
      simp only at DB
      rw [show ((2 : Nat) : Int) = 2 from rfl] at DB
      have HNX := Lib.hid (HN.out.next hd')
      have HHA := Lib.hid (HN.out.halt HTT.out.1 hd')
      have HR := Lib.hid (hrow)
      have hlt := hrow.lt
      obtain ⟨bb, hbb⟩ : ∃ x, begF dg lo hi (m + 1) (byte s p) (10 * n + ((byte s (p + m) : Int) - 48)) = x := ⟨_, rfl⟩
      rw [hbb] at DB HNX HHA
      obtain ⟨nn, hnn⟩ : ∃ x, 10 * n + ((byte s (p + m) : Int) - 48) = x := ⟨_, rfl⟩
      rw [hnn] at HNX
      rw [show p + (m + 1) = q + 1 by omega] at DB
      have hsl : ∀ W : World, (Instr.slice 9 (.string s) (some (.int .i64 (p : Int))) (some (.int .i64 ((q : Int) + 1))) none).run Tryz.prog W = .ok (.string (s.extract p (q + 1))) W := fun W => by
        rw [run_slice_string W _ _ _ _ _ _ (by kernel_rfl) (by omega) (by omega) (by omega)]
        rw [show ((p : Int)).toNat = p by omega, show ((q : Int) + 1).toNat = q + 1 by omega]
      clear hrow hlt hbb hnn hd hd' HR
      cases bb
      case true =>
        clear HHA
        have HQM := Lib.hid hqm
        clear hqm
        go_upto_region 19 with fail
        refine wp_region_ext Y (by kernel_rfl) (by kernel_rfl) ?_
        repeat (go_big_quiet_step ((first
          | (go_at_call 38; with_reducible exact HD.out _ _)
          | (go_at_call 83; with_reducible exact DB.out _))))
        refine wpQuiet_nil ?_
        intro _ hw'
        obtain ⟨Z, rfl⟩ := hw'
        go_wp2_with fail
        go_roundw
        case rel => exact ⟨q + 1, m + 1, nn, Z, by go_num, by have := HQM.out; omega, rfl, HNX.out rfl⟩
        case measure => simp [intOf]; omega
      case false =>
        have HX := Lib.hid (HHA.out rfl)
        clear HNX HHA
        have HQM := Lib.hid hqm
        clear hqm
        go_upto_region 19 with fail
        refine wp_region_ext Y (by kernel_rfl) (by kernel_rfl) ?_
        repeat (go_big_quiet_step ((first
          | (go_at_call 38; with_reducible exact HD.out _ _)
          | (go_at_call 83; with_reducible exact DB.out _))))
        refine wpQuiet_nil ?_
        intro _ hw'
        obtain ⟨Z, rfl⟩ := hw'
        have HXT := Lib.hid (RT.out _ HX.out)
        have HROW := Lib.hid (HN.out.row)
        have hle2 := HROW.out.le
        have DA := Lib.hid (atoi_every (s.extract p (p + m)) (by rw [Rd.ext_size hle2]; omega) Z.1 (HG.out Z))
        rw [← HQM.out] at DA
        have hsl2 : ∀ W : World, (Instr.slice 9 (.string s) (some (.int .i64 (p : Int))) (some (.int .i64 (q : Int))) none).run Tryz.prog W = .ok (.string (s.extract p q)) W := fun W => by
          have := HQM.out
          rw [run_slice_string W _ _ _ _ _ _ (by kernel_rfl) (by omega) (by omega) (by omega)]
          rw [show ((p : Int)).toNat = p by omega, show ((q : Int)).toNat = q by omega]
        go_upto_region 22 with (go_at_call 84; refine DA.out.mono ?_; rintro e w3 ⟨nn, ev, rfl, hb3, _, _, hv⟩)
        obtain ⟨U, rfl⟩ : ∃ U : Ext V, w3 = U.1 := ⟨⟨w3, below_step Z.2 hb3⟩, rfl⟩
        have u2 := c2 U
        have hpq : decide ((p : Int) < (q : Int)) = decide (0 < m) := by rw [lt_b]; congr 1; rw [eq_iff_iff]; have := HQM.out; omega
        have hpq' : decide (p < q) = decide (0 < m) := by congr 1; rw [eq_iff_iff]; have := HQM.out; omega
        have HVN : Hid (0 < m → nn = n) := Lib.hid (fun h0 => hv n (by have := HROW.out.num h0 (by have := HTT.out.2.2.2; omega); rw [← HQM.out] at this; exact this))
        clear hb3 hv DA
        obtain ⟨bm, hbm⟩ : ∃ x, decide (0 < m) = x := ⟨_, rfl⟩
        rw [hbm] at hpq hpq'
        cases bm
        · refine wp_region_ext U (by kernel_rfl) (by kernel_rfl) ?_
          repeat (go_big_quiet_step (fail))
          refine wpQuiet_nil ?_
          intro _ hw'
          obtain ⟨Z2, rfl⟩ := hw'
          go_wp2_with fail
          go_ret3
          refine RunRet.mk q nn false (u := n) rfl (HXT.out.trans ?_) (fun h => by cases h) (END.out _)
          have := HQM.out
          simp [Rd.numOk, hbm]
          omega
        · obtain rfl := HVN.out (by simpa using hbm)
          obtain ⟨bl, hbl⟩ : ∃ x, decide (lo ≤ nn) = x := ⟨_, rfl⟩
          cases bl
          all_goals
            refine wp_region_ext U (by kernel_rfl) (by kernel_rfl) ?_
            repeat (go_big_quiet_step (fail))
            refine wpQuiet_nil ?_
            intro _ hw'
            obtain ⟨Z2, rfl⟩ := hw'
            go_wp2_with fail
            go_ret3
          · refine RunRet.mk q nn false (u := nn) rfl (HXT.out.trans ?_) (fun _ => rfl) (END.out _)
            have := HQM.out
            simp [Rd.numOk, hbm, hbl]
            omega
          · refine RunRet.mk q nn true (u := nn) rfl (HXT.out.trans ?_) (fun _ => rfl) (END.out _)
            have := HQM.out
            simp [Rd.numOk, hbm, hbl]
            omega
    · have hqd : decide ((q : Int) < (s.size : Int)) = false := by rw [decide_eq_false_iff_not]; omega
      have hqd' : decide (q < s.size) = false := by rw [decide_eq_false_iff_not]; omega
      have HX := Lib.hid (HN.out.stop (by rw [← hqm]; exact hd))
      clear hd hq
      have HQM := Lib.hid hqm
      clear hqm
      go_upto_region 19 with fail
      refine wp_region_ext Y (by kernel_rfl) (by kernel_rfl) ?_
      repeat (go_big_quiet_step ((first
        | (go_at_call 38; with_reducible exact HD.out _ _))))
      refine wpQuiet_nil ?_
      intro _ hw'
      obtain ⟨Z, rfl⟩ := hw'
      have HXT := Lib.hid (RT.out _ HX.out)
      have HROW := Lib.hid (HN.out.row)
      have hle2 := HROW.out.le
      have DA := Lib.hid (atoi_every (s.extract p (p + m)) (by rw [Rd.ext_size hle2]; omega) Z.1 (HG.out Z))
      rw [← HQM.out] at DA
      have hsl2 : ∀ W : World, (Instr.slice 9 (.string s) (some (.int .i64 (p : Int))) (some (.int .i64 (q : Int))) none).run Tryz.prog W = .ok (.string (s.extract p q)) W := fun W => by
        have := HQM.out
        rw [run_slice_string W _ _ _ _ _ _ (by kernel_rfl) (by omega) (by omega) (by omega)]
        rw [show ((p : Int)).toNat = p by omega, show ((q : Int)).toNat = q by omega]
      go_upto_region 22 with (go_at_call 84; refine DA.out.mono ?_; rintro e w3 ⟨nn, ev, rfl, hb3, _, _, hv⟩)
      obtain ⟨U, rfl⟩ : ∃ U : Ext V, w3 = U.1 := ⟨⟨w3, below_step Z.2 hb3⟩, rfl⟩
      have u2 := c2 U
      have hpq : decide ((p : Int) < (q : Int)) = decide (0 < m) := by rw [lt_b]; congr 1; rw [eq_iff_iff]; have := HQM.out; omega
      have hpq' : decide (p < q) = decide (0 < m) := by congr 1; rw [eq_iff_iff]; have := HQM.out; omega
      have HVN : Hid (0 < m → nn = n) := Lib.hid (fun h0 => hv n (by have := HROW.out.num h0 (by have := HTT.out.2.2.2; omega); rw [← HQM.out] at this; exact this))
      clear hb3 hv DA
      obtain ⟨bm, hbm⟩ : ∃ x, decide (0 < m) = x := ⟨_, rfl⟩
      rw [hbm] at hpq hpq'
      cases bm
      · refine wp_region_ext U (by kernel_rfl) (by kernel_rfl) ?_
        repeat (go_big_quiet_step (fail))
        refine wpQuiet_nil ?_
        intro _ hw'
        obtain ⟨Z2, rfl⟩ := hw'
        go_wp2_with fail
        go_ret3
        refine RunRet.mk q nn false (u := n) rfl (HXT.out.trans ?_) (fun h => by cases h) (END.out _)
        have := HQM.out
        simp [Rd.numOk, hbm]
        omega
      · obtain rfl := HVN.out (by simpa using hbm)
        obtain ⟨bl, hbl⟩ : ∃ x, decide (lo ≤ nn) = x := ⟨_, rfl⟩
        cases bl
        all_goals
          refine wp_region_ext U (by kernel_rfl) (by kernel_rfl) ?_
          repeat (go_big_quiet_step (fail))
          refine wpQuiet_nil ?_
          intro _ hw'
          obtain ⟨Z2, rfl⟩ := hw'
          go_wp2_with fail
          go_ret3
        · refine RunRet.mk q nn false (u := nn) rfl (HXT.out.trans ?_) (fun _ => rfl) (END.out _)
          have := HQM.out
          simp [Rd.numOk, hbm, hbl]
          omega
        · refine RunRet.mk q nn true (u := nn) rfl (HXT.out.trans ?_) (fun _ => rfl) (END.out _)
          have := HQM.out
          simp [Rd.numOk, hbm, hbl]
          omega
    · have hqd : decide ((q : Int) < (s.size : Int)) = true := by rw [decide_eq_true_eq]; omega
      have hqd' : decide (q < s.size) = true := by simpa using hq
      have HX := Lib.hid (HN.out.stop (by rw [← hqm]; exact hd))
      clear hd
      have HQM := Lib.hid hqm
      clear hqm
      go_upto_region 19 with fail
      refine wp_region_ext Y (by kernel_rfl) (by kernel_rfl) ?_
      repeat (go_big_quiet_step ((first
        | (go_at_call 38; with_reducible exact HD.out _ _))))
      refine wpQuiet_nil ?_
      intro _ hw'
      obtain ⟨Z, rfl⟩ := hw'
      have HXT := Lib.hid (RT.out _ HX.out)
      have HROW := Lib.hid (HN.out.row)
      have hle2 := HROW.out.le
      have DA := Lib.hid (atoi_every (s.extract p (p + m)) (by rw [Rd.ext_size hle2]; omega) Z.1 (HG.out Z))
      rw [← HQM.out] at DA
      have hsl2 : ∀ W : World, (Instr.slice 9 (.string s) (some (.int .i64 (p : Int))) (some (.int .i64 (q : Int))) none).run Tryz.prog W = .ok (.string (s.extract p q)) W := fun W => by
        have := HQM.out
        rw [run_slice_string W _ _ _ _ _ _ (by kernel_rfl) (by omega) (by omega) (by omega)]
        rw [show ((p : Int)).toNat = p by omega, show ((q : Int)).toNat = q by omega]
      go_upto_region 22 with (go_at_call 84; refine DA.out.mono ?_; rintro e w3 ⟨nn, ev, rfl, hb3, _, _, hv⟩)
      obtain ⟨U, rfl⟩ : ∃ U : Ext V, w3 = U.1 := ⟨⟨w3, below_step Z.2 hb3⟩, rfl⟩
      have u2 := c2 U
      have hpq : decide ((p : Int) < (q : Int)) = decide (0 < m) := by rw [lt_b]; congr 1; rw [eq_iff_iff]; have := HQM.out; omega
      have hpq' : decide (p < q) = decide (0 < m) := by congr 1; rw [eq_iff_iff]; have := HQM.out; omega
      have HVN : Hid (0 < m → nn = n) := Lib.hid (fun h0 => hv n (by have := HROW.out.num h0 (by have := HTT.out.2.2.2; omega); rw [← HQM.out] at this; exact this))
      clear hb3 hv DA
      obtain ⟨bm, hbm⟩ : ∃ x, decide (0 < m) = x := ⟨_, rfl⟩
      rw [hbm] at hpq hpq'
      cases bm
      · refine wp_region_ext U (by kernel_rfl) (by kernel_rfl) ?_
        repeat (go_big_quiet_step (fail))
        refine wpQuiet_nil ?_
        intro _ hw'
        obtain ⟨Z2, rfl⟩ := hw'
        go_wp2_with fail
        go_ret3
        refine RunRet.mk q nn false (u := n) rfl (HXT.out.trans ?_) (fun h => by cases h) (END.out _)
        have := HQM.out
        simp [Rd.numOk, hbm]
        omega
      · obtain rfl := HVN.out (by simpa using hbm)
        obtain ⟨bl, hbl⟩ : ∃ x, decide (lo ≤ nn) = x := ⟨_, rfl⟩
        cases bl
        all_goals
          refine wp_region_ext U (by kernel_rfl) (by kernel_rfl) ?_
          repeat (go_big_quiet_step (fail))
          refine wpQuiet_nil ?_
          intro _ hw'
          obtain ⟨Z2, rfl⟩ := hw'
          go_wp2_with fail
          go_ret3
        · refine RunRet.mk q nn false (u := nn) rfl (HXT.out.trans ?_) (fun _ => rfl) (END.out _)
          have := HQM.out
          simp [Rd.numOk, hbm, hbl]
          omega
        · refine RunRet.mk q nn true (u := nn) rfl (HXT.out.trans ?_) (fun _ => rfl) (END.out _)
          have := HQM.out
          simp [Rd.numOk, hbm, hbl]
          omega
theorem idx_at (s : ByteArray) (q : Nat) (h : q < s.size) (W : World) : (Instr.index 9 (.string s) (.int .i64 (q : Int))).run Tryz.prog W = .ok (.int .u8 (s[q].toNat)) W := by
  rw [run_index_string W _ _ _ _ (by kernel_rfl)]
  simp [h]
/-! ### two digits -/
theorem pairNo {s : ByteArray} {hi : Int} {p : Nat} (h : ¬ (digAt s p true = true ∧ 10 * ((byte s p : Int) - 48) ≤ hi)) : pairAt s hi p true = (0, p, false) := by
  unfold pairAt Rd.pairStep
  simp only [Int.zero_add]
  rw [if_neg h]
  simp [Rd.digAt_no]
theorem pairYes {s : ByteArray} {hi : Int} {p : Nat} (h : digAt s p true = true ∧ 10 * ((byte s p : Int) - 48) ≤ hi) : pairAt s hi p true = Rd.pairStep s hi 1 (10 * ((byte s p : Int) - 48), p + 1, true) := by
  unfold pairAt
  congr 1
  unfold Rd.pairStep
  simp only [Int.zero_add]
  rw [if_pos h]
theorem pairNo2 {s : ByteArray} {hi n : Int} {p : Nat} (h : ¬ (digAt s p true = true ∧ n + ((byte s p : Int) - 48) ≤ hi)) : Rd.pairStep s hi 1 (n, p, true) = (n, p, false) := by
  unfold Rd.pairStep
  simp only [Int.one_mul]
  rw [if_neg h]
theorem pairYes2 {s : ByteArray} {hi n : Int} {p : Nat} (h : digAt s p true = true ∧ n + ((byte s p : Int) - 48) ≤ hi) : Rd.pairStep s hi 1 (n, p, true) = (n + ((byte s p : Int) - 48), p + 1, true) := by
  unfold Rd.pairStep
  simp only [Int.one_mul]
  rw [if_pos h]
set_option maxHeartbeats 8000000 in
set_option maxRecDepth 100000 in
theorem runPair_any (t : Tok) (hk : t.kind = 3) (s : ByteArray) (p : Nat) (hs : s.size ≤ 1000000) (hp : p ≤ s.size) (hT : 0 ≤ t.high ∧ t.high ≤ 99) (w : World) (hg : Glo w) :
    Calls Tryz.prog 44 #[tokV t, .string s, .int .i64 p] w fun e w' => RunRet s t p w e w' := by
  obtain ⟨kd, tx, lo, hi, dg⟩ := t
  simp only at hk hT
  subst hk
  unfold tokV
  simp only
  obtain ⟨V, hV, hbV, hsV, hcV⟩ := alloc_cells w #[.int .i64 (3 : Nat), .string tx, .int .i64 lo, .int .i64 hi, .int .i64 dg] 71
  have hkI : ((3 : Nat) : Int) = 3 := rfl
  rw [hkI] at hV hcV ⊢
  have c0 := Ext.ex (hcV 0 _ rfl)
  have c1 := Ext.ex (hcV 1 _ rfl)
  have c2 := Ext.ex (hcV 2 _ rfl)
  have c3 := Ext.ex (hcV 3 _ rfl)
  have c4 := Ext.ex (hcV 4 _ rfl)
  have END := Lib.hid (fun (X : Ext V) => below_step hbV X.2)
  have HG := Lib.hid (fun (X : Ext V) => hg.below (below_step hbV X.2))
  have HD := Lib.hid (fun (c : Nat) (X : Ext V) => Ext.same X (rIsDigit_any c X.1))
  have HV := Lib.hid hV
  have HP := Lib.hid hp
  have HS := Lib.hid hs
  clear hcV hV hbV hg hkI
  have RT : ∀ x, pairAt s hi p true = x → Rd.runT s ⟨3, tx, lo, hi, dg⟩ p = (x.2.1, x.1, x.2.2) := fun x hx => by simp [Rd.runT, hx]
  have RT := Lib.hid RT
  obtain ⟨hh0, hh99⟩ := hT
  have hdiv : hi.tdiv 10 = hi / 10 := Int.tdiv_eq_ediv_of_nonneg hh0
  go_enter Tryz.func44, Tryz.ntmps44
  go_upto_region 1 with fail
  rw [HV.out]
  refine ext_wp fun X => ?_
  have x0 := c0 X
  go_upto_region 11 with fail
  have y0 := c0 X
  have y1 := c1 X
  have y2 := c2 X
  have y3 := c3 X
  have y4 := c4 X
  rcases dig_cases s p hp with ⟨hq, hd⟩ | ⟨hq, hisd, hd⟩ | ⟨hq, hisd, hd, h48, h57, hby⟩
  · have hqd : ((p : Int) == (s.size : Int)) = true := by rw [eq_b, decide_eq_true_eq]; exact hq
    have hqd' : decide (p = s.size) = true := by simpa using hq
    have HXT := Lib.hid ((RT.out _ rfl).trans (show _ = (p, (0 : Int), false) from by rw [pairNo (by rw [hd]; simp)]))
    clear hd
    have HQ := Lib.hid hq
    clear hq
    refine wp_region_ext X (by kernel_rfl) (by kernel_rfl) ?_
    repeat (go_big_quiet_step ((first
      | (go_at_call 38; with_reducible exact HD.out _ _))))
    refine wpQuiet_nil ?_
    intro _ hw'
    obtain ⟨Z, rfl⟩ := hw'
    go_wp2_with fail
    go_ret3
    exact RunRet.mk _ _ false rfl HXT.out (fun h => by cases h) (END.out _)
  · have hqd : ((p : Int) == (s.size : Int)) = false := by rw [eq_b, decide_eq_false_iff_not]; omega
    have hqd' : decide (p = s.size) = false := by rw [decide_eq_false_iff_not]; omega
    have HXT := Lib.hid ((RT.out _ rfl).trans (show _ = (p, (0 : Int), false) from by rw [pairNo (by rw [hd]; simp)]))
    clear hd
    refine wp_region_ext X (by kernel_rfl) (by kernel_rfl) ?_
    repeat (go_big_quiet_step ((first
      | (go_at_call 38; with_reducible exact HD.out _ _))))
    refine wpQuiet_nil ?_
    intro _ hw'
    obtain ⟨Z, rfl⟩ := hw'
    go_wp2_with fail
    go_ret3
    exact RunRet.mk _ _ false rfl HXT.out (fun h => by cases h) (END.out _)
  · have hqd : ((p : Int) == (s.size : Int)) = false := by rw [eq_b, decide_eq_false_iff_not]; omega
    have hqd' : decide (p = s.size) = false := by rw [decide_eq_false_iff_not]; omega
    by_cases hb1 : hi / 10 < (s[p].toNat : Int) - 48
    · have z1 : decide (hi / 10 < (s[p].toNat : Int) - 48) = true := by simpa using hb1
      have HXT := Lib.hid ((RT.out _ rfl).trans (show _ = (p, (0 : Int), false) from by rw [pairNo (by rw [hby]; omega)]))
      clear hd
      refine wp_region_ext X (by kernel_rfl) (by kernel_rfl) ?_
      repeat (go_big_quiet_step ((first
        | (go_at_call 38; with_reducible exact HD.out _ _))))
      refine wpQuiet_nil ?_
      intro _ hw'
      obtain ⟨Z, rfl⟩ := hw'
      go_wp2_with fail
      go_ret3
      exact RunRet.mk _ _ false rfl HXT.out (fun h => by cases h) (END.out _)
    · have z1 : decide (hi / 10 < (s[p].toNat : Int) - 48) = false := by simpa using hb1
      have HF1 := Lib.hid (pairYes (s := s) (hi := hi) (p := p) ⟨hd, by rw [hby]; omega⟩)
      rw [hby] at HF1
      obtain ⟨d1, hd1⟩ : ∃ x : Int, (s[p].toNat : Int) - 48 = x := ⟨_, rfl⟩
      have hd1n : 0 ≤ d1 ∧ d1 ≤ 9 := by omega
      clear hd
      refine wp_region_ext X (by kernel_rfl) (by kernel_rfl) ?_
      repeat (go_big_quiet_step ((first
        | (go_at_call 38; with_reducible exact HD.out _ _))))
      refine wpQuiet_nil ?_
      intro _ hw'
      obtain ⟨Z, rfl⟩ := hw'
      go_upto_region 14 with fail
      try rw [hd1] at HF1
      try rw [hd1]
      clear hd1
      have w0 := c0 Z
      have w1 := c1 Z
      have w2 := c2 Z
      have w3 := c3 Z
      have w4 := c4 Z
      rcases dig_cases s (p + 1) (by omega) with ⟨hq2, hd2⟩ | ⟨hq2, hisd2, hd2⟩ | ⟨hq2, hisd2, hd2, h482, h572, hby2⟩
      · have hqe : (((p : Int) + 1) == (s.size : Int)) = true := by simp; omega
        have hqe' : decide (p + 1 = s.size) = true := by simpa using hq2
        have HXT := Lib.hid ((RT.out _ HF1.out).trans (show _ = (p + 1, 10 * d1, false) from by rw [pairNo2 (by rw [hd2]; simp)]))
        clear hd2
        have HQ := Lib.hid hq2
        clear hq2
        refine wp_region_ext Z (by kernel_rfl) (by kernel_rfl) ?_
        repeat (go_big_quiet_step ((first
          | (go_at_call 38; with_reducible exact HD.out _ _))))
        refine wpQuiet_nil ?_
        intro _ hw'
        obtain ⟨Z, rfl⟩ := hw'
        go_wp2_with fail
        go_ret3
        exact RunRet.mk _ _ false rfl HXT.out (fun h => by cases h) (END.out _)
      · have hix : ∀ W : World, (Instr.index 9 (.string s) (.int .i64 ((p : Int) + 1))).run Tryz.prog W = .ok (.int .u8 (s[p + 1].toNat)) W := fun W => idx_at s (p + 1) hq2 W
        have hqe : (((p : Int) + 1) == (s.size : Int)) = false := by simp; omega
        have hqe' : decide (p + 1 = s.size) = false := by rw [decide_eq_false_iff_not]; omega
        have HXT := Lib.hid ((RT.out _ HF1.out).trans (show _ = (p + 1, 10 * d1, false) from by rw [pairNo2 (by rw [hd2]; simp)]))
        clear hd2
        refine wp_region_ext Z (by kernel_rfl) (by kernel_rfl) ?_
        repeat (go_big_quiet_step ((first
          | (go_at_call 38; with_reducible exact HD.out _ _))))
        refine wpQuiet_nil ?_
        intro _ hw'
        obtain ⟨Z, rfl⟩ := hw'
        go_wp2_with fail
        go_ret3
        exact RunRet.mk _ _ false rfl HXT.out (fun h => by cases h) (END.out _)
      · have hix : ∀ W : World, (Instr.index 9 (.string s) (.int .i64 ((p : Int) + 1))).run Tryz.prog W = .ok (.int .u8 (s[p + 1].toNat)) W := fun W => idx_at s (p + 1) hq2 W
        have hqe : (((p : Int) + 1) == (s.size : Int)) = false := by simp; omega
        have hqe' : decide (p + 1 = s.size) = false := by rw [decide_eq_false_iff_not]; omega
        by_cases hb2 : hi < 10 * d1 + ((s[p + 1].toNat : Int) - 48)
        · have z2 : decide (hi < 10 * d1 + ((s[p + 1].toNat : Int) - 48)) = true := by simpa using hb2
          have HXT := Lib.hid ((RT.out _ HF1.out).trans (show _ = (p + 1, 10 * d1, false) from by rw [pairNo2 (by rw [hby2]; omega)]))
          clear hd2
          refine wp_region_ext Z (by kernel_rfl) (by kernel_rfl) ?_
          repeat (go_big_quiet_step ((first
            | (go_at_call 38; with_reducible exact HD.out _ _))))
          refine wpQuiet_nil ?_
          intro _ hw'
          obtain ⟨Z, rfl⟩ := hw'
          go_wp2_with fail
          go_ret3
          exact RunRet.mk _ _ false rfl HXT.out (fun h => by cases h) (END.out _)
        · have z2 : decide (hi < 10 * d1 + ((s[p + 1].toNat : Int) - 48)) = false := by simpa using hb2
          have HXT := Lib.hid ((RT.out _ HF1.out).trans (show _ = (p + 2, 10 * d1 + ((s[p + 1].toNat : Int) - 48), true) from by rw [pairYes2 ⟨hd2, by rw [hby2]; omega⟩, hby2]))
          clear hd2
          refine wp_region_ext Z (by kernel_rfl) (by kernel_rfl) ?_
          repeat (go_big_quiet_step ((first
            | (go_at_call 38; with_reducible exact HD.out _ _))))
          refine wpQuiet_nil ?_
          intro _ hw'
          obtain ⟨U, rfl⟩ := hw'
          go_upto_region 16 with fail
          refine wp_region_ext U (by kernel_rfl) (by kernel_rfl) ?_
          repeat (go_big_quiet_step (fail))
          refine wpQuiet_nil ?_
          intro _ hw'
          obtain ⟨U2, rfl⟩ := hw'
          go_wp2_with fail
          go_ret3
          exact RunRet.mk _ _ true rfl HXT.out (fun _ => rfl) (END.out _)
set_option maxHeartbeats 8000000 in
set_option maxRecDepth 100000 in
theorem runLit_any (t : Tok) (hk : t.kind = 1) (s : ByteArray) (p : Nat) (hs : s.size ≤ 1000000) (hp : p ≤ s.size) (hT : t.text.size ≤ 100) (w : World) (hg : Glo w) :
    Calls Tryz.prog 44 #[tokV t, .string s, .int .i64 p] w fun e w' => RunRet s t p w e w' := by
  obtain ⟨kd, tx, lo, hi, dg⟩ := t
  simp only at hk hT
  subst hk
  unfold tokV
  simp only
  obtain ⟨V, hV, hbV, hsV, hcV⟩ := alloc_cells w #[.int .i64 (1 : Nat), .string tx, .int .i64 lo, .int .i64 hi, .int .i64 dg] 71
  have hkI : ((1 : Nat) : Int) = 1 := rfl
  rw [hkI] at hV hcV ⊢
  have c0 := Ext.ex (hcV 0 _ rfl)
  have c1 := Ext.ex (hcV 1 _ rfl)
  have c2 := Ext.ex (hcV 2 _ rfl)
  have c3 := Ext.ex (hcV 3 _ rfl)
  have c4 := Ext.ex (hcV 4 _ rfl)
  have END := Lib.hid (fun (X : Ext V) => below_step hbV X.2)
  have HG := Lib.hid (fun (X : Ext V) => hg.below (below_step hbV X.2))
  have HD := Lib.hid (fun (c : Nat) (X : Ext V) => Ext.same X (rIsDigit_any c X.1))
  have HV := Lib.hid hV
  have HP := Lib.hid hp
  have HS := Lib.hid hs
  clear hcV hV hbV hg hkI
  have RT : ∀ x, exactAt s tx p true = x → Rd.runT s ⟨1, tx, lo, hi, dg⟩ p = (x.1, 0, x.2) := fun x hx => by simp [Rd.runT, hx]
  have RT := Lib.hid RT
  have HTT := Lib.hid hT
  go_enter Tryz.func44, Tryz.ntmps44
  go_upto_region 1 with fail
  rw [HV.out]
  refine ext_wp fun X => ?_
  have x0 := c0 X
  go_upto_region 4 with fail
  go_loopw [2, 9] (fun mv iv wr => ∃ (q i : Nat) (Y : Ext V), mv = .int .i64 q ∧ iv = .int .i64 i ∧ i ≤ tx.size ∧ q ≤ s.size ∧ wr = Y.1 ∧ Rd.exactLoop s tx (tx.size - i) i q = exactAt s tx p true) (fun _ iv _ => tx.size - (intOf iv).toNat)
  case atStart => exact ⟨p, 0, X, rfl, rfl, Nat.zero_le _, HP.out, rfl, rfl⟩
  case round =>
    obtain ⟨q, i, Y, rfl, rfl, hi0, hq0, rfl, hL⟩ := hrel
    have y0 := c0 Y
    have y1 := c1 Y
    have y2 := c2 Y
    have y3 := c3 Y
    have y4 := c4 Y
    have HL := Lib.hid hL
    have hT := HTT.out
    have hq1 : q ≤ 1000000 := by omega
    clear hL x0
    by_cases hit : i < tx.size
    case neg =>
      have g1 : decide ((i : Int) < (tx.size : Int)) = false := by rw [lt_b]; simpa using hit
      have g2 : decide (i < tx.size) = false := by simpa using hit
      have HXT := Lib.hid (RT.out (q, true) (by rw [← HL.out, show tx.size - i = 0 by omega]; rfl))
      go_wp2_with fail
      go_ret3
      exact RunRet.mk _ _ true rfl HXT.out (fun _ => rfl) (END.out _)
    case pos =>
      have g1 : decide ((i : Int) < (tx.size : Int)) = true := by rw [lt_b]; simpa using hit
      have g2 : decide (i < tx.size) = true := by simpa using hit
      have hstep : Rd.exactLoop s tx (tx.size - i) i q = if q < s.size ∧ byte s q = byte tx i then Rd.exactLoop s tx (tx.size - (i + 1)) (i + 1) (q + 1) else (q, false) := by
        rw [show tx.size - i = (tx.size - (i + 1)) + 1 by omega]
        conv => lhs; rw [Rd.exactLoop]
        rw [if_pos hit]
      by_cases hq : q < s.size
      case neg =>
        have g3 : ((q : Int) == (s.size : Int)) = true := by rw [eq_b]; simp; omega
        have g4 : decide (q = s.size) = true := by simp; omega
        have HXT := Lib.hid (RT.out (q, false) (by rw [← HL.out, hstep, if_neg (fun h => hq h.1)]))
        clear hstep
        go_upto_region 6 with fail
        refine wp_region_ext Y (by kernel_rfl) (by kernel_rfl) ?_
        repeat (go_big_quiet_step (fail))
        refine wpQuiet_nil ?_
        intro _ hw'
        obtain ⟨Z, rfl⟩ := hw'
        go_wp2_with fail
        go_ret3
        exact RunRet.mk _ _ false rfl HXT.out (fun h => by cases h) (END.out _)
      case pos =>
        have g3 : ((q : Int) == (s.size : Int)) = false := by rw [eq_b]; simp; omega
        have g4 : decide (q = s.size) = false := by simp; omega
        rw [Rd.byte_lt hq, Rd.byte_lt hit] at hstep
        by_cases he : s[q].toNat = tx[i].toNat
        case neg =>
          have g5 : ((s[q].toNat : Int) == (tx[i].toNat : Int)) = false := by rw [eq_b]; simpa using he
          have g6 : ((s[q].toNat : Int) != (tx[i].toNat : Int)) = true := by rw [bne, g5]; rfl
          have g7 : decide (s[q].toNat = tx[i].toNat) = false := by simpa using he
          have HXT := Lib.hid (RT.out (q, false) (by rw [← HL.out, hstep, if_neg (fun h => he h.2)]))
          clear hstep
          go_upto_region 6 with fail
          refine wp_region_ext Y (by kernel_rfl) (by kernel_rfl) ?_
          repeat (go_big_quiet_step (fail))
          refine wpQuiet_nil ?_
          intro _ hw'
          obtain ⟨Z, rfl⟩ := hw'
          go_wp2_with fail
          go_ret3
          exact RunRet.mk _ _ false rfl HXT.out (fun h => by cases h) (END.out _)
        case pos =>
          have g5 : ((s[q].toNat : Int) == (tx[i].toNat : Int)) = true := by rw [eq_b]; simpa using he
          have g6 : ((s[q].toNat : Int) != (tx[i].toNat : Int)) = false := by rw [bne, g5]; rfl
          have g7 : decide (s[q].toNat = tx[i].toNat) = true := by simpa using he
          have HN := Lib.hid (show Rd.exactLoop s tx (tx.size - (i + 1)) (i + 1) (q + 1) = exactAt s tx p true by rw [← HL.out, hstep, if_pos ⟨hq, he⟩])
          clear hstep
          go_upto_region 6 with fail
          refine wp_region_ext Y (by kernel_rfl) (by kernel_rfl) ?_
          repeat (go_big_quiet_step (fail))
          refine wpQuiet_nil ?_
          intro _ hw'
          obtain ⟨Z, rfl⟩ := hw'
          go_wp2_with fail
          go_roundw
          case rel => exact ⟨q + 1, i + 1, Z, by go_num, by go_num, by omega, by omega, rfl, HN.out⟩
          case measure => simp [intOf]; omega
/-! ### a row of digits behind a point -/
theorem atoi_dig {s : ByteArray} {p m : Nat} {n : Int} (h : DigRow s p m n) (hm : m ≤ 18) (w : World) (hg : Glo w) :
    Calls Tryz.prog 84 #[.string (s.extract p (p + m))] w fun e w' => ∃ ev, e = .returned (.tuple #[.int .i64 n, ev]) ∧ Below w.heap.size w w' := by
  have hz := Rd.ext_size h.le
  rcases Nat.eq_zero_or_pos m with h0 | h0
  · have hl := h.lt
    subst h0
    have hn : n = 0 := by
      have := hl.2
      simp at this
      omega
    subst hn
    obtain ⟨tp, q, hv⟩ := hg.s
    have he : Lib.atoiAll (s.extract p (p + 0)).data.toList = Lib.atoiAll [] := by
      have : (s.extract p (p + 0)).data.toList = [] := List.eq_nil_of_length_eq_zero hz
      rw [this]
    refine (Tryz.strconv_Atoi_syntax_var (s.extract p (p + 0)) (by omega) he tp q w hv).mono ?_
    rintro e w' ⟨N, rfl, _, _, hb⟩
    exact ⟨_, rfl, hb⟩
  · refine (atoi_every (s.extract p (p + m)) (by omega) w hg).mono ?_
    rintro e w' ⟨nn, ev, rfl, hb, _, _, hv⟩
    obtain rfl := hv n (h.num h0 hm)
    exact ⟨ev, rfl, hb⟩
theorem scaled_lt {n : Int} {m i : Nat} (h0 : 0 ≤ n) (h : n < 10 ^ m) (hm : m ≤ i) (hi : i ≤ 5) : 0 ≤ n * 10 ^ (i - m) ∧ n * 10 ^ (i - m) ≤ 100000 := by
  obtain ⟨k, rfl⟩ : ∃ k, i = m + k := ⟨i - m, by omega⟩
  rw [show m + k - m = k by omega]
  have hk : (0 : Int) < 10 ^ k := Int.pow_pos (by omega)
  have h1 : n * 10 ^ k < 10 ^ m * 10 ^ k := Int.mul_lt_mul_of_pos_right h hk
  rw [← Int.pow_add] at h1
  have h2 : (10 : Int) ^ (m + k) ≤ 10 ^ 5 := by exact_mod_cast Nat.pow_le_pow_right (show 0 < 10 by omega) hi
  have h3 : (10 : Int) ^ 5 = 100000 := by decide
  exact ⟨Int.mul_nonneg h0 (Int.le_of_lt hk), by omega⟩
set_option maxHeartbeats 8000000 in
set_option maxRecDepth 100000 in
theorem runPart_any (t : Tok) (hk : t.kind = 4) (s : ByteArray) (p : Nat) (hs : s.size ≤ 1000000) (hp : p ≤ s.size) (hT : t.digits ≤ 6) (w : World) (hg : Glo w) :
    Calls Tryz.prog 44 #[tokV t, .string s, .int .i64 p] w fun e w' => RunRet s t p w e w' := by
  obtain ⟨kd, tx, lo, hi, dg⟩ := t
  simp only at hk hT
  subst hk
  unfold tokV
  simp only
  obtain ⟨V, hV, hbV, hsV, hcV⟩ := alloc_cells w #[.int .i64 (4 : Nat), .string tx, .int .i64 lo, .int .i64 hi, .int .i64 dg] 71
  have hkI : ((4 : Nat) : Int) = 4 := rfl
  rw [hkI] at hV hcV ⊢
  have c0 := Ext.ex (hcV 0 _ rfl)
  have c1 := Ext.ex (hcV 1 _ rfl)
  have c2 := Ext.ex (hcV 2 _ rfl)
  have c3 := Ext.ex (hcV 3 _ rfl)
  have c4 := Ext.ex (hcV 4 _ rfl)
  have END := Lib.hid (fun (X : Ext V) => below_step hbV X.2)
  have HG := Lib.hid (fun (X : Ext V) => hg.below (below_step hbV X.2))
  have HD := Lib.hid (fun (c : Nat) (X : Ext V) => Ext.same X (rIsDigit_any c X.1))
  have HV := Lib.hid hV
  have HP := Lib.hid hp
  have HS := Lib.hid hs
  clear hcV hV hbV hg hkI
  have RT : ∀ x, Rd.rowAt s dg true p = x → Rd.runT s ⟨4, tx, lo, hi, dg⟩ p = (x.2.2, x.1 * 10 ^ (dg - x.2.1), decide (0 < x.2.1)) := fun x hx => by simp [Rd.runT, hx]
  have RT := Lib.hid RT
  have HTT := Lib.hid hT
  go_enter Tryz.func44, Tryz.ntmps44
  go_upto_region 1 with fail
  rw [HV.out]
  refine ext_wp fun X => ?_
  have x0 := c0 X
  go_upto_region 23 with fail
  go_wp2_with fail
  go_loopw [2] (fun mv wr => ∃ (q m : Nat) (n : Int) (Y : Ext V), mv = .int .i64 q ∧ q = p + m ∧ wr = Y.1 ∧ RowSt s dg p m n) (fun mv _ => s.size - (intOf mv).toNat)
  case atStart => exact ⟨p, 0, 0, X, rfl, rfl, rfl, RowSt.start HP.out⟩
  case round =>
    obtain ⟨q, m, n, Y, rfl, hqm, rfl, hN⟩ := hrel
    have y0 := c0 Y
    have y1 := c1 Y
    have y2 := c2 Y
    have y3 := c3 Y
    have y4 := c4 Y
    have hle := hN.row.le
    have hm6 := hN.le
    have HN := Lib.hid hN
    have hq1 : q ≤ 1000000 := by omega
    have hsub : (q : Int) - (p : Int) = (m : Int) := by omega
    clear hN x0
    rcases dig_cases s q (by omega) with ⟨hq, hd⟩ | ⟨hq, hisd, hd⟩ | ⟨hq, hisd, hd, h48, h57, hby⟩
    rotate_left
    rotate_left
    · have hqd : decide ((q : Int) < (s.size : Int)) = true := by rw [decide_eq_true_eq]; omega
      have hqd' : decide (q < s.size) = true := by simpa using hq
      have hd' : digAt s (p + m) true = true := by rw [← hqm]; exact hd
      by_cases hmd : m < dg
      case pos =>
        have k1 : decide ((q : Int) - (p : Int) < (dg : Int)) = true := by rw [hsub, lt_b]; simpa using hmd
        have k2 : decide ((m : Int) < (dg : Int)) = true := by rw [lt_b]; simpa using hmd
        have HNX := Lib.hid (HN.out.next hmd hd')
        obtain ⟨nn, hnn⟩ : ∃ x, 10 * n + ((byte s (p + m) : Int) - 48) = x := ⟨_, rfl⟩
        rw [hnn] at HNX
        clear hd hd' hnn
        have HQM := Lib.hid hqm
        clear hqm
        have DIG := Lib.hid (rIsDigit_any (s[q].toNat) Y.1)
        rw [hisd] at DIG
        go_wp2_with (go_at_call 38; refine DIG.out.mono ?_; rintro e _ ⟨rfl, rfl⟩)
        go_roundw
        case rel => exact ⟨q + 1, m + 1, nn, Y, by go_num, by have := HQM.out; omega, rfl, HNX.out⟩
        case measure => simp [intOf]; omega
      case neg =>
        have k1 : decide ((q : Int) - (p : Int) < (dg : Int)) = false := by rw [hsub, lt_b]; simpa using hmd
        have k2 : decide ((m : Int) < (dg : Int)) = false := by rw [lt_b]; simpa using hmd
        have HX := Lib.hid (HN.out.stop (fun h => hmd h.1))
        clear hd hd'
        have HQM := Lib.hid hqm
        clear hqm
        have DIG := Lib.hid (rIsDigit_any (s[q].toNat) Y.1)
        rw [hisd] at DIG
        go_upto_region 26 with (go_at_call 38; refine DIG.out.mono ?_; rintro e _ ⟨rfl, rfl⟩)
        have HXT := Lib.hid (RT.out _ HX.out)
        have HROW := Lib.hid (HN.out.row)
        have hle2 := HROW.out.le
        have DA := Lib.hid (atoi_dig HN.out.row (by omega) Y.1 (HG.out Y))
        rw [← HQM.out] at DA
        have hsl2 : ∀ W : World, (Instr.slice 9 (.string s) (some (.int .i64 (p : Int))) (some (.int .i64 (q : Int))) none).run Tryz.prog W = .ok (.string (s.extract p q)) W := fun W => by
          have := HQM.out
          rw [run_slice_string W _ _ _ _ _ _ (by kernel_rfl) (by omega) (by omega) (by omega)]
          rw [show ((p : Int)).toNat = p by omega, show ((q : Int)).toNat = q by omega]
        go_upto_region 27 with (go_at_call 84; refine DA.out.mono ?_; rintro e w3 ⟨ev, rfl, hb3⟩)
        obtain ⟨U, rfl⟩ : ∃ U : Ext V, w3 = U.1 := ⟨⟨w3, below_step Y.2 hb3⟩, rfl⟩
        have HLT := Lib.hid (HROW.out.lt)
        have hdg6 := HTT.out
        clear hb3 DA
        go_upto_region 28 with fail
        go_loopw [15, 17] (fun vv iv wr => ∃ (i : Nat), vv = .int .i64 (n * 10 ^ (i - m)) ∧ iv = .int .i64 i ∧ m ≤ i ∧ i ≤ dg ∧ wr = U.1) (fun _ iv _ => dg - (intOf iv).toNat)
        case atStart => exact ⟨m, by simp, congrArg (Value.int .i64) (by have := HQM.out; omega), Nat.le_refl _, hm6, rfl⟩
        case round =>
          obtain ⟨i, rfl, rfl, him, hid, rfl⟩ := hrel
          have u0 := c0 U
          have u1 := c1 U
          have u2 := c2 U
          have u3 := c3 U
          have u4 := c4 U
          by_cases hlt : i < dg
          case pos =>
            exfalso
            omega
          case neg =>
            have l1 : decide ((i : Int) < (dg : Int)) = false := by rw [lt_b]; simpa using hlt
            have l2 : decide (i < dg) = false := by simpa using hlt
            have hid2 : i = dg := by omega
            have HXU := Lib.hid (show Rd.runT s ⟨4, tx, lo, hi, dg⟩ p = (q, n * 10 ^ (i - m), decide (0 < m)) by rw [HXT.out, hid2, HQM.out])
            have hpq : decide ((p : Int) < (q : Int)) = decide (0 < m) := by rw [lt_b]; congr 1; rw [eq_iff_iff]; have := HQM.out; omega
            have hpq' : decide (p < q) = decide (0 < m) := by congr 1; rw [eq_iff_iff]; have := HQM.out; omega
            obtain ⟨bm, hbm⟩ : ∃ x, decide (0 < m) = x := ⟨_, rfl⟩
            rw [hbm] at hpq hpq' HXU
            obtain ⟨vv, hvv⟩ : ∃ vv, n * 10 ^ (i - m) = vv := ⟨_, rfl⟩
            rw [hvv] at HXU ⊢
            clear hvv hid2 hlt
            cases bm
            all_goals
              go_wp2_with fail
              go_ret3
              exact RunRet.mk q vv _ rfl HXU.out (fun _ => rfl) (END.out _)
    · have hqd : decide ((q : Int) < (s.size : Int)) = false := by rw [decide_eq_false_iff_not]; omega
      have hqd' : decide (q < s.size) = false := by rw [decide_eq_false_iff_not]; omega
      have HX := Lib.hid (HN.out.stop (by rw [← hqm, hd]; simp))
      clear hd hq
      have HQM := Lib.hid hqm
      clear hqm
      go_upto_region 26 with fail
      have HXT := Lib.hid (RT.out _ HX.out)
      have HROW := Lib.hid (HN.out.row)
      have hle2 := HROW.out.le
      have DA := Lib.hid (atoi_dig HN.out.row (by omega) Y.1 (HG.out Y))
      rw [← HQM.out] at DA
      have hsl2 : ∀ W : World, (Instr.slice 9 (.string s) (some (.int .i64 (p : Int))) (some (.int .i64 (q : Int))) none).run Tryz.prog W = .ok (.string (s.extract p q)) W := fun W => by
        have := HQM.out
        rw [run_slice_string W _ _ _ _ _ _ (by kernel_rfl) (by omega) (by omega) (by omega)]
        rw [show ((p : Int)).toNat = p by omega, show ((q : Int)).toNat = q by omega]
      go_upto_region 27 with (go_at_call 84; refine DA.out.mono ?_; rintro e w3 ⟨ev, rfl, hb3⟩)
      obtain ⟨U, rfl⟩ : ∃ U : Ext V, w3 = U.1 := ⟨⟨w3, below_step Y.2 hb3⟩, rfl⟩
      have HLT := Lib.hid (HROW.out.lt)
      have hdg6 := HTT.out
      clear hb3 DA
      go_upto_region 28 with fail
      go_loopw [15, 17] (fun vv iv wr => ∃ (i : Nat), vv = .int .i64 (n * 10 ^ (i - m)) ∧ iv = .int .i64 i ∧ m ≤ i ∧ i ≤ dg ∧ wr = U.1) (fun _ iv _ => dg - (intOf iv).toNat)
      case atStart => exact ⟨m, by simp, congrArg (Value.int .i64) (by have := HQM.out; omega), Nat.le_refl _, hm6, rfl⟩
      case round =>
        obtain ⟨i, rfl, rfl, him, hid, rfl⟩ := hrel
        have u0 := c0 U
        have u1 := c1 U
        have u2 := c2 U
        have u3 := c3 U
        have u4 := c4 U
        by_cases hlt : i < dg
        case pos =>
          have l1 : decide ((i : Int) < (dg : Int)) = true := by rw [lt_b]; simpa using hlt
          have l2 : decide (i < dg) = true := by simpa using hlt
          have hsc := scaled_lt HLT.out.1 HLT.out.2 him (show i ≤ 5 by omega)
          have HPW := Lib.hid (show n * 10 ^ (i + 1 - m) = n * 10 ^ (i - m) * 10 by rw [show i + 1 - m = (i - m) + 1 by omega, Int.pow_succ, Int.mul_assoc])
          obtain ⟨vv, hvv⟩ : ∃ vv, n * 10 ^ (i - m) = vv := ⟨_, rfl⟩
          rw [hvv] at hsc HPW ⊢
          clear hvv
          go_wp2_with fail
          go_roundw
          case rel => exact ⟨i + 1, by rw [HPW.out], by go_num, by omega, by omega, by trivial⟩
          case measure => simp [intOf]; omega
        case neg =>
          have l1 : decide ((i : Int) < (dg : Int)) = false := by rw [lt_b]; simpa using hlt
          have l2 : decide (i < dg) = false := by simpa using hlt
          have hid2 : i = dg := by omega
          have HXU := Lib.hid (show Rd.runT s ⟨4, tx, lo, hi, dg⟩ p = (q, n * 10 ^ (i - m), decide (0 < m)) by rw [HXT.out, hid2, HQM.out])
          have hpq : decide ((p : Int) < (q : Int)) = decide (0 < m) := by rw [lt_b]; congr 1; rw [eq_iff_iff]; have := HQM.out; omega
          have hpq' : decide (p < q) = decide (0 < m) := by congr 1; rw [eq_iff_iff]; have := HQM.out; omega
          obtain ⟨bm, hbm⟩ : ∃ x, decide (0 < m) = x := ⟨_, rfl⟩
          rw [hbm] at hpq hpq' HXU
          obtain ⟨vv, hvv⟩ : ∃ vv, n * 10 ^ (i - m) = vv := ⟨_, rfl⟩
          rw [hvv] at HXU ⊢
          clear hvv hid2 hlt
          cases bm
          all_goals
            go_wp2_with fail
            go_ret3
            exact RunRet.mk q vv _ rfl HXU.out (fun _ => rfl) (END.out _)
    · have hqd : decide ((q : Int) < (s.size : Int)) = true := by rw [decide_eq_true_eq]; omega
      have hqd' : decide (q < s.size) = true := by simpa using hq
      have HX := Lib.hid (HN.out.stop (by rw [← hqm, hd]; simp))
      clear hd
      have HQM := Lib.hid hqm
      clear hqm
      have DIG := Lib.hid (rIsDigit_any (s[q].toNat) Y.1)
      rw [hisd] at DIG
      go_upto_region 26 with (go_at_call 38; refine DIG.out.mono ?_; rintro e _ ⟨rfl, rfl⟩)
      have HXT := Lib.hid (RT.out _ HX.out)
      have HROW := Lib.hid (HN.out.row)
      have hle2 := HROW.out.le
      have DA := Lib.hid (atoi_dig HN.out.row (by omega) Y.1 (HG.out Y))
      rw [← HQM.out] at DA
      have hsl2 : ∀ W : World, (Instr.slice 9 (.string s) (some (.int .i64 (p : Int))) (some (.int .i64 (q : Int))) none).run Tryz.prog W = .ok (.string (s.extract p q)) W := fun W => by
        have := HQM.out
        rw [run_slice_string W _ _ _ _ _ _ (by kernel_rfl) (by omega) (by omega) (by omega)]
        rw [show ((p : Int)).toNat = p by omega, show ((q : Int)).toNat = q by omega]
      go_upto_region 27 with (go_at_call 84; refine DA.out.mono ?_; rintro e w3 ⟨ev, rfl, hb3⟩)
      obtain ⟨U, rfl⟩ : ∃ U : Ext V, w3 = U.1 := ⟨⟨w3, below_step Y.2 hb3⟩, rfl⟩
      have HLT := Lib.hid (HROW.out.lt)
      have hdg6 := HTT.out
      clear hb3 DA
      go_upto_region 28 with fail
      go_loopw [15, 17] (fun vv iv wr => ∃ (i : Nat), vv = .int .i64 (n * 10 ^ (i - m)) ∧ iv = .int .i64 i ∧ m ≤ i ∧ i ≤ dg ∧ wr = U.1) (fun _ iv _ => dg - (intOf iv).toNat)
      case atStart => exact ⟨m, by simp, congrArg (Value.int .i64) (by have := HQM.out; omega), Nat.le_refl _, hm6, rfl⟩
      case round =>
        obtain ⟨i, rfl, rfl, him, hid, rfl⟩ := hrel
        have u0 := c0 U
        have u1 := c1 U
        have u2 := c2 U
        have u3 := c3 U
        have u4 := c4 U
        by_cases hlt : i < dg
        case pos =>
          have l1 : decide ((i : Int) < (dg : Int)) = true := by rw [lt_b]; simpa using hlt
          have l2 : decide (i < dg) = true := by simpa using hlt
          have hsc := scaled_lt HLT.out.1 HLT.out.2 him (show i ≤ 5 by omega)
          have HPW := Lib.hid (show n * 10 ^ (i + 1 - m) = n * 10 ^ (i - m) * 10 by rw [show i + 1 - m = (i - m) + 1 by omega, Int.pow_succ, Int.mul_assoc])
          obtain ⟨vv, hvv⟩ : ∃ vv, n * 10 ^ (i - m) = vv := ⟨_, rfl⟩
          rw [hvv] at hsc HPW ⊢
          clear hvv
          go_wp2_with fail
          go_roundw
          case rel => exact ⟨i + 1, by rw [HPW.out], by go_num, by omega, by omega, by trivial⟩
          case measure => simp [intOf]; omega
        case neg =>
          have l1 : decide ((i : Int) < (dg : Int)) = false := by rw [lt_b]; simpa using hlt
          have l2 : decide (i < dg) = false := by simpa using hlt
          have hid2 : i = dg := by omega
          have HXU := Lib.hid (show Rd.runT s ⟨4, tx, lo, hi, dg⟩ p = (q, n * 10 ^ (i - m), decide (0 < m)) by rw [HXT.out, hid2, HQM.out])
          have hpq : decide ((p : Int) < (q : Int)) = decide (0 < m) := by rw [lt_b]; congr 1; rw [eq_iff_iff]; have := HQM.out; omega
          have hpq' : decide (p < q) = decide (0 < m) := by congr 1; rw [eq_iff_iff]; have := HQM.out; omega
          obtain ⟨bm, hbm⟩ : ∃ x, decide (0 < m) = x := ⟨_, rfl⟩
          rw [hbm] at hpq hpq' HXU
          obtain ⟨vv, hvv⟩ : ∃ vv, n * 10 ^ (i - m) = vv := ⟨_, rfl⟩
          rw [hvv] at HXU ⊢
          clear hvv hid2 hlt
          cases bm
          all_goals
            go_wp2_with fail
            go_ret3
            exact RunRet.mk q vv _ rfl HXU.out (fun _ => rfl) (END.out _)
theorem run_any (t : Tok) (ht : Rd.TokOk t) (s : ByteArray) (p : Nat) (hs : s.size ≤ 1000000) (hp : p ≤ s.size) (w : World) (hg : Glo w) :
    Calls Tryz.prog 44 #[tokV t, .string s, .int .i64 p] w fun e w' => RunRet s t p w e w' := by
  rcases ht with h | h | h | h
  · exact runLit_any t h.1 s p hs hp h.2 w hg
  · exact runNum_any t h.1 s p hs hp h.2 w hg
  · exact runPair_any t h.1 s p hs hp h.2 w hg
  · exact runPart_any t h.1 s p hs hp h.2 w hg
end Go.Proofs.YtaghhndcimjjgaaGreatDoor

/- Going along a form; the first form that a text has (reference). -/
namespace Go.Proofs.YtaghhndcimjjgaaGreatDoor
open Go.RowKit Go.BigFrame
open Rd (sB bt itoaB Tok TokOk matchT firstT tok0 MatchAt FirstAt)

/-- a form as it lies in memory -/
def FormIn (w : World) (a : Option Addr) (f : List Tok) : Prop := RowK w a f.length 5 (fun i => tokCells (f.getD i tok0))
/-- what match hands back -/
def MatchRet (s : ByteArray) (f : List Tok) (w : World) (e : Ending) (w' : World) : Prop :=
  ∃ lv, e = .returned (.tuple #[.int .i64 (matchT s f 0).1, lv, .bool (matchT s f 0).2.2]) ∧ Below w.heap.size w w' ∧ ((matchT s f 0).2.2 = true → w'.ownsRow w.heap.size 3 1 lv (matchT s f 0).2.1.length ((matchT s f 0).2.1.map (.int .i64)))
theorem MatchRet.mk {s : ByteArray} {f : List Tok} {w w' : World} {e : Ending} {q : Nat} {L : List Int} {b : Bool} (lv : Value) (he : e = .returned (.tuple #[.int .i64 q, lv, .bool b])) (h : matchT s f 0 = (q, L, b)) (hb : Below w.heap.size w w') (ho : b = true → w'.ownsRow w.heap.size 3 1 lv L.length (L.map (.int .i64))) : MatchRet s f w e w' := by
  refine ⟨lv, ?_, hb, ?_⟩
  · rw [h]; exact he
  · rw [h]; exact ho
/-- forms as they lie in memory -/
def FormsIn (w : World) (a : Option Addr) (l : List (List Tok)) : Prop :=
  ∀ j f, l[j]? = some f → ∃ b off aj cj, a = some ⟨b, off, none⟩ ∧ b < w.heap.size ∧ w.cell? ⟨b, off + j, none⟩ = some (.slice aj f.length cj) ∧ FormIn w aj f ∧ (∀ t, t ∈ f → TokOk t) ∧ f.length ≤ 1000
theorem FormsIn.below {w w' : World} {a : Option Addr} {l : List (List Tok)} (h : FormsIn w a l) (hb : Below w.heap.size w w') : FormsIn w' a l := by
  intro j f hf
  obtain ⟨b, off, aj, cj, h1, h2, h3, h4, h5, h6⟩ := h j f hf
  exact ⟨b, off, aj, cj, h1, Nat.lt_of_lt_of_le h2 hb.size, below_cell hb h3, RowK.below h4 hb (Nat.le_refl _), h5, h6⟩
/-- what first hands back -/
def FirstRet (s : ByteArray) (l : List (List Tok)) (w : World) (e : Ending) (w' : World) : Prop :=
  ∃ lv, e = .returned (.tuple #[.int .i64 (firstT s l 0 0).1, lv, .int .i64 ((firstT s l 0 0).2.2 : Nat)]) ∧ Below w.heap.size w w' ∧ (0 ≤ (firstT s l 0 0).1 → w'.ownsRow w.heap.size 3 1 lv (firstT s l 0 0).2.1.length ((firstT s l 0 0).2.1.map (.int .i64)))
theorem FirstRet.mk {s : ByteArray} {l : List (List Tok)} {w w' : World} {e : Ending} {n : Int} {far : Nat} {L : List Int} (lv : Value) (he : e = .returned (.tuple #[.int .i64 n, lv, .int .i64 (far : Nat)])) (h : firstT s l 0 0 = (n, L, far)) (hb : Below w.heap.size w w') (ho : 0 ≤ n → w'.ownsRow w.heap.size 3 1 lv L.length (L.map (.int .i64))) : FirstRet s l w e w' := by
  refine ⟨lv, ?_, hb, ?_⟩
  · rw [h]; exact he
  · rw [h]; exact ho
end Go.Proofs.YtaghhndcimjjgaaGreatDoor

/- ReadDuration of the reference. -/
namespace Go.Proofs.YtaghhndcimjjgaaGreatDoor
open Go.RowKit Go.BigFrame
open Rd (sB bt itoaB Tok TokOk matchT firstT tok0 durT durU refDur dotU shortT longT lform litT numT pairT byteT unitL sel letL bitOn)

theorem lt_of_block {w : World} {b : Nat} {o : Obj} (h : w.heap[b]? = some o) : b < w.heap.size := (Array.getElem?_eq_some_iff.1 h).1
theorem block_cell {w : World} {b i : Nat} {cs : Array Value} {T : TypeId} {v : Value} (h : w.heap[b]? = some (.cells cs T (0, 0))) (hv : cs[i]? = some v) : w.cell? ⟨b, i, none⟩ = some v := by simp [World.cell?, h, hv]
theorem alloc_block (w : World) (cs : Array Value) (T : TypeId) : ∃ W, w.alloc (.cells cs T) = W ∧ Below w.heap.size w W ∧ W.heap.size = w.heap.size + 1 ∧ W.heap[w.heap.size]? = some (.cells cs T (0, 0)) :=
  ⟨_, rfl, below_al _ _, by simp, heap_alloc_new w _⟩
theorem below_block {w w' : World} {b : Nat} {o : Obj} (hb : Below w.heap.size w w') (h : w.heap[b]? = some o) : w'.heap[b]? = some o := (hb.block b (lt_of_block h)).trans h
theorem addr_add0 (b j : Nat) : (⟨b, 0, none⟩ : Addr).add j = ⟨b, j, none⟩ := by
  unfold Addr.add
  split <;> simp_all
theorem flatN {β : Type} {f : β → List Value} {m : Nat} (d : β) (hf : ∀ q, (f q).length = m) : ∀ (l : List β) (k j : Nat), k < l.length → j < m → (l.flatMap f)[k * m + j]? = (f (l.getD k d))[j]?
  | [], k, j, h, _ => by simp at h
  | q :: l, 0, j, _, hj => by
    rw [List.flatMap_cons, Nat.zero_mul, Nat.zero_add, List.getElem?_append_left (by rw [hf]; exact hj)]
    rfl
  | q :: l, k + 1, j, h, hj => by
    rw [List.flatMap_cons, List.getElem?_append_right (by rw [hf, Nat.succ_mul]; omega), hf, show (k + 1) * m + j - m = k * m + j by rw [Nat.succ_mul]; omega]
    exact flatN d hf l k j (by simpa using h) hj
/-- a form in a block of its own -/
def FormBlk (w : World) (v : Value) (f : List Tok) : Prop := ∃ (b c : Nat) (cs : Array Value), v = .slice (some ⟨b, 0, none⟩) f.length c ∧ w.heap[b]? = some (.cells cs 71 (0, 0)) ∧ ∀ i j, i < f.length → j < 5 → cs[i * 5 + j]? = (tokCells (f.getD i tok0))[j]?
def UnitBlk (w : World) (v : Value) (us : List Int) : Prop := ∃ (b c : Nat) (cs : Array Value), v = .slice (some ⟨b, 0, none⟩) us.length c ∧ w.heap[b]? = some (.cells cs 3 (0, 0)) ∧ ∀ i, i < us.length → cs[i]? = some (.int .i64 (us.getD i 0))
/-- what lies in blocks of other types than e is as it was -/
def Still (e : TypeId) (w w' : World) : Prop := ∀ (b : Nat) (cs : Array Value) (T : TypeId) (fr : Nat × Nat), T ≠ e → w.heap[b]? = some (Obj.cells cs T fr) → w'.heap[b]? = some (Obj.cells cs T fr)
theorem Still.of_below {e : TypeId} {w w' : World} (h : Below w.heap.size w w') : Still e w w' := fun _ _ _ _ _ hb => below_block h hb
theorem Still.of_grown {e : TypeId} {w w' : World} {base size n : Nat} {v : Value} {xs : List Value} (ho : w.ownsRow base e size v n xs) (hg : w.grownBy w' v.ownBlock) : Still e w w' := fun b cs T fr hT hb => by
  have hk : Kept (fun k => v.ownBlock = some k) w w' := Kept.of_grown hg (fun g hg _ => hg)
  refine (hk.block b (lt_of_block hb) (fun hv => ?_)).trans hb
  obtain ⟨c, fz, hc⟩ := Lib.ownsRow_kind ho b hv
  rw [hb] at hc
  injection hc with hc
  injection hc with _ h2 _
  exact hT h2
theorem Still.trans {e : TypeId} {a b c : World} (h : Still e a b) (k : Still e b c) : Still e a c := fun x cs T fr hT hb => k x cs T fr hT (h x cs T fr hT hb)
theorem FormBlk.still {e : TypeId} {w w' : World} {v : Value} {f : List Tok} (h : FormBlk w v f) (hs : Still e w w') (he : 71 ≠ e) : FormBlk w' v f := by
  obtain ⟨b, c, cs, h1, h2, h3⟩ := h
  exact ⟨b, c, cs, h1, hs _ _ _ _ he h2, h3⟩
theorem UnitBlk.still {e : TypeId} {w w' : World} {v : Value} {us : List Int} (h : UnitBlk w v us) (hs : Still e w w') (he : 3 ≠ e) : UnitBlk w' v us := by
  obtain ⟨b, c, cs, h1, h2, h3⟩ := h
  exact ⟨b, c, cs, h1, hs _ _ _ _ he h2, h3⟩
theorem FormBlk.below {w w' : World} {v : Value} {f : List Tok} (h : FormBlk w v f) (hb : Below w.heap.size w w') : FormBlk w' v f := by
  obtain ⟨b, c, cs, h1, h2, h3⟩ := h
  exact ⟨b, c, cs, h1, below_block hb h2, h3⟩
theorem UnitBlk.below {w w' : World} {v : Value} {us : List Int} (h : UnitBlk w v us) (hb : Below w.heap.size w w') : UnitBlk w' v us := by
  obtain ⟨b, c, cs, h1, h2, h3⟩ := h
  exact ⟨b, c, cs, h1, below_block hb h2, h3⟩
theorem FormBlk.form {w : World} {v : Value} {f : List Tok} (h : FormBlk w v f) : ∃ a c, v = .slice a f.length c ∧ FormIn w a f := by
  obtain ⟨b, c, cs, h1, h2, h3⟩ := h
  refine ⟨_, c, h1, ⟨fun hl => ⟨b, 0, rfl, lt_of_block h2, fun i hi j hj => ?_⟩⟩⟩
  rw [Nat.zero_add]
  have hv : ∃ v, (tokCells (f.getD i tok0))[j]? = some v := ⟨_, List.getElem?_eq_getElem (by show j < 5; omega)⟩
  obtain ⟨v, hv⟩ := hv
  show w.cell? _ = (tokCells (f.getD i tok0))[j]?
  rw [hv]
  exact block_cell h2 (by rw [h3 i j hi hj, hv])
theorem own_open {w : World} {b e k n : Nat} {v : Value} {xs : List Value} (h : w.ownsRow b e k v n xs) (hn : 0 < n) : ∃ g c, v = .slice (some ⟨g, 0, none⟩) n c := by
  rcases h.2 with ⟨_, h0⟩ | ⟨g, cap, cur, e, _⟩
  · omega
  · exact ⟨g, cap, e⟩
theorem own_cur {w : World} {b e k n : Nat} {v : Value} {xs : List Value} (h : w.ownsRow b e k v n xs) (hn : 0 < n) : ∃ (g c : Nat) (cs : Array Value), v = .slice (some ⟨g, 0, none⟩) n c ∧ w.heap[g]? = some (.cells cs e (0, 0)) ∧ ∀ j, j < n * k → cs[j]? = xs[j]? := by
  rcases h.2 with ⟨_, h0⟩ | ⟨g, cap, cur, e, _, h3, _, _, _, h7⟩
  · omega
  · refine ⟨g, cap, cur, e, h3, fun j hj => ?_⟩
    rw [← h7, List.getElem?_take_of_lt hj]
    simp
theorem form_of_own {w : World} {b : Nat} {v : Value} {f : List Tok} (h : w.ownsRow b 71 5 v f.length (f.flatMap tokCells)) (hn : 0 < f.length) : FormBlk w v f := by
  obtain ⟨g, c, cs, h1, h2, h3⟩ := own_cur h hn
  refine ⟨g, c, cs, h1, h2, fun i j hi hj => ?_⟩
  rw [h3 (i * 5 + j) (by omega)]
  exact flatN (f := tokCells) (m := 5) tok0 (fun _ => rfl) f i j hi hj
theorem unit_of_own {w : World} {b : Nat} {v : Value} {us : List Int} (h : w.ownsRow b 3 1 v us.length (us.map (.int .i64))) (hn : 0 < us.length) : UnitBlk w v us := by
  obtain ⟨g, c, cs, h1, h2, h3⟩ := own_cur h hn
  refine ⟨g, c, cs, h1, h2, fun i hi => ?_⟩
  rw [h3 i (by omega)]
  simp [List.getD_eq_getElem?_getD, List.getElem?_eq_getElem hi]
theorem own_ne {w : World} {b b' e e' k k' n n' : Nat} {v v' : Value} {xs xs' : List Value} (h : w.ownsRow b e k v n xs) (h' : w.ownsRow b' e' k' v' n' xs') (hne : e ≠ e') : v'.ownBlock = none ∨ v'.ownBlock ≠ v.ownBlock := by
  cases hv : v'.ownBlock with
  | none => exact Or.inl rfl
  | some g =>
    refine Or.inr fun hx => ?_
    obtain ⟨c, fz, h1⟩ := Lib.ownsRow_kind h g hx.symm
    obtain ⟨c', fz', h2⟩ := Lib.ownsRow_kind h' g hv
    rw [h1] at h2
    injection h2 with h2
    injection h2 with _ h2 _
    exact hne h2
end Go.Proofs.YtaghhndcimjjgaaGreatDoor

/- Scale of the program returns 'Sc.sc'. -/
namespace Go.Proofs.YtaghhndcimjjgaaGreatDoor
open Go.RowKit Go.BigFrame

def scRet (p : Int × Int) : Ending := .returned (.tuple #[.int .i64 p.1, .int .i64 p.2])
theorem hasRow_new (w : World) (o : Obj) : HasRow ((w.alloc o).alloc (.cells wayRow 98)) (w.heap.size + 1) := by
  intro j hj
  rw [World.cell?_alloc_at _ _ _ _ (by simp)]
  rcases (show j = 0 ∨ j = 1 ∨ j = 2 ∨ j = 3 ∨ j = 4 ∨ j = 5 ∨ j = 6 ∨ j = 7 ∨ j = 8 ∨ j = 9 by omega) with rfl | rfl | rfl | rfl | rfl | rfl | rfl | rfl | rfl | rfl <;> rfl
theorem how_new (w : World) (how : Int) (o : Obj) : ((w.alloc (.cells #[.int .i64 how] 3)).alloc o).cell? ⟨w.heap.size, 0, none⟩ = some (.int .i64 how) := by
  rw [World.cell?_alloc_past _ _ _ (by simp), World.cell?_alloc_at _ _ _ _ rfl]; rfl
theorem below_two (w : World) (o o' : Obj) : Below w.heap.size w ((w.alloc o).alloc o') := ((Below.refl _ _).alloc (Nat.le_refl _) o).alloc (by simp) o'

set_option maxHeartbeats 400000 in
theorem scale_kind (a num den how : Int) (w : World) (h : how < 1 ∨ 5 < how) :
    Calls Tryz.prog 39 #[.int .i64 a, .int .i64 num, .int .i64 den, .int .i64 how] w fun e w' => e = scRet (0, 7) ∧ Below w.heap.size w w' := by
  have hw : wayAt how = -1 := by unfold wayAt; rw [if_neg (by omega)]
  have hmf : ∀ (fn : Fn) (first cap : Array Value) (w : World), (Instr.makeFunc fn first cap).run Tryz.prog w = .ok (.func fn first cap) w := fun _ _ _ _ => rfl
  go_enter Tryz.func39, Tryz.ntmps39
  go_wp2_with fail
  refine (ways_any _).mono ?_
  rintro e w1 ⟨rfl, rfl⟩
  go_wp2_with fail
  refine (index_any _ _ how _ (hasRow_new w _) (how_new w how _) (by simp) (by simp; omega)).mono ?_
  rintro e w1 ⟨rfl, hb⟩
  rw [hw]
  have hb' := (below_two w _ _).trans (hb.mono (by simp; omega))
  clear hb
  go_wp2
  go_ret2
  exact ⟨rfl, hb'⟩
set_option maxHeartbeats 400000 in
theorem scale_arg (a num den how : Int) (w : World) (h1 : 1 ≤ how) (h5 : how ≤ 5) (h : den ≤ 0 ∨ num < 0) :
    Calls Tryz.prog 39 #[.int .i64 a, .int .i64 num, .int .i64 den, .int .i64 how] w fun e w' => e = scRet (0, 1) ∧ Below w.heap.size w w' := by
  have hw : wayAt how = how - 1 := by unfold wayAt; rw [if_pos ⟨h1, h5⟩]
  have hmf : ∀ (fn : Fn) (first cap : Array Value) (w : World), (Instr.makeFunc fn first cap).run Tryz.prog w = .ok (.func fn first cap) w := fun _ _ _ _ => rfl
  have hk : decide (how - 1 < 0) = false := by rw [decide_eq_false_iff_not]; omega
  by_cases hd : den ≤ 0
  all_goals
    go_enter Tryz.func39, Tryz.ntmps39
    go_wp2_with fail
    refine (ways_any _).mono ?_
    rintro e w1 ⟨rfl, rfl⟩
    go_wp2_with fail
    refine (index_any _ _ how _ (hasRow_new w _) (how_new w how _) (by simp) (by simp; omega)).mono ?_
    rintro e w1 ⟨rfl, hb⟩
    rw [hw]
    have hb' := (below_two w _ _).trans (hb.mono (by simp; omega))
    clear hb hw
  · go_wp2
    go_ret2
    exact ⟨rfl, hb'⟩
  · have hd2 : decide (den ≤ 0) = false := by rw [decide_eq_false_iff_not]; omega
    have hn2 : decide (num < 0) = true := by rw [decide_eq_true_eq]; omega
    clear h hd
    go_wp2
    go_ret2
    exact ⟨rfl, hb'⟩

/-- the number without its sign, as the program makes it -/
theorem neg_wrap {a : Int} (h : a < 0) (h1 : -9223372036854775808 ≤ a) : IntKind.u64.wrap (-IntKind.u64.wrap a) = (a.natAbs : Int) := by
  simp only [IntKind.wrap_u64]; omega

theorem fin_ok {a num den how v : Int} {S : Bool} {q r d Q : Nat}
    (h : Sc.sc a num den how = if 4611686018427387904 < Sc.quo how S q r d then (0, 9) else (Sc.sgn S (Sc.quo how S q r d), 0))
    (hQ : Sc.quo how S q r d = Q) (hl : (Q : Int) ≤ 4611686018427387904) (hv : v = Sc.sgn S Q) :
    Ending.returned (.tuple #[.int .i64 v, .int .i64 0]) = scRet (Sc.sc a num den how) := by
  rw [h, hQ, if_neg (by omega), hv]; rfl
theorem fin_big {a num den how : Int} {S : Bool} {q r d Q : Nat}
    (h : Sc.sc a num den how = if 4611686018427387904 < Sc.quo how S q r d then (0, 9) else (Sc.sgn S (Sc.quo how S q r d), 0))
    (hQ : Sc.quo how S q r d = Q) (hl : 4611686018427387904 < (Q : Int)) :
    Ending.returned (.tuple #[.int .i64 0, .int .i64 9]) = scRet (Sc.sc a num den how) := by
  rw [h, hQ, if_pos (by omega)]; rfl
theorem quo_rest0 (how : Int) (S : Bool) (q d : Nat) : Sc.quo how S q 0 d = q := by simp [Sc.quo]
theorem quo_stay {how : Int} {S : Bool} {q r d : Nat} (h : Sc.away how S q r d = false) : Sc.quo how S q r d = q := by simp [Sc.quo, h]
theorem quo_up {how : Int} {S : Bool} {q r d : Nat} (h0 : 0 < r) (h : Sc.away how S q r d = true) : Sc.quo how S q r d = q + 1 := by simp [Sc.quo, h, h0]

set_option maxHeartbeats 2000000 in
set_option maxRecDepth 100000 in
/-- the product's quotient fits one word -/
theorem scale_neg (a how : Int) (num den hi lo q r k A : Nat) (w : World) (hk : Hid (how = (k : Int) + 1)) (hk5 : k < 5) (hd : 1 ≤ den) (hD : (den : Int) ≤ 9223372036854775807) (hM : (num : Int) ≤ 9223372036854775807)
    (hs : a < 0) (_ha1 : -9223372036854775808 ≤ a) (hneg : IntKind.u64.wrap (-IntKind.u64.wrap a) = (A : Int))
    (hhi' : ((A * num / 18446744073709551616 : Nat) : Int) = hi) (hlo' : ((A * num % 18446744073709551616 : Nat) : Int) = lo) (hlt : (hi : Int) < den)
    (hq' : (((hi * 18446744073709551616 + lo) / den : Nat) : Int) = q) (hr' : (((hi * 18446744073709551616 + lo) % den : Nat) : Int) = r) (hr0 : (r : Int) < den) (_hlo2 : (lo : Int) ≤ 18446744073709551615) (hq2 : (q : Int) ≤ 18446744073709551615) (hA : (A : Int) ≤ 9223372036854775808)
    (hfin : Hid (Sc.sc a num den how = if 4611686018427387904 < Sc.quo how true q r den then (0, 9) else (Sc.sgn true (Sc.quo how true q r den), 0))) :
    Calls Tryz.prog 39 #[.int .i64 a, .int .i64 num, .int .i64 den, .int .i64 how] w fun e w' => e = scRet (Sc.sc a num den how) ∧ Below w.heap.size w w' := by
  have hw : wayAt how = (k : Int) := by have := hk.out; unfold wayAt; rw [if_pos (by omega)]; omega
  have hmf : ∀ (fn : Fn) (first cap : Array Value) (w : World), (Instr.makeFunc fn first cap).run Tryz.prog w = .ok (.func fn first cap) w := fun _ _ _ _ => rfl
  have b1 : decide ((den : Int) ≤ 0) = false := by rw [decide_eq_false_iff_not]; omega
  have b2 : decide ((den : Int) ≤ hi) = false := by rw [decide_eq_false_iff_not]; omega
  have hmul := Lib.hid (Go.Proofs.Tryz.bits_Mul64 A num)
  have hdiv := Lib.hid (div64_any hi lo den)
  obtain ⟨f, g0, g1, hcf, hf'⟩ := way_any k hk5
  have hf := Lib.hid hf'
  clear hf'
  unfold fnv at g1
  go_enter Tryz.func39, Tryz.ntmps39
  go_wp2_with fail
  refine (ways_any _).mono ?_
  rintro e w1 ⟨rfl, rfl⟩
  go_wp2_with fail
  refine (index_any _ _ how _ (hasRow_new w _) (how_new w how _) (by simp) (by simp; omega)).mono ?_
  rintro e w1 ⟨rfl, hb⟩
  rw [hw]
  have hrow := (hasRow_new w (.cells #[.int .i64 how] 3)).at hb (by simp)
  have hb' := (below_two w _ _).trans (hb.mono (by simp; omega))
  have hk5i : (k : Int) < 5 := by omega
  have r0 := hrow (k * 2) (by omega)
  have r1 := hrow (k * 2 + 1) (by omega)
  rw [g0] at r0; rw [g1] at r1
  clear hb hw hrow g0 g1
  go_wp2_with fail
  refine (hmul.out (by omega) (by omega) _).mono ?_
  rintro e w2 ⟨rfl, rfl⟩
  rw [hhi', hlo']
  go_wp2_with fail
  refine (hdiv.out _ (by omega) (by omega) (by omega)).mono ?_
  rintro e w3 ⟨rfl, hn⟩
  rw [hq', hr']
  obtain ⟨r0', r1', hb2⟩ : w3.cell? ⟨w.heap.size + 1, k * 2, none⟩ = some (.int .i64 ((k : Int) + 1)) ∧ w3.cell? ⟨w.heap.size + 1, k * 2 + 1, none⟩ = some (.func (.func f) #[] #[]) ∧ Below w.heap.size w w3 := by
    obtain ⟨n, rfl⟩ := hn
    exact ⟨r0, r1, below_drewN hb' n⟩
  have Hb2 := Lib.hid hb2
  clear hn r0 r1 hb' hb2 hmul hdiv hq' hr' hhi' hlo' b2
  by_cases hr1 : r = 0
  · subst hr1
    have hQ := Lib.hid (quo_rest0 how true q den)
    go_wp2_with fail
    go_quiet (fail)
    go_wp2
    all_goals go_ret2
    all_goals refine ⟨?_, below_drewN Hb2.out _⟩
    all_goals first | exact fin_ok hfin.out hQ.out (by assumption) (by simp [Sc.sgn]) | exact fin_big hfin.out hQ.out (by assumption)
  · have c1 : decide ((0 : Int) < (r : Int)) = true := by rw [decide_eq_true_eq]; omega
    have hr1' : 0 < r := by omega
    clear hr1
    by_cases hq3 : q ≤ 4611686018427387904
    · have c2 : decide ((q : Int) ≤ 4611686018427387904) = true := by rw [decide_eq_true_eq]; omega
      have hq3i : (q : Int) ≤ 4611686018427387904 := by omega
      clear hq3
      cases haw : Sc.away how true q r den
      · have hwf : wayF ((k : Int) + 1) true q (cmpF r ((den : Int) - r)) = false := by rw [← hk.out, wayF_away, haw]
        have hQ := Lib.hid (quo_stay haw)
        clear haw
        go_wp2_with fail
        refine wp_region_quiet_lit (by kernel_rfl) (by kernel_rfl) ?_
        repeat (go_big_quiet_step (fail))
        go_big_quiet_want
        go_big_quiet_op
        go_big_quiet_call ((refine (compare_any _ _ _).mono ?_; exact fun _ _ h => ⟨h.1, _, h.2.symm⟩))
        go_big_quiet_want
        go_big_quiet_op
        go_big_quiet_call ((refine (hf.out _ _ _ _ (by omega)).mono ?_; exact fun _ _ h => ⟨h.1, _, h.2.symm⟩))
        repeat (go_big_quiet_step (fail))
        refine wpQuiet_nil ?_
        intro w4 hw4
        obtain ⟨nq, rfl⟩ := hw4
        have c4 : decide (4611686018427387904 < (q : Int)) = false := by rw [decide_eq_false_iff_not]; omega
        clear hk5 hd hr1' hmf hcf hlt
        go_wp2
        go_ret2
        refine ⟨?_, below_drewN Hb2.out _⟩
        exact fin_ok hfin.out hQ.out (by omega) (by simp [Sc.sgn])
      · have hwf : wayF ((k : Int) + 1) true q (cmpF r ((den : Int) - r)) = true := by rw [← hk.out, wayF_away, haw]
        have hQ := Lib.hid (quo_up hr1' haw)
        clear haw
        go_wp2_with fail
        refine wp_region_quiet_lit (by kernel_rfl) (by kernel_rfl) ?_
        repeat (go_big_quiet_step (fail))
        go_big_quiet_want
        go_big_quiet_op
        go_big_quiet_call ((refine (compare_any _ _ _).mono ?_; exact fun _ _ h => ⟨h.1, _, h.2.symm⟩))
        go_big_quiet_want
        go_big_quiet_op
        go_big_quiet_call ((refine (hf.out _ _ _ _ (by omega)).mono ?_; exact fun _ _ h => ⟨h.1, _, h.2.symm⟩))
        repeat (go_big_quiet_step (fail))
        refine wpQuiet_nil ?_
        intro w4 hw4
        obtain ⟨nq, rfl⟩ := hw4
        by_cases hq4 : (q : Int) = 4611686018427387904
        · have c4 : decide (4611686018427387904 < (q : Int) + 1) = true := by rw [decide_eq_true_eq]; omega
          have Hq4 := Lib.hid hq4
          clear hk5 hd hr1' hmf hcf hlt hq4
          go_wp2
          go_ret2
          refine ⟨?_, below_drewN Hb2.out _⟩
          exact fin_big hfin.out hQ.out (by have := Hq4.out; omega)
        · have c4 : decide (4611686018427387904 < (q : Int) + 1) = false := by rw [decide_eq_false_iff_not]; omega
          have hq5 : (q : Int) ≤ 4611686018427387903 := by omega
          clear hk5 hd hr1' hmf hcf hlt hq4 hq3i
          go_wp2
          go_ret2
          refine ⟨?_, below_drewN Hb2.out _⟩
          exact fin_ok hfin.out hQ.out (by omega) (by simp [Sc.sgn]; try omega)
    · have c2 : decide ((q : Int) ≤ 4611686018427387904) = false := by rw [decide_eq_false_iff_not]; omega
      have hq3i : 4611686018427387904 < (q : Int) := by omega
      clear hq3
      go_wp2_with fail
      go_quiet (fail)
      go_wp2
      go_ret2
      refine ⟨?_, below_drewN Hb2.out _⟩
      cases haw : Sc.away how true q r den
      · exact fin_big hfin.out (quo_stay haw) hq3i
      · exact fin_big hfin.out (quo_up hr1' haw) (by omega)
set_option maxHeartbeats 2000000 in
set_option maxRecDepth 100000 in
/-- the product's quotient fits one word -/
theorem scale_pos (how : Int) (num den hi lo q r k A : Nat) (w : World) (hk : Hid (how = (k : Int) + 1)) (hk5 : k < 5) (hd : 1 ≤ den) (hD : (den : Int) ≤ 9223372036854775807) (hM : (num : Int) ≤ 9223372036854775807)
    
    (hhi' : ((A * num / 18446744073709551616 : Nat) : Int) = hi) (hlo' : ((A * num % 18446744073709551616 : Nat) : Int) = lo) (hlt : (hi : Int) < den)
    (hq' : (((hi * 18446744073709551616 + lo) / den : Nat) : Int) = q) (hr' : (((hi * 18446744073709551616 + lo) % den : Nat) : Int) = r) (hr0 : (r : Int) < den) (_hlo2 : (lo : Int) ≤ 18446744073709551615) (hq2 : (q : Int) ≤ 18446744073709551615) (hA : (A : Int) ≤ 9223372036854775807)
    (hfin : Hid (Sc.sc A num den how = if 4611686018427387904 < Sc.quo how false q r den then (0, 9) else (Sc.sgn false (Sc.quo how false q r den), 0))) :
    Calls Tryz.prog 39 #[.int .i64 A, .int .i64 num, .int .i64 den, .int .i64 how] w fun e w' => e = scRet (Sc.sc A num den how) ∧ Below w.heap.size w w' := by
  have hw : wayAt how = (k : Int) := by have := hk.out; unfold wayAt; rw [if_pos (by omega)]; omega
  have hmf : ∀ (fn : Fn) (first cap : Array Value) (w : World), (Instr.makeFunc fn first cap).run Tryz.prog w = .ok (.func fn first cap) w := fun _ _ _ _ => rfl
  have b5 : decide ((A : Int) < 0) = false := by rw [decide_eq_false_iff_not]; omega
  have b1 : decide ((den : Int) ≤ 0) = false := by rw [decide_eq_false_iff_not]; omega
  have b2 : decide ((den : Int) ≤ hi) = false := by rw [decide_eq_false_iff_not]; omega
  have hmul := Lib.hid (Go.Proofs.Tryz.bits_Mul64 A num)
  have hdiv := Lib.hid (div64_any hi lo den)
  obtain ⟨f, g0, g1, hcf, hf'⟩ := way_any k hk5
  have hf := Lib.hid hf'
  clear hf'
  unfold fnv at g1
  go_enter Tryz.func39, Tryz.ntmps39
  go_wp2_with fail
  refine (ways_any _).mono ?_
  rintro e w1 ⟨rfl, rfl⟩
  go_wp2_with fail
  refine (index_any _ _ how _ (hasRow_new w _) (how_new w how _) (by simp) (by simp; omega)).mono ?_
  rintro e w1 ⟨rfl, hb⟩
  rw [hw]
  have hrow := (hasRow_new w (.cells #[.int .i64 how] 3)).at hb (by simp)
  have hb' := (below_two w _ _).trans (hb.mono (by simp; omega))
  have hk5i : (k : Int) < 5 := by omega
  have r0 := hrow (k * 2) (by omega)
  have r1 := hrow (k * 2 + 1) (by omega)
  rw [g0] at r0; rw [g1] at r1
  clear hb hw hrow g0 g1
  go_wp2_with fail
  refine (hmul.out (by omega) (by omega) _).mono ?_
  rintro e w2 ⟨rfl, rfl⟩
  rw [hhi', hlo']
  go_wp2_with fail
  refine (hdiv.out _ (by omega) (by omega) (by omega)).mono ?_
  rintro e w3 ⟨rfl, hn⟩
  rw [hq', hr']
  obtain ⟨r0', r1', hb2⟩ : w3.cell? ⟨w.heap.size + 1, k * 2, none⟩ = some (.int .i64 ((k : Int) + 1)) ∧ w3.cell? ⟨w.heap.size + 1, k * 2 + 1, none⟩ = some (.func (.func f) #[] #[]) ∧ Below w.heap.size w w3 := by
    obtain ⟨n, rfl⟩ := hn
    exact ⟨r0, r1, below_drewN hb' n⟩
  have Hb2 := Lib.hid hb2
  clear hn r0 r1 hb' hb2 hmul hdiv hq' hr' hhi' hlo' b2
  by_cases hr1 : r = 0
  · subst hr1
    have hQ := Lib.hid (quo_rest0 how false q den)
    go_wp2_with fail
    go_quiet (fail)
    go_wp2
    all_goals go_ret2
    all_goals refine ⟨?_, below_drewN Hb2.out _⟩
    all_goals first | exact fin_ok hfin.out hQ.out (by assumption) (by simp [Sc.sgn]) | exact fin_big hfin.out hQ.out (by assumption)
  · have c1 : decide ((0 : Int) < (r : Int)) = true := by rw [decide_eq_true_eq]; omega
    have hr1' : 0 < r := by omega
    clear hr1
    by_cases hq3 : q ≤ 4611686018427387904
    · have c2 : decide ((q : Int) ≤ 4611686018427387904) = true := by rw [decide_eq_true_eq]; omega
      have hq3i : (q : Int) ≤ 4611686018427387904 := by omega
      clear hq3
      cases haw : Sc.away how false q r den
      · have hwf : wayF ((k : Int) + 1) false q (cmpF r ((den : Int) - r)) = false := by rw [← hk.out, wayF_away, haw]
        have hQ := Lib.hid (quo_stay haw)
        clear haw
        go_wp2_with fail
        refine wp_region_quiet_lit (by kernel_rfl) (by kernel_rfl) ?_
        repeat (go_big_quiet_step (fail))
        go_big_quiet_want
        go_big_quiet_op
        go_big_quiet_call ((refine (compare_any _ _ _).mono ?_; exact fun _ _ h => ⟨h.1, _, h.2.symm⟩))
        go_big_quiet_want
        go_big_quiet_op
        go_big_quiet_call ((refine (hf.out _ _ _ _ (by omega)).mono ?_; exact fun _ _ h => ⟨h.1, _, h.2.symm⟩))
        repeat (go_big_quiet_step (fail))
        refine wpQuiet_nil ?_
        intro w4 hw4
        obtain ⟨nq, rfl⟩ := hw4
        have c4 : decide (4611686018427387904 < (q : Int)) = false := by rw [decide_eq_false_iff_not]; omega
        clear hk5 hd hr1' hmf hcf hlt
        go_wp2
        go_ret2
        refine ⟨?_, below_drewN Hb2.out _⟩
        exact fin_ok hfin.out hQ.out (by omega) (by simp [Sc.sgn])
      · have hwf : wayF ((k : Int) + 1) false q (cmpF r ((den : Int) - r)) = true := by rw [← hk.out, wayF_away, haw]
        have hQ := Lib.hid (quo_up hr1' haw)
        clear haw
        go_wp2_with fail
        refine wp_region_quiet_lit (by kernel_rfl) (by kernel_rfl) ?_
        repeat (go_big_quiet_step (fail))
        go_big_quiet_want
        go_big_quiet_op
        go_big_quiet_call ((refine (compare_any _ _ _).mono ?_; exact fun _ _ h => ⟨h.1, _, h.2.symm⟩))
        go_big_quiet_want
        go_big_quiet_op
        go_big_quiet_call ((refine (hf.out _ _ _ _ (by omega)).mono ?_; exact fun _ _ h => ⟨h.1, _, h.2.symm⟩))
        repeat (go_big_quiet_step (fail))
        refine wpQuiet_nil ?_
        intro w4 hw4
        obtain ⟨nq, rfl⟩ := hw4
        by_cases hq4 : (q : Int) = 4611686018427387904
        · have c4 : decide (4611686018427387904 < (q : Int) + 1) = true := by rw [decide_eq_true_eq]; omega
          have Hq4 := Lib.hid hq4
          clear hk5 hd hr1' hmf hcf hlt hq4
          go_wp2
          go_ret2
          refine ⟨?_, below_drewN Hb2.out _⟩
          exact fin_big hfin.out hQ.out (by have := Hq4.out; omega)
        · have c4 : decide (4611686018427387904 < (q : Int) + 1) = false := by rw [decide_eq_false_iff_not]; omega
          have hq5 : (q : Int) ≤ 4611686018427387903 := by omega
          clear hk5 hd hr1' hmf hcf hlt hq4 hq3i
          go_wp2
          go_ret2
          refine ⟨?_, below_drewN Hb2.out _⟩
          exact fin_ok hfin.out hQ.out (by omega) (by simp [Sc.sgn]; try omega)
    · have c2 : decide ((q : Int) ≤ 4611686018427387904) = false := by rw [decide_eq_false_iff_not]; omega
      have hq3i : 4611686018427387904 < (q : Int) := by omega
      clear hq3
      go_wp2_with fail
      go_quiet (fail)
      go_wp2
      go_ret2
      refine ⟨?_, below_drewN Hb2.out _⟩
      cases haw : Sc.away how false q r den
      · exact fin_big hfin.out (quo_stay haw) hq3i
      · exact fin_big hfin.out (quo_up hr1' haw) (by omega)
end Go.Proofs.YtaghhndcimjjgaaGreatDoor

/- Scale and Div of the program and of the reference: all return 'Sc.sc'. -/
namespace Go.Proofs.YtaghhndcimjjgaaGreatDoor
open Go.RowKit Go.BigFrame

theorem word_split (n : Nat) : n / 18446744073709551616 * 18446744073709551616 + n % 18446744073709551616 = n := by omega

theorem scale_high_neg (a how : Int) (num den hi k A : Nat) (w : World) (hk : Hid (how = (k : Int) + 1)) (hk5 : k < 5) (hd : 1 ≤ den) (hD : (den : Int) ≤ 9223372036854775807) (hM : (num : Int) ≤ 9223372036854775807)
    (hs : a < 0) (hneg : IntKind.u64.wrap (-IntKind.u64.wrap a) = (A : Int)) (hA : (A : Int) ≤ 9223372036854775808)
    (hhi' : ((A * num / 18446744073709551616 : Nat) : Int) = hi) (hle : (den : Int) ≤ hi) :
    Calls Tryz.prog 39 #[.int .i64 a, .int .i64 num, .int .i64 den, .int .i64 how] w fun e w' => e = scRet (0, 9) ∧ Below w.heap.size w w' := by
  have hw : wayAt how = (k : Int) := by have := hk.out; unfold wayAt; rw [if_pos (by omega)]; omega
  have hmf : ∀ (fn : Fn) (first cap : Array Value) (w : World), (Instr.makeFunc fn first cap).run Tryz.prog w = .ok (.func fn first cap) w := fun _ _ _ _ => rfl
  have b1 : decide ((den : Int) ≤ 0) = false := by rw [decide_eq_false_iff_not]; omega
  have b2 : decide ((den : Int) ≤ hi) = true := by rw [decide_eq_true_eq]; omega
  have hmul := Lib.hid (Go.Proofs.Tryz.bits_Mul64 A num)
  go_enter Tryz.func39, Tryz.ntmps39
  go_wp2_with fail
  refine (ways_any _).mono ?_
  rintro e w1 ⟨rfl, rfl⟩
  go_wp2_with fail
  refine (index_any _ _ how _ (hasRow_new w _) (how_new w how _) (by simp) (by simp; omega)).mono ?_
  rintro e w1 ⟨rfl, hb⟩
  rw [hw]
  have hb' := (below_two w _ _).trans (hb.mono (by simp; omega))
  have hk5i : (k : Int) < 5 := by omega
  clear hb hw
  go_wp2_with fail
  refine (hmul.out (by omega) (by omega) _).mono ?_
  rintro e w2 ⟨rfl, rfl⟩
  rw [hhi']
  go_wp2
  go_ret2
  exact ⟨rfl, hb'⟩
theorem scale_high_pos (how : Int) (num den hi k A : Nat) (w : World) (hk : Hid (how = (k : Int) + 1)) (hk5 : k < 5) (hd : 1 ≤ den) (hD : (den : Int) ≤ 9223372036854775807) (hM : (num : Int) ≤ 9223372036854775807)
    (hA : (A : Int) ≤ 9223372036854775807)
    (hhi' : ((A * num / 18446744073709551616 : Nat) : Int) = hi) (hle : (den : Int) ≤ hi) :
    Calls Tryz.prog 39 #[.int .i64 A, .int .i64 num, .int .i64 den, .int .i64 how] w fun e w' => e = scRet (0, 9) ∧ Below w.heap.size w w' := by
  have hw : wayAt how = (k : Int) := by have := hk.out; unfold wayAt; rw [if_pos (by omega)]; omega
  have hmf : ∀ (fn : Fn) (first cap : Array Value) (w : World), (Instr.makeFunc fn first cap).run Tryz.prog w = .ok (.func fn first cap) w := fun _ _ _ _ => rfl
  have b5 : decide ((A : Int) < 0) = false := by rw [decide_eq_false_iff_not]; omega
  have b1 : decide ((den : Int) ≤ 0) = false := by rw [decide_eq_false_iff_not]; omega
  have b2 : decide ((den : Int) ≤ hi) = true := by rw [decide_eq_true_eq]; omega
  have hmul := Lib.hid (Go.Proofs.Tryz.bits_Mul64 A num)
  go_enter Tryz.func39, Tryz.ntmps39
  go_wp2_with fail
  refine (ways_any _).mono ?_
  rintro e w1 ⟨rfl, rfl⟩
  go_wp2_with fail
  refine (index_any _ _ how _ (hasRow_new w _) (how_new w how _) (by simp) (by simp; omega)).mono ?_
  rintro e w1 ⟨rfl, hb⟩
  rw [hw]
  have hb' := (below_two w _ _).trans (hb.mono (by simp; omega))
  have hk5i : (k : Int) < 5 := by omega
  clear hb hw
  go_wp2_with fail
  refine (hmul.out (by omega) (by omega) _).mono ?_
  rintro e w2 ⟨rfl, rfl⟩
  rw [hhi']
  go_wp2
  go_ret2
  exact ⟨rfl, hb'⟩

/-- the program's Scale -/
theorem scale_any (a num den how : Int) (w : World) (ha1 : -9223372036854775808 ≤ a) (ha2 : a ≤ 9223372036854775807) (hn : num ≤ 9223372036854775807) (hd : den ≤ 9223372036854775807) :
    Calls Tryz.prog 39 #[.int .i64 a, .int .i64 num, .int .i64 den, .int .i64 how] w fun e w' => e = scRet (Sc.sc a num den how) ∧ Below w.heap.size w w' := by
  by_cases h1 : how < 1 ∨ 5 < how
  · rw [Sc.sc_kind _ _ _ _ h1]; exact scale_kind a num den how w h1
  by_cases h2 : den ≤ 0 ∨ num < 0
  · rw [Sc.sc_arg _ _ _ _ (by omega) (by omega) h2]; exact scale_arg a num den how w (by omega) (by omega) h2
  obtain ⟨num, rfl⟩ := Int.eq_ofNat_of_zero_le (show 0 ≤ num by omega)
  obtain ⟨den, rfl⟩ := Int.eq_ofNat_of_zero_le (show 0 ≤ den by omega)
  obtain ⟨k, hk⟩ : ∃ k : Nat, how = (k : Int) + 1 := ⟨(how - 1).toNat, by omega⟩
  have hk5 : k < 5 := by omega
  obtain ⟨N, hN⟩ : ∃ N, N = a.natAbs * num := ⟨_, rfl⟩
  have hN2 : N ≤ 9223372036854775808 * 9223372036854775807 := by rw [hN]; exact Nat.mul_le_mul (by omega) (by omega)
  by_cases h3 : den ≤ a.natAbs * num / 18446744073709551616
  · rw [Sc.sc_high a how num den (by omega) (by omega) (by omega) h3]
    by_cases h4 : a < 0
    · exact scale_high_neg a how num den _ k a.natAbs w (Lib.hid hk) hk5 (by omega) hd hn h4 (neg_wrap h4 ha1) (by omega) rfl (by omega)
    · obtain ⟨A, rfl⟩ := Int.eq_ofNat_of_zero_le (show 0 ≤ a by omega)
      rw [Int.natAbs_natCast] at h3
      exact scale_high_pos how num den _ k A w (Lib.hid hk) hk5 (by omega) hd hn ha2 rfl (by omega)
  · have hfin := Sc.sc_of a how num den (by omega) (by omega) (by omega) (by omega)
    rw [← hN] at hfin h3
    have hr := Nat.mod_lt N (show 0 < den by omega)
    have hq : N / den < 18446744073709551616 := by
      rw [Nat.div_lt_iff_lt_mul (by omega)]
      omega
    have hlo := Nat.mod_lt N (show 0 < 18446744073709551616 by omega)
    by_cases h4 : a < 0
    · rw [show decide (a < 0) = true by simpa using h4] at hfin
      refine scale_neg a how num den (N / 18446744073709551616) (N % 18446744073709551616) (N / den) (N % den) k a.natAbs w (Lib.hid hk) hk5 (by omega) hd hn h4 ha1 (neg_wrap h4 ha1) (by rw [← hN]) (by rw [← hN]) (by omega) (by rw [word_split]) (by rw [word_split]) (by omega) (by omega) (by omega) (by omega) (Lib.hid hfin)
    · obtain ⟨A, rfl⟩ := Int.eq_ofNat_of_zero_le (show 0 ≤ a by omega)
      rw [show decide ((A : Int) < 0) = false by rw [decide_eq_false_iff_not]; exact h4] at hfin
      rw [Int.natAbs_natCast] at hN
      refine scale_pos how num den (N / 18446744073709551616) (N % 18446744073709551616) (N / den) (N % den) k A w (Lib.hid hk) hk5 (by omega) hd hn (by rw [← hN]) (by rw [← hN]) (by omega) (by rw [word_split]) (by rw [word_split]) (by omega) (by omega) (by omega) (by omega) (Lib.hid hfin)

end Go.Proofs.YtaghhndcimjjgaaGreatDoor

/- Scale and Div of the reference return 'Sc.sc'. -/
namespace Go.Proofs.YtaghhndcimjjgaaGreatDoor
open Go.RowKit Go.BigFrame

theorem moreF_away {how : Int} (h1 : 1 ≤ how) (h5 : how ≤ 5) (b : Bool) (q r d : Nat) : moreF q r d b how = decide (0 < r ∧ Sc.away how b q r d = true) := by
  have e3 : ((q : Int) % 2 = 1) ↔ q % 2 = 1 := by omega
  have e5 : ((q : Int) % 2 == 1) = decide (q % 2 = 1) := by rw [Bool.eq_iff_iff, beq_iff_eq, decide_eq_true_eq]; exact e3
  unfold moreF
  by_cases h0 : r = 0
  · subst h0; simp
  rw [if_neg (by omega)]
  have hr : 0 < r := by omega
  unfold Sc.away
  by_cases a1 : how = 1
  · subst a1; cases b <;> simp [hr]
  by_cases a2 : how = 2
  · subst a2; cases b <;> simp [hr]
  by_cases a3 : how = 3
  · subst a3; simp
  simp only [a1, a2, a3, if_false]
  by_cases h6 : (r : Int) = d - r
  · rw [if_neg (by omega)]
    have h7 : 2 * r = d := by omega
    simp only [h7, hr, true_and, decide_true, Bool.true_and, e5]
    by_cases a4 : how = 4
    · subst a4; cases b <;> simp
    · simp [a4]
  · rw [if_pos h6]
    have h7 : ¬ 2 * r = d := by omega
    simp only [h7, hr, true_and, decide_false, Bool.false_and, Bool.or_false]
    have h8 : ((d : Int) - r < r) ↔ d < 2 * r := by omega
    by_cases a4 : how = 4
    · subst a4; simp [h8]
    · simp [a4, h8]

end Go.Proofs.YtaghhndcimjjgaaGreatDoor
