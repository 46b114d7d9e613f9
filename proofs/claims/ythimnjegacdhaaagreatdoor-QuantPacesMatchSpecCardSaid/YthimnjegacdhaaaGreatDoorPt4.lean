/- Several texts of this claim in one. -/
import Derived.Test.YthimnjegacdhaaaGreatDoorPt3
import Derived.Test.YthimnjegacdhaaaGreatDoorPt1
import Derived.Lib.SlicesS
import Derived.Test.YthimnjegacdhaaaGreatDoorPt2
/- Words at the end of a text; paces of both, in plain words. -/
namespace Rd
theorem exactLoop_iff (s t : ByteArray) : ∀ (f i p : Nat), f = t.size - i → p ≤ s.size →
    ((exactLoop s t f i p).2 = true ↔ (p + (t.size - i) ≤ s.size ∧ ∀ j, j < t.size - i → byte s (p + j) = byte t (i + j))) ∧ ((exactLoop s t f i p).2 = true → (exactLoop s t f i p).1 = p + (t.size - i))
  | 0, i, p, hf, hp => by
    rw [← hf]
    refine ⟨⟨fun _ => ⟨hp, fun j hj => by omega⟩, fun _ => rfl⟩, fun _ => rfl⟩
  | f + 1, i, p, hf, hp => by
    have hi : i < t.size := by omega
    rw [exactLoop, if_pos hi]
    by_cases hc : p < s.size ∧ byte s p = byte t i
    · rw [if_pos hc]
      obtain ⟨h1, h2⟩ := exactLoop_iff s t f (i + 1) (p + 1) (by omega) (by omega)
      refine ⟨⟨fun h => ?_, fun h => ?_⟩, fun h => by rw [h2 h]; omega⟩
      · obtain ⟨g1, g2⟩ := h1.1 h
        refine ⟨by omega, fun j hj => ?_⟩
        cases j with
        | zero => exact hc.2
        | succ j =>
          have := g2 j (by omega)
          rwa [show p + 1 + j = p + (j + 1) by omega, show i + 1 + j = i + (j + 1) by omega] at this
      · obtain ⟨g1, g2⟩ := h
        refine h1.2 ⟨by omega, fun j hj => ?_⟩
        have := g2 (j + 1) (by omega)
        rwa [show p + 1 + j = p + (j + 1) by omega, show i + 1 + j = i + (j + 1) by omega]
    · rw [if_neg hc]
      refine ⟨⟨fun h => (by cases h), fun h => ?_⟩, fun h => (by cases h)⟩
      obtain ⟨g1, g2⟩ := h
      have := g2 0 (by omega)
      exact absurd ⟨by omega, this⟩ hc
theorem exactAt_yes (s t : ByteArray) (p : Nat) : exactAt s t p true = exactLoop s t t.size 0 p := by
  unfold exactAt
  rw [if_pos rfl]
/-- a word is all the rest -/
theorem exact_whole {s w : ByteArray} {p : Nat} (hp : p ≤ s.size) : ((exactAt s w p true).2 && decide ((exactAt s w p true).1 = s.size)) = decide (w = s.extract p s.size) := by
  rw [exactAt_yes]
  obtain ⟨h1, h2⟩ := exactLoop_iff s w w.size 0 p (by omega) hp
  have hsz : (s.extract p s.size).size = s.size - p := by rw [ByteArray.size_extract]; omega
  by_cases h : w = s.extract p s.size
  · rw [decide_eq_true h]
    have hws : w.size = s.size - p := by rw [h, hsz]
    have ok : (exactLoop s w w.size 0 p).2 = true := h1.2 ⟨by omega, fun j hj => by
      have hj' : j < w.size := by omega
      rw [Nat.zero_add, byte_lt (by omega), byte_lt hj']
      have e : ∀ (u : ByteArray) (hu : j < u.size), u = s.extract p s.size → (s[p + j]'(by omega)).toNat = (u[j]'hu).toNat := fun u hu he => by
        subst he
        rw [ByteArray.getElem_extract]
      exact e w hj' h⟩
    rw [ok, h2 ok, Bool.true_and, decide_eq_true_eq]
    omega
  · rw [decide_eq_false h, Bool.and_eq_false_iff]
    by_cases ok : (exactLoop s w w.size 0 p).2 = true
    · right
      rw [decide_eq_false_iff_not]
      intro hpl
      rw [h2 ok] at hpl
      obtain ⟨g1, g2⟩ := h1.1 ok
      apply h
      apply sB_inj
      rw [extract_list]
      apply List.ext_getElem?
      intro j
      by_cases hj : j < w.size
      · have := g2 j (by omega)
        rw [Nat.zero_add, byte_lt (by omega), byte_lt hj] at this
        rw [sB_get hj, List.getElem?_take_of_lt (by omega), List.getElem?_drop, sB_get (by omega)]
        congr 1
        exact (UInt8.toNat_inj.1 this).symm
      · rw [List.getElem?_eq_none (by show w.size ≤ j; omega), List.getElem?_eq_none]
        rw [List.length_take]
        omega
    · left
      simpa using ok
/-- one of these words, up to the end -/
def lastAt (s : ByteArray) (ws : List ByteArray) (p : Nat) (ok : Bool) : Int × Nat × Bool :=
  if ok = true then (Go.Lib.idxOfS ws (s.extract p s.size), ws.foldl (fun a w => max a (exactAt s w p true).1) p, decide (0 ≤ Go.Lib.idxOfS ws (s.extract p s.size))) else (-1, p, false)
def begAt (s : ByteArray) (c p : Nat) (ok : Bool) : Bool := ok && (decide (p < s.size) && decide (byte s p = c))
def kmB : ByteArray := ⟨#[107, 109]⟩
def miB : ByteArray := ⟨#[109, 105]⟩
def hmB : ByteArray := ⟨#[49, 48, 48, 109]⟩
def slashB : ByteArray := ⟨#[47]⟩
def dotB : ByteArray := ⟨#[46]⟩
def kmhB : ByteArray := ⟨#[32, 107, 109, 47, 104]⟩
def timedF (s : ByteArray) : Int × Nat × Bool :=
  let m := numAt s 3 0 999 true 0
  let c := exactAt s colon m.2.2 (numOk 0 true m)
  let x := pairAt s 59 c.1 c.2
  let d := exactAt s slashB x.2.1 x.2.2
  let k := lastAt s [kmB, miB, hmB] d.1 d.2
  (if k.1 = 1 then (Sc.sc (60 * m.1 + x.1) 1000000 1609344 4).1 else if k.1 = 2 then 10 * (60 * m.1 + x.1) else 60 * m.1 + x.1, k.2.1, k.2.2)
def speedF (s : ByteArray) : Int × Nat × Bool :=
  let n := numAt s 3 0 999 true 0
  if begAt s 46 n.2.2 (numOk 0 true n) = true then
    let e := exactAt s dotB n.2.2 (numOk 0 true n)
    let d := rowAt s 1 e.2 e.1
    let f := exactAt s kmhB d.2.2 (e.2 && decide (1 ≤ d.2.1))
    ((Sc.sc 36000 1 (10 * n.1 + d.1) 4).1, f.1, f.2)
  else
    let f := exactAt s kmhB n.2.2 (numOk 0 true n)
    ((Sc.sc 36000 1 (10 * n.1) 4).1, f.1, f.2)
def mT (w : ByteArray) : List Tok := [numT 0 999 3, litT colon, pairT 59, litT slashB, litT w]
def hT : List Tok := [numT 0 999 3, litT kmhB]
def hdT : List Tok := [numT 0 999 3, litT dotB, partT 1, litT kmhB]
def paceT : List (List Tok) := [mT kmB, mT miB, mT hmB, hT, hdT]
def paceVal (n : Int) (L : List Int) : Int :=
  if n = 0 then 60 * L.getD 0 0 + L.getD 1 0
  else if n = 1 then (Sc.sc (60 * L.getD 0 0 + L.getD 1 0) 1000000 1609344 4).1
  else if n = 2 then 10 * (60 * L.getD 0 0 + L.getD 1 0)
  else if 0 < 10 * L.getD 0 0 + (if n = 4 then L.getD 1 0 else 0) then (Sc.sc 36000 1 (10 * L.getD 0 0 + (if n = 4 then L.getD 1 0 else 0)) 4).1 else 0
def refPace (s : ByteArray) : Int × Nat × Int :=
  if 1000 < s.size then (0, 0, 3)
  else if (firstT s paceT 0 0).1 < 0 then (0, (firstT s paceT 0 0).2.2, 6)
  else if 1 ≤ paceVal (firstT s paceT 0 0).1 (firstT s paceT 0 0).2.1 ∧ paceVal (firstT s paceT 0 0).1 (firstT s paceT 0 0).2.1 ≤ 36000 then (paceVal (firstT s paceT 0 0).1 (firstT s paceT 0 0).2.1, 0, 0) else (0, 0, 9)
/-- what stands ahead of the words -/
structure Pre (s : ByteArray) (d : Nat × Bool) (a b : Int) : Prop where
  le : d.1 ≤ s.size
  no : d.2 = false → ∀ w, (matchT s (mT w) 0).1 = d.1 ∧ (matchT s (mT w) 0).2.2 = false
  yes : d.2 = true → ∀ w, matchT s (mT w) 0 = if (exactAt s w d.1 true).2 = true then ((exactAt s w d.1 true).1, [a, b], decide ((exactAt s w d.1 true).1 = s.size)) else ((exactAt s w d.1 true).1, [a, b], false)
theorem exactAt_le {s t : ByteArray} {p : Nat} {ok : Bool} (h : p ≤ s.size) : (exactAt s t p ok).1 ≤ s.size := by
  unfold exactAt
  split
  · exact exactLoop_le s t _ _ _ h
  · exact h
theorem pre_timed (s : ByteArray) : let m := numAt s 3 0 999 true 0; let c := exactAt s colon m.2.2 (numOk 0 true m); let x := pairAt s 59 c.1 c.2; Pre s (exactAt s slashB x.2.1 x.2.2) m.1 x.1 := by
  intro m c x
  have hm : m.2.2 ≤ s.size := numLoop_pos _ _ _ _ _ _ _ _ _ (Nat.zero_le _)
  have hc : c.1 ≤ s.size := exactAt_le hm
  have hx : x.2.1 ≤ s.size := pairStep_le (n := (pairStep s 59 10 (0, c.1, c.2)).1) (b := (pairStep s 59 10 (0, c.1, c.2)).2.2) (pairStep_le hc)
  have key : ∀ w, matchT s (mT w) 0 = if numOk 0 true m = true then ((matchT s [litT colon, pairT 59, litT slashB, litT w] m.2.2).1, m.1 :: (matchT s [litT colon, pairT 59, litT slashB, litT w] m.2.2).2.1, (matchT s [litT colon, pairT 59, litT slashB, litT w] m.2.2).2.2) else (m.2.2, [], false) := fun w => matchT_num
  obtain ⟨k1, hk1⟩ : ∃ k, numOk 0 true m = k := ⟨_, rfl⟩
  cases k1
  case false =>
    have ec : c = (m.2.2, false) := by show exactAt s colon m.2.2 (numOk 0 true m) = _; rw [hk1]; rfl
    have ex : x = (0, m.2.2, false) := by show pairAt s 59 c.1 c.2 = _; rw [ec]; exact pairAt_no
    rw [ex]
    refine ⟨hm, fun _ w => ?_, fun h => by cases h⟩
    rw [key w, hk1]
    exact ⟨rfl, rfl⟩
  case true =>
  have ec : c = exactAt s colon m.2.2 true := by show exactAt s colon m.2.2 (numOk 0 true m) = _; rw [hk1]
  have key2 : ∀ w, matchT s [litT colon, pairT 59, litT slashB, litT w] m.2.2 = if c.2 = true then matchT s [pairT 59, litT slashB, litT w] c.1 else (c.1, [], false) := fun w => by rw [matchT_lit, ← ec]
  obtain ⟨k2, hk2⟩ : ∃ k, c.2 = k := ⟨_, rfl⟩
  cases k2
  case false =>
    have ex : x = (0, c.1, false) := by show pairAt s 59 c.1 c.2 = _; rw [hk2]; exact pairAt_no
    rw [ex]
    refine ⟨hc, fun _ w => ?_, fun h => by cases h⟩
    rw [key w, hk1, key2 w, hk2]
    exact ⟨rfl, rfl⟩
  case true =>
  have ex : x = pairAt s 59 c.1 true := by show pairAt s 59 c.1 c.2 = _; rw [hk2]
  have key3 : ∀ w, matchT s [pairT 59, litT slashB, litT w] c.1 = if x.2.2 = true then ((matchT s [litT slashB, litT w] x.2.1).1, x.1 :: (matchT s [litT slashB, litT w] x.2.1).2.1, (matchT s [litT slashB, litT w] x.2.1).2.2) else (x.2.1, [], false) := fun w => by rw [matchT_pair, ← ex]
  obtain ⟨k3, hk3⟩ : ∃ k, x.2.2 = k := ⟨_, rfl⟩
  cases k3
  case false =>
    rw [hk3]
    refine ⟨hx, fun _ w => ?_, fun h => by cases h⟩
    rw [key w, hk1, key2 w, hk2, key3 w, hk3]
    exact ⟨rfl, rfl⟩
  case true =>
  rw [hk3]
  have key4 : ∀ w, matchT s [litT slashB, litT w] x.2.1 = if (exactAt s slashB x.2.1 true).2 = true then matchT s [litT w] (exactAt s slashB x.2.1 true).1 else ((exactAt s slashB x.2.1 true).1, [], false) := fun w => matchT_lit
  have hd : (exactAt s slashB x.2.1 true).1 ≤ s.size := exactAt_le hx
  obtain ⟨d, hdd⟩ : ∃ d, exactAt s slashB x.2.1 true = d := ⟨_, rfl⟩
  rw [hdd] at hd key4 ⊢
  obtain ⟨d1, d2⟩ := d
  refine ⟨hd, fun h w => ?_, fun h w => ?_⟩
  · have h : d2 = false := h
    subst h
    rw [key w, hk1, key2 w, hk2, key3 w, hk3, key4 w]
    exact ⟨rfl, rfl⟩
  · have h : d2 = true := h
    subst h
    rw [key w, hk1, key2 w, hk2, key3 w, hk3, key4 w]
    simp only [if_true]
    rw [matchT_lit]
    split <;> simp [matchT]
theorem idx_three (a b c r : ByteArray) : Go.Lib.idxOfS [a, b, c] r = if a = r then 0 else if b = r then 1 else if c = r then 2 else -1 := by
  unfold Go.Lib.idxOfS
  simp only [Go.Lib.idxFromS]
  by_cases h1 : a = r
  · simp [h1]
  · by_cases h2 : b = r
    · simp [h1, h2]
    · by_cases h3 : c = r
      · simp [h1, h2, h3]
      · simp [h1, h2, h3]
end Rd

/- The reference's reading of paces is the program's, in plain words. -/
namespace Rd
theorem exactLoop_ge (s t : ByteArray) : ∀ (f i p : Nat), p ≤ (exactLoop s t f i p).1
  | 0, _, p => Nat.le_refl _
  | f + 1, i, p => by
    unfold exactLoop
    split
    · split
      · exact Nat.le_trans (Nat.le_succ p) (exactLoop_ge s t f _ _)
      · exact Nat.le_refl _
    · exact Nat.le_refl _
theorem exactAt_ge (s t : ByteArray) (p : Nat) (ok : Bool) : p ≤ (exactAt s t p ok).1 := by
  unfold exactAt
  split
  · exact exactLoop_ge ..
  · exact Nat.le_refl _
theorem rowLoop_ge (s : ByteArray) (k : Nat) (ok : Bool) : ∀ (f : Nat) (n : Int) (m p : Nat), p ≤ (rowLoop s k ok f n m p).2.2
  | 0, n, m, p => Nat.le_refl _
  | f + 1, n, m, p => by
    unfold rowLoop
    split
    · exact Nat.le_trans (Nat.le_succ p) (rowLoop_ge s k ok f _ _ _)
    · exact Nat.le_refl _
/-- what the forms of one part of the program say together -/
structure Parts (s : ByteArray) (fs : List (List Tok)) (o : Int × Nat × Bool) (i0 : Nat) : Prop where
  yes : (o.2.2 && decide (o.2.1 = s.size)) = true → ∃ (k : Nat) (f : List Tok), fs[k]? = some f ∧ (matchT s f 0).2.2 = true ∧ (∀ j g, j < k → fs[j]? = some g → (matchT s g 0).2.2 = false) ∧ paceVal ((i0 + k : Nat) : Int) (matchT s f 0).2.1 = o.1
  no : (o.2.2 && decide (o.2.1 = s.size)) = false → (∀ f, f ∈ fs → (matchT s f 0).2.2 = false) ∧ ∀ far, fs.foldl (fun a f => max a (matchT s f 0).1) far = max far o.2.1
theorem pv0 (a b : Int) : paceVal ((0 + 0 : Nat) : Int) [a, b] = (if (0 : Int) = 1 then (Sc.sc (60 * a + b) 1000000 1609344 4).1 else if (0 : Int) = 2 then 10 * (60 * a + b) else 60 * a + b) := by
  unfold paceVal
  rw [if_pos (show ((0 + 0 : Nat) : Int) = 0 by omega), if_neg (show ¬ (0 : Int) = 1 by omega), if_neg (show ¬ (0 : Int) = 2 by omega), List.getD_cons_zero, List.getD_cons_succ, List.getD_cons_zero]
theorem pv1 (a b : Int) : paceVal ((0 + 1 : Nat) : Int) [a, b] = (if (1 : Int) = 1 then (Sc.sc (60 * a + b) 1000000 1609344 4).1 else if (1 : Int) = 2 then 10 * (60 * a + b) else 60 * a + b) := by
  unfold paceVal
  rw [if_neg (show ¬ ((0 + 1 : Nat) : Int) = 0 by omega), if_pos (show ((0 + 1 : Nat) : Int) = 1 by omega), if_pos (show (1 : Int) = 1 by omega), List.getD_cons_zero, List.getD_cons_succ, List.getD_cons_zero]
theorem pv2 (a b : Int) : paceVal ((0 + 2 : Nat) : Int) [a, b] = (if (2 : Int) = 1 then (Sc.sc (60 * a + b) 1000000 1609344 4).1 else if (2 : Int) = 2 then 10 * (60 * a + b) else 60 * a + b) := by
  unfold paceVal
  rw [if_neg (show ¬ ((0 + 2 : Nat) : Int) = 0 by omega), if_neg (show ¬ ((0 + 2 : Nat) : Int) = 1 by omega), if_pos (show ((0 + 2 : Nat) : Int) = 2 by omega), if_neg (show ¬ (2 : Int) = 1 by omega), if_pos (show (2 : Int) = 2 by omega), List.getD_cons_zero, List.getD_cons_succ, List.getD_cons_zero]
theorem timed_parts (s : ByteArray) : Parts s [mT kmB, mT miB, mT hmB] (timedF s) 0 := by
  have hp := pre_timed s
  unfold timedF
  simp only at hp ⊢
  obtain ⟨m, hm⟩ : ∃ m, numAt s 3 0 999 true 0 = m := ⟨_, rfl⟩
  rw [hm] at hp ⊢
  obtain ⟨c, hc⟩ : ∃ c, exactAt s colon m.2.2 (numOk 0 true m) = c := ⟨_, rfl⟩
  rw [hc] at hp ⊢
  obtain ⟨x, hx⟩ : ∃ x, pairAt s 59 c.1 c.2 = x := ⟨_, rfl⟩
  rw [hx] at hp ⊢
  obtain ⟨d, hd⟩ : ∃ d, exactAt s slashB x.2.1 x.2.2 = d := ⟨_, rfl⟩
  rw [hd] at hp ⊢
  obtain ⟨d1, d2⟩ := d
  obtain ⟨hle, hno, hyes⟩ := hp
  simp only at hle hno hyes ⊢
  cases d2
  case false =>
    have e : lastAt s [kmB, miB, hmB] d1 false = (-1, d1, false) := rfl
    rw [e]
    refine ⟨fun h => by simp at h, fun _ => ⟨fun f hf => ?_, fun far => ?_⟩⟩
    · simp only [List.mem_cons, List.not_mem_nil, or_false] at hf
      rcases hf with rfl | rfl | rfl
      · exact (hno rfl _).2
      · exact (hno rfl _).2
      · exact (hno rfl _).2
    · simp only [List.foldl, (hno rfl _).1]
      omega
  case true =>
    have hy := hyes rfl
    have p1 : ∀ w, (matchT s (mT w) 0).1 = (exactAt s w d1 true).1 := fun w => by rw [hy w]; split <;> rfl
    have p2 : ∀ w, (matchT s (mT w) 0).2.2 = decide (w = s.extract d1 s.size) := fun w => by
      rw [← exact_whole hle, hy w]
      split
      · rename_i h; rw [h]; simp
      · rename_i h
        have h : (exactAt s w d1 true).2 = false := by simpa using h
        rw [h]; rfl
    have p3 : ∀ w, (matchT s (mT w) 0).2.1 = [m.1, x.1] := fun w => by rw [hy w]; split <;> rfl
    have hr : ∀ w, (exactAt s w d1 true).1 ≤ s.size := fun w => exactAt_le hle
    have hfull : ∀ w, w = s.extract d1 s.size → (exactAt s w d1 true).1 = s.size := fun w h => by
      have := exact_whole (w := w) hle
      rw [decide_eq_true h, Bool.and_eq_true] at this
      simpa using this.2
    have e : lastAt s [kmB, miB, hmB] d1 true = (Go.Lib.idxOfS [kmB, miB, hmB] (s.extract d1 s.size), max (max (max d1 (exactAt s kmB d1 true).1) (exactAt s miB d1 true).1) (exactAt s hmB d1 true).1, decide (0 ≤ Go.Lib.idxOfS [kmB, miB, hmB] (s.extract d1 s.size))) := rfl
    rw [e, idx_three]
    have g1 := exactAt_ge s kmB d1 true
    have r1 := hr kmB
    have r2 := hr miB
    have r3 := hr hmB
    have f1 := hfull kmB
    have f2 := hfull miB
    have f3 := hfull hmB
    have q1 := p2 kmB
    have q2 := p2 miB
    have q3 := p2 hmB
    have v1 := p3 kmB
    have v2 := p3 miB
    have v3 := p3 hmB
    have w1 := p1 kmB
    have w2 := p1 miB
    have w3 := p1 hmB
    generalize s.extract d1 s.size = rest at *
    generalize (exactAt s kmB d1 true).1 = e1 at *
    generalize (exactAt s miB d1 true).1 = e2 at *
    generalize (exactAt s hmB d1 true).1 = e3 at *
    by_cases h1 : kmB = rest
    · rw [if_pos h1]
      refine ⟨fun _ => ⟨0, _, rfl, by rw [q1]; simpa using h1, fun j g hj => by omega, ?_⟩, fun h => ?_⟩
      · rw [v1]
        exact pv0 _ _
      · have := f1 h1
        simp at h
        omega
    · rw [if_neg h1]
      by_cases h2 : miB = rest
      · rw [if_pos h2]
        refine ⟨fun _ => ⟨1, _, rfl, by rw [q2]; simpa using h2, fun j g hj hg => ?_, ?_⟩, fun h => ?_⟩
        · obtain rfl : j = 0 := by omega
          injection hg with hg
          subst hg
          rw [q1]; simpa using h1
        · rw [v2]
          exact pv1 _ _
        · have := f2 h2
          simp at h
          omega
      · rw [if_neg h2]
        by_cases h3 : hmB = rest
        · rw [if_pos h3]
          refine ⟨fun _ => ⟨2, _, rfl, by rw [q3]; simpa using h3, fun j g hj hg => ?_, ?_⟩, fun h => ?_⟩
          · rcases (show j = 0 ∨ j = 1 by omega) with rfl | rfl
            · injection hg with hg
              subst hg
              rw [q1]; simpa using h1
            · injection hg with hg
              subst hg
              rw [q2]; simpa using h2
          · rw [v3]
            exact pv2 _ _
          · have := f3 h3
            simp at h
            omega
        · rw [if_neg h3]
          refine ⟨fun h => by simp at h, fun _ => ⟨fun f hf => ?_, fun far => ?_⟩⟩
          · simp only [List.mem_cons, List.not_mem_nil, or_false] at hf
            rcases hf with rfl | rfl | rfl
            · rw [q1]; simpa using h1
            · rw [q2]; simpa using h2
            · rw [q3]; simpa using h3
          · simp only [List.foldl, w1, w2, w3]
            omega
theorem matchT_part {s : ByteArray} {r : List Tok} {p : Nat} : matchT s (partT 1 :: r) p = if 0 < (rowAt s 1 true p).2.1 then ((matchT s r (rowAt s 1 true p).2.2).1, (rowAt s 1 true p).1 * 10 ^ (1 - (rowAt s 1 true p).2.1) :: (matchT s r (rowAt s 1 true p).2.2).2.1, (matchT s r (rowAt s 1 true p).2.2).2.2) else ((rowAt s 1 true p).2.2, [], false) := by
  rw [matchT]
  by_cases h : 0 < (rowAt s 1 true p).2.1 <;> simp [runT, partT, h]
theorem sc_zero {t : Int} (h : ¬ 0 < t) : (Sc.sc 36000 1 t 4).1 = 0 := by
  unfold Sc.sc
  rw [if_neg (by omega), if_pos (Or.inl (by omega))]
theorem row_one (s : ByteArray) (p : Nat) : (rowAt s 1 true p).2.1 ≤ 1 := by
  unfold rowAt
  by_cases h : digAt s p true = true
  · rw [rowLoop, if_pos ⟨by omega, h⟩]
    exact Nat.le_refl _
  · rw [rowLoop, if_neg (fun x => h x.2)]
    exact Nat.zero_le _
theorem exact_not {s t : ByteArray} {p : Nat} (ht : 0 < t.size) (h : ¬ (p < s.size ∧ byte s p = byte t 0)) : exactAt s t p true = (p, false) := by
  rw [exactAt_yes, show t.size = (t.size - 1) + 1 by omega, exactLoop, if_pos ht, if_neg h]
theorem dot_at (s : ByteArray) (p : Nat) : exactAt s dotB p true = if p < s.size ∧ byte s p = 46 then (p + 1, true) else (p, false) := exact_one s 46 p (by omega)
theorem speed_parts (s : ByteArray) : Parts s [hT, hdT] (speedF s) 3 := by
  unfold speedF
  simp only
  obtain ⟨n, hn⟩ : ∃ n, numAt s 3 0 999 true 0 = n := ⟨_, rfl⟩
  have m1 : matchT s hT 0 = if numOk 0 true n = true then ((matchT s [litT kmhB] n.2.2).1, n.1 :: (matchT s [litT kmhB] n.2.2).2.1, (matchT s [litT kmhB] n.2.2).2.2) else (n.2.2, [], false) := by
    unfold hT; rw [matchT_num, hn]
  have m2 : matchT s hdT 0 = if numOk 0 true n = true then ((matchT s [litT dotB, partT 1, litT kmhB] n.2.2).1, n.1 :: (matchT s [litT dotB, partT 1, litT kmhB] n.2.2).2.1, (matchT s [litT dotB, partT 1, litT kmhB] n.2.2).2.2) else (n.2.2, [], false) := by
    unfold hdT; rw [matchT_num, hn]
  rw [hn]
  have kl : ∀ p, matchT s [litT kmhB] p = if (exactAt s kmhB p true).2 = true then ((exactAt s kmhB p true).1, [], decide ((exactAt s kmhB p true).1 = s.size)) else ((exactAt s kmhB p true).1, [], false) := fun p => by
    rw [matchT_lit]
    split <;> simp [matchT]
  obtain ⟨q, hq⟩ : ∃ q, n.2.2 = q := ⟨_, rfl⟩
  rw [hq] at m1 m2 ⊢
  obtain ⟨ok, hok⟩ : ∃ k, numOk 0 true n = k := ⟨_, rfl⟩
  rw [hok] at m1 m2 ⊢
  cases ok
  case false =>
    have b : begAt s 46 q false = false := rfl
    rw [b, if_neg (by simp)]
    have e : exactAt s kmhB q false = (q, false) := rfl
    rw [e]
    refine ⟨fun h => by simp at h, fun _ => ⟨fun f hf => ?_, fun far => ?_⟩⟩
    · simp only [List.mem_cons, List.not_mem_nil, or_false] at hf
      rcases hf with rfl | rfl
      · rw [m1]; rfl
      · rw [m2]; rfl
    · simp only [List.foldl, m1, m2]
      simp
  case true =>
  simp only [if_true] at m1 m2
  by_cases hb : q < s.size ∧ byte s q = 46
  · have b : begAt s 46 q true = true := by unfold begAt; simp [hb.1, hb.2]
    rw [b, if_pos rfl]
    have e1 : exactAt s dotB q true = (q + 1, true) := by rw [dot_at, if_pos hb]
    have e2 : exactAt s kmhB q true = (q, false) := exact_not (by decide) (fun h => by
      have : byte kmhB 0 = 32 := rfl
      rw [this] at h
      omega)
    rw [e1]
    simp only [Bool.true_and]
    have n1 : matchT s hT 0 = (q, [n.1], false) := by rw [m1, kl, e2]; rfl
    rw [matchT_lit, e1] at m2
    simp only [if_true] at m2
    rw [matchT_part] at m2
    have hr1 := row_one s (q + 1)
    have hrg := rowLoop_ge s 1 true 1 0 0 (q + 1)
    have hrg : q + 1 ≤ (rowAt s 1 true (q + 1)).2.2 := hrg
    obtain ⟨d, hd⟩ : ∃ d, rowAt s 1 true (q + 1) = d := ⟨_, rfl⟩
    rw [hd] at m2 hr1 hrg ⊢
    by_cases hd1 : 0 < d.2.1
    · have hd2 : decide (1 ≤ d.2.1) = true := decide_eq_true (show 1 ≤ d.2.1 from hd1)
      have hd3 : d.2.1 = 1 := by omega
      rw [hd2]
      rw [if_pos hd1, kl, hd3] at m2
      have hge := exactAt_ge s kmhB d.2.2 true
      obtain ⟨f, hf⟩ : ∃ f, exactAt s kmhB d.2.2 true = f := ⟨_, rfl⟩
      rw [hf] at m2 hge ⊢
      obtain ⟨f1, f2⟩ := f
      cases f2
      · refine ⟨fun h => by simp at h, fun _ => ⟨fun g hg => ?_, fun far => ?_⟩⟩
        · simp only [List.mem_cons, List.not_mem_nil, or_false] at hg
          rcases hg with rfl | rfl
          · rw [n1]
          · rw [m2]; rfl
        · simp only [List.foldl, n1, m2]
          simp at hge ⊢
          omega
      · refine ⟨fun h => ⟨1, hdT, rfl, ?_, fun j g hj hg => ?_, ?_⟩, fun h => ⟨fun g hg => ?_, fun far => ?_⟩⟩
        · rw [m2]; simpa using h
        · obtain rfl : j = 0 := by omega
          injection hg with hg
          subst hg
          rw [n1]
        · rw [m2]
          simp only [if_true]
          unfold paceVal
          simp only [List.getD_cons_zero, List.getD_cons_succ]
          rw [if_neg (by omega), if_neg (by omega), if_neg (by omega)]
          have e4 : d.1 * 10 ^ (1 - 1) = d.1 := by simp
          rw [e4, if_pos (show ((3 + 1 : Nat) : Int) = 4 from rfl)]
          split
          · rfl
          · rename_i hz
            exact (sc_zero hz).symm
        · simp only [List.mem_cons, List.not_mem_nil, or_false] at hg
          rcases hg with rfl | rfl
          · rw [n1]
          · rw [m2]; simpa using h
        · simp only [List.foldl, n1, m2]
          simp at hge ⊢
          omega
    · have hd2 : decide (1 ≤ d.2.1) = false := by rw [decide_eq_false_iff_not]; omega
      rw [hd2, if_neg hd1] at *
      have e4 : exactAt s kmhB d.2.2 false = (d.2.2, false) := rfl
      rw [e4]
      refine ⟨fun h => by simp at h, fun _ => ⟨fun g hg => ?_, fun far => ?_⟩⟩
      · simp only [List.mem_cons, List.not_mem_nil, or_false] at hg
        rcases hg with rfl | rfl
        · rw [n1]
        · rw [m2]
      · simp only [List.foldl, n1, m2]
        omega
  · have b : begAt s 46 q true = false := by
      unfold begAt
      rw [Bool.true_and, Bool.and_eq_false_iff, decide_eq_false_iff_not, decide_eq_false_iff_not]
      by_cases h : q < s.size
      · exact Or.inr fun e => hb ⟨h, e⟩
      · exact Or.inl h
    rw [b, if_neg (by simp)]
    have e1 : exactAt s dotB q true = (q, false) := by rw [dot_at, if_neg hb]
    have n2 : matchT s hdT 0 = (q, [n.1], false) := by rw [m2, matchT_lit, e1]; rfl
    rw [kl] at m1
    have hge := exactAt_ge s kmhB q true
    obtain ⟨f, hf⟩ : ∃ f, exactAt s kmhB q true = f := ⟨_, rfl⟩
    rw [hf] at m1 hge ⊢
    obtain ⟨f1, f2⟩ := f
    cases f2
    · refine ⟨fun h => by simp at h, fun _ => ⟨fun g hg => ?_, fun far => ?_⟩⟩
      · simp only [List.mem_cons, List.not_mem_nil, or_false] at hg
        rcases hg with rfl | rfl
        · rw [m1]; rfl
        · rw [n2]
      · simp only [List.foldl, n2, m1]
        simp at hge ⊢
        omega
    · refine ⟨fun h => ⟨0, hT, rfl, ?_, fun j g hj => by omega, ?_⟩, fun h => ⟨fun g hg => ?_, fun far => ?_⟩⟩
      · rw [m1]; simpa using h
      · rw [m1]
        simp only [if_true]
        unfold paceVal
        simp only [List.getD_cons_zero]
        rw [if_neg (by omega), if_neg (by omega), if_neg (by omega), if_neg (show ¬ ((3 + 0 : Nat) : Int) = 4 by omega), Int.add_zero]
        split
        · rfl
        · rename_i hz
          exact (sc_zero hz).symm
      · simp only [List.mem_cons, List.not_mem_nil, or_false] at hg
        rcases hg with rfl | rfl
        · rw [m1]; simpa using h
        · rw [n2]
      · simp only [List.foldl, n2, m1]
        simp at hge ⊢
        omega
theorem ranged_val (v : Int) : ranged (v, 0, 0) 1 36000 = if 1 ≤ v ∧ v ≤ 36000 then (v, 0, 0) else (0, 0, 9) := by
  unfold ranged
  by_cases h : 1 ≤ v ∧ v ≤ 36000
  · rw [if_pos h, if_neg]
    rintro ⟨_, h2⟩
    have h2 : v < 1 ∨ 36000 < v := h2
    omega
  · rw [if_neg h, if_pos ⟨rfl, by show v < 1 ∨ 36000 < v; omega⟩]
theorem pace_eq (s : ByteArray) : refPace s = ranged (readForms s [timedF, speedF]) 1 36000 := by
  unfold refPace readForms
  by_cases hz : 1000 < s.size
  · rw [if_pos hz, if_pos hz]; rfl
  rw [if_neg hz, if_neg hz]
  obtain ⟨ty, tn⟩ := timed_parts s
  obtain ⟨sy, sn⟩ := speed_parts s
  have hP : paceT = [mT kmB, mT miB, mT hmB] ++ [hT, hdT] := rfl
  obtain ⟨o1, ho1⟩ : ∃ o, timedF s = o := ⟨_, rfl⟩
  obtain ⟨o2, ho2⟩ : ∃ o, speedF s = o := ⟨_, rfl⟩
  rw [ho1] at ty tn
  rw [ho2] at sy sn
  have hfl : formsLoop s [timedF, speedF] 0 = if (o1.2.2 && decide (o1.2.1 = s.size)) = true then (o1.1, 0, 0) else if (o2.2.2 && decide (o2.2.1 = s.size)) = true then (o2.1, 0, 0) else (0, max (max 0 o1.2.1) o2.2.1, 6) := by
    unfold formsLoop
    rw [ho1]
    unfold formsLoop
    rw [ho2]
    rfl
  rw [hfl]
  cases h1 : (o1.2.2 && decide (o1.2.1 = s.size))
  case true =>
    obtain ⟨k, f, e1, e2, e3, e4⟩ := ty h1
    have hk : k < 3 := (List.getElem?_eq_some_iff.1 e1).1
    have hf := firstT_at (s := s) paceT 0 0 k f (by rw [hP, List.getElem?_append_left hk]; exact e1) e2 (fun j g hj hg => e3 j g hj (by rw [hP, List.getElem?_append_left (by show j < 3; omega)] at hg; exact hg))
    rw [hf, if_pos rfl, ranged_val, ← e4]
    rw [if_neg (show ¬ ((0 + k : Nat) : Int) < 0 by omega)]
  case false =>
    obtain ⟨n1, n2⟩ := tn h1
    rw [if_neg (show ¬ (false = true) by simp)]
    cases h2 : (o2.2.2 && decide (o2.2.1 = s.size))
    case true =>
      obtain ⟨k, f, e1, e2, e3, e4⟩ := sy h2
      have hk : k < 2 := (List.getElem?_eq_some_iff.1 e1).1
      have hf := firstT_at (s := s) paceT 0 0 (3 + k) f (by rw [hP, List.getElem?_append_right (by show 3 ≤ 3 + k; omega)]; show [hT, hdT][3 + k - 3]? = _; rw [show 3 + k - 3 = k by omega]; exact e1) e2 (fun j g hj hg => by
        by_cases hj3 : j < 3
        · rw [hP, List.getElem?_append_left hj3] at hg
          exact n1 g (List.mem_of_getElem? hg)
        · rw [hP, List.getElem?_append_right (by show 3 ≤ j; omega)] at hg
          exact e3 (j - 3) g (by omega) hg)
      rw [hf, if_pos rfl, ranged_val, ← e4]
      rw [if_neg (show ¬ ((0 + (3 + k) : Nat) : Int) < 0 by omega), show 0 + (3 + k) = 3 + k by omega]
    case false =>
      obtain ⟨n3, n4⟩ := sn h2
      have hf := firstT_none (s := s) paceT 0 0 (fun f hf => by
        rw [hP] at hf
        rcases List.mem_append.1 hf with hf | hf
        · exact n1 f hf
        · exact n3 f hf)
      rw [hf, if_pos (show (-1 : Int) < 0 by omega), if_neg (show ¬ (false = true) by simp), hP, List.foldl_append, n2, n4]
      rfl
end Rd

/- Scale of the program returns 'Sc.sc'. -/
namespace Go.Proofs.YthimnjegacdhaaaGreatDoor
open Go.RowKit Go.BigFrame

def scRet (p : Int × Int) : Ending := .returned (.tuple #[.int .i64 p.1, .int .i64 p.2])
theorem hasRow_new (w : World) (o : Obj) : HasRow ((w.alloc o).alloc (.cells wayRow 77)) (w.heap.size + 1) := by
  intro j hj
  rw [World.cell?_alloc_at _ _ _ _ (by simp)]
  rcases (show j = 0 ∨ j = 1 ∨ j = 2 ∨ j = 3 ∨ j = 4 ∨ j = 5 ∨ j = 6 ∨ j = 7 ∨ j = 8 ∨ j = 9 by omega) with rfl | rfl | rfl | rfl | rfl | rfl | rfl | rfl | rfl | rfl <;> rfl
theorem how_new (w : World) (how : Int) (o : Obj) : ((w.alloc (.cells #[.int .i64 how] 3)).alloc o).cell? ⟨w.heap.size, 0, none⟩ = some (.int .i64 how) := by
  rw [World.cell?_alloc_past _ _ _ (by simp), World.cell?_alloc_at _ _ _ _ rfl]; rfl
theorem below_two (w : World) (o o' : Obj) : Below w.heap.size w ((w.alloc o).alloc o') := ((Below.refl _ _).alloc (Nat.le_refl _) o).alloc (by simp) o'

set_option maxHeartbeats 400000 in
theorem scale_kind (a num den how : Int) (w : World) (h : how < 1 ∨ 5 < how) :
    Calls Tryz.prog 25 #[.int .i64 a, .int .i64 num, .int .i64 den, .int .i64 how] w fun e w' => e = scRet (0, 7) ∧ Below w.heap.size w w' := by
  have hw : wayAt how = -1 := by unfold wayAt; rw [if_neg (by omega)]
  have hmf : ∀ (fn : Fn) (first cap : Array Value) (w : World), (Instr.makeFunc fn first cap).run Tryz.prog w = .ok (.func fn first cap) w := fun _ _ _ _ => rfl
  go_enter Tryz.func25, Tryz.ntmps25
  go_wp2_with fail
  refine (ways_any _).mono ?_
  rintro e w1 ⟨rfl, rfl⟩
  go_wp2_with fail
  refine (index_any _ _ how _ (hasRow_new w _) (how_new w how _) (by simp) (by simp; omega)).mono ?_
  rintro e w1 ⟨rfl, hb⟩
  rw [hw]
  have hb' := (below_two w _ _).trans (hb.mono (by simp; omega))
  clear hb
  go_wp2
  go_ret2
  exact ⟨rfl, hb'⟩
set_option maxHeartbeats 400000 in
theorem scale_arg (a num den how : Int) (w : World) (h1 : 1 ≤ how) (h5 : how ≤ 5) (h : den ≤ 0 ∨ num < 0) :
    Calls Tryz.prog 25 #[.int .i64 a, .int .i64 num, .int .i64 den, .int .i64 how] w fun e w' => e = scRet (0, 1) ∧ Below w.heap.size w w' := by
  have hw : wayAt how = how - 1 := by unfold wayAt; rw [if_pos ⟨h1, h5⟩]
  have hmf : ∀ (fn : Fn) (first cap : Array Value) (w : World), (Instr.makeFunc fn first cap).run Tryz.prog w = .ok (.func fn first cap) w := fun _ _ _ _ => rfl
  have hk : decide (how - 1 < 0) = false := by rw [decide_eq_false_iff_not]; omega
  by_cases hd : den ≤ 0
  all_goals
    go_enter Tryz.func25, Tryz.ntmps25
    go_wp2_with fail
    refine (ways_any _).mono ?_
    rintro e w1 ⟨rfl, rfl⟩
    go_wp2_with fail
    refine (index_any _ _ how _ (hasRow_new w _) (how_new w how _) (by simp) (by simp; omega)).mono ?_
    rintro e w1 ⟨rfl, hb⟩
    rw [hw]
    have hb' := (below_two w _ _).trans (hb.mono (by simp; omega))
    clear hb hw
  · go_wp2
    go_ret2
    exact ⟨rfl, hb'⟩
  · have hd2 : decide (den ≤ 0) = false := by rw [decide_eq_false_iff_not]; omega
    have hn2 : decide (num < 0) = true := by rw [decide_eq_true_eq]; omega
    clear h hd
    go_wp2
    go_ret2
    exact ⟨rfl, hb'⟩

/-- the number without its sign, as the program makes it -/
theorem neg_wrap {a : Int} (h : a < 0) (h1 : -9223372036854775808 ≤ a) : IntKind.u64.wrap (-IntKind.u64.wrap a) = (a.natAbs : Int) := by
  simp only [IntKind.wrap_u64]; omega

theorem fin_ok {a num den how v : Int} {S : Bool} {q r d Q : Nat}
    (h : Sc.sc a num den how = if 4611686018427387904 < Sc.quo how S q r d then (0, 9) else (Sc.sgn S (Sc.quo how S q r d), 0))
    (hQ : Sc.quo how S q r d = Q) (hl : (Q : Int) ≤ 4611686018427387904) (hv : v = Sc.sgn S Q) :
    Ending.returned (.tuple #[.int .i64 v, .int .i64 0]) = scRet (Sc.sc a num den how) := by
  rw [h, hQ, if_neg (by omega), hv]; rfl
theorem fin_big {a num den how : Int} {S : Bool} {q r d Q : Nat}
    (h : Sc.sc a num den how = if 4611686018427387904 < Sc.quo how S q r d then (0, 9) else (Sc.sgn S (Sc.quo how S q r d), 0))
    (hQ : Sc.quo how S q r d = Q) (hl : 4611686018427387904 < (Q : Int)) :
    Ending.returned (.tuple #[.int .i64 0, .int .i64 9]) = scRet (Sc.sc a num den how) := by
  rw [h, hQ, if_pos (by omega)]; rfl
theorem quo_rest0 (how : Int) (S : Bool) (q d : Nat) : Sc.quo how S q 0 d = q := by simp [Sc.quo]
theorem quo_stay {how : Int} {S : Bool} {q r d : Nat} (h : Sc.away how S q r d = false) : Sc.quo how S q r d = q := by simp [Sc.quo, h]
theorem quo_up {how : Int} {S : Bool} {q r d : Nat} (h0 : 0 < r) (h : Sc.away how S q r d = true) : Sc.quo how S q r d = q + 1 := by simp [Sc.quo, h, h0]

set_option maxHeartbeats 2000000 in
set_option maxRecDepth 100000 in
/-- the product's quotient fits one word -/
theorem scale_neg (a how : Int) (num den hi lo q r k A : Nat) (w : World) (hk : Hid (how = (k : Int) + 1)) (hk5 : k < 5) (hd : 1 ≤ den) (hD : (den : Int) ≤ 9223372036854775807) (hM : (num : Int) ≤ 9223372036854775807)
    (hs : a < 0) (_ha1 : -9223372036854775808 ≤ a) (hneg : IntKind.u64.wrap (-IntKind.u64.wrap a) = (A : Int))
    (hhi' : ((A * num / 18446744073709551616 : Nat) : Int) = hi) (hlo' : ((A * num % 18446744073709551616 : Nat) : Int) = lo) (hlt : (hi : Int) < den)
    (hq' : (((hi * 18446744073709551616 + lo) / den : Nat) : Int) = q) (hr' : (((hi * 18446744073709551616 + lo) % den : Nat) : Int) = r) (hr0 : (r : Int) < den) (_hlo2 : (lo : Int) ≤ 18446744073709551615) (hq2 : (q : Int) ≤ 18446744073709551615) (hA : (A : Int) ≤ 9223372036854775808)
    (hfin : Hid (Sc.sc a num den how = if 4611686018427387904 < Sc.quo how true q r den then (0, 9) else (Sc.sgn true (Sc.quo how true q r den), 0))) :
    Calls Tryz.prog 25 #[.int .i64 a, .int .i64 num, .int .i64 den, .int .i64 how] w fun e w' => e = scRet (Sc.sc a num den how) ∧ Below w.heap.size w w' := by
  have hw : wayAt how = (k : Int) := by have := hk.out; unfold wayAt; rw [if_pos (by omega)]; omega
  have hmf : ∀ (fn : Fn) (first cap : Array Value) (w : World), (Instr.makeFunc fn first cap).run Tryz.prog w = .ok (.func fn first cap) w := fun _ _ _ _ => rfl
  have b1 : decide ((den : Int) ≤ 0) = false := by rw [decide_eq_false_iff_not]; omega
  have b2 : decide ((den : Int) ≤ hi) = false := by rw [decide_eq_false_iff_not]; omega
  have hmul := Lib.hid (Go.Proofs.Tryz.bits_Mul64 A num)
  have hdiv := Lib.hid (div64_any hi lo den)
  obtain ⟨f, g0, g1, hcf, hf'⟩ := way_any k hk5
  have hf := Lib.hid hf'
  clear hf'
  unfold fnv at g1
  go_enter Tryz.func25, Tryz.ntmps25
  go_wp2_with fail
  refine (ways_any _).mono ?_
  rintro e w1 ⟨rfl, rfl⟩
  go_wp2_with fail
  refine (index_any _ _ how _ (hasRow_new w _) (how_new w how _) (by simp) (by simp; omega)).mono ?_
  rintro e w1 ⟨rfl, hb⟩
  rw [hw]
  have hrow := (hasRow_new w (.cells #[.int .i64 how] 3)).at hb (by simp)
  have hb' := (below_two w _ _).trans (hb.mono (by simp; omega))
  have hk5i : (k : Int) < 5 := by omega
  have r0 := hrow (k * 2) (by omega)
  have r1 := hrow (k * 2 + 1) (by omega)
  rw [g0] at r0; rw [g1] at r1
  clear hb hw hrow g0 g1
  go_wp2_with fail
  refine (hmul.out (by omega) (by omega) _).mono ?_
  rintro e w2 ⟨rfl, rfl⟩
  rw [hhi', hlo']
  go_wp2_with fail
  refine (hdiv.out _ (by omega) (by omega) (by omega)).mono ?_
  rintro e w3 ⟨rfl, hn⟩
  rw [hq', hr']
  obtain ⟨r0', r1', hb2⟩ : w3.cell? ⟨w.heap.size + 1, k * 2, none⟩ = some (.int .i64 ((k : Int) + 1)) ∧ w3.cell? ⟨w.heap.size + 1, k * 2 + 1, none⟩ = some (.func (.func f) #[] #[]) ∧ Below w.heap.size w w3 := by
    obtain ⟨n, rfl⟩ := hn
    exact ⟨r0, r1, below_drewN hb' n⟩
  have Hb2 := Lib.hid hb2
  clear hn r0 r1 hb' hb2 hmul hdiv hq' hr' hhi' hlo' b2
  by_cases hr1 : r = 0
  · subst hr1
    have hQ := Lib.hid (quo_rest0 how true q den)
    go_wp2_with fail
    go_quiet (fail)
    go_wp2
    all_goals go_ret2
    all_goals refine ⟨?_, below_drewN Hb2.out _⟩
    all_goals first | exact fin_ok hfin.out hQ.out (by assumption) (by simp [Sc.sgn]) | exact fin_big hfin.out hQ.out (by assumption)
  · have c1 : decide ((0 : Int) < (r : Int)) = true := by rw [decide_eq_true_eq]; omega
    have hr1' : 0 < r := by omega
    clear hr1
    by_cases hq3 : q ≤ 4611686018427387904
    · have c2 : decide ((q : Int) ≤ 4611686018427387904) = true := by rw [decide_eq_true_eq]; omega
      have hq3i : (q : Int) ≤ 4611686018427387904 := by omega
      clear hq3
      cases haw : Sc.away how true q r den
      · have hwf : wayF ((k : Int) + 1) true q (cmpF r ((den : Int) - r)) = false := by rw [← hk.out, wayF_away, haw]
        have hQ := Lib.hid (quo_stay haw)
        clear haw
        go_wp2_with fail
        refine wp_region_quiet_lit (by kernel_rfl) (by kernel_rfl) ?_
        repeat (go_big_quiet_step (fail))
        go_big_quiet_want
        go_big_quiet_op
        go_big_quiet_call ((refine (compare_any _ _ _).mono ?_; exact fun _ _ h => ⟨h.1, _, h.2.symm⟩))
        go_big_quiet_want
        go_big_quiet_op
        go_big_quiet_call ((refine (hf.out _ _ _ _ (by omega)).mono ?_; exact fun _ _ h => ⟨h.1, _, h.2.symm⟩))
        repeat (go_big_quiet_step (fail))
        refine wpQuiet_nil ?_
        intro w4 hw4
        obtain ⟨nq, rfl⟩ := hw4
        have c4 : decide (4611686018427387904 < (q : Int)) = false := by rw [decide_eq_false_iff_not]; omega
        clear hk5 hd hr1' hmf hcf hlt
        go_wp2
        go_ret2
        refine ⟨?_, below_drewN Hb2.out _⟩
        exact fin_ok hfin.out hQ.out (by omega) (by simp [Sc.sgn])
      · have hwf : wayF ((k : Int) + 1) true q (cmpF r ((den : Int) - r)) = true := by rw [← hk.out, wayF_away, haw]
        have hQ := Lib.hid (quo_up hr1' haw)
        clear haw
        go_wp2_with fail
        refine wp_region_quiet_lit (by kernel_rfl) (by kernel_rfl) ?_
        repeat (go_big_quiet_step (fail))
        go_big_quiet_want
        go_big_quiet_op
        go_big_quiet_call ((refine (compare_any _ _ _).mono ?_; exact fun _ _ h => ⟨h.1, _, h.2.symm⟩))
        go_big_quiet_want
        go_big_quiet_op
        go_big_quiet_call ((refine (hf.out _ _ _ _ (by omega)).mono ?_; exact fun _ _ h => ⟨h.1, _, h.2.symm⟩))
        repeat (go_big_quiet_step (fail))
        refine wpQuiet_nil ?_
        intro w4 hw4
        obtain ⟨nq, rfl⟩ := hw4
        by_cases hq4 : (q : Int) = 4611686018427387904
        · have c4 : decide (4611686018427387904 < (q : Int) + 1) = true := by rw [decide_eq_true_eq]; omega
          have Hq4 := Lib.hid hq4
          clear hk5 hd hr1' hmf hcf hlt hq4
          go_wp2
          go_ret2
          refine ⟨?_, below_drewN Hb2.out _⟩
          exact fin_big hfin.out hQ.out (by have := Hq4.out; omega)
        · have c4 : decide (4611686018427387904 < (q : Int) + 1) = false := by rw [decide_eq_false_iff_not]; omega
          have hq5 : (q : Int) ≤ 4611686018427387903 := by omega
          clear hk5 hd hr1' hmf hcf hlt hq4 hq3i
          go_wp2
          go_ret2
          refine ⟨?_, below_drewN Hb2.out _⟩
          exact fin_ok hfin.out hQ.out (by omega) (by simp [Sc.sgn]; try omega)
    · have c2 : decide ((q : Int) ≤ 4611686018427387904) = false := by rw [decide_eq_false_iff_not]; omega
      have hq3i : 4611686018427387904 < (q : Int) := by omega
      clear hq3
      go_wp2_with fail
      go_quiet (fail)
      go_wp2
      go_ret2
      refine ⟨?_, below_drewN Hb2.out _⟩
      cases haw : Sc.away how true q r den
      · exact fin_big hfin.out (quo_stay haw) hq3i
      · exact fin_big hfin.out (quo_up hr1' haw) (by omega)
set_option maxHeartbeats 2000000 in
set_option maxRecDepth 100000 in
/-- the product's quotient fits one word -/
theorem scale_pos (how : Int) (num den hi lo q r k A : Nat) (w : World) (hk : Hid (how = (k : Int) + 1)) (hk5 : k < 5) (hd : 1 ≤ den) (hD : (den : Int) ≤ 9223372036854775807) (hM : (num : Int) ≤ 9223372036854775807)
    
    (hhi' : ((A * num / 18446744073709551616 : Nat) : Int) = hi) (hlo' : ((A * num % 18446744073709551616 : Nat) : Int) = lo) (hlt : (hi : Int) < den)
    (hq' : (((hi * 18446744073709551616 + lo) / den : Nat) : Int) = q) (hr' : (((hi * 18446744073709551616 + lo) % den : Nat) : Int) = r) (hr0 : (r : Int) < den) (_hlo2 : (lo : Int) ≤ 18446744073709551615) (hq2 : (q : Int) ≤ 18446744073709551615) (hA : (A : Int) ≤ 9223372036854775807)
    (hfin : Hid (Sc.sc A num den how = if 4611686018427387904 < Sc.quo how false q r den then (0, 9) else (Sc.sgn false (Sc.quo how false q r den), 0))) :
    Calls Tryz.prog 25 #[.int .i64 A, .int .i64 num, .int .i64 den, .int .i64 how] w fun e w' => e = scRet (Sc.sc A num den how) ∧ Below w.heap.size w w' := by
  have hw : wayAt how = (k : Int) := by have := hk.out; unfold wayAt; rw [if_pos (by omega)]; omega
  have hmf : ∀ (fn : Fn) (first cap : Array Value) (w : World), (Instr.makeFunc fn first cap).run Tryz.prog w = .ok (.func fn first cap) w := fun _ _ _ _ => rfl
  have b5 : decide ((A : Int) < 0) = false := by rw [decide_eq_false_iff_not]; omega
  have b1 : decide ((den : Int) ≤ 0) = false := by rw [decide_eq_false_iff_not]; omega
  have b2 : decide ((den : Int) ≤ hi) = false := by rw [decide_eq_false_iff_not]; omega
  have hmul := Lib.hid (Go.Proofs.Tryz.bits_Mul64 A num)
  have hdiv := Lib.hid (div64_any hi lo den)
  obtain ⟨f, g0, g1, hcf, hf'⟩ := way_any k hk5
  have hf := Lib.hid hf'
  clear hf'
  unfold fnv at g1
  go_enter Tryz.func25, Tryz.ntmps25
  go_wp2_with fail
  refine (ways_any _).mono ?_
  rintro e w1 ⟨rfl, rfl⟩
  go_wp2_with fail
  refine (index_any _ _ how _ (hasRow_new w _) (how_new w how _) (by simp) (by simp; omega)).mono ?_
  rintro e w1 ⟨rfl, hb⟩
  rw [hw]
  have hrow := (hasRow_new w (.cells #[.int .i64 how] 3)).at hb (by simp)
  have hb' := (below_two w _ _).trans (hb.mono (by simp; omega))
  have hk5i : (k : Int) < 5 := by omega
  have r0 := hrow (k * 2) (by omega)
  have r1 := hrow (k * 2 + 1) (by omega)
  rw [g0] at r0; rw [g1] at r1
  clear hb hw hrow g0 g1
  go_wp2_with fail
  refine (hmul.out (by omega) (by omega) _).mono ?_
  rintro e w2 ⟨rfl, rfl⟩
  rw [hhi', hlo']
  go_wp2_with fail
  refine (hdiv.out _ (by omega) (by omega) (by omega)).mono ?_
  rintro e w3 ⟨rfl, hn⟩
  rw [hq', hr']
  obtain ⟨r0', r1', hb2⟩ : w3.cell? ⟨w.heap.size + 1, k * 2, none⟩ = some (.int .i64 ((k : Int) + 1)) ∧ w3.cell? ⟨w.heap.size + 1, k * 2 + 1, none⟩ = some (.func (.func f) #[] #[]) ∧ Below w.heap.size w w3 := by
    obtain ⟨n, rfl⟩ := hn
    exact ⟨r0, r1, below_drewN hb' n⟩
  have Hb2 := Lib.hid hb2
  clear hn r0 r1 hb' hb2 hmul hdiv hq' hr' hhi' hlo' b2
  by_cases hr1 : r = 0
  · subst hr1
    have hQ := Lib.hid (quo_rest0 how false q den)
    go_wp2_with fail
    go_quiet (fail)
    go_wp2
    all_goals go_ret2
    all_goals refine ⟨?_, below_drewN Hb2.out _⟩
    all_goals first | exact fin_ok hfin.out hQ.out (by assumption) (by simp [Sc.sgn]) | exact fin_big hfin.out hQ.out (by assumption)
  · have c1 : decide ((0 : Int) < (r : Int)) = true := by rw [decide_eq_true_eq]; omega
    have hr1' : 0 < r := by omega
    clear hr1
    by_cases hq3 : q ≤ 4611686018427387904
    · have c2 : decide ((q : Int) ≤ 4611686018427387904) = true := by rw [decide_eq_true_eq]; omega
      have hq3i : (q : Int) ≤ 4611686018427387904 := by omega
      clear hq3
      cases haw : Sc.away how false q r den
      · have hwf : wayF ((k : Int) + 1) false q (cmpF r ((den : Int) - r)) = false := by rw [← hk.out, wayF_away, haw]
        have hQ := Lib.hid (quo_stay haw)
        clear haw
        go_wp2_with fail
        refine wp_region_quiet_lit (by kernel_rfl) (by kernel_rfl) ?_
        repeat (go_big_quiet_step (fail))
        go_big_quiet_want
        go_big_quiet_op
        go_big_quiet_call ((refine (compare_any _ _ _).mono ?_; exact fun _ _ h => ⟨h.1, _, h.2.symm⟩))
        go_big_quiet_want
        go_big_quiet_op
        go_big_quiet_call ((refine (hf.out _ _ _ _ (by omega)).mono ?_; exact fun _ _ h => ⟨h.1, _, h.2.symm⟩))
        repeat (go_big_quiet_step (fail))
        refine wpQuiet_nil ?_
        intro w4 hw4
        obtain ⟨nq, rfl⟩ := hw4
        have c4 : decide (4611686018427387904 < (q : Int)) = false := by rw [decide_eq_false_iff_not]; omega
        clear hk5 hd hr1' hmf hcf hlt
        go_wp2
        go_ret2
        refine ⟨?_, below_drewN Hb2.out _⟩
        exact fin_ok hfin.out hQ.out (by omega) (by simp [Sc.sgn])
      · have hwf : wayF ((k : Int) + 1) false q (cmpF r ((den : Int) - r)) = true := by rw [← hk.out, wayF_away, haw]
        have hQ := Lib.hid (quo_up hr1' haw)
        clear haw
        go_wp2_with fail
        refine wp_region_quiet_lit (by kernel_rfl) (by kernel_rfl) ?_
        repeat (go_big_quiet_step (fail))
        go_big_quiet_want
        go_big_quiet_op
        go_big_quiet_call ((refine (compare_any _ _ _).mono ?_; exact fun _ _ h => ⟨h.1, _, h.2.symm⟩))
        go_big_quiet_want
        go_big_quiet_op
        go_big_quiet_call ((refine (hf.out _ _ _ _ (by omega)).mono ?_; exact fun _ _ h => ⟨h.1, _, h.2.symm⟩))
        repeat (go_big_quiet_step (fail))
        refine wpQuiet_nil ?_
        intro w4 hw4
        obtain ⟨nq, rfl⟩ := hw4
        by_cases hq4 : (q : Int) = 4611686018427387904
        · have c4 : decide (4611686018427387904 < (q : Int) + 1) = true := by rw [decide_eq_true_eq]; omega
          have Hq4 := Lib.hid hq4
          clear hk5 hd hr1' hmf hcf hlt hq4
          go_wp2
          go_ret2
          refine ⟨?_, below_drewN Hb2.out _⟩
          exact fin_big hfin.out hQ.out (by have := Hq4.out; omega)
        · have c4 : decide (4611686018427387904 < (q : Int) + 1) = false := by rw [decide_eq_false_iff_not]; omega
          have hq5 : (q : Int) ≤ 4611686018427387903 := by omega
          clear hk5 hd hr1' hmf hcf hlt hq4 hq3i
          go_wp2
          go_ret2
          refine ⟨?_, below_drewN Hb2.out _⟩
          exact fin_ok hfin.out hQ.out (by omega) (by simp [Sc.sgn]; try omega)
    · have c2 : decide ((q : Int) ≤ 4611686018427387904) = false := by rw [decide_eq_false_iff_not]; omega
      have hq3i : 4611686018427387904 < (q : Int) := by omega
      clear hq3
      go_wp2_with fail
      go_quiet (fail)
      go_wp2
      go_ret2
      refine ⟨?_, below_drewN Hb2.out _⟩
      cases haw : Sc.away how false q r den
      · exact fin_big hfin.out (quo_stay haw) hq3i
      · exact fin_big hfin.out (quo_up hr1' haw) (by omega)
end Go.Proofs.YthimnjegacdhaaaGreatDoor

/- Scale and Div of the program and of the reference: all return 'Sc.sc'. -/
namespace Go.Proofs.YthimnjegacdhaaaGreatDoor
open Go.RowKit Go.BigFrame

theorem word_split (n : Nat) : n / 18446744073709551616 * 18446744073709551616 + n % 18446744073709551616 = n := by omega

theorem scale_high_neg (a how : Int) (num den hi k A : Nat) (w : World) (hk : Hid (how = (k : Int) + 1)) (hk5 : k < 5) (hd : 1 ≤ den) (hD : (den : Int) ≤ 9223372036854775807) (hM : (num : Int) ≤ 9223372036854775807)
    (hs : a < 0) (hneg : IntKind.u64.wrap (-IntKind.u64.wrap a) = (A : Int)) (hA : (A : Int) ≤ 9223372036854775808)
    (hhi' : ((A * num / 18446744073709551616 : Nat) : Int) = hi) (hle : (den : Int) ≤ hi) :
    Calls Tryz.prog 25 #[.int .i64 a, .int .i64 num, .int .i64 den, .int .i64 how] w fun e w' => e = scRet (0, 9) ∧ Below w.heap.size w w' := by
  have hw : wayAt how = (k : Int) := by have := hk.out; unfold wayAt; rw [if_pos (by omega)]; omega
  have hmf : ∀ (fn : Fn) (first cap : Array Value) (w : World), (Instr.makeFunc fn first cap).run Tryz.prog w = .ok (.func fn first cap) w := fun _ _ _ _ => rfl
  have b1 : decide ((den : Int) ≤ 0) = false := by rw [decide_eq_false_iff_not]; omega
  have b2 : decide ((den : Int) ≤ hi) = true := by rw [decide_eq_true_eq]; omega
  have hmul := Lib.hid (Go.Proofs.Tryz.bits_Mul64 A num)
  go_enter Tryz.func25, Tryz.ntmps25
  go_wp2_with fail
  refine (ways_any _).mono ?_
  rintro e w1 ⟨rfl, rfl⟩
  go_wp2_with fail
  refine (index_any _ _ how _ (hasRow_new w _) (how_new w how _) (by simp) (by simp; omega)).mono ?_
  rintro e w1 ⟨rfl, hb⟩
  rw [hw]
  have hb' := (below_two w _ _).trans (hb.mono (by simp; omega))
  have hk5i : (k : Int) < 5 := by omega
  clear hb hw
  go_wp2_with fail
  refine (hmul.out (by omega) (by omega) _).mono ?_
  rintro e w2 ⟨rfl, rfl⟩
  rw [hhi']
  go_wp2
  go_ret2
  exact ⟨rfl, hb'⟩
theorem scale_high_pos (how : Int) (num den hi k A : Nat) (w : World) (hk : Hid (how = (k : Int) + 1)) (hk5 : k < 5) (hd : 1 ≤ den) (hD : (den : Int) ≤ 9223372036854775807) (hM : (num : Int) ≤ 9223372036854775807)
    (hA : (A : Int) ≤ 9223372036854775807)
    (hhi' : ((A * num / 18446744073709551616 : Nat) : Int) = hi) (hle : (den : Int) ≤ hi) :
    Calls Tryz.prog 25 #[.int .i64 A, .int .i64 num, .int .i64 den, .int .i64 how] w fun e w' => e = scRet (0, 9) ∧ Below w.heap.size w w' := by
  have hw : wayAt how = (k : Int) := by have := hk.out; unfold wayAt; rw [if_pos (by omega)]; omega
  have hmf : ∀ (fn : Fn) (first cap : Array Value) (w : World), (Instr.makeFunc fn first cap).run Tryz.prog w = .ok (.func fn first cap) w := fun _ _ _ _ => rfl
  have b5 : decide ((A : Int) < 0) = false := by rw [decide_eq_false_iff_not]; omega
  have b1 : decide ((den : Int) ≤ 0) = false := by rw [decide_eq_false_iff_not]; omega
  have b2 : decide ((den : Int) ≤ hi) = true := by rw [decide_eq_true_eq]; omega
  have hmul := Lib.hid (Go.Proofs.Tryz.bits_Mul64 A num)
  go_enter Tryz.func25, Tryz.ntmps25
  go_wp2_with fail
  refine (ways_any _).mono ?_
  rintro e w1 ⟨rfl, rfl⟩
  go_wp2_with fail
  refine (index_any _ _ how _ (hasRow_new w _) (how_new w how _) (by simp) (by simp; omega)).mono ?_
  rintro e w1 ⟨rfl, hb⟩
  rw [hw]
  have hb' := (below_two w _ _).trans (hb.mono (by simp; omega))
  have hk5i : (k : Int) < 5 := by omega
  clear hb hw
  go_wp2_with fail
  refine (hmul.out (by omega) (by omega) _).mono ?_
  rintro e w2 ⟨rfl, rfl⟩
  rw [hhi']
  go_wp2
  go_ret2
  exact ⟨rfl, hb'⟩

/-- the program's Scale -/
theorem scale_any (a num den how : Int) (w : World) (ha1 : -9223372036854775808 ≤ a) (ha2 : a ≤ 9223372036854775807) (hn : num ≤ 9223372036854775807) (hd : den ≤ 9223372036854775807) :
    Calls Tryz.prog 25 #[.int .i64 a, .int .i64 num, .int .i64 den, .int .i64 how] w fun e w' => e = scRet (Sc.sc a num den how) ∧ Below w.heap.size w w' := by
  by_cases h1 : how < 1 ∨ 5 < how
  · rw [Sc.sc_kind _ _ _ _ h1]; exact scale_kind a num den how w h1
  by_cases h2 : den ≤ 0 ∨ num < 0
  · rw [Sc.sc_arg _ _ _ _ (by omega) (by omega) h2]; exact scale_arg a num den how w (by omega) (by omega) h2
  obtain ⟨num, rfl⟩ := Int.eq_ofNat_of_zero_le (show 0 ≤ num by omega)
  obtain ⟨den, rfl⟩ := Int.eq_ofNat_of_zero_le (show 0 ≤ den by omega)
  obtain ⟨k, hk⟩ : ∃ k : Nat, how = (k : Int) + 1 := ⟨(how - 1).toNat, by omega⟩
  have hk5 : k < 5 := by omega
  obtain ⟨N, hN⟩ : ∃ N, N = a.natAbs * num := ⟨_, rfl⟩
  have hN2 : N ≤ 9223372036854775808 * 9223372036854775807 := by rw [hN]; exact Nat.mul_le_mul (by omega) (by omega)
  by_cases h3 : den ≤ a.natAbs * num / 18446744073709551616
  · rw [Sc.sc_high a how num den (by omega) (by omega) (by omega) h3]
    by_cases h4 : a < 0
    · exact scale_high_neg a how num den _ k a.natAbs w (Lib.hid hk) hk5 (by omega) hd hn h4 (neg_wrap h4 ha1) (by omega) rfl (by omega)
    · obtain ⟨A, rfl⟩ := Int.eq_ofNat_of_zero_le (show 0 ≤ a by omega)
      rw [Int.natAbs_natCast] at h3
      exact scale_high_pos how num den _ k A w (Lib.hid hk) hk5 (by omega) hd hn ha2 rfl (by omega)
  · have hfin := Sc.sc_of a how num den (by omega) (by omega) (by omega) (by omega)
    rw [← hN] at hfin h3
    have hr := Nat.mod_lt N (show 0 < den by omega)
    have hq : N / den < 18446744073709551616 := by
      rw [Nat.div_lt_iff_lt_mul (by omega)]
      omega
    have hlo := Nat.mod_lt N (show 0 < 18446744073709551616 by omega)
    by_cases h4 : a < 0
    · rw [show decide (a < 0) = true by simpa using h4] at hfin
      refine scale_neg a how num den (N / 18446744073709551616) (N % 18446744073709551616) (N / den) (N % den) k a.natAbs w (Lib.hid hk) hk5 (by omega) hd hn h4 ha1 (neg_wrap h4 ha1) (by rw [← hN]) (by rw [← hN]) (by omega) (by rw [word_split]) (by rw [word_split]) (by omega) (by omega) (by omega) (by omega) (Lib.hid hfin)
    · obtain ⟨A, rfl⟩ := Int.eq_ofNat_of_zero_le (show 0 ≤ a by omega)
      rw [show decide ((A : Int) < 0) = false by rw [decide_eq_false_iff_not]; exact h4] at hfin
      rw [Int.natAbs_natCast] at hN
      refine scale_pos how num den (N / 18446744073709551616) (N % 18446744073709551616) (N / den) (N % den) k A w (Lib.hid hk) hk5 (by omega) hd hn (by rw [← hN]) (by rw [← hN]) (by omega) (by rw [word_split]) (by rw [word_split]) (by omega) (by omega) (by omega) (by omega) (Lib.hid hfin)

end Go.Proofs.YthimnjegacdhaaaGreatDoor

/- Scale and Div of the reference return 'Sc.sc'. -/
namespace Go.Proofs.YthimnjegacdhaaaGreatDoor
open Go.RowKit Go.BigFrame

theorem moreF_away {how : Int} (h1 : 1 ≤ how) (h5 : how ≤ 5) (b : Bool) (q r d : Nat) : moreF q r d b how = decide (0 < r ∧ Sc.away how b q r d = true) := by
  have e3 : ((q : Int) % 2 = 1) ↔ q % 2 = 1 := by omega
  have e5 : ((q : Int) % 2 == 1) = decide (q % 2 = 1) := by rw [Bool.eq_iff_iff, beq_iff_eq, decide_eq_true_eq]; exact e3
  unfold moreF
  by_cases h0 : r = 0
  · subst h0; simp
  rw [if_neg (by omega)]
  have hr : 0 < r := by omega
  unfold Sc.away
  by_cases a1 : how = 1
  · subst a1; cases b <;> simp [hr]
  by_cases a2 : how = 2
  · subst a2; cases b <;> simp [hr]
  by_cases a3 : how = 3
  · subst a3; simp
  simp only [a1, a2, a3, if_false]
  by_cases h6 : (r : Int) = d - r
  · rw [if_neg (by omega)]
    have h7 : 2 * r = d := by omega
    simp only [h7, hr, true_and, decide_true, Bool.true_and, e5]
    by_cases a4 : how = 4
    · subst a4; cases b <;> simp
    · simp [a4]
  · rw [if_pos h6]
    have h7 : ¬ 2 * r = d := by omega
    simp only [h7, hr, true_and, decide_false, Bool.false_and, Bool.or_false]
    have h8 : ((d : Int) - r < r) ↔ d < 2 * r := by omega
    by_cases a4 : how = 4
    · subst a4; simp [h8]
    · simp [a4, h8]

theorem rscale_kind (a num den how : Int) (w : World) (h : how < 1 ∨ 5 < how) :
    Calls Tryz.prog 28 #[.int .i64 a, .int .i64 num, .int .i64 den, .int .i64 how] w fun e w' => e = scRet (0, 7) ∧ Below w.heap.size w w' := by
  have ho : (decide (how < 1) || decide (5 < how)) = true := by simpa using h
  have hout := Lib.hid (outside_any how 1 5)
  clear h
  go_enter Tryz.func28, Tryz.ntmps28
  go_wp2_with fail
  refine (hout.out w).mono ?_
  rintro e w1 ⟨rfl, rfl⟩
  rw [ho]
  go_wp2
  go_ret2
  exact ⟨rfl, Below.refl _ _⟩
theorem rscale_arg (a num den how : Int) (w : World) (h1 : 1 ≤ how) (h5 : how ≤ 5) (h : den ≤ 0 ∨ num < 0) :
    Calls Tryz.prog 28 #[.int .i64 a, .int .i64 num, .int .i64 den, .int .i64 how] w fun e w' => e = scRet (0, 1) ∧ Below w.heap.size w w' := by
  have ho : (decide (how < 1) || decide (5 < how)) = false := by simp; omega
  have hout := Lib.hid (outside_any how 1 5)
  by_cases hd : den ≤ 0
  · have hd2 : decide (den < 1) = true := by rw [decide_eq_true_eq]; omega
    clear h
    go_enter Tryz.func28, Tryz.ntmps28
    go_wp2_with fail
    refine (hout.out w).mono ?_
    rintro e w1 ⟨rfl, rfl⟩
    rw [ho]
    go_wp2
    go_ret2
    exact ⟨rfl, Below.refl _ _⟩
  · have hd2 : decide (den < 1) = false := by rw [decide_eq_false_iff_not]; omega
    have hn2 : decide (num < 0) = true := by rw [decide_eq_true_eq]; omega
    clear h hd
    go_enter Tryz.func28, Tryz.ntmps28
    go_wp2_with fail
    refine (hout.out w).mono ?_
    rintro e w1 ⟨rfl, rfl⟩
    rw [ho]
    go_wp2
    go_ret2
    exact ⟨rfl, Below.refl _ _⟩

set_option maxHeartbeats 1000000 in
set_option maxRecDepth 100000 in
theorem rscale_high (a how : Int) (num den hi A : Nat) (w : World) (h1 : 1 ≤ how) (h5 : how ≤ 5) (hd : 1 ≤ den) (hD : (den : Int) ≤ 9223372036854775807) (hM : (num : Int) ≤ 9223372036854775807)
    (ha1 : -9223372036854775808 ≤ a) (ha2 : a ≤ 9223372036854775807) (hA : (A : Int) ≤ 9223372036854775808) (hAa : Hid (A = a.natAbs))
    (hhi' : ((A * num / 18446744073709551616 : Nat) : Int) = hi) (hle : (den : Int) ≤ hi) :
    Calls Tryz.prog 28 #[.int .i64 a, .int .i64 num, .int .i64 den, .int .i64 how] w fun e w' => e = scRet (0, 9) ∧ Below w.heap.size w w' := by
  have ho : (decide (how < 1) || decide (5 < how)) = false := by simp; omega
  have hout := Lib.hid (outside_any how 1 5)
  have hsz := Lib.hid (size_any a)
  have hmul := Lib.hid (Go.Proofs.Tryz.bits_Mul64 A num)
  have b1 : decide ((den : Int) < 1) = false := by rw [decide_eq_false_iff_not]; omega
  have b2 : decide ((den : Int) ≤ hi) = true := by rw [decide_eq_true_eq]; omega
  go_enter Tryz.func28, Tryz.ntmps28
  go_wp2_with fail
  refine (hout.out w).mono ?_
  rintro e w1 ⟨rfl, rfl⟩
  rw [ho]
  go_wp2_with fail
  refine (hsz.out _ ha1 ha2).mono ?_
  rintro e w1 ⟨rfl, rfl⟩
  rw [← hAa.out]
  go_wp2_with fail
  refine (hmul.out (by omega) (by omega) _).mono ?_
  rintro e w2 ⟨rfl, rfl⟩
  rw [hhi']
  go_wp2
  go_ret2
  exact ⟨rfl, Below.refl _ _⟩

set_option maxHeartbeats 2000000 in
set_option maxRecDepth 100000 in
theorem rscale_of (a how : Int) (num den hi lo q r A : Nat) (S : Bool) (w : World) (h1 : 1 ≤ how) (h5 : how ≤ 5) (hd : 1 ≤ den) (hD : (den : Int) ≤ 9223372036854775807) (hM : (num : Int) ≤ 9223372036854775807)
    (ha1 : -9223372036854775808 ≤ a) (ha2 : a ≤ 9223372036854775807) (hA : (A : Int) ≤ 9223372036854775808) (hAa : Hid (A = a.natAbs)) (hS : decide (a < 0) = S)
    (hhi' : ((A * num / 18446744073709551616 : Nat) : Int) = hi) (hlo' : ((A * num % 18446744073709551616 : Nat) : Int) = lo) (hlt : (hi : Int) < den)
    (hq' : (((hi * 18446744073709551616 + lo) / den : Nat) : Int) = q) (hr' : (((hi * 18446744073709551616 + lo) % den : Nat) : Int) = r) (hr0 : (r : Int) < den) (_hlo2 : (lo : Int) ≤ 18446744073709551615) (hq2 : (q : Int) ≤ 18446744073709551615)
    (hfin : Hid (Sc.sc a num den how = if 4611686018427387904 < Sc.quo how S q r den then (0, 9) else (Sc.sgn S (Sc.quo how S q r den), 0))) :
    Calls Tryz.prog 28 #[.int .i64 a, .int .i64 num, .int .i64 den, .int .i64 how] w fun e w' => e = scRet (Sc.sc a num den how) ∧ Below w.heap.size w w' := by
  have ho : (decide (how < 1) || decide (5 < how)) = false := by simp; omega
  have hout := Lib.hid (outside_any how 1 5)
  have hsz := Lib.hid (size_any a)
  have hmul := Lib.hid (Go.Proofs.Tryz.bits_Mul64 A num)
  have hdiv := Lib.hid (div64_any hi lo den)
  have b1 : decide ((den : Int) < 1) = false := by rw [decide_eq_false_iff_not]; omega
  have b2 : decide ((den : Int) ≤ hi) = false := by rw [decide_eq_false_iff_not]; omega
  have hmore := Lib.hid (more_any q r den S how)
  have hma := Lib.hid (moreF_away h1 h5 S q r den)
  go_enter Tryz.func28, Tryz.ntmps28
  go_wp2_with fail
  refine (hout.out w).mono ?_
  rintro e w1 ⟨rfl, rfl⟩
  rw [ho]
  go_wp2_with fail
  refine (hsz.out _ ha1 ha2).mono ?_
  rintro e w1 ⟨rfl, rfl⟩
  rw [← hAa.out]
  go_wp2_with fail
  refine (hmul.out (by omega) (by omega) _).mono ?_
  rintro e w2 ⟨rfl, rfl⟩
  rw [hhi', hlo']
  go_wp2_with fail
  refine (hdiv.out _ (by omega) (by omega) (by omega)).mono ?_
  rintro e w3 ⟨rfl, nd, rfl⟩
  rw [hq', hr']
  clear hhi' hlo' hq' hr' b1 b2
  go_wp2_with fail
  refine (hmore.out _ (by omega) (by omega) (by omega) (by omega)).mono ?_
  rintro e w4 ⟨rfl, rfl⟩
  rw [hma.out]
  cases haw : decide (0 < r ∧ Sc.away how S q r den = true)
  · have hQ : Sc.quo how S q r den = q := by
      unfold Sc.quo; rw [if_neg (by simpa using haw)]
    have HQ := Lib.hid hQ
    clear haw hQ hma hmore
    by_cases h9 : (q : Int) ≤ 4611686018427387904
    · have c4 : decide (4611686018427387904 < (q : Int)) = false := by rw [decide_eq_false_iff_not]; omega
      cases S
      · go_wp2
        go_ret2
        exact ⟨fin_ok hfin.out HQ.out h9 (by simp [Sc.sgn]), below_drewN (Below.refl _ _) _⟩
      · go_wp2
        go_ret2
        exact ⟨fin_ok hfin.out HQ.out h9 (by simp [Sc.sgn]), below_drewN (Below.refl _ _) _⟩
    · have c4 : decide (4611686018427387904 < (q : Int)) = true := by rw [decide_eq_true_eq]; omega
      have h9' := Lib.hid h9
      clear h9
      go_wp2
      go_ret2
      exact ⟨fin_big hfin.out HQ.out (by have := h9'.out; omega), below_drewN (Below.refl _ _) _⟩
  · have hQ : Sc.quo how S q r den = q + 1 := by
      unfold Sc.quo; rw [if_pos (by simpa using haw)]
    have HQ := Lib.hid hQ
    clear haw hQ hma hmore
    by_cases h8 : (q : Int) = 18446744073709551615
    · have c5 : IntKind.u64.wrap ((q : Int) + 1) = 0 := by rw [IntKind.wrap_u64]; omega
      have H8 := Lib.hid h8
      clear h8
      go_wp2
      go_ret2
      exact ⟨fin_big hfin.out HQ.out (by have := H8.out; omega), below_drewN (Below.refl _ _) _⟩
    · have c5 : IntKind.u64.wrap ((q : Int) + 1) = (q : Int) + 1 := by rw [IntKind.wrap_u64]; omega
      have c6 : ((q : Int) + 1 == 0) = false := by rw [beq_eq_false_iff_ne]; omega
      have H8 := Lib.hid h8
      clear h8
      by_cases h9 : (q : Int) + 1 ≤ 4611686018427387904
      · have c4 : decide (4611686018427387904 < (q : Int) + 1) = false := by rw [decide_eq_false_iff_not]; omega
        cases S
        · go_wp2
          go_ret2
          exact ⟨fin_ok hfin.out HQ.out (by omega) (by simp [Sc.sgn]), below_drewN (Below.refl _ _) _⟩
        · go_wp2
          go_ret2
          exact ⟨fin_ok hfin.out HQ.out (by omega) (by simp [Sc.sgn]), below_drewN (Below.refl _ _) _⟩
      · have c4 : decide (4611686018427387904 < (q : Int) + 1) = true := by rw [decide_eq_true_eq]; omega
        have h9' := Lib.hid h9
        clear h9
        go_wp2
        go_ret2
        exact ⟨fin_big hfin.out HQ.out (by have := h9'.out; omega), below_drewN (Below.refl _ _) _⟩

theorem rscale_any (a num den how : Int) (w : World) (ha1 : -9223372036854775808 ≤ a) (ha2 : a ≤ 9223372036854775807) (hn : num ≤ 9223372036854775807) (hd : den ≤ 9223372036854775807) :
    Calls Tryz.prog 28 #[.int .i64 a, .int .i64 num, .int .i64 den, .int .i64 how] w fun e w' => e = scRet (Sc.sc a num den how) ∧ Below w.heap.size w w' := by
  by_cases h1 : how < 1 ∨ 5 < how
  · rw [Sc.sc_kind _ _ _ _ h1]; exact rscale_kind a num den how w h1
  by_cases h2 : den ≤ 0 ∨ num < 0
  · rw [Sc.sc_arg _ _ _ _ (by omega) (by omega) h2]; exact rscale_arg a num den how w (by omega) (by omega) h2
  obtain ⟨num, rfl⟩ := Int.eq_ofNat_of_zero_le (show 0 ≤ num by omega)
  obtain ⟨den, rfl⟩ := Int.eq_ofNat_of_zero_le (show 0 ≤ den by omega)
  obtain ⟨N, hN⟩ : ∃ N, N = a.natAbs * num := ⟨_, rfl⟩
  have hN2 : N ≤ 9223372036854775808 * 9223372036854775807 := by rw [hN]; exact Nat.mul_le_mul (by omega) (by omega)
  by_cases h3 : den ≤ a.natAbs * num / 18446744073709551616
  · rw [Sc.sc_high a how num den (by omega) (by omega) (by omega) h3]
    exact rscale_high a how num den _ a.natAbs w (by omega) (by omega) (by omega) hd hn ha1 ha2 (by omega) (Lib.hid rfl) rfl (by omega)
  · have hfin := Sc.sc_of a how num den (by omega) (by omega) (by omega) (by omega)
    rw [← hN] at hfin h3
    have hr := Nat.mod_lt N (show 0 < den by omega)
    have hq : N / den < 18446744073709551616 := by
      rw [Nat.div_lt_iff_lt_mul (by omega)]
      omega
    have hlo := Nat.mod_lt N (show 0 < 18446744073709551616 by omega)
    exact rscale_of a how num den (N / 18446744073709551616) (N % 18446744073709551616) (N / den) (N % den) a.natAbs _ w (by omega) (by omega) (by omega) hd hn ha1 ha2 (by omega) (Lib.hid rfl) rfl
      (by rw [← hN]) (by rw [← hN]) (by omega) (by rw [word_split]) (by rw [word_split]) (by omega) (by omega) (by omega) (Lib.hid hfin)

end Go.Proofs.YthimnjegacdhaaaGreatDoor

/- ReadPace of the reference. -/
namespace Go.Proofs.YthimnjegacdhaaaGreatDoor
open Go.RowKit Go.BigFrame
open Rd (paceT refPace paceVal firstT matchT numT litT pairT partT mT hT hdT tok0 Tok TokOk kmB miB hmB kmhB dotB slashB colon)

def mPre : List Tok := [numT 0 999 3, litT colon, pairT 59, litT slashB]
theorem pace_ok : ∀ f, f ∈ paceT → (∀ t, t ∈ f → TokOk t) ∧ f.length ≤ 6 ∧ 0 < f.length := by
  have hn : TokOk (numT 0 999 3) := Or.inr (Or.inl ⟨rfl, Or.inl rfl, by decide, by decide, by decide⟩)
  have hl : ∀ x : ByteArray, x.size ≤ 100 → TokOk (litT x) := fun x h => Or.inl ⟨rfl, h⟩
  have hp : TokOk (pairT 59) := Or.inr (Or.inr (Or.inl ⟨rfl, by decide, by decide⟩))
  have hq : TokOk (partT 1) := Or.inr (Or.inr (Or.inr ⟨rfl, by decide⟩))
  have hm : ∀ x : ByteArray, x.size ≤ 100 → (∀ t, t ∈ mT x → TokOk t) ∧ (mT x).length ≤ 6 ∧ 0 < (mT x).length := fun x hx => ⟨fun t ht => by
    simp only [mT, List.mem_cons, List.not_mem_nil, or_false] at ht
    rcases ht with rfl | rfl | rfl | rfl | rfl
    · exact hn
    · exact hl _ (by decide)
    · exact hp
    · exact hl _ (by decide)
    · exact hl _ hx, show 5 ≤ 6 by omega, show 0 < 5 by omega⟩
  intro f hf
  simp only [paceT, List.mem_cons, List.not_mem_nil, or_false] at hf
  rcases hf with rfl | rfl | rfl | rfl | rfl
  · exact hm _ (by decide)
  · exact hm _ (by decide)
  · exact hm _ (by decide)
  · refine ⟨fun t ht => ?_, by decide, by decide⟩
    simp only [hT, List.mem_cons, List.not_mem_nil, or_false] at ht
    rcases ht with rfl | rfl
    · exact hn
    · exact hl _ (by decide)
  · refine ⟨fun t ht => ?_, by decide, by decide⟩
    simp only [hdT, List.mem_cons, List.not_mem_nil, or_false] at ht
    rcases ht with rfl | rfl | rfl | rfl
    · exact hn
    · exact hl _ (by decide)
    · exact hq
    · exact hl _ (by decide)
theorem row_small (s : ByteArray) (p : Nat) : 0 ≤ (Rd.rowAt s 1 true p).1 * 10 ^ (1 - (Rd.rowAt s 1 true p).2.1) ∧ (Rd.rowAt s 1 true p).1 * 10 ^ (1 - (Rd.rowAt s 1 true p).2.1) ≤ 999 := by
  unfold Rd.rowAt
  by_cases h : Rd.digAt s p true = true
  · obtain ⟨_, _, h48, h57⟩ := Rd.digAt_true h
    rw [Rd.rowLoop, if_pos ⟨by omega, h⟩]
    show 0 ≤ (10 * 0 + ((Rd.byte s p : Int) - 48)) * 10 ^ (1 - 1) ∧ (10 * 0 + ((Rd.byte s p : Int) - 48)) * 10 ^ (1 - 1) ≤ 999
    simp
    omega
  · rw [Rd.rowLoop, if_neg (fun x => h x.2)]
    show (0 : Int) ≤ 0 * 10 ^ (1 - 0) ∧ (0 : Int) * 10 ^ (1 - 0) ≤ 999
    omega
/-- what a pace's values are like -/
theorem pace_vals {s : ByteArray} (h : 0 ≤ (firstT s paceT 0 0).1) : ∃ k : Nat, (firstT s paceT 0 0).1 = (k : Int) ∧ k < 5 ∧ (k ≠ 3 → ∃ a b, (firstT s paceT 0 0).2.1 = [a, b] ∧ (0 ≤ a ∧ a ≤ 999) ∧ 0 ≤ b ∧ b ≤ 999) ∧ (k = 3 → ∃ a, (firstT s paceT 0 0).2.1 = [a] ∧ 0 ≤ a ∧ a ≤ 999) := by
  obtain ⟨k, f, h1, h2, h3, h4⟩ := Rd.firstT_len paceT h
  have hk : k < 5 := (List.getElem?_eq_some_iff.1 h1).1
  rw [h4]
  have hl := Rd.matchT_len f 0 h3
  have sn : Rd.Small 999 (numT 0 999 3) := Or.inr ⟨Or.inl rfl, by decide, by decide⟩
  have sp : Rd.Small 999 (pairT 59) := Or.inr ⟨Or.inr rfl, by decide, by decide⟩
  have sl : ∀ x, Rd.Small 999 (litT x) := fun x => Or.inl rfl
  have two : ∀ L : List Int, L.length = 2 → (∀ v, v ∈ L → 0 ≤ v ∧ v ≤ 999) → ∃ a b, L = [a, b] ∧ (0 ≤ a ∧ a ≤ 999) ∧ 0 ≤ b ∧ b ≤ 999 := fun L hL hv => by
    match L, hL with
    | [a, b], _ => exact ⟨a, b, rfl, hv a (by simp), hv b (by simp)⟩
  have hm : ∀ x, (matchT s (mT x) 0).2.1.length = Rd.nVals (mT x) → ∃ a b, (matchT s (mT x) 0).2.1 = [a, b] ∧ (0 ≤ a ∧ a ≤ 999) ∧ 0 ≤ b ∧ b ≤ 999 := fun x hx => two _ hx (Rd.matchT_vals (M := 999) (mT x) 0 (fun t ht => by
    simp only [mT, List.mem_cons, List.not_mem_nil, or_false] at ht
    rcases ht with rfl | rfl | rfl | rfl | rfl
    · exact sn
    · exact sl _
    · exact sp
    · exact sl _
    · exact sl _))
  refine ⟨k, h2, hk, ?_, ?_⟩
  · intro hk3
    rcases (show k = 0 ∨ k = 1 ∨ k = 2 ∨ k = 4 by omega) with rfl | rfl | rfl | rfl
    · injection h1 with h1
      subst h1
      exact hm _ hl
    · injection h1 with h1
      subst h1
      exact hm _ hl
    · injection h1 with h1
      subst h1
      exact hm _ hl
    · injection h1 with h1
      subst h1
      have hv := Rd.numAt_val s 3 0 999 true 0 (by omega)
      unfold hdT at h3 ⊢
      rw [Rd.matchT_num] at h3 ⊢
      split at h3
      · rename_i c1
        rw [if_pos c1]
        simp only at h3 ⊢
        rw [Rd.matchT_lit] at h3 ⊢
        split at h3
        · rename_i c2
          rw [if_pos c2]
          rw [Rd.matchT_part] at h3 ⊢
          split at h3
          · rename_i c3
            rw [if_pos c3]
            simp only at h3 ⊢
            have hr := row_small s (Rd.exactAt s dotB (Rd.numAt s 3 0 999 true 0).2.2 true).1
            refine ⟨_, _, ?_, ⟨hv.1, hv.2⟩, hr⟩
            rw [Rd.matchT_lit]
            split <;> simp [matchT]
          · cases h3
        · cases h3
      · cases h3
  · rintro rfl
    injection h1 with h1
    subst h1
    have hv := Rd.matchT_vals (s := s) (M := 999) hT 0 (fun t ht => by
      simp only [hT, List.mem_cons, List.not_mem_nil, or_false] at ht
      rcases ht with rfl | rfl
      · exact sn
      · exact sl _)
    match hL : (matchT s hT 0).2.1, hl with
    | [a], _ =>
      rw [hL] at hv
      exact ⟨a, rfl, hv a (by simp)⟩
theorem isPaceR_any (n : Int) (w : World) : Calls Tryz.prog 29 #[.int .i64 n] w fun e w' => e = .returned (.bool (decide (1 ≤ n) && decide (n ≤ 36000))) ∧ w = w' := by
  have D := Lib.hid (fun W => outside_any n 1 36000 W)
  have hb : (!(decide (n < 1) || decide (36000 < n))) = (decide (1 ≤ n) && decide (n ≤ 36000)) := by
    rw [Bool.not_or]
    congr 1
    · rw [← decide_not]; congr 1; rw [eq_iff_iff]; omega
    · rw [← decide_not]; congr 1; rw [eq_iff_iff]; omega
  rw [← hb]
  obtain ⟨x, hx⟩ : ∃ x, (decide (n < 1) || decide (36000 < n)) = x := ⟨_, rfl⟩
  rw [hx] at D ⊢
  clear hb hx
  cases x
  all_goals
    go_enter Tryz.func29, Tryz.ntmps29
    go_wp2_with (go_at_call 27; refine (D.out _).mono ?_; rintro e _ ⟨rfl, rfl⟩)
    go_ret
    exact ⟨rfl, rfl⟩
set_option maxHeartbeats 8000000 in
set_option maxRecDepth 100000 in
theorem rReadPace_any (s : ByteArray) (w : World) (hg : Glo w) (hs : s.size ≤ 9223372036854775807) :
    Calls Tryz.prog 14 #[.string s] w fun e w' => e = .returned (.tuple #[.int .i64 (refPace s).1, .int .i64 (refPace s).2.1, .int .i64 (refPace s).2.2]) ∧ Below w.heap.size w w' := by
  by_cases hz : 1000 < s.size
  · have t1 : decide ((1000 : Int) < (s.size : Int)) = true := by rw [decide_eq_true_eq]; omega
    have t2 : decide (1000 < s.size) = true := by simpa using hz
    have HX := Lib.hid (show refPace s = (0, 0, 3) by unfold refPace; rw [if_pos hz])
    clear hz
    go_enter Tryz.func14, Tryz.ntmps14
    go_wp2_with fail
    go_ret3
    exact ⟨by rw [HX.out]; rfl, Below.refl _ _⟩
  have t1 : decide ((1000 : Int) < (s.size : Int)) = false := by rw [decide_eq_false_iff_not]; omega
  have t2 : decide (1000 < s.size) = false := by simpa using hz
  have HZ := Lib.hid hz
  have DN : Hid (∀ W : World, Calls Tryz.prog 38 #[.int .i64 0, .int .i64 999, .int .i64 3] W fun e w' => e = .returned (.agg #[.int .i64 2, .string ⟨#[]⟩, .int .i64 0, .int .i64 999, .int .i64 3]) ∧ Below W.heap.size W w') := Lib.hid (fun W => num_any 0 999 3 W)
  have DP : Hid (∀ W : World, Calls Tryz.prog 40 #[.int .i64 59] W fun e w' => e = .returned (.agg #[.int .i64 3, .string ⟨#[]⟩, .int .i64 0, .int .i64 59, .int .i64 0]) ∧ Below W.heap.size W w') := Lib.hid (fun W => rpair_any 59 W)
  have DQ : Hid (∀ W : World, Calls Tryz.prog 42 #[.int .i64 1] W fun e w' => e = .returned (.agg #[.int .i64 4, .string ⟨#[]⟩, .int .i64 0, .int .i64 0, .int .i64 1]) ∧ Below W.heap.size W w') := Lib.hid (fun W => part_any 1 W)
  have DI : Hid (∀ (tx : ByteArray) (W : World), Calls Tryz.prog 39 #[.string tx] W fun e w' => e = .returned (.agg #[.int .i64 1, .string tx, .int .i64 0, .int .i64 0, .int .i64 0]) ∧ Below W.heap.size W w') := Lib.hid (fun tx W => lit_any tx W)
  have DF := Lib.hid (fun (v : Value) (W : World) => form_any v W)
  have DW : Hid (∀ (tx : ByteArray) (W : World) (b p : Nat), FormBlk W (.slice (some ⟨b, 0, none⟩) 4 4) mPre → FormBlk W (.slice (some ⟨p, 0, none⟩) 1 1) [litT tx] → Calls Tryz.prog 41 #[.slice (some ⟨b, 0, none⟩) 4 4, .slice (some ⟨p, 0, none⟩) 1 1] W fun e w' => ∃ g c, e = .returned (.slice (some ⟨g, 0, none⟩) 5 c) ∧ FormBlk w' (.slice (some ⟨g, 0, none⟩) 5 c) (mT tx) ∧ Below W.heap.size W w') := Lib.hid (fun tx W b p h1 h2 => by
    refine (with_any mPre [litT tx] _ _ W h1 h2 (show 4 ≤ 100 by omega) (show 1 ≤ 100 by omega) (show 0 < 4 by omega) (show 0 < 1 by omega)).mono ?_
    rintro e w' ⟨v, rfl, hf, hb⟩
    obtain ⟨g, c, cs, rfl, h3, h4⟩ := hf
    exact ⟨g, c, rfl, ⟨g, c, cs, rfl, h3, h4⟩, hb⟩)
  go_enter Tryz.func14, Tryz.ntmps14
  go_wp2_with fail
  refine (DN.out _).mono ?_
  rintro e w1 ⟨rfl, hb1⟩
  go_wp2_with fail
  refine (DI.out _ _).mono ?_
  rintro e w2 ⟨rfl, hb2⟩
  go_wp2_with fail
  refine (DP.out _).mono ?_
  rintro e w3 ⟨rfl, hb3⟩
  go_wp2_with fail
  refine (DI.out _ _).mono ?_
  rintro e w4 ⟨rfl, hb4⟩
  go_wp2_with fail
  refine (DF.out _ _).mono ?_
  rintro e _ ⟨rfl, rfl⟩
  obtain ⟨V1, hV1, hv1b, _, hv1q⟩ := alloc_block w4 #[.int .i64 2, .string ⟨#[]⟩, .int .i64 0, .int .i64 999, .int .i64 3, .int .i64 1, .string ⟨#[58]⟩, .int .i64 0, .int .i64 0, .int .i64 0, .int .i64 3, .string ⟨#[]⟩, .int .i64 0, .int .i64 59, .int .i64 0, .int .i64 1, .string ⟨#[47]⟩, .int .i64 0, .int .i64 0, .int .i64 0] 57
  rw [hV1]
  have HM4 : Hid (FormBlk V1 (.slice (some ⟨w4.heap.size, 0, none⟩) 4 4) mPre) := Lib.hid ⟨w4.heap.size, 4, _, rfl, hv1q, fun i j hi hj => by
      have hi : i < 4 := hi
      match i, hi, j, hj with
      | 0, _, 0, _ | 0, _, 1, _ | 0, _, 2, _ | 0, _, 3, _ | 0, _, 4, _ | 1, _, 0, _ | 1, _, 1, _ | 1, _, 2, _ | 1, _, 3, _ | 1, _, 4, _ | 2, _, 0, _ | 2, _, 1, _ | 2, _, 2, _ | 2, _, 3, _ | 2, _, 4, _ | 3, _, 0, _ | 3, _, 1, _ | 3, _, 2, _ | 3, _, 3, _ | 3, _, 4, _ => rfl⟩
  have HBV1 := Lib.hid (below_step hb1 (below_step hb2 (below_step hb3 (below_step hb4 hv1b))))
  obtain ⟨q1, hq1⟩ : ∃ q, w4.heap.size = q := ⟨_, rfl⟩
  rw [hq1] at HM4 ⊢
  clear hb1 hb2 hb3 hb4 hV1 hv1b hv1q hq1
  go_wp2_with fail
  refine (DN.out _).mono ?_
  rintro e w5 ⟨rfl, hb5⟩
  go_upto_region 5 with fail
  obtain ⟨V, hV, hvb, _, hvq⟩ := alloc_block w5 #[.int .i64 2, .string ⟨#[]⟩, .int .i64 0, .int .i64 999, .int .i64 3] 57
  rw [hV]
  have HBV := Lib.hid (HBV1.out.trans ((below_step hb5 hvb).mono HBV1.out.size))
  have HM := Lib.hid (HM4.out.below (below_step hb5 hvb))
  obtain ⟨p6, hp6⟩ : ∃ p, w5.heap.size = p := ⟨_, rfl⟩
  rw [hp6] at hvq ⊢
  have S0 : ∀ Z : Ext V, Z.1.cell? ⟨p6, 0, none⟩ = some (.int .i64 2) := Ext.ex (block_cell hvq rfl)
  have S1 : ∀ Z : Ext V, Z.1.cell? ⟨p6, 1, none⟩ = some (.string ⟨#[]⟩) := Ext.ex (block_cell hvq rfl)
  have S2 : ∀ Z : Ext V, Z.1.cell? ⟨p6, 2, none⟩ = some (.int .i64 0) := Ext.ex (block_cell hvq rfl)
  have S3 : ∀ Z : Ext V, Z.1.cell? ⟨p6, 3, none⟩ = some (.int .i64 999) := Ext.ex (block_cell hvq rfl)
  have S4 : ∀ Z : Ext V, Z.1.cell? ⟨p6, 4, none⟩ = some (.int .i64 3) := Ext.ex (block_cell hvq rfl)
  clear hb5 hV hvb hp6 HM4 HBV1 DN DP hvq
  refine held_start (C := fun w' => ∃ Z : Ext V, w' = Z.1) (by kernel_rfl) ?_
  obtain ⟨Y0, hY0⟩ : ∃ Z : Ext V, ({ V with drawn := V.drawn + 1 } : World) = Z.1 := ⟨⟨{ V with drawn := V.drawn + 1 }, ⟨rfl, rfl, rfl, Nat.le_refl _, fun _ _ => rfl⟩⟩, rfl⟩
  rw [hY0]
  have HM0 := Lib.hid (HM.out.below Y0.2)
  clear hY0 HM
  refine held_quiet (by kernel_rfl) (fun _ _ d _ _ h => by cases d <;> exact h) ⟨Y0, rfl⟩ [0, 4, 8, 12, 16] 19 _ _ (by kernel_rfl) ?_
  change wpQuiet _ _ _ _ (_ :: _ :: _ :: _ :: _ :: []) _
  repeat go_big_quiet_step (fail)
  refine wpQuiet_nil ?_
  clear S0 S1 S2 S3 S4
  refine held_do (i := 1) _ rfl (by kernel_rfl) rfl (fun K hK => ?_)
  go_simp
  refine (DI.out ⟨#[107, 109]⟩ Y0.1).mono ?_
  rintro e u1 ⟨rfl, hb1⟩
  obtain ⟨Y1, hY1⟩ : ∃ Z : Ext V, u1 = Z.1 := ⟨⟨u1, below_step Y0.2 hb1⟩, rfl⟩
  rw [hY1] at hb1 ⊢
  have HM0_1 := Lib.hid (HM0.out.below hb1)
  clear HM0
  refine hK _ _ ⟨Y1, rfl⟩ ?_
  clear hK K hb1 hY1
  refine held_do (i := 2) _ rfl (by kernel_rfl) rfl (fun K hK => ?_)
  go_simp
  obtain ⟨u2, hu2, hb2, _, hq2⟩ := alloc_block Y1.1 #[.int .i64 1, .string ⟨#[107, 109]⟩, .int .i64 0, .int .i64 0, .int .i64 0] 57
  rw [hu2]
  obtain ⟨a2, ha2⟩ : ∃ a, Y1.1.heap.size = a := ⟨_, rfl⟩
  rw [ha2] at hq2 ⊢
  obtain ⟨Y2, hY2⟩ : ∃ Z : Ext V, u2 = Z.1 := ⟨⟨u2, below_step Y1.2 hb2⟩, rfl⟩
  rw [hY2] at hb2 hq2 ⊢
  have HM0_2 := Lib.hid (HM0_1.out.below hb2)
  clear HM0_1
  have HL_2 : Hid (FormBlk Y2.1 (.slice (some ⟨a2, 0, none⟩) 1 1) [litT kmB]) := Lib.hid ⟨a2, 1, _, rfl, hq2, fun i j hi hj => by
      have hi : i < 1 := hi
      match i, hi, j, hj with
      | 0, _, 0, _ | 0, _, 1, _ | 0, _, 2, _ | 0, _, 3, _ | 0, _, 4, _ => rfl⟩
  refine hK _ _ ⟨Y2, rfl⟩ ?_
  clear hK K hb2 hY2 hu2 ha2 hq2
  refine held_do (i := 3) _ rfl (by kernel_rfl) rfl (fun K hK => ?_)
  go_simp
  refine (DW.out kmB Y2.1 q1 a2 HM0_2.out HL_2.out).mono ?_
  rintro e u3 ⟨g1, c1, rfl, hf3, hb3⟩
  obtain ⟨Y3, hY3⟩ : ∃ Z : Ext V, u3 = Z.1 := ⟨⟨u3, below_step Y2.2 hb3⟩, rfl⟩
  rw [hY3] at hb3 ⊢
  rw [hY3] at hf3
  have HM0_3 := Lib.hid (HM0_2.out.below hb3)
  have HL_3 := Lib.hid (HL_2.out.below hb3)
  clear HM0_2 HL_2
  have HF1_3 := Lib.hid hf3
  refine hK _ _ ⟨Y3, rfl⟩ ?_
  clear hK K hb3 hY3 hf3
  clear HL_3
  refine held_do (i := 5) _ rfl (by kernel_rfl) rfl (fun K hK => ?_)
  go_simp
  refine (DI.out ⟨#[109, 105]⟩ Y3.1).mono ?_
  rintro e u4 ⟨rfl, hb4⟩
  obtain ⟨Y4, hY4⟩ : ∃ Z : Ext V, u4 = Z.1 := ⟨⟨u4, below_step Y3.2 hb4⟩, rfl⟩
  rw [hY4] at hb4 ⊢
  have HM0_4 := Lib.hid (HM0_3.out.below hb4)
  have HF1_4 := Lib.hid (HF1_3.out.below hb4)
  clear HM0_3 HF1_3
  refine hK _ _ ⟨Y4, rfl⟩ ?_
  clear hK K hb4 hY4
  refine held_do (i := 6) _ rfl (by kernel_rfl) rfl (fun K hK => ?_)
  go_simp
  obtain ⟨u5, hu5, hb5, _, hq5⟩ := alloc_block Y4.1 #[.int .i64 1, .string ⟨#[109, 105]⟩, .int .i64 0, .int .i64 0, .int .i64 0] 57
  rw [hu5]
  obtain ⟨a5, ha5⟩ : ∃ a, Y4.1.heap.size = a := ⟨_, rfl⟩
  rw [ha5] at hq5 ⊢
  obtain ⟨Y5, hY5⟩ : ∃ Z : Ext V, u5 = Z.1 := ⟨⟨u5, below_step Y4.2 hb5⟩, rfl⟩
  rw [hY5] at hb5 hq5 ⊢
  have HM0_5 := Lib.hid (HM0_4.out.below hb5)
  have HF1_5 := Lib.hid (HF1_4.out.below hb5)
  clear HM0_4 HF1_4
  have HL_5 : Hid (FormBlk Y5.1 (.slice (some ⟨a5, 0, none⟩) 1 1) [litT miB]) := Lib.hid ⟨a5, 1, _, rfl, hq5, fun i j hi hj => by
      have hi : i < 1 := hi
      match i, hi, j, hj with
      | 0, _, 0, _ | 0, _, 1, _ | 0, _, 2, _ | 0, _, 3, _ | 0, _, 4, _ => rfl⟩
  refine hK _ _ ⟨Y5, rfl⟩ ?_
  clear hK K hb5 hY5 hu5 ha5 hq5
  refine held_do (i := 7) _ rfl (by kernel_rfl) rfl (fun K hK => ?_)
  go_simp
  refine (DW.out miB Y5.1 q1 a5 HM0_5.out HL_5.out).mono ?_
  rintro e u6 ⟨g5, c5, rfl, hf6, hb6⟩
  obtain ⟨Y6, hY6⟩ : ∃ Z : Ext V, u6 = Z.1 := ⟨⟨u6, below_step Y5.2 hb6⟩, rfl⟩
  rw [hY6] at hb6 ⊢
  rw [hY6] at hf6
  have HM0_6 := Lib.hid (HM0_5.out.below hb6)
  have HF1_6 := Lib.hid (HF1_5.out.below hb6)
  have HL_6 := Lib.hid (HL_5.out.below hb6)
  clear HM0_5 HF1_5 HL_5
  have HF5_6 := Lib.hid hf6
  refine hK _ _ ⟨Y6, rfl⟩ ?_
  clear hK K hb6 hY6 hf6
  clear HL_6
  refine held_do (i := 9) _ rfl (by kernel_rfl) rfl (fun K hK => ?_)
  go_simp
  refine (DI.out ⟨#[49, 48, 48, 109]⟩ Y6.1).mono ?_
  rintro e u7 ⟨rfl, hb7⟩
  obtain ⟨Y7, hY7⟩ : ∃ Z : Ext V, u7 = Z.1 := ⟨⟨u7, below_step Y6.2 hb7⟩, rfl⟩
  rw [hY7] at hb7 ⊢
  have HM0_7 := Lib.hid (HM0_6.out.below hb7)
  have HF1_7 := Lib.hid (HF1_6.out.below hb7)
  have HF5_7 := Lib.hid (HF5_6.out.below hb7)
  clear HM0_6 HF1_6 HF5_6
  refine hK _ _ ⟨Y7, rfl⟩ ?_
  clear hK K hb7 hY7
  refine held_do (i := 10) _ rfl (by kernel_rfl) rfl (fun K hK => ?_)
  go_simp
  obtain ⟨u8, hu8, hb8, _, hq8⟩ := alloc_block Y7.1 #[.int .i64 1, .string ⟨#[49, 48, 48, 109]⟩, .int .i64 0, .int .i64 0, .int .i64 0] 57
  rw [hu8]
  obtain ⟨a8, ha8⟩ : ∃ a, Y7.1.heap.size = a := ⟨_, rfl⟩
  rw [ha8] at hq8 ⊢
  obtain ⟨Y8, hY8⟩ : ∃ Z : Ext V, u8 = Z.1 := ⟨⟨u8, below_step Y7.2 hb8⟩, rfl⟩
  rw [hY8] at hb8 hq8 ⊢
  have HM0_8 := Lib.hid (HM0_7.out.below hb8)
  have HF1_8 := Lib.hid (HF1_7.out.below hb8)
  have HF5_8 := Lib.hid (HF5_7.out.below hb8)
  clear HM0_7 HF1_7 HF5_7
  have HL_8 : Hid (FormBlk Y8.1 (.slice (some ⟨a8, 0, none⟩) 1 1) [litT hmB]) := Lib.hid ⟨a8, 1, _, rfl, hq8, fun i j hi hj => by
      have hi : i < 1 := hi
      match i, hi, j, hj with
      | 0, _, 0, _ | 0, _, 1, _ | 0, _, 2, _ | 0, _, 3, _ | 0, _, 4, _ => rfl⟩
  refine hK _ _ ⟨Y8, rfl⟩ ?_
  clear hK K hb8 hY8 hu8 ha8 hq8
  refine held_do (i := 11) _ rfl (by kernel_rfl) rfl (fun K hK => ?_)
  go_simp
  refine (DW.out hmB Y8.1 q1 a8 HM0_8.out HL_8.out).mono ?_
  rintro e u9 ⟨g9, c9, rfl, hf9, hb9⟩
  obtain ⟨Y9, hY9⟩ : ∃ Z : Ext V, u9 = Z.1 := ⟨⟨u9, below_step Y8.2 hb9⟩, rfl⟩
  rw [hY9] at hb9 ⊢
  rw [hY9] at hf9
  have HM0_9 := Lib.hid (HM0_8.out.below hb9)
  have HF1_9 := Lib.hid (HF1_8.out.below hb9)
  have HF5_9 := Lib.hid (HF5_8.out.below hb9)
  have HL_9 := Lib.hid (HL_8.out.below hb9)
  clear HM0_8 HF1_8 HF5_8 HL_8
  have HF9_9 := Lib.hid hf9
  refine hK _ _ ⟨Y9, rfl⟩ ?_
  clear hK K hb9 hY9 hf9
  clear HL_9
  refine held_do (i := 13) _ rfl (by kernel_rfl) rfl (fun K hK => ?_)
  go_simp
  refine (DI.out ⟨#[32, 107, 109, 47, 104]⟩ Y9.1).mono ?_
  rintro e u10 ⟨rfl, hb10⟩
  obtain ⟨Y10, hY10⟩ : ∃ Z : Ext V, u10 = Z.1 := ⟨⟨u10, below_step Y9.2 hb10⟩, rfl⟩
  rw [hY10] at hb10 ⊢
  have HM0_10 := Lib.hid (HM0_9.out.below hb10)
  have HF1_10 := Lib.hid (HF1_9.out.below hb10)
  have HF5_10 := Lib.hid (HF5_9.out.below hb10)
  have HF9_10 := Lib.hid (HF9_9.out.below hb10)
  clear HM0_9 HF1_9 HF5_9 HF9_9
  refine hK _ _ ⟨Y10, rfl⟩ ?_
  clear hK K hb10 hY10
  refine held_do (i := 14) _ rfl (by kernel_rfl) rfl (fun K hK => ?_)
  go_simp
  obtain ⟨u11, hu11, hb11, _, hq11⟩ := alloc_block Y10.1 #[.int .i64 2, .string ⟨#[]⟩, .int .i64 0, .int .i64 999, .int .i64 3, .int .i64 1, .string ⟨#[32, 107, 109, 47, 104]⟩, .int .i64 0, .int .i64 0, .int .i64 0] 57
  rw [hu11]
  obtain ⟨a11, ha11⟩ : ∃ a, Y10.1.heap.size = a := ⟨_, rfl⟩
  rw [ha11] at hq11 ⊢
  obtain ⟨Y11, hY11⟩ : ∃ Z : Ext V, u11 = Z.1 := ⟨⟨u11, below_step Y10.2 hb11⟩, rfl⟩
  rw [hY11] at hb11 hq11 ⊢
  have HM0_11 := Lib.hid (HM0_10.out.below hb11)
  have HF1_11 := Lib.hid (HF1_10.out.below hb11)
  have HF5_11 := Lib.hid (HF5_10.out.below hb11)
  have HF9_11 := Lib.hid (HF9_10.out.below hb11)
  clear HM0_10 HF1_10 HF5_10 HF9_10
  have HF13_11 : Hid (FormBlk Y11.1 (.slice (some ⟨a11, 0, none⟩) 2 2) hT) := Lib.hid ⟨a11, 2, _, rfl, hq11, fun i j hi hj => by
      have hi : i < 2 := hi
      match i, hi, j, hj with
      | 0, _, 0, _ | 0, _, 1, _ | 0, _, 2, _ | 0, _, 3, _ | 0, _, 4, _ | 1, _, 0, _ | 1, _, 1, _ | 1, _, 2, _ | 1, _, 3, _ | 1, _, 4, _ => rfl⟩
  refine hK _ _ ⟨Y11, rfl⟩ ?_
  clear hK K hb11 hY11 hu11 ha11 hq11
  refine held_do (i := 15) _ rfl (by kernel_rfl) rfl (fun K hK => ?_)
  go_simp
  refine (DF.out _ Y11.1).mono ?_
  rintro e u12 ⟨rfl, hu12⟩
  have hb12 : Below Y11.1.heap.size Y11.1 u12 := hu12 ▸ Below.refl _ _
  clear hu12
  obtain ⟨Y12, hY12⟩ : ∃ Z : Ext V, u12 = Z.1 := ⟨⟨u12, below_step Y11.2 hb12⟩, rfl⟩
  rw [hY12] at hb12 ⊢
  have HM0_12 := Lib.hid (HM0_11.out.below hb12)
  have HF1_12 := Lib.hid (HF1_11.out.below hb12)
  have HF5_12 := Lib.hid (HF5_11.out.below hb12)
  have HF9_12 := Lib.hid (HF9_11.out.below hb12)
  have HF13_12 := Lib.hid (HF13_11.out.below hb12)
  clear HM0_11 HF1_11 HF5_11 HF9_11 HF13_11
  refine hK _ _ ⟨Y12, rfl⟩ ?_
  clear hK K hb12 hY12
  refine held_do (i := 17) _ rfl (by kernel_rfl) rfl (fun K hK => ?_)
  go_simp
  refine (DI.out ⟨#[46]⟩ Y12.1).mono ?_
  rintro e u13 ⟨rfl, hb13⟩
  obtain ⟨Y13, hY13⟩ : ∃ Z : Ext V, u13 = Z.1 := ⟨⟨u13, below_step Y12.2 hb13⟩, rfl⟩
  rw [hY13] at hb13 ⊢
  have HM0_13 := Lib.hid (HM0_12.out.below hb13)
  have HF1_13 := Lib.hid (HF1_12.out.below hb13)
  have HF5_13 := Lib.hid (HF5_12.out.below hb13)
  have HF9_13 := Lib.hid (HF9_12.out.below hb13)
  have HF13_13 := Lib.hid (HF13_12.out.below hb13)
  clear HM0_12 HF1_12 HF5_12 HF9_12 HF13_12
  refine hK _ _ ⟨Y13, rfl⟩ ?_
  clear hK K hb13 hY13
  refine held_do (i := 18) _ rfl (by kernel_rfl) rfl (fun K hK => ?_)
  go_simp
  refine (DQ.out Y13.1).mono ?_
  rintro e u14 ⟨rfl, hb14⟩
  obtain ⟨Y14, hY14⟩ : ∃ Z : Ext V, u14 = Z.1 := ⟨⟨u14, below_step Y13.2 hb14⟩, rfl⟩
  rw [hY14] at hb14 ⊢
  have HM0_14 := Lib.hid (HM0_13.out.below hb14)
  have HF1_14 := Lib.hid (HF1_13.out.below hb14)
  have HF5_14 := Lib.hid (HF5_13.out.below hb14)
  have HF9_14 := Lib.hid (HF9_13.out.below hb14)
  have HF13_14 := Lib.hid (HF13_13.out.below hb14)
  clear HM0_13 HF1_13 HF5_13 HF9_13 HF13_13
  refine hK _ _ ⟨Y14, rfl⟩ ?_
  clear hK K hb14 hY14
  refine held_do (i := 19) _ rfl (by kernel_rfl) rfl (fun K hK => ?_)
  go_simp
  refine (DI.out ⟨#[32, 107, 109, 47, 104]⟩ Y14.1).mono ?_
  rintro e u15 ⟨rfl, hb15⟩
  obtain ⟨Y15, hY15⟩ : ∃ Z : Ext V, u15 = Z.1 := ⟨⟨u15, below_step Y14.2 hb15⟩, rfl⟩
  rw [hY15] at hb15 ⊢
  have HM0_15 := Lib.hid (HM0_14.out.below hb15)
  have HF1_15 := Lib.hid (HF1_14.out.below hb15)
  have HF5_15 := Lib.hid (HF5_14.out.below hb15)
  have HF9_15 := Lib.hid (HF9_14.out.below hb15)
  have HF13_15 := Lib.hid (HF13_14.out.below hb15)
  clear HM0_14 HF1_14 HF5_14 HF9_14 HF13_14
  refine hK _ _ ⟨Y15, rfl⟩ ?_
  clear hK K hb15 hY15
  refine held_do (i := 20) _ rfl (by kernel_rfl) rfl (fun K hK => ?_)
  go_simp
  obtain ⟨u16, hu16, hb16, _, hq16⟩ := alloc_block Y15.1 #[.int .i64 2, .string ⟨#[]⟩, .int .i64 0, .int .i64 999, .int .i64 3, .int .i64 1, .string ⟨#[46]⟩, .int .i64 0, .int .i64 0, .int .i64 0, .int .i64 4, .string ⟨#[]⟩, .int .i64 0, .int .i64 0, .int .i64 1, .int .i64 1, .string ⟨#[32, 107, 109, 47, 104]⟩, .int .i64 0, .int .i64 0, .int .i64 0] 57
  rw [hu16]
  obtain ⟨a16, ha16⟩ : ∃ a, Y15.1.heap.size = a := ⟨_, rfl⟩
  rw [ha16] at hq16 ⊢
  obtain ⟨Y16, hY16⟩ : ∃ Z : Ext V, u16 = Z.1 := ⟨⟨u16, below_step Y15.2 hb16⟩, rfl⟩
  rw [hY16] at hb16 hq16 ⊢
  have HM0_16 := Lib.hid (HM0_15.out.below hb16)
  have HF1_16 := Lib.hid (HF1_15.out.below hb16)
  have HF5_16 := Lib.hid (HF5_15.out.below hb16)
  have HF9_16 := Lib.hid (HF9_15.out.below hb16)
  have HF13_16 := Lib.hid (HF13_15.out.below hb16)
  clear HM0_15 HF1_15 HF5_15 HF9_15 HF13_15
  have HF17_16 : Hid (FormBlk Y16.1 (.slice (some ⟨a16, 0, none⟩) 4 4) hdT) := Lib.hid ⟨a16, 4, _, rfl, hq16, fun i j hi hj => by
      have hi : i < 4 := hi
      match i, hi, j, hj with
      | 0, _, 0, _ | 0, _, 1, _ | 0, _, 2, _ | 0, _, 3, _ | 0, _, 4, _ | 1, _, 0, _ | 1, _, 1, _ | 1, _, 2, _ | 1, _, 3, _ | 1, _, 4, _ | 2, _, 0, _ | 2, _, 1, _ | 2, _, 2, _ | 2, _, 3, _ | 2, _, 4, _ | 3, _, 0, _ | 3, _, 1, _ | 3, _, 2, _ | 3, _, 3, _ | 3, _, 4, _ => rfl⟩
  refine hK _ _ ⟨Y16, rfl⟩ ?_
  clear hK K hb16 hY16 hu16 ha16 hq16
  refine held_do (i := 21) _ rfl (by kernel_rfl) rfl (fun K hK => ?_)
  go_simp
  refine (DF.out _ Y16.1).mono ?_
  rintro e u17 ⟨rfl, hu17⟩
  have hb17 : Below Y16.1.heap.size Y16.1 u17 := hu17 ▸ Below.refl _ _
  clear hu17
  obtain ⟨Y17, hY17⟩ : ∃ Z : Ext V, u17 = Z.1 := ⟨⟨u17, below_step Y16.2 hb17⟩, rfl⟩
  rw [hY17] at hb17 ⊢
  have HM0_17 := Lib.hid (HM0_16.out.below hb17)
  have HF1_17 := Lib.hid (HF1_16.out.below hb17)
  have HF5_17 := Lib.hid (HF5_16.out.below hb17)
  have HF9_17 := Lib.hid (HF9_16.out.below hb17)
  have HF13_17 := Lib.hid (HF13_16.out.below hb17)
  have HF17_17 := Lib.hid (HF17_16.out.below hb17)
  clear HM0_16 HF1_16 HF5_16 HF9_16 HF13_16 HF17_16
  refine hK _ _ ⟨Y17, rfl⟩ ?_
  clear hK K hb17 hY17
  refine held_do (i := 22) _ rfl (by kernel_rfl) rfl (fun K hK => ?_)
  go_simp
  obtain ⟨u18, hu18, hb18, _, hq18⟩ := alloc_block Y17.1 #[.slice (some ⟨g1, 0, none⟩) 5 c1, .slice (some ⟨g5, 0, none⟩) 5 c5, .slice (some ⟨g9, 0, none⟩) 5 c9, .slice (some ⟨a11, 0, none⟩) 2 2, .slice (some ⟨a16, 0, none⟩) 4 4] 54
  rw [hu18]
  obtain ⟨a18, ha18⟩ : ∃ a, Y17.1.heap.size = a := ⟨_, rfl⟩
  rw [ha18] at hq18 ⊢
  obtain ⟨Y18, hY18⟩ : ∃ Z : Ext V, u18 = Z.1 := ⟨⟨u18, below_step Y17.2 hb18⟩, rfl⟩
  rw [hY18] at hb18 hq18 ⊢
  have HM0_18 := Lib.hid (HM0_17.out.below hb18)
  have HF1_18 := Lib.hid (HF1_17.out.below hb18)
  have HF5_18 := Lib.hid (HF5_17.out.below hb18)
  have HF9_18 := Lib.hid (HF9_17.out.below hb18)
  have HF13_18 := Lib.hid (HF13_17.out.below hb18)
  have HF17_18 := Lib.hid (HF17_17.out.below hb18)
  clear HM0_17 HF1_17 HF5_17 HF9_17 HF13_17 HF17_17
  have HQF := Lib.hid hq18
  refine hK _ _ ⟨Y18, rfl⟩ ?_
  clear hK K hb18 hY18 hu18 ha18 hq18
  refine held_quiet (by kernel_rfl) (fun _ _ d _ _ h => by cases d <;> exact h) ⟨Y18, rfl⟩ [23] 0 _ _ (by kernel_rfl) ?_
  change wpQuiet _ _ _ _ (_ :: []) _
  go_big_quiet_step (fail)
  refine wpQuiet_nil ?_
  refine wpAnyH_done (by kernel_rfl) ?_ _
  have hFI : FormsIn Y18.1 (some ⟨a18, 0, none⟩) paceT := fun j f hf => by
    have hok := pace_ok f (List.mem_of_getElem? hf)
    have hj : j < 5 := (List.getElem?_eq_some_iff.1 hf).1
    rcases (show j = 0 ∨ j = 1 ∨ j = 2 ∨ j = 3 ∨ j = 4 by omega) with rfl | rfl | rfl | rfl | rfl
    · injection hf with hf
      subst hf
      obtain ⟨aj, cj, he, h4⟩ := HF1_18.out.form
      injection he with he1 he2 he3
      subst he1
      subst he3
      exact ⟨a18, 0, _, _, rfl, lt_of_block HQF.out, block_cell HQF.out rfl, h4, hok.1, by have := hok.2.1; omega⟩
    · injection hf with hf
      subst hf
      obtain ⟨aj, cj, he, h4⟩ := HF5_18.out.form
      injection he with he1 he2 he3
      subst he1
      subst he3
      exact ⟨a18, 0, _, _, rfl, lt_of_block HQF.out, block_cell HQF.out rfl, h4, hok.1, by have := hok.2.1; omega⟩
    · injection hf with hf
      subst hf
      obtain ⟨aj, cj, he, h4⟩ := HF9_18.out.form
      injection he with he1 he2 he3
      subst he1
      subst he3
      exact ⟨a18, 0, _, _, rfl, lt_of_block HQF.out, block_cell HQF.out rfl, h4, hok.1, by have := hok.2.1; omega⟩
    · injection hf with hf
      subst hf
      obtain ⟨aj, cj, he, h4⟩ := HF13_18.out.form
      injection he with he1 he2 he3
      subst he1
      subst he3
      exact ⟨a18, 0, _, _, rfl, lt_of_block HQF.out, block_cell HQF.out rfl, h4, hok.1, by have := hok.2.1; omega⟩
    · injection hf with hf
      subst hf
      obtain ⟨aj, cj, he, h4⟩ := HF17_18.out.form
      injection he with he1 he2 he3
      subst he1
      subst he3
      exact ⟨a18, 0, _, _, rfl, lt_of_block HQF.out, block_cell HQF.out rfl, h4, hok.1, by have := hok.2.1; omega⟩
  have HBY := Lib.hid (HBV.out.trans (Y18.2.mono HBV.out.size))
  have D1 := Lib.hid (first_any s paceT (some ⟨a18, 0, none⟩) 5 Y18.1 (by have := HZ.out; omega) hFI (by decide) (hg.below HBY.out))
  have HRD := Lib.hid (show refPace s = if (firstT s paceT 0 0).1 < 0 then (0, (firstT s paceT 0 0).2.2, 6) else if 1 ≤ paceVal (firstT s paceT 0 0).1 (firstT s paceT 0 0).2.1 ∧ paceVal (firstT s paceT 0 0).1 (firstT s paceT 0 0).2.1 ≤ 36000 then (paceVal (firstT s paceT 0 0).1 (firstT s paceT 0 0).2.1, 0, 0) else (0, 0, 9) by unfold refPace; rw [if_neg HZ.out])
  have HVV := Lib.hid (pace_vals (s := s))
  unfold FirstRet at D1
  obtain ⟨F, hF⟩ : ∃ F, firstT s paceT 0 0 = F := ⟨_, rfl⟩
  rw [hF] at D1 HRD HVV
  obtain ⟨n, L, far⟩ := F
  simp only at D1 HRD HVV
  obtain ⟨W, hW⟩ : ∃ W, Y18.1 = W := ⟨_, rfl⟩
  rw [hW] at D1 HBY ⊢
  have hwy := HBY.out.size
  clear hF hFI hW HM0_18 HF1_18 HF5_18 HF9_18 HF13_18 HF17_18 HQF DI DQ DF DW HBV
  go_upto_region 7 with (go_at_call 43; refine D1.out.mono ?_; rintro e w5 ⟨lv, rfl, hb5, hown⟩)
  have HB5 := Lib.hid (HBY.out.trans (hb5.mono hwy))
  by_cases hneg : n < 0
  case pos =>
    have n1 : decide (n < 0) = true := by simpa using hneg
    have HX := Lib.hid (HRD.out.trans (if_pos hneg))
    clear HRD HVV hown hb5 hneg
    go_wp2_with fail
    go_ret3
    exact ⟨by rw [HX.out]; rfl, HB5.out⟩
  case neg =>
  obtain ⟨k, hnk, hk5, hl2, hl1⟩ := HVV.out (by omega)
  have HO := Lib.hid (hown (by omega))
  have hr0 := HRD.out
  rw [if_neg hneg] at hr0
  have HR0 := Lib.hid hr0
  clear hr0 HRD HVV hown hb5 hneg hwy HBY D1
  rcases (show k = 0 ∨ k = 1 ∨ k = 2 ∨ k = 3 ∨ k = 4 by omega) with rfl | rfl | rfl | rfl | rfl
  · obtain rfl : n = 0 := by omega
    clear hnk hk5
    have n1 : decide ((0 : Int) < 0) = false := by decide
    obtain ⟨a, b, rfl, ha, hb⟩ := hl2 (by omega)
    have hO : w5.ownsRow W.heap.size 3 1 lv 2 [.int .i64 a, .int .i64 b] := HO.out
    obtain ⟨g, c, rfl⟩ := own_open hO (show 0 < 2 by omega)
    have e0 := hO.cells (g := g) rfl 0 (.int .i64 a) rfl
    have e1 := hO.cells (g := g) rfl 1 (.int .i64 b) rfl
    rw [addr_add0] at e0 e1
    have E0 := Ext.ex e0
    have E1 := Ext.ex e1
    clear hl1 hl2 hO HO e0 e1
    have HV2 : Hid (refPace s = if 1 ≤ 60 * a + b ∧ 60 * a + b ≤ 36000 then (60 * a + b, 0, 0) else (0, 0, 9)) := Lib.hid HR0.out
    go_upto_region 17 with fail
    refine ext_wp fun Y => ?_
    refine wp_region_ext Y (by kernel_rfl) (by kernel_rfl) ?_
    repeat (go_big_quiet_step (fail))
    refine wpQuiet_nil ?_
    intro _ hw'
    obtain ⟨Z, rfl⟩ := hw'
    obtain ⟨v, hv⟩ : ∃ v, 60 * a + b = v := ⟨_, rfl⟩
    rw [hv] at HV2
    try rw [hv]
    clear HR0
    have DIS := Lib.hid (isPaceR_any v Z.1)
    by_cases hpp : 1 ≤ v ∧ v ≤ 36000
    case pos =>
      have e1 : (decide (1 ≤ v) && decide (v ≤ 36000)) = true := by simpa using hpp
      rw [e1] at DIS
      have HX2 := Lib.hid (HV2.out.trans (if_pos hpp))
      clear e1 hpp HV2
      go_wp2_with (go_at_call 29; refine DIS.out.mono ?_; rintro e _ ⟨rfl, rfl⟩)
      go_ret3
      exact ⟨by rw [HX2.out]; rfl, Z.down HB5.out HB5.out.size⟩
    case neg =>
      have e1 : (decide (1 ≤ v) && decide (v ≤ 36000)) = false := by
        rw [Bool.and_eq_false_iff, decide_eq_false_iff_not, decide_eq_false_iff_not]
        by_cases h : 1 ≤ v
        · exact Or.inr (fun h2 => hpp ⟨h, h2⟩)
        · exact Or.inl h
      rw [e1] at DIS
      have HX2 := Lib.hid (HV2.out.trans (if_neg hpp))
      clear e1 hpp HV2
      go_wp2_with (go_at_call 29; refine DIS.out.mono ?_; rintro e _ ⟨rfl, rfl⟩)
      go_ret3
      exact ⟨by rw [HX2.out]; rfl, Z.down HB5.out HB5.out.size⟩
  · obtain rfl : n = 1 := by omega
    clear hnk hk5
    have n1 : decide ((1 : Int) < 0) = false := by decide
    obtain ⟨a, b, rfl, ha, hb⟩ := hl2 (by omega)
    have hO : w5.ownsRow W.heap.size 3 1 lv 2 [.int .i64 a, .int .i64 b] := HO.out
    obtain ⟨g, c, rfl⟩ := own_open hO (show 0 < 2 by omega)
    have e0 := hO.cells (g := g) rfl 0 (.int .i64 a) rfl
    have e1 := hO.cells (g := g) rfl 1 (.int .i64 b) rfl
    rw [addr_add0] at e0 e1
    have E0 := Ext.ex e0
    have E1 := Ext.ex e1
    clear hl1 hl2 hO HO e0 e1
    have DS := Lib.hid (fun (X : Ext w5) => Ext.calls X (rscale_any (60 * a + b) 1000000 1609344 4 X.1 (by omega) (by omega) (by omega) (by omega)))
    have HV2 : Hid (refPace s = if 1 ≤ (Sc.sc (60 * a + b) 1000000 1609344 4).1 ∧ (Sc.sc (60 * a + b) 1000000 1609344 4).1 ≤ 36000 then ((Sc.sc (60 * a + b) 1000000 1609344 4).1, 0, 0) else (0, 0, 9)) := Lib.hid HR0.out
    obtain ⟨sv, hsv⟩ : ∃ sv, Sc.sc (60 * a + b) 1000000 1609344 4 = sv := ⟨_, rfl⟩
    rw [hsv] at DS HV2
    obtain ⟨v, sv2⟩ := sv
    simp only at HV2 DS
    clear hsv HR0
    go_upto_region 19 with fail
    refine ext_wp fun Y => ?_
    refine wp_region_ext Y (by kernel_rfl) (by kernel_rfl) ?_
    repeat (go_big_quiet_step ((go_at_call 28; with_reducible exact DS.out _)))
    refine wpQuiet_nil ?_
    intro _ hw'
    obtain ⟨Z, rfl⟩ := hw'
    have DIS := Lib.hid (isPaceR_any v Z.1)
    by_cases hpp : 1 ≤ v ∧ v ≤ 36000
    case pos =>
      have e1 : (decide (1 ≤ v) && decide (v ≤ 36000)) = true := by simpa using hpp
      rw [e1] at DIS
      have HX2 := Lib.hid (HV2.out.trans (if_pos hpp))
      clear e1 hpp HV2
      go_wp2_with (go_at_call 29; refine DIS.out.mono ?_; rintro e _ ⟨rfl, rfl⟩)
      go_ret3
      exact ⟨by rw [HX2.out]; rfl, Z.down HB5.out HB5.out.size⟩
    case neg =>
      have e1 : (decide (1 ≤ v) && decide (v ≤ 36000)) = false := by
        rw [Bool.and_eq_false_iff, decide_eq_false_iff_not, decide_eq_false_iff_not]
        by_cases h : 1 ≤ v
        · exact Or.inr (fun h2 => hpp ⟨h, h2⟩)
        · exact Or.inl h
      rw [e1] at DIS
      have HX2 := Lib.hid (HV2.out.trans (if_neg hpp))
      clear e1 hpp HV2
      go_wp2_with (go_at_call 29; refine DIS.out.mono ?_; rintro e _ ⟨rfl, rfl⟩)
      go_ret3
      exact ⟨by rw [HX2.out]; rfl, Z.down HB5.out HB5.out.size⟩
  · obtain rfl : n = 2 := by omega
    clear hnk hk5
    have n1 : decide ((2 : Int) < 0) = false := by decide
    obtain ⟨a, b, rfl, ha, hb⟩ := hl2 (by omega)
    have hO : w5.ownsRow W.heap.size 3 1 lv 2 [.int .i64 a, .int .i64 b] := HO.out
    obtain ⟨g, c, rfl⟩ := own_open hO (show 0 < 2 by omega)
    have e0 := hO.cells (g := g) rfl 0 (.int .i64 a) rfl
    have e1 := hO.cells (g := g) rfl 1 (.int .i64 b) rfl
    rw [addr_add0] at e0 e1
    have E0 := Ext.ex e0
    have E1 := Ext.ex e1
    clear hl1 hl2 hO HO e0 e1
    have HV2 : Hid (refPace s = if 1 ≤ 10 * (60 * a + b) ∧ 10 * (60 * a + b) ≤ 36000 then (10 * (60 * a + b), 0, 0) else (0, 0, 9)) := Lib.hid HR0.out
    go_upto_region 21 with fail
    refine ext_wp fun Y => ?_
    refine wp_region_ext Y (by kernel_rfl) (by kernel_rfl) ?_
    repeat (go_big_quiet_step (fail))
    refine wpQuiet_nil ?_
    intro _ hw'
    obtain ⟨Z, rfl⟩ := hw'
    obtain ⟨v, hv⟩ : ∃ v, 10 * (60 * a + b) = v := ⟨_, rfl⟩
    rw [hv] at HV2
    try rw [hv]
    clear HR0
    have DIS := Lib.hid (isPaceR_any v Z.1)
    by_cases hpp : 1 ≤ v ∧ v ≤ 36000
    case pos =>
      have e1 : (decide (1 ≤ v) && decide (v ≤ 36000)) = true := by simpa using hpp
      rw [e1] at DIS
      have HX2 := Lib.hid (HV2.out.trans (if_pos hpp))
      clear e1 hpp HV2
      go_wp2_with (go_at_call 29; refine DIS.out.mono ?_; rintro e _ ⟨rfl, rfl⟩)
      go_ret3
      exact ⟨by rw [HX2.out]; rfl, Z.down HB5.out HB5.out.size⟩
    case neg =>
      have e1 : (decide (1 ≤ v) && decide (v ≤ 36000)) = false := by
        rw [Bool.and_eq_false_iff, decide_eq_false_iff_not, decide_eq_false_iff_not]
        by_cases h : 1 ≤ v
        · exact Or.inr (fun h2 => hpp ⟨h, h2⟩)
        · exact Or.inl h
      rw [e1] at DIS
      have HX2 := Lib.hid (HV2.out.trans (if_neg hpp))
      clear e1 hpp HV2
      go_wp2_with (go_at_call 29; refine DIS.out.mono ?_; rintro e _ ⟨rfl, rfl⟩)
      go_ret3
      exact ⟨by rw [HX2.out]; rfl, Z.down HB5.out HB5.out.size⟩
  · obtain rfl : n = 3 := by omega
    clear hnk hk5
    have n1 : decide ((3 : Int) < 0) = false := by decide
    obtain ⟨a, rfl, ha⟩ := hl1 rfl
    have hO : w5.ownsRow W.heap.size 3 1 lv 1 [.int .i64 a] := HO.out
    obtain ⟨g, c, rfl⟩ := own_open hO (show 0 < 1 by omega)
    have e0 := hO.cells (g := g) rfl 0 (.int .i64 a) rfl
    rw [addr_add0] at e0
    have E0 := Ext.ex e0
    clear hl1 hl2 hO HO e0
    have HV2 : Hid (refPace s = if 1 ≤ (if 0 < 10 * a + 0 then (Sc.sc 36000 1 (10 * a + 0) 4).1 else 0) ∧ (if 0 < 10 * a + 0 then (Sc.sc 36000 1 (10 * a + 0) 4).1 else 0) ≤ 36000 then ((if 0 < 10 * a + 0 then (Sc.sc 36000 1 (10 * a + 0) 4).1 else 0), 0, 0) else (0, 0, 9)) := Lib.hid HR0.out
    rw [Int.add_zero] at HV2
    have X5 : ∃ Y : Ext w5, w5 = Y.1 := ⟨⟨w5, Below.refl _ _⟩, rfl⟩
    clear HR0
    by_cases hps : 0 < 10 * a
    case pos =>
      have g1 : decide (0 < 10 * a) = true := by simpa using hps
      have DS := Lib.hid (fun (X : Ext w5) => Ext.calls X (rscale_any 36000 1 (10 * a) 4 X.1 (by omega) (by omega) (by omega) (by omega)))
      rw [if_pos hps] at HV2
      obtain ⟨sv, hsv⟩ : ∃ sv, Sc.sc 36000 1 (10 * a) 4 = sv := ⟨_, rfl⟩
      rw [hsv] at DS HV2
      obtain ⟨v, sv2⟩ := sv
      simp only at HV2 DS
      clear hsv X5 hps
      go_upto_region 11 with fail
      refine ext_wp fun Y => ?_
      have f0 := E0 Y
      go_upto_region 22 with (go_at_call 28; refine (DS.out Y).mono ?_; rintro e w6 ⟨rfl, Z, rfl⟩)
      have DIS := Lib.hid (isPaceR_any v Z.1)
      by_cases hpp : 1 ≤ v ∧ v ≤ 36000
      case pos =>
        have e1 : (decide (1 ≤ v) && decide (v ≤ 36000)) = true := by simpa using hpp
        rw [e1] at DIS
        have HX2 := Lib.hid (HV2.out.trans (if_pos hpp))
        clear e1 hpp HV2
        go_wp2_with (go_at_call 29; refine DIS.out.mono ?_; rintro e _ ⟨rfl, rfl⟩)
        go_ret3
        exact ⟨by rw [HX2.out]; rfl, Z.down HB5.out HB5.out.size⟩
      case neg =>
        have e1 : (decide (1 ≤ v) && decide (v ≤ 36000)) = false := by
          rw [Bool.and_eq_false_iff, decide_eq_false_iff_not, decide_eq_false_iff_not]
          by_cases h : 1 ≤ v
          · exact Or.inr (fun h2 => hpp ⟨h, h2⟩)
          · exact Or.inl h
        rw [e1] at DIS
        have HX2 := Lib.hid (HV2.out.trans (if_neg hpp))
        clear e1 hpp HV2
        go_wp2_with (go_at_call 29; refine DIS.out.mono ?_; rintro e _ ⟨rfl, rfl⟩)
        go_ret3
        exact ⟨by rw [HX2.out]; rfl, Z.down HB5.out HB5.out.size⟩
    case neg =>
      have g1 : decide (0 < 10 * a) = false := by simpa using hps
      rw [if_neg hps] at HV2
      obtain ⟨v, hv⟩ : ∃ v : Int, 0 = v := ⟨_, rfl⟩
      have HV3 : Hid (refPace s = (0, 0, 9)) := Lib.hid (HV2.out.trans (if_neg (by omega)))
      have DIS := Lib.hid (fun (X : Ext w5) => isPaceR_any 0 X.1)
      rw [show (decide ((1 : Int) ≤ 0) && decide ((0 : Int) ≤ 36000)) = false from rfl] at DIS
      clear X5 hps hv HV2
      go_upto_region 11 with fail
      refine ext_wp fun Y => ?_
      have f0 := E0 Y
      go_wp2_with (go_at_call 29; refine (DIS.out Y).mono ?_; rintro e _ ⟨rfl, rfl⟩)
      go_ret3
      exact ⟨by rw [HV3.out]; rfl, Y.down HB5.out HB5.out.size⟩
  · obtain rfl : n = 4 := by omega
    clear hnk hk5
    have n1 : decide ((4 : Int) < 0) = false := by decide
    obtain ⟨a, b, rfl, ha, hb⟩ := hl2 (by omega)
    have hO : w5.ownsRow W.heap.size 3 1 lv 2 [.int .i64 a, .int .i64 b] := HO.out
    obtain ⟨g, c, rfl⟩ := own_open hO (show 0 < 2 by omega)
    have e0 := hO.cells (g := g) rfl 0 (.int .i64 a) rfl
    have e1 := hO.cells (g := g) rfl 1 (.int .i64 b) rfl
    rw [addr_add0] at e0 e1
    have E0 := Ext.ex e0
    have E1 := Ext.ex e1
    clear hl1 hl2 hO HO e0 e1
    have HV2 : Hid (refPace s = if 1 ≤ (if 0 < 10 * a + b then (Sc.sc 36000 1 (10 * a + b) 4).1 else 0) ∧ (if 0 < 10 * a + b then (Sc.sc 36000 1 (10 * a + b) 4).1 else 0) ≤ 36000 then ((if 0 < 10 * a + b then (Sc.sc 36000 1 (10 * a + b) 4).1 else 0), 0, 0) else (0, 0, 9)) := Lib.hid HR0.out
    have X5 : ∃ Y : Ext w5, w5 = Y.1 := ⟨⟨w5, Below.refl _ _⟩, rfl⟩
    clear HR0
    by_cases hps : 0 < 10 * a + b
    case pos =>
      have g1 : decide (0 < 10 * a + b) = true := by simpa using hps
      have DS := Lib.hid (fun (X : Ext w5) => Ext.calls X (rscale_any 36000 1 (10 * a + b) 4 X.1 (by omega) (by omega) (by omega) (by omega)))
      rw [if_pos hps] at HV2
      obtain ⟨sv, hsv⟩ : ∃ sv, Sc.sc 36000 1 (10 * a + b) 4 = sv := ⟨_, rfl⟩
      rw [hsv] at DS HV2
      obtain ⟨v, sv2⟩ := sv
      simp only at HV2 DS
      clear hsv X5 hps
      go_upto_region 11 with fail
      refine ext_wp fun Y => ?_
      have f0 := E0 Y
      have f1 := E1 Y
      go_upto_region 22 with (go_at_call 28; refine (DS.out Y).mono ?_; rintro e w6 ⟨rfl, Z, rfl⟩)
      have DIS := Lib.hid (isPaceR_any v Z.1)
      by_cases hpp : 1 ≤ v ∧ v ≤ 36000
      case pos =>
        have e1 : (decide (1 ≤ v) && decide (v ≤ 36000)) = true := by simpa using hpp
        rw [e1] at DIS
        have HX2 := Lib.hid (HV2.out.trans (if_pos hpp))
        clear e1 hpp HV2
        go_wp2_with (go_at_call 29; refine DIS.out.mono ?_; rintro e _ ⟨rfl, rfl⟩)
        go_ret3
        exact ⟨by rw [HX2.out]; rfl, Z.down HB5.out HB5.out.size⟩
      case neg =>
        have e1 : (decide (1 ≤ v) && decide (v ≤ 36000)) = false := by
          rw [Bool.and_eq_false_iff, decide_eq_false_iff_not, decide_eq_false_iff_not]
          by_cases h : 1 ≤ v
          · exact Or.inr (fun h2 => hpp ⟨h, h2⟩)
          · exact Or.inl h
        rw [e1] at DIS
        have HX2 := Lib.hid (HV2.out.trans (if_neg hpp))
        clear e1 hpp HV2
        go_wp2_with (go_at_call 29; refine DIS.out.mono ?_; rintro e _ ⟨rfl, rfl⟩)
        go_ret3
        exact ⟨by rw [HX2.out]; rfl, Z.down HB5.out HB5.out.size⟩
    case neg =>
      have g1 : decide (0 < 10 * a + b) = false := by simpa using hps
      rw [if_neg hps] at HV2
      obtain ⟨v, hv⟩ : ∃ v : Int, 0 = v := ⟨_, rfl⟩
      have HV3 : Hid (refPace s = (0, 0, 9)) := Lib.hid (HV2.out.trans (if_neg (by omega)))
      have DIS := Lib.hid (fun (X : Ext w5) => isPaceR_any 0 X.1)
      rw [show (decide ((1 : Int) ≤ 0) && decide ((0 : Int) ≤ 36000)) = false from rfl] at DIS
      clear X5 hps hv HV2
      go_upto_region 11 with fail
      refine ext_wp fun Y => ?_
      have f0 := E0 Y
      have f1 := E1 Y
      go_wp2_with (go_at_call 29; refine (DIS.out Y).mono ?_; rintro e _ ⟨rfl, rfl⟩)
      go_ret3
      exact ⟨by rw [HV3.out]; rfl, Y.down HB5.out HB5.out.size⟩
end Go.Proofs.YthimnjegacdhaaaGreatDoor

/- DurationText of both. -/
namespace Go.Proofs.YthimnjegacdhaaaGreatDoor
open Go.RowKit Go.BigFrame
open Rd (sB bt itoaB padB zeroB durText colon)

set_option maxRecDepth 1000000 in
theorem repeat_zero (s : ByteArray) (w : World) : Calls Tryz.prog 79 #[.string s, .int .i64 0] w fun e w' => e = .returned (.string ⟨#[]⟩) ∧ w = w' := by
  go_enter Tryz.func79, Tryz.ntmps79
  go_wp2
  go_ret
  exact ⟨rfl, rfl⟩
set_option maxRecDepth 1000000 in
theorem repeat_one (s : ByteArray) (w : World) : Calls Tryz.prog 79 #[.string s, .int .i64 1] w fun e w' => e = .returned (.string s) ∧ w = w' := by
  go_enter Tryz.func79, Tryz.ntmps79
  go_wp2
  go_ret
  exact ⟨rfl, rfl⟩
theorem two_any (n : Int) (h0 : 0 ≤ n) (h1 : n < 100) (w : World) (hg : Glo w) : Calls Tryz.prog 31 #[.int .i64 n] w fun e w' => e = .returned (.string (padB n)) ∧ Below w.heap.size w w' := by
  have DI := Lib.hid (itoa_any n (by omega) (by omega) w hg)
  have hl := Rd.itoa_len h0 h1
  have HP : Hid (padB n = if n < 10 then zeroB ++ itoaB n else itoaB n) := Lib.hid rfl
  have D : Calls Tryz.prog 63 #[.int .i64 n, .int .i64 2] w fun e w' => e = .returned (.string (padB n)) ∧ Below w.heap.size w w' := by
    generalize padB n = r at HP ⊢
    obtain ⟨t, ht⟩ : ∃ t, itoaB n = t := ⟨_, rfl⟩
    rw [ht] at DI hl HP
    clear ht
    by_cases hn : n < 10
    · rw [if_pos hn] at hl
      have hr := HP.out
      rw [if_pos hn] at hr
      have HR := Lib.hid hr
      have hl' : ((t.size : Nat) : Int) = 1 := by omega
      clear hn HP hr
      go_enter Tryz.func63, Tryz.ntmps63
      go_upto_region 2 with (go_at_call 30; refine DI.out.mono ?_; rintro e w2 ⟨rfl, hb2⟩)
      go_wp2_with (go_at_call 79; refine (repeat_one _ _).mono ?_; rintro e _ ⟨rfl, rfl⟩)
      go_ret
      exact ⟨by rw [HR.out]; rfl, hb2⟩
    · rw [if_neg hn] at hl
      have hr := HP.out
      rw [if_neg hn] at hr
      have HR := Lib.hid hr
      have hl' : ((t.size : Nat) : Int) = 2 := by omega
      clear hn HP hr
      go_enter Tryz.func63, Tryz.ntmps63
      go_upto_region 2 with (go_at_call 30; refine DI.out.mono ?_; rintro e w2 ⟨rfl, hb2⟩)
      go_wp2_with (go_at_call 79; refine (repeat_zero _ _).mono ?_; rintro e _ ⟨rfl, rfl⟩)
      go_ret
      exact ⟨by rw [HR.out]; exact congrArg (fun x => Ending.returned (.string x)) (Rd.nil_app t), hb2⟩
  have HD := Lib.hid D
  generalize padB n = r at HD ⊢
  go_enter Tryz.func31, Tryz.ntmps31
  go_wp2_with (go_at_call 63; refine HD.out.mono ?_; rintro e w2 ⟨rfl, hb2⟩)
  go_ret
  exact ⟨rfl, hb2⟩
theorem padded_any (n : Int) (h0 : 0 ≤ n) (h1 : n < 100) (w : World) (hg : Glo w) : Calls Tryz.prog 32 #[.int .i64 n] w fun e w' => e = .returned (.string (padB n)) ∧ Below w.heap.size w w' := by
  have DI := Lib.hid (itoa_any n (by omega) (by omega) w hg)
  have HP : Hid (padB n = if n < 10 then zeroB ++ itoaB n else itoaB n) := Lib.hid rfl
  have hl := Rd.itoaB_size (n := n) (by omega) (by omega)
  generalize padB n = r at HP ⊢
  generalize itoaB n = t at DI HP hl
  by_cases hn : n < 10
  · have t1 : decide (n < 10) = true := by simpa using hn
    have hr := HP.out
    rw [if_pos hn] at hr
    have HR := Lib.hid hr
    clear HP hr hn
    go_enter Tryz.func32, Tryz.ntmps32
    go_wp2_with (go_at_call 30; refine DI.out.mono ?_; rintro e w2 ⟨rfl, hb2⟩)
    go_ret
    exact ⟨by rw [HR.out]; rfl, hb2⟩
  · have t1 : decide (n < 10) = false := by simpa using hn
    have hr := HP.out
    rw [if_neg hn] at hr
    have HR := Lib.hid hr
    clear HP hr hn
    go_enter Tryz.func32, Tryz.ntmps32
    go_wp2_with (go_at_call 30; refine DI.out.mono ?_; rintro e w2 ⟨rfl, hb2⟩)
    go_ret
    exact ⟨by rw [HR.out]; rfl, hb2⟩
/-- what DurationText hands back -/
def durTextR (n : Int) : ByteArray × Int := if n < 0 ∨ 3599999 < n then (⟨#[]⟩, 9) else (durText n, 0)
end Go.Proofs.YthimnjegacdhaaaGreatDoor
