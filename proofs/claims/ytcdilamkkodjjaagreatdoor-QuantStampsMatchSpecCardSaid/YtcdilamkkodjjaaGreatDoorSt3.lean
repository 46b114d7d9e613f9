/- Several texts of this claim in one. -/
import Derived.Test.YtcdilamkkodjjaaGreatDoorSt1
import Derived.Test.YtcdilamkkodjjaaGreatDoorDt2
import Derived.Test.YtcdilamkkodjjaaGreatDoorSt2
import Derived.Test.YtcdilamkkodjjaaGreatDoorDt3
import Derived.Test.YtcdilamkkodjjaaGreatDoorDt4
import Derived.OneCell
import Derived.OwnWalk
import Derived.Deep.AppendLies
import Derived.Sort.OwnSortedInts
import Derived.Lib.OwnBridge
import Derived.Laws.EntriesVeiled
import Derived.Test.YtcdilamkkodjjaaGreatDoorShelf2
import Derived.Lib.SlicesCompact
import Derived.Maps.AppendAt
/- Dates of both, read, in plain words. -/
namespace Rd
def dash : ByteArray := ⟨#[45]⟩
def dateT : List Tok := [pairT 99, pairT 99, litT dash, pairT 99, litT dash, pairT 99]
/-- the program's form of a date -/
def dateF (s : ByteArray) : Int × Nat × Bool :=
  let y := rowAt s 4 true 0
  let a := exactAt s dash y.2.2 (decide (4 ≤ y.2.1))
  let m := rowAt s 2 a.2 a.1
  let b := exactAt s dash m.2.2 (a.2 && decide (2 ≤ m.2.1))
  let d := rowAt s 2 b.2 b.1
  (if (Cal.dayOfF y.1 m.1 d.1).2 = 0 then (Cal.dayOfF y.1 m.1 d.1).1 else -1, d.2.2, b.2 && decide (2 ≤ d.2.1))
theorem rowAt_no {s : ByteArray} {k p : Nat} : rowAt s k false p = (0, 0, p) := by
  unfold rowAt
  exact rowLoop_stop (by rw [digAt_no]; simp)
theorem pair_no {s : ByteArray} {p : Nat} (h : digAt s p true = false) : pairAt s 99 p true = (0, p, false) := by
  unfold pairAt pairStep
  simp [h, digAt_no]
theorem pair_one {s : ByteArray} {p : Nat} (h : digAt s p true = true) (h2 : digAt s (p + 1) true = false) : pairAt s 99 p true = (10 * ((byte s p : Int) - 48), p + 1, false) := by
  obtain ⟨_, _, h48, h57⟩ := digAt_true h
  unfold pairAt
  have e : pairStep s 99 10 (0, p, true) = (10 * ((byte s p : Int) - 48), p + 1, true) := by
    unfold pairStep
    rw [if_pos ⟨h, by show (0 : Int) + 10 * ((byte s p : Int) - 48) ≤ 99; omega⟩]
    simp
  rw [e]
  unfold pairStep
  simp [h2]
theorem pair_two {s : ByteArray} {p : Nat} (h : digAt s p true = true) (h2 : digAt s (p + 1) true = true) : pairAt s 99 p true = (10 * ((byte s p : Int) - 48) + ((byte s (p + 1) : Int) - 48), p + 2, true) := by
  obtain ⟨_, _, h48, h57⟩ := digAt_true h
  obtain ⟨_, _, g48, g57⟩ := digAt_true h2
  unfold pairAt
  have e : pairStep s 99 10 (0, p, true) = (10 * ((byte s p : Int) - 48), p + 1, true) := by
    unfold pairStep
    rw [if_pos ⟨h, by show (0 : Int) + 10 * ((byte s p : Int) - 48) ≤ 99; omega⟩]
    simp
  rw [e]
  unfold pairStep
  rw [if_pos ⟨h2, by show 10 * ((byte s p : Int) - 48) + 1 * ((byte s (p + 1) : Int) - 48) ≤ 99; omega⟩]
  simp
theorem row_step {s : ByteArray} {k f : Nat} {n : Int} {m p : Nat} (hm : m < k) (h : digAt s p true = true) : rowLoop s k true (f + 1) n m p = rowLoop s k true f (10 * n + ((byte s p : Int) - 48)) (m + 1) (p + 1) := by
  rw [rowLoop, if_pos ⟨hm, h⟩]
theorem row_halt {s : ByteArray} {k f : Nat} {n : Int} {m p : Nat} (h : digAt s p true = false) : rowLoop s k true f n m p = (n, m, p) := rowLoop_stop (by rw [h]; simp)
theorem row2 (s : ByteArray) (p : Nat) : (rowAt s 2 true p).2.2 = (pairAt s 99 p true).2.1 ∧ decide (2 ≤ (rowAt s 2 true p).2.1) = (pairAt s 99 p true).2.2 ∧ ((pairAt s 99 p true).2.2 = true → (rowAt s 2 true p).1 = (pairAt s 99 p true).1) := by
  unfold rowAt
  cases h : digAt s p true
  · rw [row_halt h, pair_no h]; simp
  · rw [row_step (by omega) h]
    cases h2 : digAt s (p + 1) true
    · rw [row_halt h2, pair_one h h2]; simp
    · rw [row_step (by omega) h2, pair_two h h2]
      simp only [rowLoop]
      refine ⟨by trivial, by simp, fun _ => ?_⟩
      omega
theorem row4 (s : ByteArray) (p : Nat) :
    ((pairAt s 99 p true).2.2 = false → (rowAt s 4 true p).2.2 = (pairAt s 99 p true).2.1 ∧ decide (4 ≤ (rowAt s 4 true p).2.1) = false) ∧
    ((pairAt s 99 p true).2.2 = true → (rowAt s 4 true p).2.2 = (pairAt s 99 (pairAt s 99 p true).2.1 true).2.1 ∧ decide (4 ≤ (rowAt s 4 true p).2.1) = (pairAt s 99 (pairAt s 99 p true).2.1 true).2.2 ∧
      ((pairAt s 99 (pairAt s 99 p true).2.1 true).2.2 = true → (rowAt s 4 true p).1 = 100 * (pairAt s 99 p true).1 + (pairAt s 99 (pairAt s 99 p true).2.1 true).1)) := by
  unfold rowAt
  cases h : digAt s p true
  · rw [row_halt h, pair_no h]; simp
  · rw [row_step (by omega) h]
    cases h2 : digAt s (p + 1) true
    · rw [row_halt h2, pair_one h h2]; simp
    · rw [row_step (by omega) h2, pair_two h h2]
      simp only
      refine ⟨fun h => (by cases h), fun _ => ?_⟩
      cases h3 : digAt s (p + 2) true
      · rw [row_halt (p := p + 1 + 1) h3, pair_no h3]
        refine ⟨rfl, by simp, fun h => by cases h⟩
      · rw [row_step (p := p + 1 + 1) (by omega) h3]
        cases h4 : digAt s (p + 3) true
        · rw [row_halt (p := p + 1 + 1 + 1) h4, pair_one h3 h4]
          refine ⟨rfl, by simp, fun h => by cases h⟩
        · rw [row_step (p := p + 1 + 1 + 1) (by omega) h4, pair_two h3 h4]
          simp only [rowLoop]
          refine ⟨by trivial, by simp, fun _ => ?_⟩
          have e1 : byte s (p + 1 + 1) = byte s (p + 2) := rfl
          have e2 : byte s (p + 1 + 1 + 1) = byte s (p + 2 + 1) := rfl
          rw [e1, e2]
          omega
/-- the form and the tokens say the same -/
theorem date_match (s : ByteArray) : (matchT s dateT 0).1 = (dateF s).2.1 ∧ (matchT s dateT 0).2.2 = ((dateF s).2.2 && decide ((dateF s).2.1 = s.size)) ∧
    ((matchT s dateT 0).2.2 = true → ∃ a b m d, (matchT s dateT 0).2.1 = [a, b, m, d] ∧ (dateF s).1 = if (Cal.dayOfF (100 * a + b) m d).2 = 0 then (Cal.dayOfF (100 * a + b) m d).1 else -1) := by
  obtain ⟨o, ho⟩ : ∃ o, dateF s = o := ⟨_, rfl⟩
  rw [ho]
  simp only [dateF] at ho
  unfold dateT
  obtain ⟨r1, r2⟩ := row4 s 0
  rw [matchT_pair]
  obtain ⟨z, hz⟩ : ∃ z, pairAt s 99 0 true = z := ⟨_, rfl⟩
  rw [hz] at r1 r2 ⊢
  obtain ⟨y, hy⟩ : ∃ y, rowAt s 4 true 0 = y := ⟨_, rfl⟩
  rw [hy] at ho r1 r2
  obtain ⟨z1, z2, z3⟩ := z
  cases z3
  case false =>
    obtain ⟨e1, e2⟩ := r1 rfl
    rw [e1, e2] at ho
    simp only [exactAt_no, rowAt_no, Bool.false_and] at ho
    subst ho
    simp
  case true =>
    obtain ⟨e1, e2, e3⟩ := r2 rfl
    simp only [if_true] at e1 e2 e3 ⊢
    rw [matchT_pair]
    obtain ⟨u, hu⟩ : ∃ u, pairAt s 99 z2 true = u := ⟨_, rfl⟩
    rw [hu] at e1 e2 e3 ⊢
    rw [e1, e2] at ho
    obtain ⟨u1, u2, u3⟩ := u
    cases u3
    case false =>
      simp only [exactAt_no, rowAt_no, Bool.false_and] at ho
      subst ho
      simp
    case true =>
      have e3 := e3 rfl
      simp only [if_true] at ho e3 ⊢
      rw [matchT_lit]
      obtain ⟨x, hx⟩ : ∃ x, exactAt s dash u2 true = x := ⟨_, rfl⟩
      rw [hx] at ho ⊢
      obtain ⟨x1, x2⟩ := x
      cases x2
      case false =>
        simp only [exactAt_no, rowAt_no, Bool.false_and] at ho
        subst ho
        simp
      case true =>
        simp only [if_true, Bool.true_and] at ho ⊢
        rw [matchT_pair]
        obtain ⟨q1, q2, q3⟩ := row2 s x1
        obtain ⟨v, hv⟩ : ∃ v, pairAt s 99 x1 true = v := ⟨_, rfl⟩
        rw [hv] at q1 q2 q3 ⊢
        obtain ⟨m, hm⟩ : ∃ m, rowAt s 2 true x1 = m := ⟨_, rfl⟩
        rw [hm] at ho q1 q2 q3
        rw [q1, q2] at ho
        obtain ⟨v1, v2, v3⟩ := v
        cases v3
        case false =>
          simp only [exactAt_no, rowAt_no, Bool.false_and] at ho
          subst ho
          simp
        case true =>
          have q3 := q3 rfl
          simp only [if_true] at ho q3 ⊢
          rw [matchT_lit]
          obtain ⟨t, ht⟩ : ∃ t, exactAt s dash v2 true = t := ⟨_, rfl⟩
          rw [ht] at ho ⊢
          obtain ⟨t1, t2⟩ := t
          cases t2
          case false =>
            simp only [rowAt_no, Bool.false_and] at ho
            subst ho
            simp
          case true =>
            simp only [if_true, Bool.true_and] at ho ⊢
            rw [matchT_pair]
            obtain ⟨p1, p2, p3⟩ := row2 s t1
            obtain ⟨c, hc⟩ : ∃ c, pairAt s 99 t1 true = c := ⟨_, rfl⟩
            rw [hc] at p1 p2 p3 ⊢
            obtain ⟨d, hd⟩ : ∃ d, rowAt s 2 true t1 = d := ⟨_, rfl⟩
            rw [hd] at ho p1 p2 p3
            rw [p1, p2] at ho
            obtain ⟨c1, c2, c3⟩ := c
            cases c3
            case false =>
              subst ho
              simp
            case true =>
              have p3 := p3 rfl
              simp only [if_true] at ho p3 ⊢
              subst ho
              refine ⟨by simp [matchT], by simp [matchT], fun _ => ⟨z1, u1, v1, c1, rfl, ?_⟩⟩
              simp only at e3 q3 p3 ⊢
              rw [e3, q3, p3]
/-- ReadDate of the reference -/
def refDate (s : ByteArray) : Int × Nat × Int :=
  if 1000 < s.size then (0, 0, 3)
  else if (firstT s [dateT] 0 0).1 < 0 then (0, (firstT s [dateT] 0 0).2.2, 6)
  else
    let l := (firstT s [dateT] 0 0).2.1
    let e := Cal.rdayOfF (100 * l.getD 0 0 + l.getD 1 0) (l.getD 2 0) (l.getD 3 0)
    if e.2 = 0 then (e.1, 0, 0) else (0, 0, 9)
theorem dayOf_range (y m d : Int) : ((Cal.dayOfF y m d).2 = 0 ∧ 0 ≤ (Cal.dayOfF y m d).1 ∧ (Cal.dayOfF y m d).1 ≤ 999999) ∨ (Cal.dayOfF y m d).2 = 9 := by
  unfold Cal.dayOfF
  split
  · rename_i h
    exact Or.inl ⟨rfl, h.2.1⟩
  · exact Or.inr rfl
theorem date_eq (s : ByteArray) : refDate s = ranged (readForms s [dateF]) 0 999999 := by
  unfold refDate readForms
  by_cases hz : 1000 < s.size
  · rw [if_pos hz, if_pos hz]; rfl
  rw [if_neg hz, if_neg hz]
  obtain ⟨h1, h2, h3⟩ := date_match s
  unfold formsLoop
  by_cases hm : (matchT s dateT 0).2.2 = true
  · have hc : ((dateF s).2.2 && decide ((dateF s).2.1 = s.size)) = true := by rw [← h2]; exact hm
    rw [if_pos hc]
    obtain ⟨a, b, m, d, hl, hv⟩ := h3 hm
    have hf : firstT s [dateT] 0 0 = ((0 : Int), [a, b, m, d], 0) := by
      unfold firstT
      rw [if_pos hm, hl]; rfl
    rw [hf, if_neg (show ¬ (0 : Int) < 0 by omega), hv]
    simp only [List.getD_cons_zero, List.getD_cons_succ]
    rw [← Cal.dayOf_eq]
    rcases dayOf_range (100 * a + b) m d with ⟨g1, g2, g3⟩ | g
    · rw [if_pos g1, if_pos g1]
      unfold ranged
      rw [if_neg]
      rintro ⟨_, h | h⟩
      · have h : (Cal.dayOfF (100 * a + b) m d).1 < 0 := h
        omega
      · have h : 999999 < (Cal.dayOfF (100 * a + b) m d).1 := h
        omega
    · rw [if_neg (by omega), if_neg (by omega)]
      rfl
  · have hc : ¬ ((dateF s).2.2 && decide ((dateF s).2.1 = s.size)) = true := by rw [← h2]; exact hm
    rw [if_neg hc]
    have hf : firstT s [dateT] 0 0 = (-1, [], max 0 (matchT s dateT 0).1) := by
      unfold firstT
      rw [if_neg hm]; rfl
    rw [hf, if_pos (show (-1 : Int) < 0 by omega), h1]
    rfl
end Rd

/- Stamps of both, read, in plain words. -/
namespace Rd
/-- what stands behind a date -/
theorem date_then (s : ByteArray) (R : List Tok) : ((dateF s).2.2 = false → (matchT s (dateT ++ R) 0).1 = (dateF s).2.1 ∧ (matchT s (dateT ++ R) 0).2.2 = false) ∧
    ((dateF s).2.2 = true → ∃ a b m d, matchT s (dateT ++ R) 0 = ((matchT s R (dateF s).2.1).1, a :: b :: m :: d :: (matchT s R (dateF s).2.1).2.1, (matchT s R (dateF s).2.1).2.2) ∧ (dateF s).1 = if (Cal.dayOfF (100 * a + b) m d).2 = 0 then (Cal.dayOfF (100 * a + b) m d).1 else -1) := by
  obtain ⟨o, ho⟩ : ∃ o, dateF s = o := ⟨_, rfl⟩
  rw [ho]
  simp only [dateF] at ho
  have hR : dateT ++ R = pairT 99 :: pairT 99 :: litT dash :: pairT 99 :: litT dash :: pairT 99 :: R := rfl
  rw [hR]
  obtain ⟨r1, r2⟩ := row4 s 0
  rw [matchT_pair]
  obtain ⟨z, hz⟩ : ∃ z, pairAt s 99 0 true = z := ⟨_, rfl⟩
  rw [hz] at r1 r2 ⊢
  obtain ⟨y, hy⟩ : ∃ y, rowAt s 4 true 0 = y := ⟨_, rfl⟩
  rw [hy] at ho r1 r2
  obtain ⟨z1, z2, z3⟩ := z
  cases z3
  case false =>
    obtain ⟨e1, e2⟩ := r1 rfl
    rw [e1, e2] at ho
    simp only [exactAt_no, rowAt_no, Bool.false_and] at ho
    subst ho
    simp
  case true =>
    obtain ⟨e1, e2, e3⟩ := r2 rfl
    simp only [if_true] at e1 e2 e3 ⊢
    rw [matchT_pair]
    obtain ⟨u, hu⟩ : ∃ u, pairAt s 99 z2 true = u := ⟨_, rfl⟩
    rw [hu] at e1 e2 e3 ⊢
    rw [e1, e2] at ho
    obtain ⟨u1, u2, u3⟩ := u
    cases u3
    case false =>
      simp only [exactAt_no, rowAt_no, Bool.false_and] at ho
      subst ho
      simp
    case true =>
      have e3 := e3 rfl
      simp only [if_true] at ho e3 ⊢
      rw [matchT_lit]
      obtain ⟨x, hx⟩ : ∃ x, exactAt s dash u2 true = x := ⟨_, rfl⟩
      rw [hx] at ho ⊢
      obtain ⟨x1, x2⟩ := x
      cases x2
      case false =>
        simp only [exactAt_no, rowAt_no, Bool.false_and] at ho
        subst ho
        simp
      case true =>
        simp only [if_true, Bool.true_and] at ho ⊢
        rw [matchT_pair]
        obtain ⟨q1, q2, q3⟩ := row2 s x1
        obtain ⟨v, hv⟩ : ∃ v, pairAt s 99 x1 true = v := ⟨_, rfl⟩
        rw [hv] at q1 q2 q3 ⊢
        obtain ⟨m, hm⟩ : ∃ m, rowAt s 2 true x1 = m := ⟨_, rfl⟩
        rw [hm] at ho q1 q2 q3
        rw [q1, q2] at ho
        obtain ⟨v1, v2, v3⟩ := v
        cases v3
        case false =>
          simp only [exactAt_no, rowAt_no, Bool.false_and] at ho
          subst ho
          simp
        case true =>
          have q3 := q3 rfl
          simp only [if_true] at ho q3 ⊢
          rw [matchT_lit]
          obtain ⟨t, ht⟩ : ∃ t, exactAt s dash v2 true = t := ⟨_, rfl⟩
          rw [ht] at ho ⊢
          obtain ⟨t1, t2⟩ := t
          cases t2
          case false =>
            simp only [rowAt_no, Bool.false_and] at ho
            subst ho
            simp
          case true =>
            simp only [if_true, Bool.true_and] at ho ⊢
            rw [matchT_pair]
            obtain ⟨p1, p2, p3⟩ := row2 s t1
            obtain ⟨c, hc⟩ : ∃ c, pairAt s 99 t1 true = c := ⟨_, rfl⟩
            rw [hc] at p1 p2 p3 ⊢
            obtain ⟨d, hd⟩ : ∃ d, rowAt s 2 true t1 = d := ⟨_, rfl⟩
            rw [hd] at ho p1 p2 p3
            rw [p1, p2] at ho
            obtain ⟨c1, c2, c3⟩ := c
            cases c3
            case false =>
              subst ho
              simp
            case true =>
              have p3 := p3 rfl
              simp only [if_true] at ho p3 ⊢
              subst ho
              refine ⟨fun h => (by cases h), fun _ => ⟨z1, u1, v1, c1, rfl, ?_⟩⟩
              simp only at e3 q3 p3 ⊢
              rw [e3, q3, p3]
/-- what stands behind the day -/
def stT : List Tok := [litT ⟨#[32]⟩, pairT 23, litT colon, pairT 59, litT colon, pairT 59]
def stF (s : ByteArray) (p : Nat) (ok : Bool) : Int × Nat × Bool :=
  let a := exactAt s ⟨#[32]⟩ p ok
  let h := pairAt s 23 a.1 a.2
  let b := exactAt s colon h.2.1 h.2.2
  let m := pairAt s 59 b.1 b.2
  let c := exactAt s colon m.2.1 m.2.2
  let x := pairAt s 59 c.1 c.2
  (60 * (60 * (60 * 0 + h.1) + m.1) + x.1, x.2.1, x.2.2)
/-- the program's form of a stamp -/
def stampF (s : ByteArray) : Int × Nat × Bool :=
  (if (dateF s).1 < 0 then -1 else (dateF s).1 * 86400 + (stF s (dateF s).2.1 (dateF s).2.2).1, (stF s (dateF s).2.1 (dateF s).2.2).2.1, (stF s (dateF s).2.1 (dateF s).2.2).2.2)
theorem stF_no (s : ByteArray) (p : Nat) : (stF s p false).2 = (p, false) := by
  unfold stF
  simp only [exactAt_no, pairAt_no]
theorem st_match (s : ByteArray) (p : Nat) : (matchT s stT p).1 = (stF s p true).2.1 ∧ (matchT s stT p).2.2 = ((stF s p true).2.2 && decide ((stF s p true).2.1 = s.size)) ∧
    ((matchT s stT p).2.2 = true → ∃ h m x, (matchT s stT p).2.1 = [h, m, x] ∧ (0 ≤ h ∧ h ≤ 23) ∧ (0 ≤ m ∧ m ≤ 59) ∧ (0 ≤ x ∧ x ≤ 59) ∧ (stF s p true).1 = 3600 * h + 60 * m + x) := by
  obtain ⟨o, ho⟩ : ∃ o, stF s p true = o := ⟨_, rfl⟩
  rw [ho]
  simp only [stF] at ho
  unfold stT
  rw [matchT_lit]
  obtain ⟨a, ha⟩ : ∃ a, exactAt s ⟨#[32]⟩ p true = a := ⟨_, rfl⟩
  rw [ha] at ho ⊢
  obtain ⟨a1, a2⟩ := a
  cases a2
  case false =>
    simp only [exactAt_no, pairAt_no] at ho
    subst ho
    simp
  case true =>
  simp only [if_true] at ho ⊢
  rw [matchT_pair]
  obtain ⟨h, hh⟩ : ∃ h, pairAt s 23 a1 true = h := ⟨_, rfl⟩
  rw [hh] at ho ⊢
  obtain ⟨h1, h2, h3⟩ := h
  cases h3
  case false =>
    simp only [exactAt_no, pairAt_no] at ho
    subst ho
    simp
  case true =>
  simp only [if_true] at ho ⊢
  rw [matchT_lit]
  obtain ⟨b, hb⟩ : ∃ b, exactAt s colon h2 true = b := ⟨_, rfl⟩
  rw [hb] at ho ⊢
  obtain ⟨b1, b2⟩ := b
  cases b2
  case false =>
    simp only [exactAt_no, pairAt_no] at ho
    subst ho
    simp
  case true =>
  simp only [if_true] at ho ⊢
  rw [matchT_pair]
  obtain ⟨m, hm⟩ : ∃ m, pairAt s 59 b1 true = m := ⟨_, rfl⟩
  rw [hm] at ho ⊢
  obtain ⟨m1, m2, m3⟩ := m
  cases m3
  case false =>
    simp only [exactAt_no, pairAt_no] at ho
    subst ho
    simp
  case true =>
  simp only [if_true] at ho ⊢
  rw [matchT_lit]
  obtain ⟨c, hc⟩ : ∃ c, exactAt s colon m2 true = c := ⟨_, rfl⟩
  rw [hc] at ho ⊢
  obtain ⟨c1, c2⟩ := c
  cases c2
  case false =>
    simp only [pairAt_no] at ho
    subst ho
    simp
  case true =>
  simp only [if_true] at ho ⊢
  rw [matchT_pair]
  obtain ⟨x, hx⟩ : ∃ x, pairAt s 59 c1 true = x := ⟨_, rfl⟩
  rw [hx] at ho ⊢
  obtain ⟨x1, x2, x3⟩ := x
  cases x3
  case false =>
    subst ho
    simp
  case true =>
  simp only [if_true] at ho ⊢
  subst ho
  have v1 := pairAt_val s (most := 23) a1 true (by omega)
  have v2 := pairAt_val s (most := 59) b1 true (by omega)
  have v3 := pairAt_val s (most := 59) c1 true (by omega)
  rw [hh] at v1
  rw [hm] at v2
  rw [hx] at v3
  refine ⟨by simp [matchT], by simp [matchT], fun _ => ⟨h1, m1, x1, rfl, v1, v2, v3, ?_⟩⟩
  show 60 * (60 * (60 * 0 + h1) + m1) + x1 = _
  omega
/-- how the tokens' answer and the form's belong together -/
theorem stamp_match (s : ByteArray) : (matchT s (dateT ++ stT) 0).1 = (stampF s).2.1 ∧ (matchT s (dateT ++ stT) 0).2.2 = ((stampF s).2.2 && decide ((stampF s).2.1 = s.size)) ∧
    ((matchT s (dateT ++ stT) 0).2.2 = true → ∃ a b m d h n x, (matchT s (dateT ++ stT) 0).2.1 = [a, b, m, d, h, n, x] ∧ (0 ≤ 3600 * h + 60 * n + x ∧ 3600 * h + 60 * n + x < 86400) ∧
      (stampF s).1 = if (Cal.dayOfF (100 * a + b) m d).2 = 0 then (Cal.dayOfF (100 * a + b) m d).1 * 86400 + (3600 * h + 60 * n + x) else -1) := by
  obtain ⟨d1, d2⟩ := date_then s stT
  obtain ⟨o, ho⟩ : ∃ o, dateF s = o := ⟨_, rfl⟩
  have hs : stampF s = (if o.1 < 0 then -1 else o.1 * 86400 + (stF s o.2.1 o.2.2).1, (stF s o.2.1 o.2.2).2.1, (stF s o.2.1 o.2.2).2.2) := by unfold stampF; rw [ho]
  rw [ho] at d1 d2
  rw [hs]
  obtain ⟨o1, o2, o3⟩ := o
  cases o3
  case false =>
    obtain ⟨e1, e2⟩ := d1 rfl
    have hn := stF_no s o2
    simp only at e1 e2 ⊢
    rw [hn, e1, e2]
    refine ⟨rfl, rfl, fun h => (by cases h)⟩
  case true =>
    obtain ⟨a, b, m, d, e1, e2⟩ := d2 rfl
    simp only at e1 e2 ⊢
    obtain ⟨t1, t2, t3⟩ := st_match s o2
    rw [e1]
    refine ⟨t1, t2, fun h => ?_⟩
    obtain ⟨hh, n, x, l1, r1, r2, r3, l2⟩ := t3 h
    refine ⟨a, b, m, d, hh, n, x, by rw [← l1], by omega, ?_⟩
    rw [l2, e2]
    rcases dayOf_range (100 * a + b) m d with ⟨g1, g2, g3⟩ | g
    · rw [if_pos g1, if_pos g1, if_neg (show ¬ (Cal.dayOfF (100 * a + b) m d).1 < 0 by omega)]
    · have hn : ¬ (Cal.dayOfF (100 * a + b) m d).2 = 0 := by omega
      rw [if_neg hn, if_neg hn, if_pos (show (-1 : Int) < 0 by omega)]
/-- a stamp, read: what the reference's tokens say -/
theorem stamp_eq (s : ByteArray) (hz : ¬ 1000 < s.size) :
    ((firstT s [dateT ++ stT] 0 0).1 < 0 ∧ ranged (readForms s [stampF]) 0 86399999999 = (0, (firstT s [dateT ++ stT] 0 0).2.2, 6)) ∨
    ∃ a b m d h n x, firstT s [dateT ++ stT] 0 0 = (0, [a, b, m, d, h, n, x], 0) ∧
      (((Cal.dayOfF (100 * a + b) m d).2 ≠ 0 ∧ ranged (readForms s [stampF]) 0 86399999999 = (0, 0, 9)) ∨
      ∃ day : Int, Cal.dayOfF (100 * a + b) m d = (day, 0) ∧ (0 ≤ day ∧ day ≤ 999999) ∧ (0 ≤ 3600 * h + 60 * n + x ∧ 3600 * h + 60 * n + x < 86400) ∧ ranged (readForms s [stampF]) 0 86399999999 = (day * 86400 + (3600 * h + 60 * n + x), 0, 0)) := by
  unfold readForms
  rw [if_neg hz]
  obtain ⟨h1, h2, h3⟩ := stamp_match s
  unfold formsLoop
  by_cases hm : (matchT s (dateT ++ stT) 0).2.2 = true
  · have hc : ((stampF s).2.2 && decide ((stampF s).2.1 = s.size)) = true := by rw [← h2]; exact hm
    rw [if_pos hc]
    obtain ⟨a, b, m, d, h, n, x, hl, hr, hv⟩ := h3 hm
    have hf : firstT s [dateT ++ stT] 0 0 = ((0 : Int), [a, b, m, d, h, n, x], 0) := by
      unfold firstT
      rw [if_pos hm, hl]; rfl
    refine Or.inr ⟨a, b, m, d, h, n, x, hf, ?_⟩
    rw [hv]
    rcases dayOf_range (100 * a + b) m d with ⟨g1, g2, g3⟩ | g
    · refine Or.inr ⟨(Cal.dayOfF (100 * a + b) m d).1, Prod.ext rfl g1, ⟨g2, g3⟩, hr, ?_⟩
      rw [if_pos g1]
      unfold ranged
      rw [if_neg]
      rintro ⟨_, h | h⟩
      · simp only at h
        omega
      · simp only at h
        omega
    · refine Or.inl ⟨by omega, ?_⟩
      rw [if_neg (by omega)]
      rfl
  · have hc : ¬ ((stampF s).2.2 && decide ((stampF s).2.1 = s.size)) = true := by rw [← h2]; exact hm
    rw [if_neg hc]
    have hf : firstT s [dateT ++ stT] 0 0 = (-1, [], max 0 (matchT s (dateT ++ stT) 0).1) := by
      unfold firstT
      rw [if_neg hm]; rfl
    refine Or.inl ?_
    rw [hf, h1]
    exact ⟨by show (-1 : Int) < 0; omega, rfl⟩
end Rd

/- ReadDate of both. -/
namespace Go.Proofs.YtcdilamkkodjjaaGreatDoor
open Go.RowKit Go.BigFrame
open Rd (dateT dateF refDate firstT matchT pairT litT tok0 Tok TokOk)

def rowFn (B : Nat) : Value := .func (.func 100) #[] #[.pointer (some ⟨B + 4, 0, none⟩), .pointer (some ⟨B + 5, 0, none⟩), .pointer (some ⟨B + 3, 0, none⟩)]
set_option maxHeartbeats 2000000 in
set_option maxRecDepth 100000 in
theorem date_form : FormOk 44 Rd.dateF := by
  intro B s w h hs
  have hsz := h.size
  have hR0 := h.boxed (.cells (rdVals B) 50)
  have hK0 := (Kp.refl B w).alloc (.cells (rdVals B) 50)
  have hX := isBox_new w B 50
  have HX := Lib.hid hX
  have k1 : (w.alloc (.cells (rdVals B) 50)).cell? ⟨w.heap.size, 1, none⟩ = some (rowFn B) := cell_box 1 _ rfl
  have K1 := Lib.hid k1
  unfold rowFn at k1
  clear hX
  have hrow := Lib.hid (fun w (h : IsRd w B s 0 true) => row_any 4 4 w h (by omega) (by omega))
  rw [Bool.true_and] at hrow
  generalize hy : Rd.rowAt s 4 true 0 = y at hrow
  have hex := Lib.hid (fun w (h : IsRd w B s y.2.2 (decide (4 ≤ y.2.1))) => exact_any Rd.dash w h (by omega) (by decide))
  generalize ha : Rd.exactAt s Rd.dash y.2.2 (decide (4 ≤ y.2.1)) = a at hex
  have hrow2 := Lib.hid (fun w (h : IsRd w B s a.1 a.2) => row_any 2 2 w h (by omega) (by omega))
  generalize hm : Rd.rowAt s 2 a.2 a.1 = m at hrow2
  have hex2 := Lib.hid (fun w (h : IsRd w B s m.2.2 (a.2 && decide (2 ≤ m.2.1))) => exact_any Rd.dash w h (by omega) (by decide))
  generalize hb : Rd.exactAt s Rd.dash m.2.2 (a.2 && decide (2 ≤ m.2.1)) = b at hex2
  have hrow3 := Lib.hid (fun w (h : IsRd w B s b.1 b.2) => row_any 2 2 w h (by omega) (by omega))
  generalize hd : Rd.rowAt s 2 b.2 b.1 = d at hrow3
  have HF := Lib.hid (show Rd.dateF s = (if (Cal.dayOfF y.1 m.1 d.1).2 = 0 then (Cal.dayOfF y.1 m.1 d.1).1 else -1, d.2.2, b.2 && decide (2 ≤ d.2.1)) by unfold Rd.dateF; simp only [hy, ha, hm, hb, hd])
  rw [HF.out]
  have DD := Lib.hid (fun W => dayOf_any y.1 m.1 d.1 W)
  obtain ⟨r, hr⟩ : ∃ r, Cal.dayOfF y.1 m.1 d.1 = r := ⟨_, rfl⟩
  rw [hr] at DD ⊢
  unfold scRet at DD
  clear HF hy ha hm hb hd hr
  obtain ⟨yv, yk, yp⟩ := y
  obtain ⟨mv, mk, mp⟩ := m
  obtain ⟨dv, dk, dp⟩ := d
  simp only at hrow hex hrow2 hex2 hrow3 DD ⊢
  have hK0' := Lib.hid hK0
  have hR0' := Lib.hid hR0
  clear hK0 hR0 h
  go_enter Tryz.func44, Tryz.ntmps44
  go_wp2_with fail
  refine (hrow.out _ hR0'.out).mono ?_
  rintro e w1 ⟨rfl, hR1, hK1⟩
  have HX1 := Lib.hid (HX.out.kp hK1 (by omega))
  have KK1 := Lib.hid (IsRd.of_kp hK1 K1.out (by omega) (by omega))
  have k3 := HX1.out.exact_
  unfold exactF at k3
  have HR1 := Lib.hid hR1
  have HK1 := Lib.hid (hK0'.out.trans hK1)
  clear hR1 hK1 k1 HX K1
  go_wp2_with fail
  refine (hex.out _ HR1.out).mono ?_
  rintro e w2 ⟨rfl, hR2, hK2⟩
  have HX2 := Lib.hid (HX1.out.kp hK2 (by omega))
  have KK2 := Lib.hid (IsRd.of_kp hK2 KK1.out (by omega) (by omega))
  have k1 := KK2.out
  unfold rowFn at k1
  have HR2 := Lib.hid hR2
  have HK2 := Lib.hid (HK1.out.trans hK2)
  clear hR2 hK2 k3 HX1 KK1
  go_wp2_with fail
  refine (hrow2.out _ HR2.out).mono ?_
  rintro e w3 ⟨rfl, hR3, hK3⟩
  have HX3 := Lib.hid (HX2.out.kp hK3 (by omega))
  have KK3 := Lib.hid (IsRd.of_kp hK3 KK2.out (by omega) (by omega))
  have k3 := HX3.out.exact_
  unfold exactF at k3
  have HR3 := Lib.hid hR3
  have HK3 := Lib.hid (HK2.out.trans hK3)
  clear hR3 hK3 k1 HX2 KK2
  go_wp2_with fail
  refine (hex2.out _ HR3.out).mono ?_
  rintro e w4 ⟨rfl, hR4, hK4⟩
  have KK4 := Lib.hid (IsRd.of_kp hK4 KK3.out (by omega) (by omega))
  have k1 := KK4.out
  unfold rowFn at k1
  have HR4 := Lib.hid hR4
  have HK4 := Lib.hid (HK3.out.trans hK4)
  clear hR4 hK4 k3 HX3 KK3
  go_wp2_with fail
  refine (hrow3.out _ HR4.out).mono ?_
  rintro e w5 ⟨rfl, hR5, hK5⟩
  have HR5 := Lib.hid hR5
  have HK5 := Lib.hid (HK4.out.trans hK5)
  clear hR5 hK5 k1 KK4
  obtain ⟨rn, re⟩ := r
  simp only at DD ⊢
  go_upto_region 7 with (go_at_call 80; refine (DD.out _).mono ?_; rintro e w6 ⟨rfl, rfl⟩)
  by_cases hz : re = 0
  · have b1 : (re == 0) = true := by simpa using hz
    have b2 : (re != 0) = false := by rw [bne, b1]; rfl
    have HZ := Lib.hid hz
    clear hz
    go_wp2
    go_ret
    exact ⟨by first | rfl | (rw [if_pos HZ.out]; rfl), HR5.out, HK5.out⟩
  · have b1 : (re == 0) = false := by simpa using hz
    have b2 : (re != 0) = true := by rw [bne, b1]; rfl
    have HZ := Lib.hid hz
    clear hz
    go_wp2
    go_ret
    exact ⟨by first | rfl | (rw [if_neg HZ.out]; rfl), HR5.out, HK5.out⟩
theorem date_isForm (j : Nat) (_ : j < 1) : IsForm 44 Rd.dateF := ⟨fun _ _ => by kernel_rfl, date_form⟩
def readDateP (s : ByteArray) : Int × Nat × Int := Rd.ranged (Rd.readForms s [Rd.dateF]) 0 999999
theorem readDate_any (s : ByteArray) (w : World) (hs : s.size ≤ 9223372036854775807) :
    Calls Tryz.prog 20 #[.string s] w fun r w' => r = .returned (.tuple #[.int .i64 (readDateP s).1, .int .i64 (readDateP s).2.1, .int .i64 (readDateP s).2.2]) ∧ Below w.heap.size w w' := by
  obtain ⟨z, hz⟩ : ∃ z, Rd.readForms s ((List.range 1).map fun _ => Rd.dateF) = z := ⟨_, rfl⟩
  have hrf := fun (w : World) (R : Nat) (hR : R < w.heap.size) hf => readForms_any s w R 1 (fun _ => 44) (fun _ => Rd.dateF) (by omega) hR hf date_isForm hs z hz
  have Hrf := Lib.hid hrf
  have hd : readDateP s = Rd.ranged z 0 999999 := by rw [← hz]; rfl
  rw [hd]
  obtain ⟨n, a, e⟩ := z
  have hra := Lib.hid (ranged_any n e 0 999999 a)
  generalize Rd.ranged (n, a, e) 0 999999 = y at hra ⊢
  clear hz hd hrf
  go_enter Tryz.func20, Tryz.ntmps20
  go_wp2_with fail
  refine (Hrf.out _ w.heap.size (by simp) ?hf).mono ?_
  case hf =>
    intro j hj
    rw [World.cell?_alloc_at _ _ _ _ rfl]
    obtain rfl : j = 0 := by omega
    rfl
  rintro r w1 ⟨rfl, hb1⟩
  have HB := Lib.hid (((Below.refl w.heap.size w).alloc (Nat.le_refl _) _).trans (hb1.mono (by simp)))
  clear hb1
  go_wp2_with fail
  refine (hra.out _).mono ?_
  rintro r w2 ⟨rfl, rfl⟩
  go_wp2
  go_ret3
  exact ⟨rfl, HB.out⟩
/-! ### of the reference -/
theorem dateForm_any (w : World) : Calls Tryz.prog 47 #[] w fun e w' => ∃ q, e = .returned (.slice (some ⟨q, 0, none⟩) 6 6) ∧ FormBlk w' (.slice (some ⟨q, 0, none⟩) 6 6) dateT ∧ Below w.heap.size w w' := by
  have DP : Hid (∀ W : World, Calls Tryz.prog 48 #[.int .i64 99] W fun e w' => e = .returned (.agg #[.int .i64 3, .string ⟨#[]⟩, .int .i64 0, .int .i64 99, .int .i64 0]) ∧ Below W.heap.size W w') := Lib.hid (fun W => rpair_any 99 W)
  have DL : Hid (∀ W : World, Calls Tryz.prog 32 #[.string ⟨#[45]⟩] W fun e w' => e = .returned (.agg #[.int .i64 1, .string ⟨#[45]⟩, .int .i64 0, .int .i64 0, .int .i64 0]) ∧ Below W.heap.size W w') := Lib.hid (fun W => lit_any ⟨#[45]⟩ W)
  have DF := Lib.hid (fun (v : Value) (W : World) => form_any v W)
  go_enter Tryz.func47, Tryz.ntmps47
  go_wp2_with fail
  refine (DP.out _).mono ?_
  rintro e w1 ⟨rfl, hb1⟩
  go_wp2_with fail
  refine (DP.out _).mono ?_
  rintro e w2 ⟨rfl, hb2⟩
  go_wp2_with fail
  refine (DL.out _).mono ?_
  rintro e w3 ⟨rfl, hb3⟩
  go_wp2_with fail
  refine (DP.out _).mono ?_
  rintro e w4 ⟨rfl, hb4⟩
  go_wp2_with fail
  refine (DL.out _).mono ?_
  rintro e w5 ⟨rfl, hb5⟩
  go_wp2_with fail
  refine (DP.out _).mono ?_
  rintro e w6 ⟨rfl, hb6⟩
  go_wp2_with fail
  refine (DF.out _ _).mono ?_
  rintro e _ ⟨rfl, rfl⟩
  obtain ⟨V, hV, hvb, _, hvq⟩ := alloc_block w6 #[.int .i64 3, .string ⟨#[]⟩, .int .i64 0, .int .i64 99, .int .i64 0, .int .i64 3, .string ⟨#[]⟩, .int .i64 0, .int .i64 99, .int .i64 0, .int .i64 1, .string ⟨#[45]⟩, .int .i64 0, .int .i64 0, .int .i64 0, .int .i64 3, .string ⟨#[]⟩, .int .i64 0, .int .i64 99, .int .i64 0, .int .i64 1, .string ⟨#[45]⟩, .int .i64 0, .int .i64 0, .int .i64 0, .int .i64 3, .string ⟨#[]⟩, .int .i64 0, .int .i64 99, .int .i64 0] 63
  rw [hV]
  have HB := Lib.hid (below_step hb1 (below_step hb2 (below_step hb3 (below_step hb4 (below_step hb5 (below_step hb6 hvb))))))
  have HFB : Hid (FormBlk V (.slice (some ⟨w6.heap.size, 0, none⟩) 6 6) dateT) := Lib.hid ⟨w6.heap.size, 6, _, rfl, hvq, fun i j hi hj => by
    have hi : i < 6 := hi
    match i, hi, j, hj with
    | 0, _, 0, _ | 0, _, 1, _ | 0, _, 2, _ | 0, _, 3, _ | 0, _, 4, _ | 1, _, 0, _ | 1, _, 1, _ | 1, _, 2, _ | 1, _, 3, _ | 1, _, 4, _ | 2, _, 0, _ | 2, _, 1, _ | 2, _, 2, _ | 2, _, 3, _ | 2, _, 4, _ | 3, _, 0, _ | 3, _, 1, _ | 3, _, 2, _ | 3, _, 3, _ | 3, _, 4, _ | 4, _, 0, _ | 4, _, 1, _ | 4, _, 2, _ | 4, _, 3, _ | 4, _, 4, _ | 5, _, 0, _ | 5, _, 1, _ | 5, _, 2, _ | 5, _, 3, _ | 5, _, 4, _ => rfl⟩
  obtain ⟨q, hq⟩ : ∃ q, w6.heap.size = q := ⟨_, rfl⟩
  rw [hq] at HFB ⊢
  clear hb1 hb2 hb3 hb4 hb5 hb6 hV hvb hvq hq
  go_wp2_with fail
  go_ret
  exact ⟨q, rfl, HFB.out, HB.out⟩
theorem date_ok : ∀ t, t ∈ dateT → TokOk t ∧ Rd.Small 99 t := by
  intro t ht
  simp only [dateT, List.mem_cons, List.not_mem_nil, or_false] at ht
  have hp : TokOk (pairT 99) ∧ Rd.Small 99 (pairT 99) := ⟨Or.inr (Or.inr (Or.inl ⟨rfl, by decide, by decide⟩)), Or.inr ⟨Or.inr rfl, by decide, by decide⟩⟩
  have hl : TokOk (litT Rd.dash) ∧ Rd.Small 99 (litT Rd.dash) := ⟨Or.inl ⟨rfl, by decide⟩, Or.inl rfl⟩
  rcases ht with rfl | rfl | rfl | rfl | rfl | rfl
  · exact hp
  · exact hp
  · exact hl
  · exact hp
  · exact hl
  · exact hp
theorem date_vals {s : ByteArray} (h : 0 ≤ (firstT s [dateT] 0 0).1) : ∃ a b m d, (firstT s [dateT] 0 0).2.1 = [a, b, m, d] ∧ (0 ≤ a ∧ a ≤ 99) ∧ (0 ≤ b ∧ b ≤ 99) ∧ (0 ≤ m ∧ m ≤ 99) ∧ 0 ≤ d ∧ d ≤ 99 := by
  obtain ⟨k, f, h1, h2, h3, h4⟩ := Rd.firstT_len [dateT] h
  have hk : k = 0 := by
    have := (List.getElem?_eq_some_iff.1 h1).1
    simp at this
    exact this
  subst hk
  injection h1 with h1
  subst h1
  have hl := Rd.matchT_len dateT 0 h3
  have hv := Rd.matchT_vals (s := s) (M := 99) dateT 0 (fun t ht => (date_ok t ht).2)
  rw [h4]
  have hn : Rd.nVals dateT = 4 := rfl
  rw [hn] at hl
  match hL : (matchT s dateT 0).2.1, hl with
  | [a, b, m, d], _ =>
    rw [hL] at hv
    exact ⟨a, b, m, d, rfl, hv a (by simp), hv b (by simp), hv m (by simp), hv d (by simp)⟩
end Go.Proofs.YtcdilamkkodjjaaGreatDoor

/- Zones: what Moments gathers (the program's closure). -/
namespace Go.Proofs.YtcdilamkkodjjaaGreatDoor
open Go.RowKit Go.BigFrame

theorem int_info : (Tryz.prog.info? 3).map (fun i => (i.zero, i.size, i.bytes)) = some (some (.int .i64 0), 1, 8) := by kernel_rfl
/-- a variable of block Ob holds a slice of the call's own, of these integers -/
structure Gath (w : World) (Ob : Nat) (L : List Int) : Prop where
  ex : ∃ v, w.heap[Ob]? = some (.cells #[v] 58 (0, 0)) ∧ w.ownsRow (Ob + 1) 3 1 v L.length (L.map (.int .i64))
/-- the moment of one offset -/
def momOf (day second o : Int) : Int := day * 86400 + second - 60 * o
def momGood (first : Int) (F O : Nat → Int) (len : Nat) (day second o : Int) : Bool := momB (momOf day second o) && (offF first (momOf day second o) F O len == o)

set_option maxHeartbeats 1000000 in
set_option maxRecDepth 100000 in
theorem gather_any (o day second first : Int) (a : Option Addr) (len cap : Nat) (F O : Nat → Int) (D S Z Ob : Nat) (L : List Int) (w : World)
    (o0 : -720 ≤ o) (o1 : o ≤ 840) (d0 : 0 ≤ day) (d1 : day ≤ 999999) (s0 : 0 ≤ second) (s1 : second ≤ 86399) (hl : (len : Int) ≤ 200)
    (cD : w.cell? ⟨D, 0, none⟩ = some (.int .i64 day)) (cS : w.cell? ⟨S, 0, none⟩ = some (.int .i64 second))
    (cZ0 : w.cell? ⟨Z, 0, none⟩ = some (.int .i64 first)) (cZ1 : w.cell? ⟨Z, 1, none⟩ = some (.slice a len cap))
    (hr : Rows2 w a len F O) (hg : Gath w Ob L) (hL : L.length ≤ 1000) :
    Calls Tryz.prog 81 #[.int .i64 o, .pointer (some ⟨D, 0, none⟩), .pointer (some ⟨S, 0, none⟩), .pointer (some ⟨Z, 0, none⟩), .pointer (some ⟨Ob, 0, none⟩)] w fun e w' =>
      e = .returned (.tuple #[]) ∧ Gath w' Ob (if momGood first F O len day second o = true then L ++ [momOf day second o] else L) ∧ Below Ob w w' := by
  obtain ⟨i0, hi0, hz0, hz1, hz2⟩ := info_parts int_info
  obtain ⟨v, hb, hown⟩ := hg.ex
  have cO := cell_of_one hb
  have fO := free_of_one hb
  have hlt := lt_of_block hb
  have hm := Lib.hid (isMoment_any (momOf day second o))
  have ho := Lib.hid (offset_any first (momOf day second o) a len cap F O w (by omega) hr)
  have HG := Lib.hid hg
  have HB := Lib.hid hb
  have HO := Lib.hid hown
  have em : day * 86400 + second - 60 * o = momOf day second o := rfl
  unfold momGood
  clear hg hb hown
  generalize momOf day second o = M at hm ho em ⊢
  cases h1 : momB M
  · rw [if_neg (by simp)]
    rw [h1] at hm
    clear h1 ho
    go_enter Tryz.func81, Tryz.ntmps81
    go_wp2_with fail
    refine (hm.out _).mono ?_
    rintro e w1 ⟨rfl, rfl⟩
    go_wp2_with fail
    go_end0
    exact ⟨rfl, HG.out, Below.refl _ _⟩
  · rw [h1] at hm
    clear h1
    generalize offF first M F O len = N at ho ⊢
    cases h2 : (N == o)
    · rw [if_neg (by simp)]
      go_enter Tryz.func81, Tryz.ntmps81
      go_wp2_with fail
      refine (hm.out _).mono ?_
      rintro e w1 ⟨rfl, rfl⟩
      go_wp2_with fail
      refine ho.out.mono ?_
      rintro e w1 ⟨rfl, hb1⟩
      have HB1 := Lib.hid hb1
      have B1 := Lib.hid ((hb1.block Ob hlt).trans HB.out)
      have O1 := Lib.hid (HO.out.kept (w' := w1) (row := none) ⟨hb1.os, hb1.tape, hb1.output, hb1.size, fun k hk _ => hb1.block k hk⟩ (by cases v.ownBlock <;> simp))
      clear hb1
      go_wp2_with fail
      go_end0
      exact ⟨rfl, ⟨_, B1.out, O1.out⟩, HB1.out.mono (by omega)⟩
    · rw [if_pos (by simp)]
      go_enter Tryz.func81, Tryz.ntmps81
      go_wp2_with fail
      refine (hm.out _).mono ?_
      rintro e w1 ⟨rfl, rfl⟩
      go_wp2_with fail
      refine ho.out.mono ?_
      rintro e w1 ⟨rfl, hb1⟩
      have HB1 := Lib.hid hb1
      have B1 := (hb1.block Ob hlt).trans HB.out
      have cO1 := cell_of_one B1
      have fO1 := free_of_one B1
      have BB1 := Lib.hid B1
      have hs1 := hb1.size
      have O1 := HO.out.kept (w' := w1) (row := none) ⟨hb1.os, hb1.tape, hb1.output, hb1.size, fun k hk _ => hb1.block k hk⟩ (by cases v.ownBlock <;> simp)
      clear hb1 B1
      go_wp2_with (first
        | (at_builtin; go_loud (
           refine wpList_append_own _ rfl _ _ 58 rfl (Ob + 1) 3 i0 (.int .i64 0) 1 8 Tryz.underlying58 hi0 hz0 hz1 hz2 rfl (by decide) v L.length (L.map (.int .i64)) rfl (O1.alloc _) ⟨w1.heap.size, 0, none⟩ 1 1 [.int .i64 M] rfl rfl (fun j u hj => by match j, hj with | 0, hj => (simp at hj; subst hj; simp [Addr.add])) (fun u hu => by simp at hu; subst hu; rfl) (by unfold maxLen; omega) (by omega) (by simp; omega) ?_
           intro v' w2 hown' hgrow _
           obtain ⟨g, cap', rfl, hg0, hg1⟩ := hown'.form (Nat.succ_pos _)
           have B2 := (hgrow.block Ob (by simp; omega) (by have := O1.lt; intro he; have h3 := this Ob he.symm; omega)).trans ((Below.heap_alloc w1 _ Ob (by omega)).trans BB1.out)
           have cO2 := cell_of_one B2
           have fO2 := free_of_one B2))
        | fail)
      go_end0
      have hB2 : Below (Ob + 1) w1 w2 := ((Below.refl _ _).alloc (by omega) _).grown hgrow (by simp; omega) (fun k hk => (O1.lt k hk).1)
      refine ⟨rfl, ⟨_, one_setCell B2, ?_⟩, ?_⟩
      · have h3 := ownsRow_setCell_other hown' (a := ⟨Ob, 0, none⟩) (by simp [Value.ownBlock]; omega) (.slice (some ⟨g, 0, none⟩) (L.length + 1) cap')
        simpa using h3
      · have h4 : Below Ob w w2 := (HB1.out.mono (by omega)).trans (hB2.mono (by omega))
        exact h4.setCell (p := ⟨Ob, 0, none⟩) (Nat.le_refl _) _
end Go.Proofs.YtcdilamkkodjjaaGreatDoor

/- Zones: Moments of the program. -/
namespace Go.Proofs.YtcdilamkkodjjaaGreatDoor
open Go.RowKit Go.BigFrame

/-- a slice value reads as a list of integers -/
def IntsAt (w : World) (v : Value) (L : List Int) : Prop :=
  ∃ a c, v = .slice a L.length c ∧ L.length ≤ c ∧ (0 < L.length → ∃ b, a = some ⟨b, 0, none⟩ ∧ b < w.heap.size ∧ ∀ j, j < L.length → w.cell? ⟨b, j, none⟩ = some (.int .i64 (L.getD j 0)))
theorem IntsAt.below {w w' : World} {v : Value} {L : List Int} {B : Nat} (h : IntsAt w v L) (hb : Below B w w') (hB : w.heap.size ≤ B) : IntsAt w' v L := by
  obtain ⟨a, c, rfl, hc, h⟩ := h
  refine ⟨a, c, rfl, hc, fun hl => ?_⟩
  obtain ⟨b, rfl, hlt, hx⟩ := h hl
  exact ⟨b, rfl, Nat.lt_of_lt_of_le hlt hb.size, fun j hj => (hb.cell (p := ⟨b, j, none⟩) (Nat.lt_of_lt_of_le hlt hB)).trans (hx j hj)⟩
theorem IntsAt.nil (w : World) : IntsAt w (.slice none 0 0) [] := ⟨none, 0, rfl, by simp, fun h => by simp at h⟩
theorem IntsAt.of_own {w : World} {base c : Nat} {a : Option Addr} {L : List Int} {e : TypeId} (h : w.ownsRow base e 1 (.slice a L.length c) L.length (L.map (.int .i64))) : IntsAt w (.slice a L.length c) L := by
  rcases h.2 with ⟨h0, h1⟩ | ⟨g, cap, cur, hv, hb, hg, hn, hm, hs, ht⟩
  · injection h0 with _ _ h2
    refine ⟨a, c, rfl, by omega, fun hl => by omega⟩
  · injection hv with h1 _ h3
    subst h1; subst h3
    refine ⟨_, _, rfl, hn, fun hl => ⟨g, rfl, lt_of_block hg, fun j hj => ?_⟩⟩
    rw [h.cellAt j (by omega)]
    simp [List.getD, hj]

def candO (first : Int) (O : Nat → Int) : Nat → Int
  | 0 => first
  | k + 1 => O k
/-- what the first k offsets give, in their order -/
def gathL (first : Int) (F O : Nat → Int) (len : Nat) (day second : Int) : Nat → List Int
  | 0 => []
  | k + 1 => if momGood first F O len day second (candO first O k) = true then gathL first F O len day second k ++ [momOf day second (candO first O k)] else gathL first F O len day second k
theorem gathL_le (first : Int) (F O : Nat → Int) (len : Nat) (day second : Int) (k : Nat) : (gathL first F O len day second k).length ≤ k := by
  induction k with
  | zero => simp [gathL]
  | succ k ih => rw [gathL]; split; simp; omega; omega
def momErr (first : Int) (F O : Nat → Int) (len : Nat) (day second : Int) : Int :=
  if chk first F O len = 0 then (if dayB day = true ∧ 0 ≤ second ∧ second ≤ 86399 then 0 else 9) else chk first F O len
def momList (first : Int) (F O : Nat → Int) (len : Nat) (day second : Int) : List Int :=
  if momErr first F O len day second = 0 then Lib.compact ((gathL first F O len day second (len + 1)).mergeSort fun x y => decide (x ≤ y)) else []
end Go.Proofs.YtcdilamkkodjjaaGreatDoor

/- Zones: Moments of the program: its walk. -/
namespace Go.Proofs.YtcdilamkkodjjaaGreatDoor
open Go.RowKit Go.BigFrame

theorem Gath.alloc {w : World} {Ob : Nat} {L : List Int} (h : Gath w Ob L) (o : Obj) : Gath (w.alloc o) Ob L := by
  obtain ⟨v, h1, h2⟩ := h.ex
  exact ⟨v, (Below.heap_alloc w o Ob (lt_of_block h1)).trans h1, h2.alloc o⟩

set_option maxHeartbeats 2000000 in
set_option maxRecDepth 100000 in
theorem moments_any (first day second : Int) (a : Option Addr) (len cap : Nat) (F O : Nat → Int) (w : World) (hr : Rows2 w a len F O) :
    Calls Tryz.prog 45 #[.agg #[.int .i64 first, .slice a len cap], .int .i64 day, .int .i64 second] w fun e w' =>
      (∃ v, e = .returned (.tuple #[v, .int .i64 (momErr first F O len day second)]) ∧ IntsAt w' v (momList first F O len day second)) ∧ Below w.heap.size w w' := by
  have hmf : ∀ fn first cap w, (Instr.makeFunc fn first cap).run Tryz.prog w = .ok (.func fn first cap) w := fun _ _ _ _ => rfl
  have HR := Lib.hid hr
  have hw3 : Below w.heap.size w (((w.alloc (.cells #[.int .i64 first, .slice a len cap] 31)).alloc (.cells #[.int .i64 day] 3)).alloc (.cells #[.int .i64 second] 3)) :=
    (((Below.refl _ _).alloc (Nat.le_refl _) _).alloc (by simp) _).alloc (by simp; omega) _
  have HR3 := hr.below hw3 (Nat.le_refl _)
  have hc := Lib.hid (checkZone_any first a len cap F O _ HR3)
  have HW3 := Lib.hid hw3
  clear hr HR3 hw3
  have hd := Lib.hid (isDay_any day)
  by_cases h0 : chk first F O len = 0
  · rw [h0] at hc
    by_cases h1 : dayB day = true ∧ 0 ≤ second ∧ second ≤ 86399
    · have he : momErr first F O len day second = 0 := by unfold momErr; rw [if_pos h0, if_pos h1]
      have hl : momList first F O len day second = Lib.compact ((gathL first F O len day second (len + 1)).mergeSort fun x y => decide (x ≤ y)) := by unfold momList; rw [he, if_pos rfl]
      rw [he, hl]
      obtain ⟨hdd, s0, s1⟩ := h1
      obtain ⟨d0, d1⟩ := dayB_true hdd
      obtain ⟨hlen, hof, hch⟩ := chk_zero h0
      obtain ⟨of0, of1⟩ := outB_false hof
      have hl : (len : Int) ≤ 200 := by omega
      have Hch := Lib.hid hch
      rw [hdd] at hd
      have t1 : decide (second < 0) = false := by rw [decide_eq_false_iff_not]; omega
      have t2 : decide (86400 ≤ second) = false := by rw [decide_eq_false_iff_not]; omega
      clear h0 he hdd hof hch
      go_enter Tryz.func45, Tryz.ntmps45
      go_wp2_with fail
      refine hc.out.mono ?_
      rintro e w1 ⟨rfl, hb1⟩
      have HB1 := Lib.hid (HW3.out.trans (hb1.mono (by simp; omega)))
      have hs1 : w.heap.size + 3 ≤ w1.heap.size := by have := hb1.size; simpa using this
      have hs2 : w.heap.size < w1.heap.size := by omega
      have hs3 : w.heap.size + 1 < w1.heap.size := by omega
      have hs4 : w.heap.size + 1 + 1 < w1.heap.size := by omega
      have cD : w1.cell? ⟨w.heap.size + 1, 0, none⟩ = some (.int .i64 day) := by
        rw [hb1.cell (p := ⟨w.heap.size + 1, 0, none⟩) (by simp)]
        rw [World.cell?_alloc_past _ _ _ (by simp), World.cell?_alloc_at _ _ _ _ (by simp)]; rfl
      have cS : w1.cell? ⟨w.heap.size + 2, 0, none⟩ = some (.int .i64 second) := by
        rw [hb1.cell (p := ⟨w.heap.size + 2, 0, none⟩) (by simp)]
        rw [World.cell?_alloc_at _ _ _ _ (by simp)]; rfl
      have cZ : ∀ i, w1.cell? ⟨w.heap.size, i, none⟩ = (#[.int .i64 first, .slice a len cap] : Array Value)[i]? := by
        intro i
        rw [hb1.cell (p := ⟨w.heap.size, i, none⟩) (by simp; omega)]
        rw [World.cell?_alloc_past _ _ _ (by simp; omega), World.cell?_alloc_past _ _ _ (by simp), World.cell?_alloc_at _ _ _ _ rfl]
      have cZ0 : w1.cell? ⟨w.heap.size, 0, none⟩ = some (.int .i64 first) := cZ 0
      have cZ1 : w1.cell? ⟨w.heap.size, 1, none⟩ = some (.slice a len cap) := cZ 1
      clear hb1 cZ
      go_wp2_with fail
      refine (hd.out _).mono ?_
      rintro e w2 ⟨rfl, rfl⟩
      go_wp2_with fail
      have hA : Below w1.heap.size w1 (w1.alloc (.cells #[.slice none 0 0] 58)) := (Below.refl _ _).alloc (Nat.le_refl _) _
      have hRw1 := HR.out.below HB1.out (Nat.le_refl _)
      have g0 : Gath (w1.alloc (.cells #[.slice none 0 0] 58)) w1.heap.size [] := ⟨_, heap_alloc_new w1 _, World.ownsRow_nil _ _ _ _⟩
      refine (gather_any first day second first a len cap F O (w.heap.size + 1) (w.heap.size + 1 + 1) w.heap.size w1.heap.size [] _ of0 of1 d0 d1 s0 s1 hl
        ((hA.cell (p := ⟨w.heap.size + 1, 0, none⟩) hs3).trans cD) ((hA.cell (p := ⟨w.heap.size + 2, 0, none⟩) hs4).trans cS)
        ((hA.cell (p := ⟨w.heap.size, 0, none⟩) hs2).trans cZ0) ((hA.cell (p := ⟨w.heap.size, 1, none⟩) hs2).trans cZ1) (hRw1.below hA (Nat.le_refl _)) g0 (by simp)).mono ?_
      rintro e w2 ⟨rfl, hG, hb2⟩
      have HG := Lib.hid (show Gath w2 w1.heap.size (gathL first F O len day second 1) from hG)
      have HB2 := Lib.hid (hA.trans hb2)
      have cZ1b := (HB2.out.cell (p := ⟨w.heap.size, 1, none⟩) hs2).trans cZ1
      have HRw1 := Lib.hid hRw1
      clear hA hb2 hG g0 hRw1
      go_wp2_with fail
      go_loopw [37] (fun iv wr => ∃ (k : Nat), iv = .int .i64 k ∧ k ≤ len ∧ Hid (Gath wr w1.heap.size (gathL first F O len day second (k + 1))) ∧ Hid (Below w1.heap.size w1 wr)) (fun iv _ => len - (intOf iv).toNat)
      case atStart => exact ⟨0, rfl, by omega, HG, HB2⟩
      case round =>
        obtain ⟨k, rfl, hk, HGr, HBr⟩ := hrel
        by_cases hlt : k < len
        · have t3 : decide ((k : Int) < (len : Int)) = true := by rw [decide_eq_true_eq]; omega
          have hRr := HRw1.out.below HBr.out (Nat.le_refl _)
          obtain ⟨b, off, rfl, hbl, hcc⟩ := hRr.here (by omega)
          obtain ⟨c0, c1⟩ := hcc k hlt
          clear hcc
          have hsr := HBr.out.size
          have hB3 : Below w1.heap.size w1 (wr.alloc (.cells #[.int .i64 (F k), .int .i64 (O k)] 109)) := HBr.out.alloc hsr _
          obtain ⟨ok0, ok1⟩ := outB_false (Hch.out k hlt).2.1
          have hlen2 := gathL_le first F O len day second (k + 1)
          have Hlen2 := Lib.hid hlen2
          have HRr := Lib.hid hRr
          clear hRr hlen2
          go_wp2_with fail
          refine (gather_any (O k) day second first _ len cap F O (w.heap.size + 1) (w.heap.size + 1 + 1) w.heap.size w1.heap.size (gathL first F O len day second (k + 1)) _ ok0 ok1 d0 d1 s0 s1 hl
            ((hB3.cell (p := ⟨w.heap.size + 1, 0, none⟩) hs3).trans cD) ((hB3.cell (p := ⟨w.heap.size + 2, 0, none⟩) hs4).trans cS)
            ((hB3.cell (p := ⟨w.heap.size, 0, none⟩) hs2).trans cZ0) ((hB3.cell (p := ⟨w.heap.size, 1, none⟩) hs2).trans cZ1) (HRw1.out.below hB3 (Nat.le_refl _)) (HGr.out.alloc _) (by have := Hlen2.out; omega)).mono ?_
          rintro e w3 ⟨rfl, hG3, hb3⟩
          have HG3 := Lib.hid (show Gath w3 w1.heap.size (gathL first F O len day second (k + 1 + 1)) from hG3)
          have HB3 := Lib.hid (hB3.trans hb3)
          clear hB3 hb3 hG3
          go_wp2_with fail
          go_roundw
          case rel => exact ⟨k + 1, by go_num, by omega, HG3, HB3⟩
          case measure => simp [intOf]; omega
        · have t3 : decide ((k : Int) < (len : Int)) = false := by rw [decide_eq_false_iff_not]; omega
          have t3' : decide (k < len) = false := by simpa using hlt
          have hkl : k = len := by omega
          subst hkl
          have hlen2 := gathL_le first F O k day second (k + 1)
          obtain ⟨L, hLe⟩ : ∃ L, gathL first F O k day second (k + 1) = L := ⟨_, rfl⟩
          rw [hLe] at HGr hlen2
          have HLe := Lib.hid hLe
          clear hLe
          have hsr := HBr.out.size
          have HB4 := Lib.hid (HB1.out.trans (HBr.out.mono (by omega)))
          obtain ⟨v, hv1, hv2⟩ := HGr.out.ex
          have cO := cell_of_one hv1
          have hOl := lt_of_block hv1
          have H1 := Lib.hid hv1
          clear hlt hv1
          by_cases hv : v = .slice none 0 0
          · subst hv
            have hL : L = [] := by
              rcases hv2.2 with ⟨_, h⟩ | ⟨g, c, cur, h, _⟩
              · exact List.length_eq_zero_iff.1 h
              · cases h
            subst hL
            clear hv2
            go_wp2_with fail
            refine (Tryz.slices_Sort_int_none none 0 wr).mono ?_
            rintro e w4 ⟨rfl, rfl⟩
            go_wp2_with fail
            refine (Tryz.slices_Compact_int_empty none 0 w4).mono ?_
            rintro e w5 ⟨rfl, rfl⟩
            go_wp2_with fail
            go_ret2
            exact ⟨⟨_, rfl, by rw [HLe.out]; simpa [Lib.compact, Lib.compactUpTo] using IntsAt.nil _⟩, HB4.out⟩
          · obtain ⟨g, c, rfl, hg0, hg1, hn, hm, _, hH⟩ := Lib.holds_of_ownsRow hv2 hv
            have HO := Lib.hid hv2
            clear hv hv2
            go_wp2_with fail
            refine (Tryz.slices_Sort_int g 0 c L wr hH hg1 (by omega)).mono ?_
            rintro e w4 ⟨rfl, n, os, hw4⟩
            have hgr : wr.grownBy w4 (some g) := by rw [hw4]; exact grownBy_sortedI _
            have hO4 : w4.ownsRow (w1.heap.size + 1) 3 1 (.slice (some ⟨g, 0, none⟩) L.length c) L.length ((L.mergeSort fun x y => decide (x ≤ y)).map (Value.int .i64)) := by
              rcases HO.out.2 with ⟨h, _⟩ | ⟨g', c', cur, h, hb, hgg, hnn, hmm, hcs, _⟩
              · cases h
              · injection h with h1 _ h3
                injection h1 with h1
                injection h1 with h1
                subst h1; subst h3
                rw [hw4]
                exact ownsRow_sortedI (by simp) hb hgg hnn hmm hcs
            have hB5 : Below w.heap.size w w4 := HB4.out.grown hgr (by omega) (by rintro _ ⟨rfl⟩; omega)
            have h4 := (hgr.block w1.heap.size hOl (by simp; omega)).trans H1.out
            have cO4 := cell_of_one h4
            have HB5 := Lib.hid hB5
            have hs5 := hgr.size
            clear hw4 h4 hgr hB5 hH
            have hsl : (L.mergeSort fun x y => decide (x ≤ y)).length = L.length := by simp
            rw [← hsl] at hO4 cO4
            obtain ⟨M, hMe⟩ : ∃ M, (L.mergeSort fun x y => decide (x ≤ y)) = M := ⟨_, rfl⟩
            rw [hMe] at hO4 hsl cO4
            have HMe := Lib.hid hMe
            have hML : M.length ≤ 1000 := by omega
            clear hMe hsl
            obtain ⟨g', c', hgc, _, hg41, hn4, hm4, _, hH4⟩ := Lib.holds_of_ownsRow hO4 (by simp)
            obtain ⟨rfl, rfl⟩ : g = g' ∧ c = c' := by
              injection hgc with h1 _ h3
              injection h1 with h1
              injection h1 with h1
              exact ⟨h1, h3⟩
            have HO4 := Lib.hid hO4
            clear hgc hO4
            go_wp2_with fail
            refine (Tryz.slices_Compact_int g 0 c M w4 hH4 (by omega) hn4).mono ?_
            rintro e w5 ⟨rfl, q, hw5⟩
            have hcl : (Lib.compact M).length ≤ M.length := Lib.compact_length_le M
            have hO5 : w5.ownsRow (w1.heap.size + 1) 3 1 (.slice (some ⟨g, 0, none⟩) (Lib.compact M).length c) (Lib.compact M).length ((Lib.compact M).map (Value.int .i64)) := by
              have h := Lib.ownsRow_putRow (q := q) (k := (Lib.compact M).length) (ys := Lib.compact M ++ List.replicate (M.length - (Lib.compact M).length) 0) HO4.out (by simp; omega) hcl
              rw [← hw5] at h
              simpa using h
            have hB6 : Below w.heap.size w w5 := by rw [hw5]; exact Lib.below_putRow HB5.out (by omega)
            have HO5 := Lib.hid hO5
            have HB6 := Lib.hid hB6
            clear hw5 hO5 hB6 hH4
            go_wp2_with fail
            go_ret2
            exact ⟨⟨_, rfl, by rw [HLe.out, HMe.out]; exact IntsAt.of_own HO5.out⟩, HB6.out⟩
    · have he : momErr first F O len day second = 9 := by unfold momErr; rw [if_pos h0, if_neg h1]
      have hl : momList first F O len day second = [] := by unfold momList; rw [he, if_neg (by decide)]
      rw [he, hl]
      cases hdd : dayB day
      · rw [hdd] at hd
        clear h0 h1 he hl hdd
        go_enter Tryz.func45, Tryz.ntmps45
        go_wp2_with fail
        refine hc.out.mono ?_
        rintro e w1 ⟨rfl, hb1⟩
        have HB1 := Lib.hid (HW3.out.trans (hb1.mono (by simp; omega)))
        have cD : w1.cell? ⟨w.heap.size + 1, 0, none⟩ = some (.int .i64 day) := by
          rw [hb1.cell (p := ⟨w.heap.size + 1, 0, none⟩) (by simp)]
          rw [World.cell?_alloc_past _ _ _ (by simp), World.cell?_alloc_at _ _ _ _ (by simp)]; rfl
        clear hb1
        go_wp2_with fail
        refine (hd.out _).mono ?_
        rintro e w2 ⟨rfl, rfl⟩
        go_wp2_with fail
        go_ret2
        exact ⟨⟨_, rfl, IntsAt.nil _⟩, HB1.out⟩
      · rw [hdd] at hd
        by_cases hs0 : second < 0
        · have t1 : decide (second < 0) = true := by simpa using hs0
          clear h0 h1 he hl hdd hs0
          go_enter Tryz.func45, Tryz.ntmps45
          go_wp2_with fail
          refine hc.out.mono ?_
          rintro e w1 ⟨rfl, hb1⟩
          have HB1 := Lib.hid (HW3.out.trans (hb1.mono (by simp; omega)))
          have cD : w1.cell? ⟨w.heap.size + 1, 0, none⟩ = some (.int .i64 day) := by
            rw [hb1.cell (p := ⟨w.heap.size + 1, 0, none⟩) (by simp)]
            rw [World.cell?_alloc_past _ _ _ (by simp), World.cell?_alloc_at _ _ _ _ (by simp)]; rfl
          have cS : w1.cell? ⟨w.heap.size + 2, 0, none⟩ = some (.int .i64 second) := by
            rw [hb1.cell (p := ⟨w.heap.size + 2, 0, none⟩) (by simp)]
            rw [World.cell?_alloc_at _ _ _ _ (by simp)]; rfl
          clear hb1
          go_wp2_with fail
          refine (hd.out _).mono ?_
          rintro e w2 ⟨rfl, rfl⟩
          go_wp2_with fail
          go_ret2
          exact ⟨⟨_, rfl, IntsAt.nil _⟩, HB1.out⟩
        · have hs1 : 86400 ≤ second := by
            rcases Int.lt_or_le second 86400 with h | h
            · exact absurd ⟨hdd, by omega, by omega⟩ h1
            · exact h
          have t1 : decide (second < 0) = false := by simpa using hs0
          have t2 : decide (86400 ≤ second) = true := by simpa using hs1
          clear h0 h1 he hl hdd hs0
          go_enter Tryz.func45, Tryz.ntmps45
          go_wp2_with fail
          refine hc.out.mono ?_
          rintro e w1 ⟨rfl, hb1⟩
          have HB1 := Lib.hid (HW3.out.trans (hb1.mono (by simp; omega)))
          have cD : w1.cell? ⟨w.heap.size + 1, 0, none⟩ = some (.int .i64 day) := by
            rw [hb1.cell (p := ⟨w.heap.size + 1, 0, none⟩) (by simp)]
            rw [World.cell?_alloc_past _ _ _ (by simp), World.cell?_alloc_at _ _ _ _ (by simp)]; rfl
          have cS : w1.cell? ⟨w.heap.size + 2, 0, none⟩ = some (.int .i64 second) := by
            rw [hb1.cell (p := ⟨w.heap.size + 2, 0, none⟩) (by simp)]
            rw [World.cell?_alloc_at _ _ _ _ (by simp)]; rfl
          clear hb1
          go_wp2_with fail
          refine (hd.out _).mono ?_
          rintro e w2 ⟨rfl, rfl⟩
          go_wp2_with fail
          go_ret2
          exact ⟨⟨_, rfl, IntsAt.nil _⟩, HB1.out⟩
  · have he : momErr first F O len day second = chk first F O len := by unfold momErr; rw [if_neg h0]
    have hl : momList first F O len day second = [] := by unfold momList; rw [he, if_neg h0]
    rw [he, hl]
    generalize chk first F O len = z at hc h0 ⊢
    have hz' : (z != 0) = true := by simpa using h0
    clear h0 he hl
    go_enter Tryz.func45, Tryz.ntmps45
    go_wp2_with fail
    refine hc.out.mono ?_
    rintro e w1 ⟨rfl, hb1⟩
    have HB1 := Lib.hid (HW3.out.trans (hb1.mono (by simp; omega)))
    clear hb1
    go_wp2_with fail
    go_ret2
    exact ⟨⟨_, rfl, IntsAt.nil _⟩, HB1.out⟩
end Go.Proofs.YtcdilamkkodjjaaGreatDoor

/- ReadStamp of the program. -/
namespace Rd
def sepK (k : Nat) : ByteArray := if k = 0 then ⟨#[32]⟩ else ⟨#[58]⟩
def mstK (k : Nat) : Int := if k = 0 then 23 else 59
/-- hours, minutes, seconds, one round each -/
def stN (s : ByteArray) (p : Nat) (ok : Bool) : Nat → Int × Nat × Bool
  | 0 => (0, p, ok)
  | k + 1 => (60 * (stN s p ok k).1 + (pairAt s (mstK k) (exactAt s (sepK k) (stN s p ok k).2.1 (stN s p ok k).2.2).1 (exactAt s (sepK k) (stN s p ok k).2.1 (stN s p ok k).2.2).2).1, (pairAt s (mstK k) (exactAt s (sepK k) (stN s p ok k).2.1 (stN s p ok k).2.2).1 (exactAt s (sepK k) (stN s p ok k).2.1 (stN s p ok k).2.2).2).2)
theorem stF_N (s : ByteArray) (p : Nat) (ok : Bool) : stF s p ok = stN s p ok 3 := by
  have e0 : sepK 0 = ⟨#[32]⟩ := rfl
  have e1 : sepK 1 = colon := rfl
  have e2 : sepK 2 = colon := rfl
  have m0 : mstK 0 = 23 := rfl
  have m1 : mstK 1 = 59 := rfl
  have m2 : mstK 2 = 59 := rfl
  simp only [stF, stN, e0, e1, e2, m0, m1, m2]
theorem mstK_le (k : Nat) : 0 ≤ mstK k ∧ mstK k ≤ 59 := by unfold mstK; split <;> omega
theorem stN_val (s : ByteArray) (p : Nat) (ok : Bool) : ∀ k : Nat, 0 ≤ (stN s p ok k).1 ∧ (stN s p ok k).1 < ((60 ^ k : Nat) : Int)
  | 0 => ⟨Int.le_refl _, by show (0 : Int) < ((1 : Nat) : Int); omega⟩
  | k + 1 => by
    obtain ⟨h1, h2⟩ := stN_val s p ok k
    have hm := mstK_le k
    have hv := pairAt_val s (most := mstK k) (exactAt s (sepK k) (stN s p ok k).2.1 (stN s p ok k).2.2).1 (exactAt s (sepK k) (stN s p ok k).2.1 (stN s p ok k).2.2).2 hm.1
    rw [stN, Nat.pow_succ]
    simp only
    omega
theorem stN_small (s : ByteArray) (p : Nat) (ok : Bool) {k : Nat} (hk : k ≤ 3) : 0 ≤ (stN s p ok k).1 ∧ (stN s p ok k).1 ≤ 216000 := by
  have h := stN_val s p ok k
  rcases (show k = 0 ∨ k = 1 ∨ k = 2 ∨ k = 3 by omega) with rfl | rfl | rfl | rfl
  · exact ⟨h.1, by have := h.2; simp at this; omega⟩
  · exact ⟨h.1, by have := h.2; simp at this; omega⟩
  · exact ⟨h.1, by have := h.2; simp at this; omega⟩
  · exact ⟨h.1, by have := h.2; simp at this; omega⟩
theorem dateF_val (s : ByteArray) : -1 ≤ (dateF s).1 ∧ (dateF s).1 ≤ 999999 := by
  unfold dateF
  simp only
  split
  · rename_i h
    rcases dayOf_range _ _ _ with ⟨_, g⟩ | g
    · exact ⟨by have := g.1; omega, g.2⟩
    · rw [g] at h
      cases h
  · exact ⟨Int.le_refl _, by omega⟩
end Rd
namespace Go.Proofs.YtcdilamkkodjjaaGreatDoor
open Go.RowKit Go.BigFrame

theorem Kp.kept {B : Nat} {w w' : World} (h : Kp B w w') : Kept (fun b => b = B + 2 ∨ b = B + 3) w w' :=
  ⟨h.os, h.tape, h.output, h.size, fun k hk ho => h.block k hk (fun e => ho (Or.inl e)) (fun e => ho (Or.inr e))⟩
set_option maxHeartbeats 2000000 in
set_option maxRecDepth 100000 in
theorem stamp_form : FormOk 43 Rd.stampF := by
  intro B s w h hs
  have hsz := h.size
  have hR0 := h.boxed (.cells (rdVals B) 50)
  have hK0 := (Kp.refl B w).alloc (.cells (rdVals B) 50)
  have hX := isBox_new w B 50
  have hX2 := isBox2_new w B 50
  have HX := Lib.hid hX
  have f0 := hX.num
  have f1 := hX2.row
  have f2 := hX.pair
  have f3 := hX.exact_
  have f4 := hX.one
  have f5 := hX2.last
  have f6 := hX2.begins
  have f7 := hX.dig
  have f8 := hX.place
  clear hX hX2
  have hd := Lib.hid (fun w (h : IsRd w B s 0 true) => date_form B s w h hs)
  obtain ⟨v0, v1⟩ := Rd.dateF_val s
  have hF : Rd.stampF s = (if (Rd.dateF s).1 < 0 then -1 else (Rd.dateF s).1 * 86400 + (Rd.stN s (Rd.dateF s).2.1 (Rd.dateF s).2.2 3).1, (Rd.stN s (Rd.dateF s).2.1 (Rd.dateF s).2.2 3).2.1, (Rd.stN s (Rd.dateF s).2.1 (Rd.dateF s).2.2 3).2.2) := by unfold Rd.stampF; rw [Rd.stF_N]
  rw [hF]
  generalize Rd.dateF s = d at hd v0 v1 ⊢
  obtain ⟨dv, dp, dk⟩ := d
  simp only at hd v0 v1 ⊢
  have hN := fun k (hk : k ≤ 3) => Rd.stN_small s dp dk hk
  have HS : Hid (∀ k, Rd.stN s dp dk (k + 1) = (60 * (Rd.stN s dp dk k).1 + (Rd.pairAt s (Rd.mstK k) (Rd.exactAt s (Rd.sepK k) (Rd.stN s dp dk k).2.1 (Rd.stN s dp dk k).2.2).1 (Rd.exactAt s (Rd.sepK k) (Rd.stN s dp dk k).2.1 (Rd.stN s dp dk k).2.2).2).1, (Rd.pairAt s (Rd.mstK k) (Rd.exactAt s (Rd.sepK k) (Rd.stN s dp dk k).2.1 (Rd.stN s dp dk k).2.2).1 (Rd.exactAt s (Rd.sepK k) (Rd.stN s dp dk k).2.1 (Rd.stN s dp dk k).2.2).2).2)) := Lib.hid (fun k => rfl)
  have hN0 : Rd.stN s dp dk 0 = (0, dp, dk) := rfl
  generalize Rd.stN s dp dk = N at hN HS hN0 ⊢
  have HN0 := Lib.hid hN0
  have HN := Lib.hid hN
  clear hN0 hN hF
  obtain ⟨RV, hRV⟩ : ∃ x, (if dv < 0 then -1 else dv * 86400 + (N 3).1) = x := ⟨_, rfl⟩
  rw [hRV]
  have HV := Lib.hid hRV
  clear hRV
  have hK0' := Lib.hid hK0
  have hR0' := Lib.hid hR0
  clear hK0 hR0 h
  go_enter Tryz.func43, Tryz.ntmps43
  go_wp2_with fail
  refine (hd.out _ hR0'.out).mono ?_
  rintro e w1 ⟨rfl, hR1, hK1⟩
  have HX1 := Lib.hid (HX.out.kp hK1 (by omega))
  have HR1 := Lib.hid hR1
  have HK1 := Lib.hid (hK0'.out.trans hK1)
  have hs1 := HK1.out.size
  clear hR1 hK1 HX hd f0 f1 f2 f3 f4 f5 f6 f7 f8
  go_upto_region 4 with fail
  obtain ⟨V, hV, hbV, hsV, hcV⟩ := alloc_cells w1 #[.int .i64 23, .int .i64 59, .int .i64 59] 3
  rw [hV]
  have HC : Hid (∀ k, k < 3 → V.cell? ⟨w1.heap.size, k, none⟩ = some (.int .i64 (Rd.mstK k))) := Lib.hid (fun k hk => by
    rcases (show k = 0 ∨ k = 1 ∨ k = 2 by omega) with rfl | rfl | rfl
    · exact hcV 0 _ rfl
    · exact hcV 1 _ rfl
    · exact hcV 2 _ rfl)
  have HKV : Hid (Kp B w V) := Lib.hid (HK1.out.trans (Kp.of_below hbV))
  have HRV : Hid (IsRd V B s dp dk) := Lib.hid (HR1.out.kept hbV)
  have HXV : Hid (IsBox V w.heap.size B) := Lib.hid (HX1.out.kp (Kp.of_below hbV) (by omega))
  obtain ⟨q, hq⟩ : ∃ q, w1.heap.size = q := ⟨_, rfl⟩
  rw [hq] at HC hs1 ⊢
  have hqB : B + 6 ≤ q := by omega
  clear hV hbV hsV hcV HX1 HR1 HK1 hq
  go_loopw [4, 11] (fun sv iv wr => ∃ (k : Nat), iv = .int .i64 k ∧ k ≤ 3 ∧ sv = .int .i64 (N k).1 ∧ Hid (IsRd wr B s (N k).2.1 (N k).2.2) ∧ Hid (Kp B V wr)) (fun _ iv _ => 3 - (intOf iv).toNat)
  case atStart => exact ⟨0, rfl, by omega, by rw [HN0.out], by rw [HN0.out]; exact HRV, Lib.hid (Kp.refl B V)⟩
  case round =>
    obtain ⟨k, rfl, hk3, rfl, HRr, HKr⟩ := hrel
    obtain ⟨n0, n1⟩ := HN.out k hk3
    by_cases hk : k = 3
    case pos =>
      subst hk
      by_cases hdv : dv < 0
      · have b1 : decide (dv < 0) = true := by simpa using hdv
        have HD := Lib.hid hdv
        clear hdv
        go_wp2_with fail
        go_ret
        exact ⟨by rw [← HV.out, if_pos HD.out]; rfl, HRr.out, HKV.out.trans HKr.out⟩
      · have b1 : decide (dv < 0) = false := by simpa using hdv
        have HD := Lib.hid hdv
        clear hdv
        go_wp2_with fail
        go_ret
        exact ⟨by rw [← HV.out, if_neg (show ¬ dv < 0 by have := HD.out; omega)]; rfl, HRr.out, HKV.out.trans HKr.out⟩
    case neg =>
      have hlt : k < 3 := by omega
      have k1 : decide ((k : Int) < 3) = true := by rw [decide_eq_true_eq]; omega
      have k2 : decide (k < 3) = true := by simpa using hlt
      have e9 : wr.cell? ⟨q, k, none⟩ = some (.int .i64 (Rd.mstK k)) := IsRd.of_kp HKr.out (HC.out k hlt) (by omega) (by omega)
      have HXr := Lib.hid (HXV.out.kp HKr.out (by omega))
      have hsl : ∀ W : World, (Instr.slice 9 (.string ⟨#[32, 58, 58]⟩) (some (.int .i64 (k : Int))) (some (.int .i64 ((k : Int) + 1))) none).run Tryz.prog W = .ok (.string (Rd.sepK k)) W := fun W => by
        rw [run_slice_string W _ _ _ _ _ _ (by kernel_rfl) (by omega) (by omega) (by show (k : Int) + 1 ≤ 3; omega)]
        rcases (show k = 0 ∨ k = 1 ∨ k = 2 by omega) with rfl | rfl | rfl <;> rfl
      have hex := Lib.hid (fun w (h : IsRd w B s (N k).2.1 (N k).2.2) => exact_any (Rd.sepK k) w h (by omega) (by rcases (show k = 0 ∨ k = 1 ∨ k = 2 by omega) with rfl | rfl | rfl <;> decide))
      have hS := HS.out k
      obtain ⟨x, hx⟩ : ∃ x, Rd.exactAt s (Rd.sepK k) (N k).2.1 (N k).2.2 = x := ⟨_, rfl⟩
      rw [hx] at hex hS
      have hpr := Lib.hid (fun w (h : IsRd w B s x.1 x.2) => pair_any (Rd.mstK k) w h (by omega))
      have hpv := Rd.pairAt_val s (most := Rd.mstK k) x.1 x.2 (Rd.mstK_le k).1
      have hmk := Rd.mstK_le k
      obtain ⟨y, hy⟩ : ∃ y, Rd.pairAt s (Rd.mstK k) x.1 x.2 = y := ⟨_, rfl⟩
      rw [hy] at hpr hpv hS
      obtain ⟨u, hu⟩ : ∃ u, N k = u := ⟨_, rfl⟩
      rw [hu] at HRr hex hS n0 n1 ⊢
      obtain ⟨mk, hmk'⟩ : ∃ mk, Rd.mstK k = mk := ⟨_, rfl⟩
      rw [hmk'] at e9 hpr hpv hmk
      obtain ⟨sk, hsk⟩ : ∃ sk, Rd.sepK k = sk := ⟨_, rfl⟩
      rw [hsk] at hsl hex
      have HSk := Lib.hid hS
      clear hx hy hu hmk' hsk hS
      obtain ⟨uv, up, uk⟩ := u
      obtain ⟨yv, yp, yk⟩ := y
      obtain ⟨xp, xk⟩ := x
      simp only at HRr hex HSk n0 n1 hpr hpv ⊢
      have k3 := HXr.out.exact_
      unfold exactF at k3
      have S3 := ExtO.ex (O := fun b => b = B + 2 ∨ b = B + 3) (p := ⟨w.heap.size, 3, none⟩) (by show ¬ (w.heap.size = B + 2 ∨ w.heap.size = B + 3); omega) k3
      go_upto_region 6 with fail
      refine held_start (C := fun w' => ∃ Z : ExtO (fun b => b = B + 2 ∨ b = B + 3) wr, w' = Z.1) (by kernel_rfl) ?_
      obtain ⟨Y0, hY0⟩ : ∃ Z : ExtO (fun b => b = B + 2 ∨ b = B + 3) wr, ({ wr with drawn := wr.drawn + 1 } : World) = Z.1 := ⟨⟨{ wr with drawn := wr.drawn + 1 }, ⟨rfl, rfl, rfl, Nat.le_refl _, fun _ _ _ => rfl⟩⟩, rfl⟩
      have HR2 : Hid (IsRd Y0.1 B s up uk) := Lib.hid (by rw [← hY0]; exact HRr.out.drew)
      have HK2 : Hid (Kp B V Y0.1) := Lib.hid (by rw [← hY0]; exact HKr.out.drew)
      have HX2 : Hid (IsBox Y0.1 w.heap.size B) := Lib.hid (by rw [← hY0]; exact HXr.out.kp (Kp.refl B wr).drew (by omega))
      rw [hY0]
      clear hY0 HRr HKr HXr e9 k3
      refine held_quiet (by kernel_rfl) (fun _ _ d _ _ h => by cases d <;> exact h) ⟨Y0, rfl⟩ [0, 1, 2, 3, 4, 5] 1 _ _ (by kernel_rfl) ?_
      change wpQuiet _ _ _ _ (_ :: _ :: _ :: _ :: _ :: _ :: []) _
      repeat go_big_quiet_step (fail)
      refine wpQuiet_nil ?_
      refine held_do (i := 6) _ rfl (by kernel_rfl) rfl (fun K hK => ?_)
      go_simp
      refine (hex.out _ HR2.out).mono ?_
      rintro e w3 ⟨rfl, hR3, hK3⟩
      refine hK _ _ ⟨⟨w3, Y0.2.trans (Kp.kept hK3)⟩, rfl⟩ ?_
      clear hK K
      refine wpAnyH_done (by kernel_rfl) ?_ _
      have HX3 := Lib.hid (HX2.out.kp hK3 (by omega))
      have HR3 := Lib.hid hR3
      have HK3 := Lib.hid (HK2.out.trans hK3)
      clear hR3 hK3 S3 HX2
      have k4 := HX3.out.pair
      unfold pairF at k4
      go_wp2_with fail
      refine (hpr.out _ HR3.out).mono ?_
      rintro e w4 ⟨rfl, hR4, hK4⟩
      have HR4 := Lib.hid hR4
      have HK4 := Lib.hid (HK3.out.trans hK4)
      clear hR4 hK4 k4 HX3
      go_wp2_with fail
      go_roundw
      case rel => exact ⟨k + 1, by go_num, by omega, by rw [HSk.out], by rw [HSk.out]; exact HR4, HK4⟩
      case measure => simp [intOf]; omega
theorem stamp_isForm (j : Nat) (_ : j < 1) : IsForm 43 Rd.stampF := ⟨fun _ _ => by kernel_rfl, stamp_form⟩
/-- what ReadStamp answers -/
def stampAns (first : Int) (F O : Nat → Int) (len : Nat) (r : Int × Nat × Int) (last : Bool) : Int × Nat × Int :=
  if chk first F O len ≠ 0 then (0, 0, chk first F O len)
  else if r.2.2 ≠ 0 then (0, r.2.1, r.2.2)
  else if (momList first F O len (r.1 / 86400) (r.1 % 86400)).length = 0 then (0, 0, 4)
  else if last = true then ((momList first F O len (r.1 / 86400) (r.1 % 86400)).getD ((momList first F O len (r.1 / 86400) (r.1 % 86400)).length - 1) 0, 0, 0)
  else ((momList first F O len (r.1 / 86400) (r.1 % 86400)).getD 0 0, 0, 0)
def readStampP (s : ByteArray) : Int × Nat × Int := Rd.ranged (Rd.readForms s [Rd.stampF]) 0 86399999999
theorem ranged_bounds (x : Int × Nat × Int) (lo hi : Int) (h : (Rd.ranged x lo hi).2.2 = 0) : lo ≤ (Rd.ranged x lo hi).1 ∧ (Rd.ranged x lo hi).1 ≤ hi := by
  unfold Rd.ranged at h ⊢
  split at h
  · cases h
  · rename_i hn
    rw [if_neg hn]
    omega
theorem momList_short (first : Int) (F O : Nat → Int) (len : Nat) (day second : Int) : (momList first F O len day second).length ≤ 1000 := by
  unfold momList
  split
  · rename_i h
    have h1 : chk first F O len = 0 := by
      unfold momErr at h
      split at h
      · assumption
      · exact h
    have := Lib.compact_length_le ((gathL first F O len day second (len + 1)).mergeSort fun x y => decide (x ≤ y))
    rw [List.length_mergeSort] at this
    have := gathL_le first F O len day second (len + 1)
    have := (chk_zero h1).1
    omega
  · simp
set_option maxHeartbeats 4000000 in
set_option maxRecDepth 100000 in
theorem readStamp_any (first : Int) (a : Option Addr) (len cap : Nat) (F O : Nat → Int) (s : ByteArray) (last : Bool) (w : World) (hr : Rows2 w a len F O) (hs : s.size ≤ 9223372036854775807) :
    Calls Tryz.prog 13 #[.agg #[.int .i64 first, .slice a len cap], .string s, .bool last] w fun e w' => e = .returned (.tuple #[.int .i64 (stampAns first F O len (readStampP s) last).1, .int .i64 (stampAns first F O len (readStampP s) last).2.1, .int .i64 (stampAns first F O len (readStampP s) last).2.2]) ∧ Below w.heap.size w w' := by
  obtain ⟨V, hV, hbV, hsV, hcV⟩ := alloc_cells w #[.int .i64 first, .slice a len cap] 31
  have z0 := hcV 0 _ rfl
  have z1 := hcV 1 _ rfl
  have HRV := hr.below hbV (Nat.le_refl _)
  have hc := Lib.hid (checkZone_any first a len cap F O V HRV)
  have HBV := Lib.hid hbV
  have HVz := Lib.hid hV
  have HRW := Lib.hid (fun (W : World) (h : Below w.heap.size w W) => hr.below h (Nat.le_refl _))
  obtain ⟨ck, hck⟩ : ∃ ck, chk first F O len = ck := ⟨_, rfl⟩
  have hA : ∀ r, stampAns first F O len r last = if ck ≠ 0 then (0, 0, ck) else if r.2.2 ≠ 0 then (0, r.2.1, r.2.2)
      else if (momList first F O len (r.1 / 86400) (r.1 % 86400)).length = 0 then (0, 0, 4)
      else if last = true then ((momList first F O len (r.1 / 86400) (r.1 % 86400)).getD ((momList first F O len (r.1 / 86400) (r.1 % 86400)).length - 1) 0, 0, 0)
      else ((momList first F O len (r.1 / 86400) (r.1 % 86400)).getD 0 0, 0, 0) := fun r => by rw [← hck]; rfl
  have HME : Hid (∀ day second, ck = 0 → dayB day = true → 0 ≤ second → second ≤ 86399 → momErr first F O len day second = 0) := Lib.hid (fun day second h1 h2 h3 h4 => by
    unfold momErr
    rw [hck, if_pos h1, if_pos ⟨h2, h3, h4⟩])
  rw [hck] at hc
  clear hcV hbV HRV hV hck hr
  by_cases h0 : ck = 0
  case neg =>
    have b1 : (ck == 0) = false := by simpa using h0
    have b2 : (ck != 0) = true := by simpa using h0
    have HX := Lib.hid ((hA (readStampP s)).trans (if_pos h0))
    clear h0 hA
    go_enter Tryz.func13, Tryz.ntmps13
    go_upto_region 1 with fail
    rw [HVz.out]
    go_wp2_with fail
    refine hc.out.mono ?_
    rintro e w1 ⟨rfl, hb1⟩
    go_wp2_with fail
    go_ret3
    exact ⟨by rw [HX.out]; rfl, below_step HBV.out hb1⟩
  case pos =>
  have b1 : (ck == 0) = true := by simpa using h0
  have b2 : (ck != 0) = false := by simpa using h0
  have hA2 := fun r => (hA r).trans (if_neg (fun h => h h0))
  obtain ⟨z, hz⟩ : ∃ z, Rd.readForms s ((List.range 1).map fun _ => Rd.stampF) = z := ⟨_, rfl⟩
  have hrf := fun (w : World) (R : Nat) (hR : R < w.heap.size) hf => readForms_any s w R 1 (fun _ => 43) (fun _ => Rd.stampF) (by omega) hR hf stamp_isForm hs z hz
  have Hrf := Lib.hid hrf
  have hd : readStampP s = Rd.ranged z 0 86399999999 := by rw [← hz]; rfl
  have hyb := ranged_bounds z 0 86399999999
  obtain ⟨n, ap, e⟩ := z
  have hra := Lib.hid (ranged_any n e 0 86399999999 ap)
  have hAns := hA2 (readStampP s)
  rw [hd] at hAns ⊢
  generalize Rd.ranged (n, ap, e) 0 86399999999 = y at hra hyb hAns ⊢
  obtain ⟨yn, ya, ye⟩ := y
  simp only at hra hyb hAns
  have HA := Lib.hid hAns
  have H0 := Lib.hid h0
  clear hz hd hrf hA hA2 hAns h0
  go_enter Tryz.func13, Tryz.ntmps13
  go_upto_region 1 with fail
  rw [HVz.out]
  go_wp2_with fail
  refine hc.out.mono ?_
  rintro e' w1 ⟨rfl, hb1⟩
  have Z0 := Lib.hid (below_cell hb1 z0)
  have Z1 := Lib.hid (below_cell hb1 z1)
  have HB1 := Lib.hid (below_step HBV.out hb1)
  clear z0 z1 hb1 HBV hc HVz
  go_wp2_with fail
  refine (Hrf.out _ w1.heap.size (by simp) ?hf).mono ?_
  case hf =>
    intro j hj
    rw [World.cell?_alloc_at _ _ _ _ rfl]
    obtain rfl : j = 0 := by omega
    rfl
  rintro r w2 ⟨rfl, hb2⟩
  have hb12 := below_step (Below.refl w1.heap.size w1) ((below_al w1 _).trans (hb2.mono (below_al w1 _).size))
  have Z2 := Lib.hid (below_cell hb12 Z0.out)
  have Z3 := Lib.hid (below_cell hb12 Z1.out)
  have HB2 := Lib.hid (below_step HB1.out hb12)
  clear hb2 hb12 Z0 Z1 HB1 Hrf
  go_wp2_with fail
  refine (hra.out _).mono ?_
  rintro r _ ⟨rfl, rfl⟩
  by_cases hye : ye = 0
  case neg =>
    have c1 : (ye == 0) = false := by simpa using hye
    have c2 : (ye != 0) = true := by simpa using hye
    have HX := Lib.hid (HA.out.trans (if_pos hye))
    clear hye HA
    go_wp2_with fail
    go_ret3
    exact ⟨by rw [HX.out]; rfl, HB2.out⟩
  case pos =>
  have c1 : (ye == 0) = true := by simpa using hye
  have c2 : (ye != 0) = false := by simpa using hye
  have HA2 := Lib.hid (HA.out.trans (if_neg (fun h => h hye)))
  obtain ⟨y0, y1⟩ := hyb hye
  have hdb : dayB (yn / 86400) = true := by unfold dayB; simp only [Bool.and_eq_true, decide_eq_true_eq]; omega
  have hme := HME.out (yn / 86400) (yn % 86400) H0.out hdb (by omega) (by omega)
  have hm := moments_any first (yn / 86400) (yn % 86400) a len cap F O w2 (HRW.out w2 HB2.out)
  rw [hme] at hm
  have hLl := momList_short first F O len (yn / 86400) (yn % 86400)
  generalize momList first F O len (yn / 86400) (yn % 86400) = L at hm HA2 hLl
  have HM := Lib.hid hm
  have Z2' := Z2.out
  have Z3' := Z3.out
  clear hme hm hdb hye HA HME H0 hyb
  go_wp2_with fail
  refine HM.out.mono ?_
  rintro r w3 ⟨⟨v, rfl, a3, c3, rfl, hc3, hx3⟩, hb3⟩
  have HB3 := Lib.hid (below_step HB2.out hb3)
  clear hb3 HM Z2' Z3' Z2 Z3
  by_cases hl : L.length = 0
  case pos =>
    have HX := Lib.hid (HA2.out.trans (if_pos hl))
    have d1 : ((L.length : Int) == 0) = true := by simp [hl]
    have d2 : (L.length == 0) = true := by simp [hl]
    clear HA2 hl hx3
    go_wp2_with fail
    go_ret3
    exact ⟨by rw [HX.out]; rfl, HB3.out⟩
  case neg =>
  have d1 : ((L.length : Int) == 0) = false := by simp; exact fun h => hl (by rw [h]; rfl)
  have d2 : (L.length == 0) = false := by simpa using hl
  have HA3 := Lib.hid (HA2.out.trans (if_neg hl))
  obtain ⟨b, rfl, hblt, hcell⟩ := hx3 (by omega)
  have e0 := hcell 0 (by omega)
  have el := hcell (L.length - 1) (by omega)
  obtain ⟨m, hm⟩ : ∃ m, L.length = m + 1 := ⟨L.length - 1, by omega⟩
  rw [hm] at HA3 hcell d1 d2 el hc3 hLl ⊢
  rw [Nat.add_sub_cancel] at HA3 el
  have hix : ((m + 1 : Nat) : Int) - 1 = (m : Int) := by omega
  clear hl HA2 hcell hm
  cases last
  case false =>
    have HX := Lib.hid (HA3.out.trans (if_neg (by simp)))
    clear HA3
    go_wp2_with fail
    go_ret3
    exact ⟨by rw [HX.out]; rfl, HB3.out⟩
  case true =>
    have HX := Lib.hid (HA3.out.trans (if_pos rfl))
    clear HA3
    go_wp2_with fail
    go_ret3
    exact ⟨by rw [HX.out]; rfl, HB3.out⟩
end Go.Proofs.YtcdilamkkodjjaaGreatDoor

/- Zones: Moments: plain laws of lists: what is gathered, sorted, told once; and the insertion sort of the reference. -/
namespace Go.Proofs.YtcdilamkkodjjaaGreatDoor
open Go.RowKit Go.BigFrame

theorem strict_ext : ∀ {a b : List Int}, a.Pairwise (· < ·) → b.Pairwise (· < ·) → (∀ x, x ∈ a ↔ x ∈ b) → a = b
  | [], [], _, _, _ => rfl
  | [], y :: b, _, _, h => absurd ((h y).2 (by simp)) (by simp)
  | x :: a, [], _, _, h => absurd ((h x).1 (by simp)) (by simp)
  | x :: a, y :: b, ha, hb, h => by
    rw [List.pairwise_cons] at ha hb
    have hxy : x = y := by
      rcases List.mem_cons.1 ((h x).1 (by simp)) with h1 | h1
      · exact h1
      · rcases List.mem_cons.1 ((h y).2 (by simp)) with h2 | h2
        · exact h2.symm
        · have := hb.1 x h1; have := ha.1 y h2; omega
    subst hxy
    have ht : a = b := strict_ext ha.2 hb.2 fun z => by
      constructor
      · intro hz
        rcases List.mem_cons.1 ((h z).1 (List.mem_cons_of_mem _ hz)) with h1 | h1
        · have := ha.1 z hz; omega
        · exact h1
      · intro hz
        rcases List.mem_cons.1 ((h z).2 (List.mem_cons_of_mem _ hz)) with h1 | h1
        · have := hb.1 z hz; omega
        · exact h1
    rw [ht]
theorem get_sorted {zs : List Int} (h : zs.Pairwise (· ≤ ·)) {i j : Nat} (hij : i ≤ j) (hj : j < zs.length) : zs.toArray[i]! ≤ zs.toArray[j]! := by
  simp only [List.getElem!_toArray]
  rw [getElem!_pos zs i (by omega), getElem!_pos zs j hj]
  rcases Nat.eq_or_lt_of_le hij with rfl | hlt
  · exact Int.le_refl _
  · exact List.pairwise_iff_getElem.1 h i j (by omega) hj hlt
theorem compact_strict {zs : List Int} (h : zs.Pairwise (· ≤ ·)) : (Lib.compact zs).Pairwise (· < ·) := by
  unfold Lib.compact Lib.compactUpTo
  rw [List.pairwise_map]
  have hp : ((List.range zs.length).filter (Lib.keeps zs.toArray)).Pairwise (· < ·) := (List.pairwise_lt_range (n := zs.length)).filter _
  refine List.Pairwise.imp_of_mem ?_ hp
  intro i j hi hj hij
  rw [List.mem_filter, List.mem_range] at hi hj
  have hk := hj.2
  unfold Lib.keeps at hk
  rw [decide_eq_true_eq] at hk
  rcases hk with h0 | h0
  · omega
  · have h1 := get_sorted h (i := i) (j := j - 1) (by omega) (by omega)
    have h2 := get_sorted h (i := j - 1) (j := j) (by omega) hj.1
    omega
theorem mem_compact {zs : List Int} {x : Int} : x ∈ Lib.compact zs ↔ x ∈ zs := by
  unfold Lib.compact Lib.compactUpTo
  rw [List.mem_map]
  constructor
  · rintro ⟨i, hi, rfl⟩
    rw [List.mem_filter, List.mem_range] at hi
    simp only [List.getElem!_toArray]
    rw [getElem!_pos zs i hi.1]
    exact List.getElem_mem _
  · intro hx
    obtain ⟨i, hi, rfl⟩ := List.getElem_of_mem hx
    have key : ∀ n i, i ≤ n → (hi : i < zs.length) → ∃ a, a ∈ (List.range zs.length).filter (Lib.keeps zs.toArray) ∧ zs.toArray[a]! = zs[i] := by
      intro n
      induction n with
      | zero =>
        intro i h0 hi
        refine ⟨i, ?_, ?_⟩
        · rw [List.mem_filter, List.mem_range]; exact ⟨hi, by simp [Lib.keeps]; omega⟩
        · simp only [List.getElem!_toArray]; rw [getElem!_pos zs i hi]
      | succ n ih =>
        intro i h0 hi
        by_cases hk : Lib.keeps zs.toArray i = true
        · refine ⟨i, ?_, ?_⟩
          · rw [List.mem_filter, List.mem_range]; exact ⟨hi, hk⟩
          · simp only [List.getElem!_toArray]; rw [getElem!_pos zs i hi]
        · unfold Lib.keeps at hk
          rw [decide_eq_true_eq] at hk
          have h1 : i ≠ 0 := fun h => hk (Or.inl h)
          have h2 : zs.toArray[i]! = zs.toArray[i - 1]! := Classical.byContradiction fun h => hk (Or.inr h)
          obtain ⟨a, ha, hb⟩ := ih (i - 1) (by omega) (by omega)
          refine ⟨a, ha, ?_⟩
          rw [hb]
          simp only [List.getElem!_toArray] at h2
          rw [getElem!_pos zs i hi, getElem!_pos zs (i - 1) (by omega)] at h2
          exact h2.symm
    exact key i i (Nat.le_refl _) hi
theorem sort_pairwise (L : List Int) : (L.mergeSort fun x y => decide (x ≤ y)).Pairwise (· ≤ ·) := by
  have h := List.pairwise_mergeSort (le := fun x y : Int => decide (x ≤ y)) (by simp; omega) (by simp; omega) L
  exact h.imp (by simp)
theorem compact_sort_eq {P D Q : List Int} (hm : ∀ x, x ∈ D ↔ x ∈ P) (hd : D.Nodup) (hp : Q.Perm D) (hs : Q.Pairwise (· ≤ ·)) :
    Lib.compact (P.mergeSort fun x y => decide (x ≤ y)) = Q := by
  have hn : Q.Nodup := hp.nodup_iff.2 hd
  refine strict_ext (compact_strict (sort_pairwise P)) ?_ ?_
  · have := hs.and hn
    exact this.imp (by intro a b h; omega)
  · intro x
    rw [mem_compact, List.mem_mergeSort, hp.mem_iff, hm]
def Srt (f : Nat → Int) (i : Nat) : Prop := ∀ a b, a < b → b < i → f a ≤ f b
def Ins (f : Nat → Int) (i k : Nat) : Prop := (∀ a b, a < b → b ≤ i → a ≠ k → b ≠ k → f a ≤ f b) ∧ ∀ b, k < b → b ≤ i → f k ≤ f b
def swp (M : List Int) (k : Nat) : List Int := (M.set k (M.getD (k - 1) 0)).set (k - 1) (M.getD k 0)
theorem swp_length (M : List Int) (k : Nat) : (swp M k).length = M.length := by simp [swp]
theorem swp_perm {M : List Int} {k : Nat} (h0 : 0 < k) (hk : k < M.length) : (swp M k).Perm M := by
  have h := List.set_set_perm hk (by omega : k - 1 < M.length)
  unfold swp
  have e1 : M.getD (k - 1) 0 = M[k - 1] := by simp [List.getD, List.getElem?_eq_getElem (show k - 1 < M.length by omega)]
  have e2 : M.getD k 0 = M[k] := by simp [List.getD, List.getElem?_eq_getElem hk]
  rw [e1, e2]
  exact h
theorem swp_get {M : List Int} {k : Nat} (h0 : 0 < k) (hk : k < M.length) (j : Nat) : (swp M k).getD j 0 = if j = k then M.getD (k - 1) 0 else if j = k - 1 then M.getD k 0 else M.getD j 0 := by
  unfold swp
  simp only [List.getD_eq_getElem?_getD, List.getElem?_set, List.length_set]
  by_cases h1 : j = k
  · subst h1
    rw [if_pos rfl, if_neg (by omega), if_pos rfl, if_pos hk]; rfl
  · rw [if_neg h1]
    by_cases h2 : j = k - 1
    · subst h2
      rw [if_pos rfl, if_pos rfl, if_pos (by omega)]; rfl
    · rw [if_neg h2, if_neg (fun h => h2 h.symm), if_neg (fun h => h1 h.symm)]
theorem ins_start {f : Nat → Int} {i : Nat} (h : Srt f i) : Ins f i i := ⟨fun a b h1 h2 h3 h4 => h a b h1 (by omega), fun b h1 h2 => by omega⟩
theorem ins_step {M : List Int} {i k : Nat} (h : Ins (fun j => M.getD j 0) i k) (h0 : 0 < k) (hk : k ≤ i) (hi : i < M.length) (hl : M.getD k 0 < M.getD (k - 1) 0) : Ins (fun j => (swp M k).getD j 0) i (k - 1) := by
  have g := swp_get (M := M) h0 (by omega : k < M.length)
  obtain ⟨ha, hb⟩ := h
  refine ⟨fun a b h1 h2 h3 h4 => ?_, fun b h1 h2 => ?_⟩
  · show (swp M k).getD a 0 ≤ (swp M k).getD b 0
    rw [g a, g b]
    rw [if_neg h3, if_neg h4]
    by_cases e1 : a = k
    · rw [if_pos e1, if_neg (by omega)]; exact ha (k - 1) b (by omega) h2 (by omega) (by omega)
    · rw [if_neg e1]
      by_cases e2 : b = k
      · rw [if_pos e2]; exact ha a (k - 1) (by omega) (by omega) e1 (by omega)
      · rw [if_neg e2]; exact ha a b h1 h2 e1 e2
  · show (swp M k).getD (k - 1) 0 ≤ (swp M k).getD b 0
    rw [g (k - 1), g b, if_neg (by omega), if_pos rfl]
    by_cases e2 : b = k
    · rw [if_pos e2]; omega
    · rw [if_neg e2, if_neg (by omega)]; exact hb b (by omega) h2
theorem ins_end {f : Nat → Int} {i k : Nat} (h : Ins f i k) (hk : k ≤ i) (he : k = 0 ∨ f (k - 1) ≤ f k) : Srt f (i + 1) := by
  obtain ⟨ha, hb⟩ := h
  intro a b h1 h2
  by_cases e1 : a = k
  · subst e1; exact hb b h1 (by omega)
  · by_cases e2 : b = k
    · subst e2
      rcases he with h0 | h0
      · omega
      · by_cases e3 : a = b - 1
        · subst e3; exact h0
        · exact Int.le_trans (ha a (b - 1) (by omega) (by omega) e1 (by omega)) h0
    · exact ha a b h1 (by omega) e1 e2
theorem srt_pairwise {M : List Int} (h : Srt (fun j => M.getD j 0) M.length) : M.Pairwise (· ≤ ·) := by
  rw [List.pairwise_iff_getElem]
  intro i j hi hj hij
  have := h i j hij hj
  simpa [List.getD, List.getElem?_eq_getElem hi, List.getElem?_eq_getElem hj] using this
/-- what the first k offsets give, each moment once -/
def dedL (first : Int) (F O : Nat → Int) (len : Nat) (day second : Int) : Nat → List Int
  | 0 => []
  | k + 1 => if momGood first F O len day second (candO first O k) = true ∧ momOf day second (candO first O k) ∉ dedL first F O len day second k then dedL first F O len day second k ++ [momOf day second (candO first O k)] else dedL first F O len day second k
theorem dedL_succ (first : Int) (F O : Nat → Int) (len : Nat) (day second : Int) (k : Nat) : dedL first F O len day second (k + 1) = if momGood first F O len day second (candO first O k) = true ∧ momOf day second (candO first O k) ∉ dedL first F O len day second k then dedL first F O len day second k ++ [momOf day second (candO first O k)] else dedL first F O len day second k := rfl
theorem dedL_mem (first : Int) (F O : Nat → Int) (len : Nat) (day second : Int) (x : Int) : ∀ k, x ∈ dedL first F O len day second k ↔ x ∈ gathL first F O len day second k
  | 0 => by simp [dedL, gathL]
  | k + 1 => by
    have ih := dedL_mem first F O len day second x k
    rw [dedL, gathL]
    split
    · rename_i h
      rw [if_pos h.1, List.mem_append, List.mem_append, ih]
    · rename_i h
      split
      · rename_i h1
        have h2 : momOf day second (candO first O k) ∈ dedL first F O len day second k := Classical.byContradiction fun h3 => h ⟨h1, h3⟩
        rw [List.mem_append, ← ih]
        constructor
        · exact Or.inl
        · rintro (h3 | h3)
          · exact h3
          · rw [List.mem_singleton] at h3; rw [h3]; exact h2
      · exact ih
theorem dedL_nodup (first : Int) (F O : Nat → Int) (len : Nat) (day second : Int) : ∀ k, (dedL first F O len day second k).Nodup
  | 0 => by simp [dedL]
  | k + 1 => by
    have ih := dedL_nodup first F O len day second k
    rw [dedL]
    split
    · rename_i h
      rw [List.nodup_append]
      refine ⟨ih, by simp, ?_⟩
      intro a ha b hb
      rw [List.mem_singleton] at hb
      subst hb
      intro he
      subst he
      exact h.2 ha
    · exact ih
theorem dedL_le (first : Int) (F O : Nat → Int) (len : Nat) (day second : Int) (k : Nat) : (dedL first F O len day second k).length ≤ k := by
  induction k with
  | zero => simp [dedL]
  | succ k ih => rw [dedL]; split; simp; omega; omega
theorem momList_eq {first : Int} {F O : Nat → Int} {len : Nat} {day second : Int} {Q : List Int} (h : momErr first F O len day second = 0)
    (hp : Q.Perm (dedL first F O len day second (len + 1))) (hs : Q.Pairwise (· ≤ ·)) : momList first F O len day second = Q := by
  unfold momList
  rw [if_pos h]
  exact compact_sort_eq (fun x => dedL_mem _ _ _ _ _ _ x _) (dedL_nodup _ _ _ _ _ _ _) hp hs
/-- an exchange in a row of the call's own -/
theorem row_swap {w : World} {base g cap n : Nat} {e : TypeId} {M : List Int} (h : w.ownsRow base e 1 (.slice (some ⟨g, 0, none⟩) n cap) n (M.map (.int .i64))) (k : Nat) (x y : Int) (hx : M.getD k 0 = x) (hy : M.getD (k - 1) 0 = y) :
    ((w.setCell ⟨g, k, none⟩ (.int .i64 y)).setCell ⟨g, k - 1, none⟩ (.int .i64 x)).ownsRow base e 1 (.slice (some ⟨g, 0, none⟩) n cap) n ((swp M k).map (.int .i64)) ∧
      w.grownBy ((w.setCell ⟨g, k, none⟩ (.int .i64 y)).setCell ⟨g, k - 1, none⟩ (.int .i64 x)) (some g) := by
  obtain ⟨h1, g1⟩ := h.stored k (.int .i64 y)
  obtain ⟨h2, g2⟩ := h1.stored (k - 1) (.int .i64 x)
  refine ⟨?_, g1.trans g2⟩
  unfold swp
  rw [hx, hy, List.map_set, List.map_set]
  exact h2
end Go.Proofs.YtcdilamkkodjjaaGreatDoor
