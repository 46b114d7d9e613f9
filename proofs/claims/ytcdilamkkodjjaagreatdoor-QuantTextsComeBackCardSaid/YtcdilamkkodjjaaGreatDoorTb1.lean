/- Several texts of this claim in one. -/
import Derived.Test.YtcdilamkkodjjaaGreatDoorDt2
import Derived.Test.YtcdilamkkodjjaaGreatDoorDt4
import Derived.Test.YtcdilamkkodjjaaGreatDoorSt3
import Derived.Test.YtcdilamkkodjjaaGreatDoorSt2
/- What is written is read as it was: digits and words (plain). -/
namespace Rd
open Go.Lib (decDigits itoa)
/-- what stands from p on begins with l -/
def Beg (s : ByteArray) (p : Nat) (l : List UInt8) : Prop := ∀ (i : Nat) (b : UInt8), l[i]? = some b → p + i < s.size ∧ byte s (p + i) = b.toNat
theorem sB_app (a b : ByteArray) : sB (a ++ b) = sB a ++ sB b := by unfold sB; rw [ByteArray.data_append, Array.toList_append]
theorem beg_of {s : ByteArray} {pre l post : List UInt8} (h : sB s = pre ++ (l ++ post)) {p : Nat} (hp : pre.length = p) : Beg s p l := fun i b hb => by
  subst hp
  have hi : i < l.length := (List.getElem?_eq_some_iff.1 hb).1
  have hsz : s.size = pre.length + (l.length + post.length) := by
    have e : (sB s).length = s.size := rfl
    rw [← e, h, List.length_append, List.length_append]
  have hlt : pre.length + i < s.size := by omega
  refine ⟨hlt, ?_⟩
  have hg := sB_get hlt
  rw [h, List.getElem?_append_right (by omega), show pre.length + i - pre.length = i by omega, List.getElem?_append_left hi, hb] at hg
  rw [byte_lt hlt]
  exact congrArg UInt8.toNat (Option.some.inj hg).symm
theorem Beg.tail {s : ByteArray} {p : Nat} {d : UInt8} {l : List UInt8} (h : Beg s p (d :: l)) : Beg s (p + 1) l := fun i b hb => by
  have := h (i + 1) b hb
  rwa [show p + (i + 1) = p + 1 + i by omega] at this
theorem Beg.head {s : ByteArray} {p : Nat} {d : UInt8} {l : List UInt8} (h : Beg s p (d :: l)) : p < s.size ∧ byte s p = d.toNat := by
  have := h 0 d rfl
  rwa [Nat.add_zero] at this
def AllD (l : List UInt8) : Prop := ∀ b, b ∈ l → 48 ≤ b.toNat ∧ b.toNat ≤ 57
theorem AllD.tail {d : UInt8} {l : List UInt8} (h : AllD (d :: l)) : AllD l := fun b hb => h b (List.mem_cons_of_mem _ hb)
theorem Beg.dig {s : ByteArray} {p : Nat} {d : UInt8} {l : List UInt8} (h : Beg s p (d :: l)) (hd : AllD (d :: l)) : digAt s p true = true := by
  obtain ⟨h1, h2⟩ := h.head
  have h3 := hd d (List.mem_cons_self ..)
  unfold digAt isD
  rw [h2]
  simp
  omega
/-- the number that digits add up to -/
def accD : Int → List UInt8 → Int
  | n, [] => n
  | n, d :: l => accD (10 * n + ((d.toNat : Int) - 48)) l
theorem accD_ge : ∀ (l : List UInt8) (n : Int), AllD l → 0 ≤ n → n ≤ accD n l
  | [], n, _, _ => Int.le_refl _
  | d :: l, n, h, hn => by
    have h1 := h d (List.mem_cons_self ..)
    have h2 := accD_ge l (10 * n + ((d.toNat : Int) - 48)) h.tail (by omega)
    rw [accD]
    omega
theorem accD_app : ∀ (l k : List UInt8) (n : Int), accD n (l ++ k) = accD (accD n l) k
  | [], _, _ => rfl
  | d :: l, k, n => by rw [List.cons_append, accD, accD, accD_app]
theorem numLoop_beg {s : ByteArray} {digits : Nat} {least most : Int} : ∀ (l : List UInt8) (f : Nat) (n : Int) (m p : Nat), AllD l → Beg s p l → 0 ≤ n → m + l.length ≤ digits → l.length ≤ f →
    (m + l.length = digits ∨ digAt s (p + l.length) true = false) → (l = [] ∨ n ≠ 0 ∨ (m = 0 ∧ (l.length ≤ 1 ∨ l.head? ≠ some 48))) → (least ≤ 0 ∨ l = [] ∨ n ≠ 0 ∨ l.head? ≠ some 48) → accD n l ≤ most →
    numLoop s digits least most true f n m p = (accD n l, m + l.length, p + l.length)
  | [], f, n, m, p, _, _, _, _, _, he, _, _, _ => by
    rw [numLoop_stop (fun h => by
      rcases he with he | he
      · have := h.1
        simp at he
        omega
      · simp at he
        rw [he] at h
        cases h.2)]
    rfl
  | d :: l, 0, n, m, p, _, _, _, _, hf, _, _, _, _ => by simp at hf
  | d :: l, f + 1, n, m, p, hD, hB, hn, hm, hf, he, hz, hlo, hmost => by
    obtain ⟨hp, hb⟩ := hB.head
    have hd := hD d (List.mem_cons_self ..)
    have hdig := hB.dig hD
    rw [accD] at hmost ⊢
    simp only [List.length_cons] at hm hf he ⊢
    have hge := accD_ge l (10 * n + ((d.toNat : Int) - 48)) hD.tail (by omega)
    have hd48 : (d :: l).head? ≠ some 48 → d.toNat ≠ 48 := fun h e => h (by
      show some d = some 48
      exact congrArg some (UInt8.toNat_inj.1 e))
    rw [numLoop_next ⟨by omega, hdig⟩ (by
      rw [hb]
      unfold stops
      simp only [Bool.or_eq_false_iff, Bool.and_eq_false_iff, decide_eq_false_iff_not]
      refine ⟨⟨?_, by omega⟩, ?_⟩
      · rcases hz with h | h | h
        · cases h
        · exact Or.inr h
        · exact Or.inl (by omega)
      · rcases hlo with h | h | h | h
        · exact Or.inr (by omega)
        · cases h
        · exact Or.inl (by omega)
        · have := hd48 h
          exact Or.inl (by omega)), hb]
    rw [numLoop_beg l f _ (m + 1) (p + 1) hD.tail hB.tail (by omega) (by omega) (by omega) (by
      rcases he with he | he
      · exact Or.inl (by omega)
      · exact Or.inr (by rw [show p + 1 + l.length = p + (l.length + 1) by omega]; exact he)) (by
      cases l with
      | nil => exact Or.inl rfl
      | cons d2 l2 =>
        refine Or.inr (Or.inl ?_)
        rcases hz with h | h | ⟨_, h | h⟩
        · cases h
        · omega
        · simp at h
        · have := hd48 h
          omega) (by
      rcases hlo with h | h | h | h
      · exact Or.inl h
      · cases h
      · exact Or.inr (Or.inr (Or.inl (by omega)))
      · have := hd48 h
        exact Or.inr (Or.inr (Or.inl (by omega)))) hmost]
    rw [show m + 1 + l.length = m + (l.length + 1) by omega, show p + 1 + l.length = p + (l.length + 1) by omega]
theorem rowLoop_beg {s : ByteArray} {k : Nat} : ∀ (l : List UInt8) (f : Nat) (n : Int) (m p : Nat), AllD l → Beg s p l → m + l.length ≤ k → l.length ≤ f →
    (m + l.length = k ∨ digAt s (p + l.length) true = false) → rowLoop s k true f n m p = (accD n l, m + l.length, p + l.length)
  | [], f, n, m, p, _, _, _, _, he => by
    have hx : ¬ (m < k ∧ digAt s p true = true) := fun h => by
      rcases he with he | he
      · have := h.1
        simp at he
        omega
      · simp at he
        rw [he] at h
        cases h.2
    cases f
    · rfl
    · rw [rowLoop, if_neg hx]
      rfl
  | d :: l, 0, n, m, p, _, _, _, hf, _ => by simp at hf
  | d :: l, f + 1, n, m, p, hD, hB, hm, hf, he => by
    simp only [List.length_cons] at hm hf he ⊢
    rw [rowLoop, if_pos ⟨by omega, hB.dig hD⟩, hB.head.2, rowLoop_beg l f _ (m + 1) (p + 1) hD.tail hB.tail (by omega) (by omega) (by
      rcases he with he | he
      · exact Or.inl (by omega)
      · exact Or.inr (by rw [show p + 1 + l.length = p + (l.length + 1) by omega]; exact he)), accD, show m + 1 + l.length = m + (l.length + 1) by omega, show p + 1 + l.length = p + (l.length + 1) by omega]
theorem rowAt_beg {s : ByteArray} {k p : Nat} {l : List UInt8} (hD : AllD l) (hB : Beg s p l) (hl : l.length ≤ k) (he : l.length = k ∨ digAt s (p + l.length) true = false) : rowAt s k true p = (accD 0 l, l.length, p + l.length) := by
  unfold rowAt
  rw [rowLoop_beg l k 0 0 p hD hB (by omega) hl (by rcases he with he | he; exact Or.inl (by omega); exact Or.inr he), Nat.zero_add]
theorem exactAt_beg {s t : ByteArray} {p : Nat} (h : Beg s p (sB t)) (hp : p + t.size ≤ s.size) : exactAt s t p true = (p + t.size, true) := by
  rw [exactAt_yes]
  obtain ⟨h1, h2⟩ := exactLoop_iff s t t.size 0 p (by omega) (by omega)
  have ok := h1.2 ⟨by omega, fun j hj => by
    have hj : j < t.size := by omega
    rw [Nat.zero_add, (h j _ (sB_get hj)).2, byte_lt hj]⟩
  exact Prod.ext (by rw [h2 ok, Nat.sub_zero]) ok
/-! ### numerals -/
theorem dgt_nat {d : Nat} (h : d < 10) : (dgt d).toNat = 48 + d := by
  unfold dgt
  rw [UInt8.toNat_ofNat']
  omega
theorem dec_all : ∀ k : Nat, AllD (decDigits k) ∧ accD 0 (decDigits k) = k ∧ (10 ≤ k ∨ (decDigits k).length ≤ 1) ∧ ((decDigits k).head? ≠ some 48 ∨ k = 0) ∧ decDigits k ≠ [] := by
  intro k
  induction k using Nat.strongRecOn with
  | _ k ih =>
    by_cases h : k < 10
    · rw [dig_one k h]
      have hd := dgt_nat h
      refine ⟨fun b hb => ?_, ?_, Or.inr (by simp), ?_, by simp⟩
      · simp only [List.mem_cons, List.not_mem_nil, or_false] at hb
        subst hb
        omega
      · rw [accD, accD, hd]
        omega
      · by_cases h0 : k = 0
        · exact Or.inr h0
        · refine Or.inl fun e => ?_
          have e : dgt k = 48 := Option.some.inj e
          have : (dgt k).toNat = 48 := by rw [e]; rfl
          omega
    · rw [dig_next k (by omega)]
      obtain ⟨a, b, c, d, e⟩ := ih (k / 10) (by omega)
      have hd := dgt_nat (show k % 10 < 10 by omega)
      refine ⟨fun x hx => ?_, ?_, Or.inl (by omega), ?_, by simp⟩
      · rcases List.mem_append.1 hx with hx | hx
        · exact a x hx
        · simp only [List.mem_cons, List.not_mem_nil, or_false] at hx
          subst hx
          omega
      · rw [accD_app, b, accD, accD, hd]
        omega
      · left
        rcases d with d | d
        · cases hl : decDigits (k / 10) with
          | nil => exact absurd hl e
          | cons x t =>
            rw [hl] at d
            exact d
        · omega
theorem sB_itoa (k : Nat) : sB (itoaB (k : Int)) = decDigits k := by
  show itoa (k : Int) = _
  unfold itoa
  rw [if_neg (by omega), Int.toNat_natCast]
theorem numAt_beg {s : ByteArray} {digits p k : Nat} {least most : Int} (hB : Beg s p (decDigits k)) (hl : (decDigits k).length ≤ digits) (hk : (k : Int) ≤ most) (h0 : least ≤ 0 ∨ 0 < k)
    (he : (decDigits k).length = digits ∨ digAt s (p + (decDigits k).length) true = false) : numAt s digits least most true p = ((k : Int), (decDigits k).length, p + (decDigits k).length) := by
  obtain ⟨a, b, c, d, e⟩ := dec_all k
  unfold numAt
  rw [numLoop_beg (decDigits k) digits 0 0 p a hB (by omega) (by omega) hl (by rcases he with he | he; exact Or.inl (by omega); exact Or.inr he) (by
    refine Or.inr (Or.inr ⟨rfl, ?_⟩)
    rcases c with c | c
    · rcases d with d | d
      · exact Or.inr d
      · omega
    · exact Or.inl c) (by
    rcases h0 with h | h
    · exact Or.inl h
    · rcases d with d | d
      · exact Or.inr (Or.inr (Or.inr d))
      · omega) (by rw [b]; exact hk), b, Nat.zero_add]
theorem dec_len (k j : Nat) (h : k < 10 ^ (j + 1)) : (decDigits k).length ≤ j + 1 := by
  induction j generalizing k with
  | zero => rw [dig_one k (by simpa using h)]; simp
  | succ j ih =>
    by_cases hk : k < 10
    · rw [dig_one k hk]; simp
    · rw [dig_next k (by omega), List.length_append]
      have := ih (k / 10) (by rw [Nat.pow_succ] at h; omega)
      simp only [List.length_cons, List.length_nil]
      omega
/-- two digits -/
theorem sB_pad {n : Nat} (h : n < 100) : sB (padB (n : Int)) = [dgt (n / 10), dgt (n % 10)] := by
  unfold padB
  by_cases h10 : n < 10
  · rw [if_pos (by omega), sB_app, sB_itoa, dig_one n h10, show n / 10 = 0 by omega, show n % 10 = n by omega]
    rfl
  · rw [if_neg (by omega), sB_itoa, dig_next n (by omega), dig_one (n / 10) (by omega)]
    rfl
theorem pairAt_beg {s : ByteArray} {p n : Nat} {most : Int} (h : n < 100) (hm : (n : Int) ≤ most) (hB : Beg s p [dgt (n / 10), dgt (n % 10)]) : pairAt s most p true = ((n : Int), p + 2, true) := by
  have hD : AllD [dgt (n / 10), dgt (n % 10)] := fun b hb => by
    simp only [List.mem_cons, List.not_mem_nil, or_false] at hb
    have a1 := dgt_nat (show n / 10 < 10 by omega)
    have a2 := dgt_nat (show n % 10 < 10 by omega)
    rcases hb with rfl | rfl <;> omega
  have d1 := hB.dig hD
  have d2 := hB.tail.dig hD.tail
  have b1 := hB.head.2
  have b2 := hB.tail.head.2
  rw [dgt_nat (by omega)] at b1 b2
  unfold pairAt
  have e : pairStep s most 10 (0, p, true) = (10 * ((n / 10 : Nat) : Int), p + 1, true) := by
    unfold pairStep
    rw [if_pos ⟨d1, by show (0 : Int) + 10 * ((byte s p : Int) - 48) ≤ most; omega⟩]
    simp only [b1]
    refine Prod.ext (by show (0 : Int) + 10 * (((48 + n / 10 : Nat) : Int) - 48) = _; omega) rfl
  rw [e]
  unfold pairStep
  rw [if_pos ⟨d2, by show 10 * ((n / 10 : Nat) : Int) + 1 * ((byte s (p + 1) : Int) - 48) ≤ most; omega⟩]
  simp only [b2]
  refine Prod.ext (by show 10 * ((n / 10 : Nat) : Int) + 1 * (((48 + n % 10 : Nat) : Int) - 48) = _; omega) rfl
end Rd

/- What is written of a duration, a pace or a distance is read as it was (plain). -/
namespace Rd
open Go.Lib (decDigits itoa)
theorem numLoop_far (s : ByteArray) (digits : Nat) (least most : Int) (ok : Bool) : ∀ (f : Nat) (n : Int) (m p : Nat), (numLoop s digits least most ok f n m p).2.2 ≤ p + f
  | 0, n, m, p => Nat.le_refl _
  | f + 1, n, m, p => by
    unfold numLoop
    split
    · split
      · show p ≤ _; omega
      · have := numLoop_far s digits least most ok f (10 * n + ((byte s p : Int) - 48)) (m + 1) (p + 1)
        omega
    · show p ≤ _; omega
theorem exactLoop_far (s t : ByteArray) : ∀ (f i p : Nat), (exactLoop s t f i p).1 ≤ p + f
  | 0, _, p => Nat.le_refl _
  | f + 1, i, p => by
    unfold exactLoop
    split
    · split
      · have := exactLoop_far s t f (i + 1) (p + 1); omega
      · show p ≤ _; omega
    · show p ≤ _; omega
theorem exactAt_far (s t : ByteArray) (p : Nat) (ok : Bool) : (exactAt s t p ok).1 ≤ p + t.size := by
  unfold exactAt
  split
  · exact exactLoop_far s t _ _ _
  · show p ≤ _; omega
theorem pairAt_far (s : ByteArray) (most : Int) (p : Nat) (ok : Bool) : (pairAt s most p ok).2.1 ≤ p + 2 := by
  have st : ∀ (u n : Int) (q : Nat) (b : Bool), (pairStep s most u (n, q, b)).2.1 ≤ q + 1 := fun u n q b => by
    unfold pairStep
    split
    · exact Nat.le_refl _
    · show q ≤ q + 1; omega
  have h1 := st 10 0 p ok
  have h2 := st 1 (pairStep s most 10 (0, p, ok)).1 (pairStep s most 10 (0, p, ok)).2.1 (pairStep s most 10 (0, p, ok)).2.2
  exact Nat.le_trans h2 (Nat.succ_le_succ h1)
theorem byte_after {s : ByteArray} {pre post : List UInt8} {c : UInt8} (h : sB s = pre ++ (c :: post)) {p : Nat} (hp : pre.length = p) : p < s.size ∧ byte s p = c.toNat := (beg_of (l := c :: post) (post := []) (by rw [List.append_nil]; exact h) hp).head
theorem no_dig {s : ByteArray} {p c : Nat} (h : p < s.size ∧ byte s p = c) (hc : c < 48 ∨ 57 < c) : digAt s p true = false := by
  unfold digAt isD
  rw [h.2]
  simp
  omega
theorem no_end {s : ByteArray} {p : Nat} (h : s.size ≤ p) : digAt s p true = false := by
  unfold digAt
  simp
  omega
theorem numOk_yes {least : Int} {k l p : Nat} (h : 0 < l) (h2 : least ≤ (k : Int)) : numOk least true ((k : Int), l, p) = true := by
  unfold numOk
  simp
  omega
theorem dec_pos (k : Nat) : 0 < (decDigits k).length := List.length_pos_iff.2 (dec_all k).2.2.2.2
theorem size_sB (s : ByteArray) : s.size = (sB s).length := rfl
/-- durations -/
theorem dur_back (n : Int) (h0 : 0 ≤ n) (h1 : n ≤ 3599999) : ranged (readForms (durText n) [shortF, longF, letteredF]) 0 3599999 = (n, 0, 0) := by
  have ok : ∀ F : ByteArray → Int × Nat × Bool, ∀ r, F (durText n) = (n, (durText n).size, true) → formsLoop (durText n) (F :: r) 0 = (n, 0, 0) := fun F r h => by
    unfold formsLoop
    rw [h]
    simp
  have rg : ∀ x, x = (n, 0, 0) → ranged x 0 3599999 = (n, 0, 0) := fun x hx => by
    subst hx
    unfold ranged
    rw [if_neg]
    rintro ⟨_, h2⟩
    have h2 : n < 0 ∨ 3599999 < n := h2
    omega
  obtain ⟨k, rfl⟩ := Int.eq_ofNat_of_zero_le h0
  by_cases hs : (k : Int) < 3600
  · have hT : durText (k : Int) = itoaB ((k / 60 : Nat) : Int) ++ colon ++ padB ((k % 60 : Nat) : Int) := by
      unfold durText
      rw [if_pos hs, show ((k : Int) / 60) = ((k / 60 : Nat) : Int) by omega, show ((k : Int) % 60) = ((k % 60 : Nat) : Int) by omega]
    have hL : sB (durText (k : Int)) = decDigits (k / 60) ++ (58 :: [dgt (k % 60 / 10), dgt (k % 60 % 10)]) := by
      rw [hT, sB_app, sB_app, sB_itoa, sB_pad (by omega), List.append_assoc]
      rfl
    obtain ⟨s, hse⟩ : ∃ s, durText (k : Int) = s := ⟨_, rfl⟩
    rw [hse] at hL ok ⊢
    have hlen : s.size = (decDigits (k / 60)).length + 3 := by rw [size_sB, hL, List.length_append]; rfl
    have hd2 := dec_len (k / 60) 1 (by omega)
    have hp := dec_pos (k / 60)
    obtain ⟨q, hq⟩ : ∃ q, (decDigits (k / 60)).length = q := ⟨_, rfl⟩
    have b0 : Beg s 0 (decDigits (k / 60)) := beg_of (pre := []) (l := decDigits (k / 60)) hL rfl
    have b1 : Beg s q (sB colon) := beg_of (pre := decDigits (k / 60)) (l := [58]) (post := [dgt (k % 60 / 10), dgt (k % 60 % 10)]) hL hq
    have b2 : Beg s (q + 1) [dgt (k % 60 / 10), dgt (k % 60 % 10)] := beg_of (pre := decDigits (k / 60) ++ [58]) (post := []) (by rw [hL, List.append_assoc]; rfl) (by rw [List.length_append, hq]; rfl)
    have e0 : numAt s 2 0 59 true 0 = (((k / 60 : Nat) : Int), q, q) := by
      rw [numAt_beg b0 hd2 (by omega) (Or.inl (Int.le_refl _)) (Or.inr (by rw [Nat.zero_add, hq]; exact no_dig (byte_after hL hq) (by decide))), hq, Nat.zero_add]
    have e1 : exactAt s colon q true = (q + 1, true) := exactAt_beg b1 (by show q + 1 ≤ _; omega)
    have e2 : pairAt s 59 (q + 1) true = (((k % 60 : Nat) : Int), q + 3, true) := pairAt_beg (by omega) (by omega) b2
    have hF : shortF s = ((k : Int), s.size, true) := by
      unfold shortF
      simp only [e0]
      rw [numOk_yes (by omega) (by omega), e1, e2]
      refine Prod.ext (by show 60 * ((k / 60 : Nat) : Int) + ((k % 60 : Nat) : Int) = k; omega) (Prod.ext (by show q + 3 = s.size; omega) rfl)
    refine rg _ ?_
    unfold readForms
    rw [if_neg (by omega)]
    exact ok shortF _ hF
  · have hT : durText (k : Int) = itoaB ((k / 3600 : Nat) : Int) ++ colon ++ padB ((k / 60 % 60 : Nat) : Int) ++ colon ++ padB ((k % 60 : Nat) : Int) := by
      unfold durText
      rw [if_neg hs, show ((k : Int) / 3600) = ((k / 3600 : Nat) : Int) by omega, show ((k : Int) / 60 % 60) = ((k / 60 % 60 : Nat) : Int) by omega, show ((k : Int) % 60) = ((k % 60 : Nat) : Int) by omega]
    obtain ⟨D, hD⟩ : ∃ D, decDigits (k / 3600) = D := ⟨_, rfl⟩
    have hL : sB (durText (k : Int)) = D ++ (58 :: dgt (k / 60 % 60 / 10) :: dgt (k / 60 % 60 % 10) :: 58 :: [dgt (k % 60 / 10), dgt (k % 60 % 10)]) := by
      rw [hT, sB_app, sB_app, sB_app, sB_app, sB_itoa, sB_pad (by omega), sB_pad (by omega), hD, List.append_assoc, List.append_assoc, List.append_assoc]
      rfl
    obtain ⟨s, hse⟩ : ∃ s, durText (k : Int) = s := ⟨_, rfl⟩
    rw [hse] at hL ok ⊢
    have hd2 := dec_len (k / 3600) 2 (by omega)
    have hp := dec_pos (k / 3600)
    rw [hD] at hd2 hp
    have hlen : s.size = D.length + 6 := by rw [size_sB, hL, List.length_append]; rfl
    obtain ⟨q, hq⟩ : ∃ q, D.length = q := ⟨_, rfl⟩
    have b0 : Beg s 0 (decDigits (k / 3600)) := beg_of (pre := []) (l := decDigits (k / 3600)) (by rw [hD]; exact hL) rfl
    have b1 : Beg s q (sB colon) := beg_of (pre := D) (l := [58]) (post := _) hL hq
    have b2 : Beg s (q + 1) [dgt (k / 60 % 60 / 10), dgt (k / 60 % 60 % 10)] := beg_of (pre := D ++ [58]) (post := 58 :: [dgt (k % 60 / 10), dgt (k % 60 % 10)]) (by rw [hL, List.append_assoc]; rfl) (by rw [List.length_append, hq]; rfl)
    have b3 : Beg s (q + 3) (sB colon) := beg_of (pre := D ++ [58, dgt (k / 60 % 60 / 10), dgt (k / 60 % 60 % 10)]) (l := [58]) (post := [dgt (k % 60 / 10), dgt (k % 60 % 10)]) (by rw [hL, List.append_assoc]; rfl) (by rw [List.length_append, hq]; rfl)
    have b4 : Beg s (q + 4) [dgt (k % 60 / 10), dgt (k % 60 % 10)] := beg_of (pre := D ++ [58, dgt (k / 60 % 60 / 10), dgt (k / 60 % 60 % 10), 58]) (post := []) (by rw [hL, List.append_assoc]; rfl) (by rw [List.length_append, hq]; rfl)
    have e0 : numAt s 3 1 999 true 0 = (((k / 3600 : Nat) : Int), q, q) := by
      rw [numAt_beg b0 (by rw [hD]; exact hd2) (by omega) (Or.inr (by omega)) (Or.inr (by rw [Nat.zero_add, hD, hq]; exact no_dig (byte_after hL hq) (by decide))), hD, hq, Nat.zero_add]
    have e1 : exactAt s colon q true = (q + 1, true) := exactAt_beg b1 (by show q + 1 ≤ _; omega)
    have e2 : pairAt s 59 (q + 1) true = (((k / 60 % 60 : Nat) : Int), q + 3, true) := pairAt_beg (by omega) (by omega) b2
    have e3 : exactAt s colon (q + 3) true = (q + 4, true) := exactAt_beg b3 (by show q + 4 ≤ _; omega)
    have e4 : pairAt s 59 (q + 4) true = (((k % 60 : Nat) : Int), q + 6, true) := pairAt_beg (by omega) (by omega) b4
    have hF : longF s = ((k : Int), s.size, true) := by
      unfold longF
      simp only [e0]
      rw [numOk_yes (by omega) (by omega), e1, e2]
      simp only
      rw [e3, e4]
      refine Prod.ext (by show 3600 * ((k / 3600 : Nat) : Int) + 60 * ((k / 60 % 60 : Nat) : Int) + ((k % 60 : Nat) : Int) = k; omega) (Prod.ext (by show q + 6 = s.size; omega) rfl)
    have hS : (shortF s).2.1 < s.size := by
      have f1 := numLoop_far s 2 0 59 true 2 0 0 0
      have f2 := exactAt_far s colon (numAt s 2 0 59 true 0).2.2 (numOk 0 true (numAt s 2 0 59 true 0))
      have f3 := pairAt_far s 59 (exactAt s colon (numAt s 2 0 59 true 0).2.2 (numOk 0 true (numAt s 2 0 59 true 0))).1 (exactAt s colon (numAt s 2 0 59 true 0).2.2 (numOk 0 true (numAt s 2 0 59 true 0))).2
      have f1 : (numAt s 2 0 59 true 0).2.2 ≤ 0 + 2 := f1
      have f2 : _ ≤ _ + 1 := f2
      show (pairAt s 59 (exactAt s colon (numAt s 2 0 59 true 0).2.2 (numOk 0 true (numAt s 2 0 59 true 0))).1 (exactAt s colon (numAt s 2 0 59 true 0).2.2 (numOk 0 true (numAt s 2 0 59 true 0))).2).2.1 < s.size
      omega
    refine rg _ ?_
    unfold readForms
    rw [if_neg (by omega)]
    unfold formsLoop
    have hw : ((shortF s).2.2 && decide ((shortF s).2.1 = s.size)) = false := by
      rw [decide_eq_false (by omega), Bool.and_false]
    rw [hw, if_neg (by simp)]
    unfold formsLoop
    rw [hF]
    simp
end Rd

/- What is written of a distance is read as it was (plain). -/
namespace Rd
open Go.Lib (decDigits itoa)
theorem fracB_all : ∀ k n : Nat, n < 10 ^ k → AllD (fracB k n) ∧ (fracB k n).length ≤ k ∧ ∀ a : Int, accD a (fracB k n) * ((10 ^ (k - (fracB k n).length) : Nat) : Int) = a * ((10 ^ k : Nat) : Int) + (n : Int)
  | 0, n, h => by
    have h : n < 1 := h
    refine ⟨fun b hb => (by cases hb), Nat.le_refl _, fun a => ?_⟩
    show a * ((1 : Nat) : Int) = a * ((1 : Nat) : Int) + (n : Int)
    omega
  | k + 1, n, h => by
    have hp : 0 < 10 ^ k := Nat.pow_pos (by omega)
    have hd : n / 10 ^ k < 10 := (Nat.div_lt_iff_lt_mul hp).2 (by rw [Nat.mul_comm, ← Nat.pow_succ]; exact h)
    have hdm := Nat.div_add_mod n (10 ^ k)
    obtain ⟨h1, h2, h3⟩ := fracB_all k (n % 10 ^ k) (Nat.mod_lt _ hp)
    rw [fracB]
    by_cases h0 : n = 0
    · rw [if_pos h0, h0]
      refine ⟨fun b hb => (by cases hb), Nat.zero_le _, fun a => ?_⟩
      show a * ((10 ^ (k + 1) : Nat) : Int) = _
      rw [Int.natCast_zero, Int.add_zero]
    · rw [if_neg h0]
      obtain ⟨d, hde⟩ : ∃ d, n / 10 ^ k = d := ⟨_, rfl⟩
      obtain ⟨r, hre⟩ : ∃ r, n % 10 ^ k = r := ⟨_, rfl⟩
      rw [hde] at hd hdm ⊢
      rw [hre] at h1 h2 h3 hdm ⊢
      have hdn := dgt_nat hd
      refine ⟨fun b hb => ?_, by rw [List.length_cons]; omega, fun a => ?_⟩
      · rcases List.mem_cons.1 hb with rfl | hb
        · omega
        · exact h1 b hb
      · rw [accD, List.length_cons, show k + 1 - ((fracB k r).length + 1) = k - (fracB k r).length by omega, h3, hdn, ← hdm, Nat.pow_succ]
        simp only [Int.natCast_add, Int.natCast_mul]
        rw [show ((48 : Nat) : Int) + (d : Int) - 48 = (d : Int) by omega, Int.add_mul, show 10 * a * ((10 ^ k : Nat) : Int) = a * (((10 ^ k : Nat) : Int) * ((10 : Nat) : Int)) by rw [Int.mul_comm 10 a, Int.mul_assoc, Int.mul_comm _ (((10 : Nat)) : Int)]; rfl, Int.mul_comm (d : Int), Int.add_assoc]
theorem exact_le {s w : ByteArray} {p : Nat} (hp : p ≤ s.size) : (exactAt s w p true).1 ≤ s.size := exactAt_le hp
theorem dist_core {s W : ByteArray} {q left k : Nat} (hq : q < 1000000) (hk : k ≤ 6) (hl : left < 10 ^ k) (_ : 0 < W.size)
    (hL : sB s = decDigits q ++ ((if left = 0 then [] else 46 :: fracB k left) ++ (32 :: sB W))) :
    ∃ (m : Nat) (N : Int), distNum s = ⟨N, m, s.size - W.size - 1, true⟩ ∧ N * ((10 ^ (k - m) : Nat) : Int) = (q : Int) * ((10 ^ k : Nat) : Int) + (left : Int) ∧ m ≤ k ∧
      distEnd s (distNum s) = (s.size - W.size, true) ∧ W.size + 1 ≤ s.size ∧ exactAt s W (s.size - W.size) true = (s.size, true) := by
  have hd := dec_len q 5 hq
  have hp := dec_pos q
  obtain ⟨D, hD⟩ : ∃ D, decDigits q = D := ⟨_, rfl⟩
  rw [hD] at hL hd hp
  obtain ⟨fa, fl, fv⟩ := fracB_all k left hl
  obtain ⟨fr, hfr⟩ : ∃ fr, fracB k left = fr := ⟨_, rfl⟩
  rw [hfr] at hL fa fl fv
  have hWl : (sB W).length = W.size := rfl
  -- the end
  have fin : ∀ (pre : List UInt8), sB s = pre ++ (32 :: sB W) → s.size - W.size - 1 = pre.length ∧ s.size - W.size = pre.length + 1 ∧ W.size + 1 ≤ s.size ∧ begAt s 32 pre.length true = true ∧ exactAt s blB pre.length true = (pre.length + 1, true) ∧ exactAt s W (pre.length + 1) true = (s.size, true) := fun pre h => by
    have hsz : s.size = pre.length + (W.size + 1) := by rw [size_sB, h, List.length_append, List.length_cons, hWl]
    have ha := byte_after h rfl
    have ha2 : byte s pre.length = 32 := ha.2
    refine ⟨by omega, by omega, by omega, by rw [begAt_iff]; simp [ha.1, ha2], by rw [blank_at, if_pos ⟨ha.1, ha2⟩], ?_⟩
    have hb : Beg s (pre.length + 1) (sB W) := beg_of (pre := pre ++ [32]) (post := []) (by rw [h, List.append_nil, List.append_assoc]; rfl) (by rw [List.length_append]; rfl)
    rw [exactAt_beg hb (by omega)]
    rw [show pre.length + 1 + W.size = s.size by omega]
  by_cases h0 : left = 0
  · rw [if_pos h0, List.nil_append] at hL
    obtain ⟨e1, e2, e3, e4, e5, e6⟩ := fin D hL
    have ha := byte_after hL rfl
    have ha2 : byte s D.length = 32 := ha.2
    have en : numAt s 7 0 9999999 true 0 = ((q : Int), D.length, D.length) := by
      rw [numAt_beg (k := q) (by rw [hD]; exact beg_of (pre := []) (post := _) hL rfl) (by rw [hD]; omega) (by omega) (Or.inl (Int.le_refl _)) (Or.inr (by rw [Nat.zero_add, hD]; exact no_dig ha (by decide))), hD, Nat.zero_add]
    have hN : distNum s = ⟨(q : Int), 0, s.size - W.size - 1, true⟩ := by
      unfold distNum
      simp only [en]
      rw [numOk_yes hp (by omega), begAt_iff, decide_eq_false (by omega), e1]
      rfl
    refine ⟨0, q, hN, ?_, Nat.zero_le _, ?_, e3, by rw [e2]; exact e6⟩
    · rw [h0, Int.natCast_zero, Int.add_zero]; rfl
    · rw [hN]
      unfold distEnd
      simp only
      rw [e1, e4, if_pos rfl, e5, e2]
  · rw [if_neg h0] at hL
    have hne : fr ≠ [] := by rw [← hfr]; exact fracB_ne (by omega) hl
    have hlp : 0 < fr.length := List.length_pos_iff.2 hne
    have hL2 : sB s = (D ++ (46 :: fr)) ++ (32 :: sB W) := by rw [hL, List.append_assoc]
    obtain ⟨e1, e2, e3, e4, e5, e6⟩ := fin (D ++ (46 :: fr)) hL2
    rw [List.length_append, List.length_cons] at e1 e2 e4 e5 e6
    have ha := byte_after (c := 46) (pre := D) (post := fr ++ (32 :: sB W)) hL rfl
    have ha2 : byte s D.length = 46 := ha.2
    have hb := byte_after hL2 rfl
    rw [List.length_append, List.length_cons] at hb
    have en : numAt s 7 0 9999999 true 0 = ((q : Int), D.length, D.length) := by
      rw [numAt_beg (k := q) (by rw [hD]; exact beg_of (pre := []) (post := _) hL rfl) (by rw [hD]; omega) (by omega) (Or.inl (Int.le_refl _)) (Or.inr (by rw [Nat.zero_add, hD]; exact no_dig ha (by decide))), hD, Nat.zero_add]
    have er : rowAt s 6 true (D.length + 1) = (accD 0 fr, fr.length, D.length + 1 + fr.length) := by
      refine rowAt_beg fa (beg_of (pre := D ++ [46]) (post := 32 :: sB W) (by rw [hL, List.append_assoc]; rfl) (by rw [List.length_append]; rfl)) (by omega) (Or.inr ?_)
      rw [show D.length + 1 + fr.length = D.length + (fr.length + 1) by omega]
      exact no_dig hb (by decide)
    have hN : distNum s = ⟨(q : Int) * 10 ^ fr.length + accD 0 fr, fr.length, s.size - W.size - 1, true⟩ := by
      unfold distNum
      simp only [en]
      rw [numOk_yes hp (by omega), begAt_iff, decide_eq_true ⟨ha.1, ha2⟩, if_pos rfl, dot_at, if_pos ⟨ha.1, ha2⟩, er]
      simp only [Bool.true_and]
      rw [decide_eq_true (show 1 ≤ fr.length by omega), e1, show D.length + (fr.length + 1) = D.length + 1 + fr.length by omega]
    refine ⟨fr.length, (q : Int) * 10 ^ fr.length + accD 0 fr, hN, ?_, fl, ?_, e3, by rw [e2]; exact e6⟩
    · have hv := fv 0
      rw [Int.zero_mul, Int.zero_add] at hv
      rw [Int.add_mul, hv, Int.mul_assoc]
      have e : (10 : Int) ^ fr.length * ((10 ^ (k - fr.length) : Nat) : Int) = ((10 ^ k : Nat) : Int) := by
        rw [show (10 : Int) ^ fr.length = ((10 ^ fr.length : Nat) : Int) by simp, ← Int.natCast_mul, ← Nat.pow_add, show fr.length + (k - fr.length) = k by omega]
      rw [e]
    · rw [hN]
      unfold distEnd
      simp only
      rw [e1, e4, if_pos rfl, e5, e2]
/-- a number that needs no rounding -/
theorem sc_whole {a num den n : Int} (ha : 0 ≤ a) (hn : 0 ≤ num) (hd : 1 ≤ den) (h0 : 0 ≤ n) (h1 : n ≤ 1000000000) (hs : a * num < 4611686018427387904) (h : a * num = n * den) : (Sc.sc a num den 4).1 = n := by
  rw [Sc.sc_eq (a' := n) (num' := 1) (den' := 1) (by omega) (by omega) ha h0 hn (by omega) hd (by omega) hs (by omega) (by rw [Int.mul_one, Int.mul_one, h])]
  obtain ⟨n, rfl⟩ := Int.eq_ofNat_of_zero_le h0
  rw [Sc.sc_small _ 1 1 _ (by omega) (by omega) (by omega) (by omega) (by simp; omega)]
  rw [show decide ((n : Int) < 0) = false by simp, Int.natAbs_natCast, show Int.toNat 1 = 1 from rfl, Nat.mul_one, Nat.div_one, Nat.mod_one]
  show Sc.sgn false (Sc.quo 4 false n 0 1) = (n : Int)
  unfold Sc.quo
  rw [if_neg (by omega)]
  rfl
theorem sB_rest (k left : Nat) : sB (restB k (left : Int)) = if left = 0 then [] else 46 :: fracB k left := by
  unfold restB
  by_cases h : left = 0
  · rw [if_pos (by omega), if_pos h]; rfl
  · rw [if_neg (by omega), if_neg h, Int.toNat_natCast, sB_app]; rfl
theorem distF_back {s W : ByteArray} {q left k n : Nat} {i : Int} (hq : q < 1000000) (hk : k ≤ 6) (hl : left < 10 ^ k) (hW : 0 < W.size)
    (hL : sB s = decDigits q ++ ((if left = 0 then [] else 46 :: fracB k left) ++ (32 :: sB W))) (hn : n = q * 10 ^ k + left) (hn9 : n ≤ 1000000000)
    (hi : Go.Lib.idxOfS [mB, kmB, ydB, miB] W = i) (hi0 : 0 ≤ i) (hns : distNumS i = ((10 ^ k : Nat) : Int)) (hds : distDenS i = 1) (hWs : W = mB ∨ W = kmB) : distF s = ((n : Int), s.size, true) := by
  obtain ⟨m, N, hN, hv, hm, hE, hs, hX⟩ := dist_core hq hk hl hW hL
  have hp : s.size - W.size ≤ s.size := Nat.sub_le _ _
  have hw : W = s.extract (s.size - W.size) s.size := by
    have h := exact_whole (w := W) hp
    rw [hX] at h
    simp only [Bool.true_and, decide_true] at h
    exact of_decide_eq_true h.symm
  have hfar : far4 s (s.size - W.size) = s.size := by
    have l1 := exact_le (w := mB) hp
    have l2 := exact_le (w := kmB) hp
    have l3 := exact_le (w := ydB) hp
    have l4 := exact_le (w := miB) hp
    unfold far4
    rcases hWs with e | e
    · have hX1 := congrArg Prod.fst hX
      rw [e] at hX1 hp l1 l2 l3 l4 ⊢
      simp only at hX1
      omega
    · have hX1 := congrArg Prod.fst hX
      rw [e] at hX1 hp l1 l2 l3 l4 ⊢
      simp only at hX1
      omega
  have hla : lastAt s [mB, kmB, ydB, miB] (s.size - W.size) true = (i, s.size, true) := by
    rw [last_four, ← hw, hi, hfar, decide_eq_true hi0]
  have hF : distF s = ((if (lastAt s [mB, kmB, ydB, miB] (distEnd s (distNum s)).1 (distEnd s (distNum s)).2).1 < 0 then 0 else (Sc.sc (distNum s).n (distNumS (lastAt s [mB, kmB, ydB, miB] (distEnd s (distNum s)).1 (distEnd s (distNum s)).2).1) (10 ^ (distNum s).many * distDenS (lastAt s [mB, kmB, ydB, miB] (distEnd s (distNum s)).1 (distEnd s (distNum s)).2).1) 4).1), (lastAt s [mB, kmB, ydB, miB] (distEnd s (distNum s)).1 (distEnd s (distNum s)).2).2.1, (lastAt s [mB, kmB, ydB, miB] (distEnd s (distNum s)).1 (distEnd s (distNum s)).2).2.2) := rfl
  rw [hF, hE]
  simp only
  rw [hla]
  simp only
  rw [if_neg (by omega), hN]
  simp only
  rw [hns, hds, Int.mul_one]
  have p1 : 0 < 10 ^ (k - m) := Nat.pow_pos (by omega)
  have p2 : 0 < 10 ^ m := Nat.pow_pos (by omega)
  have p3 : 10 ^ k ≤ 10 ^ 6 := Nat.pow_le_pow_right (by omega) hk
  have hv2 : N * ((10 ^ (k - m) : Nat) : Int) = (n : Int) := by rw [hv, hn, Int.natCast_add, Int.natCast_mul]
  have N0 : 0 ≤ N := by
    rcases Int.lt_or_le N 0 with h | h
    · have := Int.mul_neg_of_neg_of_pos h (show (0 : Int) < ((10 ^ (k - m) : Nat) : Int) by omega)
      omega
    · exact h
  obtain ⟨N, rfl⟩ := Int.eq_ofNat_of_zero_le N0
  have hv3 : N * 10 ^ (k - m) = n := by exact_mod_cast hv2
  have hle : N ≤ n := by rw [← hv3]; exact Nat.le_mul_of_pos_right _ p1
  have hsz : N * 10 ^ k ≤ 1000000000 * 10 ^ 6 := Nat.mul_le_mul (by omega) p3
  have hpw : ((10 : Int) ^ m) = ((10 ^ m : Nat) : Int) := by simp
  rw [hpw]
  have e : N * 10 ^ k = N * 10 ^ (k - m) * 10 ^ m := by rw [Nat.mul_assoc, ← Nat.pow_add, show k - m + m = k by omega]
  rw [sc_whole (n := (n : Int)) N0 (by omega) (by omega) (by omega) (by omega) (by rw [← Int.natCast_mul]; omega) (by rw [← hv3, ← Int.natCast_mul, ← Int.natCast_mul, e])]
theorem dist_size {s W : ByteArray} {q left k : Nat} (hq : q < 1000000) (hk : k ≤ 6) (hl : left < 10 ^ k) (hW : W.size ≤ 10)
    (hL : sB s = decDigits q ++ ((if left = 0 then [] else 46 :: fracB k left) ++ (32 :: sB W))) : s.size ≤ 1000 := by
  have hd := dec_len q 5 hq
  have hf := (fracB_all k left hl).2.1
  have hWl : (sB W).length = W.size := rfl
  have hr : (if left = 0 then [] else 46 :: fracB k left).length ≤ 7 := by
    by_cases h : left = 0
    · rw [if_pos h]; exact Nat.zero_le _
    · rw [if_neg h, List.length_cons]; omega
  rw [size_sB, hL, List.length_append, List.length_append, List.length_cons, hWl]
  omega
/-- distances -/
theorem dist_back (n : Int) (h0 : 0 ≤ n) (h1 : n ≤ 1000000000) : ranged (readForms (distText n) [distF]) 0 1000000000 = (n, 0, 0) := by
  have ok : ∀ s : ByteArray, s = distText n → s.size ≤ 1000 → distF s = (n, s.size, true) → ranged (readForms s [distF]) 0 1000000000 = (n, 0, 0) := fun s _ hz h => by
    unfold readForms
    rw [if_neg (by omega)]
    unfold formsLoop
    rw [h]
    unfold ranged
    simp
    omega
  obtain ⟨k, rfl⟩ := Int.eq_ofNat_of_zero_le h0
  by_cases hk : k < 10000
  · have hL : sB (distText (k : Int)) = decDigits (k / 10) ++ ((if k % 10 = 0 then [] else 46 :: fracB 1 (k % 10)) ++ (32 :: sB mB)) := by
      unfold distText
      rw [if_neg (by omega), show ((k : Int) / 10) = ((k / 10 : Nat) : Int) by omega, show ((k : Int) % 10) = ((k % 10 : Nat) : Int) by omega, sB_app, sB_app, sB_itoa, sB_rest, List.append_assoc]
      rfl
    refine ok _ rfl ?_ ?_
    · exact dist_size (k := 1) (W := mB) (by omega) (by omega) (by omega) (by decide) hL
    · exact distF_back (k := 1) (i := 0) (by omega) (by omega) (by omega) (by decide) hL (by omega) (by omega) (by rfl) (by omega) rfl rfl (Or.inl rfl)
  · have hL : sB (distText (k : Int)) = decDigits (k / 10000) ++ ((if k % 10000 = 0 then [] else 46 :: fracB 4 (k % 10000)) ++ (32 :: sB kmB)) := by
      unfold distText
      rw [if_pos (by omega), show ((k : Int) / 10000) = ((k / 10000 : Nat) : Int) by omega, show ((k : Int) % 10000) = ((k % 10000 : Nat) : Int) by omega, sB_app, sB_app, sB_itoa, sB_rest, List.append_assoc]
      rfl
    refine ok _ rfl ?_ ?_
    · exact dist_size (k := 4) (W := kmB) (by omega) (by omega) (by omega) (by decide) hL
    · exact distF_back (k := 4) (i := 1) (by omega) (by omega) (by omega) (by decide) hL (by omega) (by omega) (by rfl) (by omega) rfl rfl (Or.inr rfl)
end Rd

/- What is written of a pace or a day is read as it was (plain). -/
namespace Cal
theorem cum_find (y x : Int) (h0 : 0 ≤ x) : ∀ n : Nat, x < cum y n → ∃ k, k < n ∧ cum y k ≤ x ∧ x < cum y (k + 1)
  | 0, h => by
    have h : x < 0 := h
    omega
  | n + 1, h => by
    rcases Int.lt_or_le x (cum y n) with h2 | h2
    · obtain ⟨k, hk, e⟩ := cum_find y x h0 n h2
      exact ⟨k, by omega, e⟩
    · exact ⟨n, by omega, h2, h⟩
theorem date_there (day : Int) : dayNum (yearOf day) (monthOf day) (dateOf day) = day ∧ 1 ≤ monthOf day ∧ monthOf day ≤ 12 ∧ 1 ≤ dateOf day ∧ dateOf day ≤ 31 := by
  obtain ⟨h1, h2⟩ := yr_spec day
  have hy := yl_dn (yr day)
  obtain ⟨k, hk, a, b⟩ := cum_find (yr day) (day - dn (yr day)) (by omega) 12 (by rw [cum_all]; omega)
  obtain ⟨e1, e2⟩ := date_of (show k ≤ 11 by omega) a b
  have hm := (ml_bounds (yr day) ((k : Int) + 1)).2
  rw [cum_succ] at b
  rw [yearOf_yr, e1, e2]
  refine ⟨?_, by omega, by omega, by omega, by omega⟩
  rw [dayNum_cum (yr day) _ (show k ≤ 11 by omega)]
  omega
theorem year_there {day : Int} (h0 : 0 ≤ day) (h1 : day ≤ 999999) : 2000 ≤ yearOf day ∧ yearOf day ≤ 9999 := by
  obtain ⟨a, b⟩ := yr_spec day
  rw [yearOf_yr]
  have d0 := dn2000
  have d1 : 999999 < dn 10000 := by decide
  refine ⟨dn_lt (by omega), dn_lt (z := 9999) ?_⟩
  show dn (yr day) < dn 10000
  omega
theorem dayOf_there {day : Int} (h0 : 0 ≤ day) (h1 : day ≤ 999999) : dayOfF (yearOf day) (monthOf day) (dateOf day) = (day, 0) := by
  obtain ⟨e, m1, m2, d1, d2⟩ := date_there day
  obtain ⟨y1, y2⟩ := year_there h0 h1
  unfold dayOfF
  rw [e, if_pos ⟨⟨y1, y2, m1, m2, d1, d2⟩, ⟨h0, h1⟩, rfl, rfl, rfl⟩]
end Cal
namespace Rd
open Go.Lib (decDigits itoa)
theorem dec_four {y : Nat} (h0 : 1000 ≤ y) (h1 : y ≤ 9999) : (decDigits y).length = 4 := by
  have h := dec_len y 3 (by omega)
  have hp := dec_pos (y / 10 / 10 / 10)
  rw [dig_next y (by omega), dig_next (y / 10) (by omega), dig_next (y / 10 / 10) (by omega)] at h ⊢
  simp only [List.length_append, List.length_cons, List.length_nil] at h ⊢
  omega
theorem two_all {n : Nat} (h : n < 100) : AllD [dgt (n / 10), dgt (n % 10)] ∧ accD 0 [dgt (n / 10), dgt (n % 10)] = (n : Int) := by
  have h1 := dgt_nat (show n / 10 < 10 by omega)
  have h2 := dgt_nat (show n % 10 < 10 by omega)
  refine ⟨fun b hb => ?_, ?_⟩
  · rcases List.mem_cons.1 hb with rfl | hb
    · omega
    · rcases List.mem_cons.1 hb with rfl | hb
      · omega
      · cases hb
  · simp only [accD, h1, h2]
    omega
/-- paces -/
theorem pace_back {s : ByteArray} {k : Nat} (h1 : 1 ≤ k) (h2 : k ≤ 36000) (hL : sB s = decDigits (k / 60) ++ (58 :: dgt (k % 60 / 10) :: dgt (k % 60 % 10) :: 47 :: [107, 109])) : ranged (readForms s [timedF, speedF]) 1 36000 = ((k : Int), 0, 0) := by
  obtain ⟨D, hD⟩ : ∃ D, decDigits (k / 60) = D := ⟨_, rfl⟩
  have hd := dec_len (k / 60) 2 (by omega)
  have hp := dec_pos (k / 60)
  rw [hD] at hL hd hp
  have hlen : s.size = D.length + 6 := by rw [size_sB, hL, List.length_append]; rfl
  obtain ⟨q, hq⟩ : ∃ q, D.length = q := ⟨_, rfl⟩
  have b1 : Beg s q (sB colon) := beg_of (pre := D) (l := [58]) (post := _) hL hq
  have b2 : Beg s (q + 1) [dgt (k % 60 / 10), dgt (k % 60 % 10)] := beg_of (pre := D ++ [58]) (post := 47 :: [107, 109]) (by rw [hL, List.append_assoc]; rfl) (by rw [List.length_append, hq]; rfl)
  have b3 : Beg s (q + 3) (sB slashB) := beg_of (pre := D ++ [58, dgt (k % 60 / 10), dgt (k % 60 % 10)]) (l := [47]) (post := [107, 109]) (by rw [hL, List.append_assoc]; rfl) (by rw [List.length_append, hq]; rfl)
  have b4 : Beg s (q + 4) (sB kmB) := beg_of (pre := D ++ [58, dgt (k % 60 / 10), dgt (k % 60 % 10), 47]) (l := [107, 109]) (post := []) (by rw [hL, List.append_assoc]; rfl) (by rw [List.length_append, hq]; rfl)
  have e0 : numAt s 3 0 999 true 0 = (((k / 60 : Nat) : Int), q, q) := by
    rw [numAt_beg (k := k / 60) (by rw [hD]; exact beg_of (pre := []) (post := _) hL rfl) (by rw [hD]; omega) (by omega) (Or.inl (Int.le_refl _)) (Or.inr (by rw [Nat.zero_add, hD, hq]; exact no_dig (byte_after hL hq) (by decide))), hD, Nat.zero_add, hq]
  have e1 : exactAt s colon q true = (q + 1, true) := exactAt_beg b1 (by show q + 1 ≤ _; omega)
  have e2 : pairAt s 59 (q + 1) true = (((k % 60 : Nat) : Int), q + 3, true) := pairAt_beg (by omega) (by omega) b2
  have e3 : exactAt s slashB (q + 3) true = (q + 4, true) := exactAt_beg b3 (by show q + 3 + 1 ≤ _; omega)
  have e4 : exactAt s kmB (q + 4) true = (q + 6, true) := exactAt_beg b4 (by show q + 4 + 2 ≤ _; omega)
  have hw : kmB = s.extract (q + 4) s.size := by
    have h := exact_whole (s := s) (w := kmB) (p := q + 4) (by omega)
    rw [e4, hlen, hq] at h
    simp only [Bool.true_and, decide_true] at h
    rw [hlen, hq]
    exact of_decide_eq_true h.symm
  have l2 := exactAt_le (s := s) (t := miB) (p := q + 4) (ok := true) (by omega)
  have l3 := exactAt_le (s := s) (t := hmB) (p := q + 4) (ok := true) (by omega)
  have hla : lastAt s [kmB, miB, hmB] (q + 4) true = (0, s.size, true) := by
    have e : lastAt s [kmB, miB, hmB] (q + 4) true = (Go.Lib.idxOfS [kmB, miB, hmB] (s.extract (q + 4) s.size), max (max (max (q + 4) (exactAt s kmB (q + 4) true).1) (exactAt s miB (q + 4) true).1) (exactAt s hmB (q + 4) true).1, decide (0 ≤ Go.Lib.idxOfS [kmB, miB, hmB] (s.extract (q + 4) s.size))) := rfl
    rw [e, ← hw, idx_three, if_pos rfl, e4]
    refine Prod.ext rfl (Prod.ext ?_ rfl)
    show max (max (max (q + 4) (q + 6)) (exactAt s miB (q + 4) true).1) (exactAt s hmB (q + 4) true).1 = s.size
    omega
  have hF : timedF s = ((k : Int), s.size, true) := by
    unfold timedF
    simp only [e0]
    rw [numOk_yes (by omega) (by omega), e1, e2]
    simp only
    rw [e3]
    simp only
    rw [hla]
    refine Prod.ext ?_ rfl
    show 60 * ((k / 60 : Nat) : Int) + ((k % 60 : Nat) : Int) = k
    omega
  unfold readForms
  rw [if_neg (by omega)]
  unfold formsLoop
  rw [hF]
  unfold ranged
  simp
  omega
/-- days -/
theorem date_back_list {s : ByteArray} {y m d : Nat} {post : List UInt8} (y0 : 1000 ≤ y) (y1 : y ≤ 9999) (hm : m < 100) (hd : d < 100) (hL : sB s = decDigits y ++ (45 :: dgt (m / 10) :: dgt (m % 10) :: 45 :: dgt (d / 10) :: dgt (d % 10) :: post)) :
    rowAt s 4 true 0 = ((y : Int), 4, 4) ∧ exactAt s dash 4 true = (5, true) ∧ rowAt s 2 true 5 = ((m : Int), 2, 7) ∧ exactAt s dash 7 true = (8, true) ∧ rowAt s 2 true 8 = ((d : Int), 2, 10) := by
  have hq := dec_four y0 y1
  obtain ⟨a1, a2, _⟩ := dec_all y
  obtain ⟨D, hD⟩ : ∃ D, decDigits y = D := ⟨_, rfl⟩
  rw [hD] at hL hq a1 a2
  have hlen : s.size = 10 + post.length := by
    rw [size_sB, hL, List.length_append, hq]
    simp only [List.length_cons]
    omega
  obtain ⟨m1, m2⟩ := two_all hm
  obtain ⟨d1, d2⟩ := two_all hd
  refine ⟨?_, ?_, ?_, ?_, ?_⟩
  · rw [rowAt_beg (p := 0) (k := 4) (l := D) a1 (beg_of (pre := []) (post := _) hL rfl) (by omega) (Or.inl hq), a2, hq]
  · exact exactAt_beg (s := s) (t := dash) (p := 4) (beg_of (pre := D) (l := [45]) (post := _) hL hq) (by show 4 + 1 ≤ _; omega)
  · rw [rowAt_beg (p := 5) (k := 2) (l := [dgt (m / 10), dgt (m % 10)]) m1 (beg_of (pre := D ++ [45]) (post := 45 :: dgt (d / 10) :: dgt (d % 10) :: post) (by rw [hL, List.append_assoc]; rfl) (by rw [List.length_append, hq]; rfl)) (Nat.le_refl _) (Or.inl rfl), m2]
    rfl
  · exact exactAt_beg (s := s) (t := dash) (p := 7) (beg_of (pre := D ++ [45, dgt (m / 10), dgt (m % 10)]) (l := [45]) (post := dgt (d / 10) :: dgt (d % 10) :: post) (by rw [hL, List.append_assoc]; rfl) (by rw [List.length_append, hq]; rfl)) (by show 7 + 1 ≤ _; omega)
  · rw [rowAt_beg (p := 8) (k := 2) (l := [dgt (d / 10), dgt (d % 10)]) d1 (beg_of (pre := D ++ [45, dgt (m / 10), dgt (m % 10), 45]) (post := post) (by rw [hL, List.append_assoc]; rfl) (by rw [List.length_append, hq]; rfl)) (Nat.le_refl _) (Or.inl rfl), d2]
    rfl
theorem date_back {s : ByteArray} {day : Int} {y m d : Nat} (h0 : 0 ≤ day) (h1 : day ≤ 999999) (ey : Cal.yearOf day = y) (em : Cal.monthOf day = m) (ed : Cal.dateOf day = d)
    (hL : sB s = decDigits y ++ (45 :: dgt (m / 10) :: dgt (m % 10) :: 45 :: dgt (d / 10) :: [dgt (d % 10)])) : ranged (readForms s [dateF]) 0 999999 = (day, 0, 0) := by
  obtain ⟨_, m1, m2, d1, d2⟩ := Cal.date_there day
  obtain ⟨y1, y2⟩ := Cal.year_there h0 h1
  have hT := Cal.dayOf_there h0 h1
  rw [ey] at y1 y2 hT
  rw [em] at m1 m2 hT
  rw [ed] at d1 d2 hT
  obtain ⟨e1, e2, e3, e4, e5⟩ := date_back_list (post := []) (show 1000 ≤ y by omega) (show y ≤ 9999 by omega) (show m < 100 by omega) (show d < 100 by omega) hL
  have hlen : s.size = 10 := by rw [size_sB, hL, List.length_append, dec_four (show 1000 ≤ y by omega) (show y ≤ 9999 by omega)]; rfl
  have hF : dateF s = (day, s.size, true) := by
    unfold dateF
    simp only [e1]
    rw [show decide (4 ≤ 4) = true from rfl, e2]
    simp only [e3]
    rw [show (true && decide (2 ≤ 2)) = true from rfl, e4]
    simp only [e5]
    rw [hT, hlen]
    rfl
  unfold readForms
  rw [if_neg (by omega)]
  unfold formsLoop
  rw [hF]
  unfold ranged
  simp
  omega
end Rd

/- What is written of a moment is read as it was (plain). -/
namespace Rd
open Go.Lib (decDigits itoa)
theorem stamp_read {s : ByteArray} {day : Int} {y m d h n x : Nat} (h0 : 0 ≤ day) (h1 : day ≤ 999999) (ey : Cal.yearOf day = y) (em : Cal.monthOf day = m) (ed : Cal.dateOf day = d) (hh : h ≤ 23) (hn : n ≤ 59) (hx : x ≤ 59)
    (hL : sB s = decDigits y ++ (45 :: dgt (m / 10) :: dgt (m % 10) :: 45 :: dgt (d / 10) :: dgt (d % 10) :: 32 :: dgt (h / 10) :: dgt (h % 10) :: 58 :: dgt (n / 10) :: dgt (n % 10) :: 58 :: [dgt (x / 10), dgt (x % 10)])) :
    ranged (readForms s [stampF]) 0 86399999999 = (day * 86400 + (3600 * (h : Int) + 60 * (n : Int) + (x : Int)), 0, 0) := by
  obtain ⟨_, m1, m2, d1, d2⟩ := Cal.date_there day
  obtain ⟨y1, y2⟩ := Cal.year_there h0 h1
  have hT := Cal.dayOf_there h0 h1
  rw [ey] at y1 y2 hT
  rw [em] at m1 m2 hT
  rw [ed] at d1 d2 hT
  obtain ⟨e1, e2, e3, e4, e5⟩ := date_back_list (post := 32 :: dgt (h / 10) :: dgt (h % 10) :: 58 :: dgt (n / 10) :: dgt (n % 10) :: 58 :: [dgt (x / 10), dgt (x % 10)]) (show 1000 ≤ y by omega) (show y ≤ 9999 by omega) (show m < 100 by omega) (show d < 100 by omega) hL
  have hD := dec_four (show 1000 ≤ y by omega) (show y ≤ 9999 by omega)
  obtain ⟨D, hDe⟩ : ∃ D, decDigits y = D := ⟨_, rfl⟩
  rw [hDe] at hL hD
  have hlen : s.size = 19 := by rw [size_sB, hL, List.length_append, hD]; rfl
  have hF : dateF s = (day, 10, true) := by
    unfold dateF
    simp only [e1]
    rw [show decide (4 ≤ 4) = true from rfl, e2]
    simp only [e3]
    rw [show (true && decide (2 ≤ 2)) = true from rfl, e4]
    simp only [e5]
    rw [hT]
    rfl
  have b0 : Beg s 10 (sB ⟨#[32]⟩) := beg_of (pre := D ++ [45, dgt (m / 10), dgt (m % 10), 45, dgt (d / 10), dgt (d % 10)]) (l := [32]) (post := dgt (h / 10) :: dgt (h % 10) :: 58 :: dgt (n / 10) :: dgt (n % 10) :: 58 :: [dgt (x / 10), dgt (x % 10)]) (by rw [hL, List.append_assoc]; rfl) (by rw [List.length_append, hD]; rfl)
  have b1 : Beg s 11 [dgt (h / 10), dgt (h % 10)] := beg_of (pre := D ++ [45, dgt (m / 10), dgt (m % 10), 45, dgt (d / 10), dgt (d % 10), 32]) (post := 58 :: dgt (n / 10) :: dgt (n % 10) :: 58 :: [dgt (x / 10), dgt (x % 10)]) (by rw [hL, List.append_assoc]; rfl) (by rw [List.length_append, hD]; rfl)
  have b2 : Beg s 13 (sB colon) := beg_of (pre := D ++ [45, dgt (m / 10), dgt (m % 10), 45, dgt (d / 10), dgt (d % 10), 32, dgt (h / 10), dgt (h % 10)]) (l := [58]) (post := dgt (n / 10) :: dgt (n % 10) :: 58 :: [dgt (x / 10), dgt (x % 10)]) (by rw [hL, List.append_assoc]; rfl) (by rw [List.length_append, hD]; rfl)
  have b3 : Beg s 14 [dgt (n / 10), dgt (n % 10)] := beg_of (pre := D ++ [45, dgt (m / 10), dgt (m % 10), 45, dgt (d / 10), dgt (d % 10), 32, dgt (h / 10), dgt (h % 10), 58]) (post := 58 :: [dgt (x / 10), dgt (x % 10)]) (by rw [hL, List.append_assoc]; rfl) (by rw [List.length_append, hD]; rfl)
  have b4 : Beg s 16 (sB colon) := beg_of (pre := D ++ [45, dgt (m / 10), dgt (m % 10), 45, dgt (d / 10), dgt (d % 10), 32, dgt (h / 10), dgt (h % 10), 58, dgt (n / 10), dgt (n % 10)]) (l := [58]) (post := [dgt (x / 10), dgt (x % 10)]) (by rw [hL, List.append_assoc]; rfl) (by rw [List.length_append, hD]; rfl)
  have b5 : Beg s 17 [dgt (x / 10), dgt (x % 10)] := beg_of (pre := D ++ [45, dgt (m / 10), dgt (m % 10), 45, dgt (d / 10), dgt (d % 10), 32, dgt (h / 10), dgt (h % 10), 58, dgt (n / 10), dgt (n % 10), 58]) (post := []) (by rw [hL, List.append_assoc]; rfl) (by rw [List.length_append, hD]; rfl)
  have f0 : exactAt s ⟨#[32]⟩ 10 true = (11, true) := exactAt_beg b0 (by rw [hlen]; decide)
  have f1 : pairAt s 23 11 true = ((h : Int), 13, true) := pairAt_beg (by omega) (by omega) b1
  have f2 : exactAt s colon 13 true = (14, true) := exactAt_beg b2 (by rw [hlen]; decide)
  have f3 : pairAt s 59 14 true = ((n : Int), 16, true) := pairAt_beg (by omega) (by omega) b3
  have f4 : exactAt s colon 16 true = (17, true) := exactAt_beg b4 (by rw [hlen]; decide)
  have f5 : pairAt s 59 17 true = ((x : Int), 19, true) := pairAt_beg (by omega) (by omega) b5
  have hS : stF s 10 true = (3600 * (h : Int) + 60 * (n : Int) + (x : Int), 19, true) := by
    unfold stF
    simp only [f0, f1, f2, f3, f4, f5]
    refine Prod.ext ?_ rfl
    show 60 * (60 * (60 * 0 + (h : Int)) + (n : Int)) + (x : Int) = _
    omega
  have hSF : stampF s = (day * 86400 + (3600 * (h : Int) + 60 * (n : Int) + (x : Int)), s.size, true) := by
    unfold stampF
    rw [hF]
    simp only
    rw [hS, if_neg (by omega), hlen]
  unfold readForms
  rw [if_neg (by omega)]
  unfold formsLoop
  rw [hSF]
  unfold ranged
  simp
  omega
end Rd

/- ReadPace of the reference. -/
namespace Go.Proofs.YtcdilamkkodjjaaGreatDoor
open Go.RowKit Go.BigFrame
open Rd (paceT refPace paceVal firstT matchT numT litT pairT partT mT hT hdT tok0 Tok TokOk kmB miB hmB kmhB dotB slashB colon)

def mPre : List Tok := [numT 0 999 3, litT colon, pairT 59, litT slashB]
theorem pace_ok : ∀ f, f ∈ paceT → (∀ t, t ∈ f → TokOk t) ∧ f.length ≤ 6 ∧ 0 < f.length := by
  have hn : TokOk (numT 0 999 3) := Or.inr (Or.inl ⟨rfl, Or.inl rfl, by decide, by decide, by decide⟩)
  have hl : ∀ x : ByteArray, x.size ≤ 100 → TokOk (litT x) := fun x h => Or.inl ⟨rfl, h⟩
  have hp : TokOk (pairT 59) := Or.inr (Or.inr (Or.inl ⟨rfl, by decide, by decide⟩))
  have hq : TokOk (partT 1) := Or.inr (Or.inr (Or.inr ⟨rfl, by decide⟩))
  have hm : ∀ x : ByteArray, x.size ≤ 100 → (∀ t, t ∈ mT x → TokOk t) ∧ (mT x).length ≤ 6 ∧ 0 < (mT x).length := fun x hx => ⟨fun t ht => by
    simp only [mT, List.mem_cons, List.not_mem_nil, or_false] at ht
    rcases ht with rfl | rfl | rfl | rfl | rfl
    · exact hn
    · exact hl _ (by decide)
    · exact hp
    · exact hl _ (by decide)
    · exact hl _ hx, show 5 ≤ 6 by omega, show 0 < 5 by omega⟩
  intro f hf
  simp only [paceT, List.mem_cons, List.not_mem_nil, or_false] at hf
  rcases hf with rfl | rfl | rfl | rfl | rfl
  · exact hm _ (by decide)
  · exact hm _ (by decide)
  · exact hm _ (by decide)
  · refine ⟨fun t ht => ?_, by decide, by decide⟩
    simp only [hT, List.mem_cons, List.not_mem_nil, or_false] at ht
    rcases ht with rfl | rfl
    · exact hn
    · exact hl _ (by decide)
  · refine ⟨fun t ht => ?_, by decide, by decide⟩
    simp only [hdT, List.mem_cons, List.not_mem_nil, or_false] at ht
    rcases ht with rfl | rfl | rfl | rfl
    · exact hn
    · exact hl _ (by decide)
    · exact hq
    · exact hl _ (by decide)
theorem row_small (s : ByteArray) (p : Nat) : 0 ≤ (Rd.rowAt s 1 true p).1 * 10 ^ (1 - (Rd.rowAt s 1 true p).2.1) ∧ (Rd.rowAt s 1 true p).1 * 10 ^ (1 - (Rd.rowAt s 1 true p).2.1) ≤ 999 := by
  unfold Rd.rowAt
  by_cases h : Rd.digAt s p true = true
  · obtain ⟨_, _, h48, h57⟩ := Rd.digAt_true h
    rw [Rd.rowLoop, if_pos ⟨by omega, h⟩]
    show 0 ≤ (10 * 0 + ((Rd.byte s p : Int) - 48)) * 10 ^ (1 - 1) ∧ (10 * 0 + ((Rd.byte s p : Int) - 48)) * 10 ^ (1 - 1) ≤ 999
    simp
    omega
  · rw [Rd.rowLoop, if_neg (fun x => h x.2)]
    show (0 : Int) ≤ 0 * 10 ^ (1 - 0) ∧ (0 : Int) * 10 ^ (1 - 0) ≤ 999
    omega
/-- what a pace's values are like -/
theorem pace_vals {s : ByteArray} (h : 0 ≤ (firstT s paceT 0 0).1) : ∃ k : Nat, (firstT s paceT 0 0).1 = (k : Int) ∧ k < 5 ∧ (k ≠ 3 → ∃ a b, (firstT s paceT 0 0).2.1 = [a, b] ∧ (0 ≤ a ∧ a ≤ 999) ∧ 0 ≤ b ∧ b ≤ 999) ∧ (k = 3 → ∃ a, (firstT s paceT 0 0).2.1 = [a] ∧ 0 ≤ a ∧ a ≤ 999) := by
  obtain ⟨k, f, h1, h2, h3, h4⟩ := Rd.firstT_len paceT h
  have hk : k < 5 := (List.getElem?_eq_some_iff.1 h1).1
  rw [h4]
  have hl := Rd.matchT_len f 0 h3
  have sn : Rd.Small 999 (numT 0 999 3) := Or.inr ⟨Or.inl rfl, by decide, by decide⟩
  have sp : Rd.Small 999 (pairT 59) := Or.inr ⟨Or.inr rfl, by decide, by decide⟩
  have sl : ∀ x, Rd.Small 999 (litT x) := fun x => Or.inl rfl
  have two : ∀ L : List Int, L.length = 2 → (∀ v, v ∈ L → 0 ≤ v ∧ v ≤ 999) → ∃ a b, L = [a, b] ∧ (0 ≤ a ∧ a ≤ 999) ∧ 0 ≤ b ∧ b ≤ 999 := fun L hL hv => by
    match L, hL with
    | [a, b], _ => exact ⟨a, b, rfl, hv a (by simp), hv b (by simp)⟩
  have hm : ∀ x, (matchT s (mT x) 0).2.1.length = Rd.nVals (mT x) → ∃ a b, (matchT s (mT x) 0).2.1 = [a, b] ∧ (0 ≤ a ∧ a ≤ 999) ∧ 0 ≤ b ∧ b ≤ 999 := fun x hx => two _ hx (Rd.matchT_vals (M := 999) (mT x) 0 (fun t ht => by
    simp only [mT, List.mem_cons, List.not_mem_nil, or_false] at ht
    rcases ht with rfl | rfl | rfl | rfl | rfl
    · exact sn
    · exact sl _
    · exact sp
    · exact sl _
    · exact sl _))
  refine ⟨k, h2, hk, ?_, ?_⟩
  · intro hk3
    rcases (show k = 0 ∨ k = 1 ∨ k = 2 ∨ k = 4 by omega) with rfl | rfl | rfl | rfl
    · injection h1 with h1
      subst h1
      exact hm _ hl
    · injection h1 with h1
      subst h1
      exact hm _ hl
    · injection h1 with h1
      subst h1
      exact hm _ hl
    · injection h1 with h1
      subst h1
      have hv := Rd.numAt_val s 3 0 999 true 0 (by omega)
      unfold hdT at h3 ⊢
      rw [Rd.matchT_num] at h3 ⊢
      split at h3
      · rename_i c1
        rw [if_pos c1]
        simp only at h3 ⊢
        rw [Rd.matchT_lit] at h3 ⊢
        split at h3
        · rename_i c2
          rw [if_pos c2]
          rw [Rd.matchT_part] at h3 ⊢
          split at h3
          · rename_i c3
            rw [if_pos c3]
            simp only at h3 ⊢
            have hr := row_small s (Rd.exactAt s dotB (Rd.numAt s 3 0 999 true 0).2.2 true).1
            refine ⟨_, _, ?_, ⟨hv.1, hv.2⟩, hr⟩
            rw [Rd.matchT_lit]
            split <;> simp [matchT]
          · cases h3
        · cases h3
      · cases h3
  · rintro rfl
    injection h1 with h1
    subst h1
    have hv := Rd.matchT_vals (s := s) (M := 999) hT 0 (fun t ht => by
      simp only [hT, List.mem_cons, List.not_mem_nil, or_false] at ht
      rcases ht with rfl | rfl
      · exact sn
      · exact sl _)
    match hL : (matchT s hT 0).2.1, hl with
    | [a], _ =>
      rw [hL] at hv
      exact ⟨a, rfl, hv a (by simp)⟩
end Go.Proofs.YtcdilamkkodjjaaGreatDoor

/- PaceOf, SpeedOf, TimeFor, PaceText of both. -/
namespace Go.Proofs.YtcdilamkkodjjaaGreatDoor
open Go.RowKit Go.BigFrame
open Rd (itoaB padB)

def paceB (n : Int) : Bool := decide (1 ≤ n) && decide (n ≤ 36000)
theorem isPaceP_any (n : Int) (w : World) : Calls Tryz.prog 54 #[.int .i64 n] w fun e w' => e = .returned (.bool (paceB n)) ∧ w = w' := by
  unfold paceB
  by_cases h1 : 1 ≤ n
  · have a1 : decide (1 ≤ n) = true := by simpa using h1
    have a2 : decide (n ≥ 1) = true := by simpa using h1
    obtain ⟨b, hb⟩ : ∃ b, decide (n ≤ 36000) = b := ⟨_, rfl⟩
    cases b
    all_goals
      go_enter Tryz.func54, Tryz.ntmps54
      go_wp2
      go_ret
      exact ⟨by first | rfl | (rw [a1, hb]; rfl) | simp_all, rfl⟩
  · have a1 : decide (1 ≤ n) = false := by simpa using h1
    have a2 : decide (n ≥ 1) = false := by simpa using h1
    go_enter Tryz.func54, Tryz.ntmps54
    go_wp2
    go_ret
    exact ⟨by first | rfl | (rw [a1]; rfl), rfl⟩
def okWay (d s : Int) : Bool := decide (1 ≤ d) && decide (d ≤ 1000000000) && (decide (1 ≤ s) && decide (s ≤ 3599999))
theorem okWay_true {d s : Int} (h : okWay d s = true) : (1 ≤ d ∧ d ≤ 1000000000) ∧ 1 ≤ s ∧ s ≤ 3599999 := by unfold okWay at h; simpa using h
def paceOfF (d s : Int) : Int × Int := if okWay d s = true then (if paceB (Sc.sc s 10000 d 4).1 = true then ((Sc.sc s 10000 d 4).1, 0) else (0, 9)) else (0, 9)
def speedOfF (d s : Int) : Int × Int := if okWay d s = true then Sc.sc d 360 s 4 else (0, 9)
def okTime (d p : Int) : Bool := decide (0 ≤ d) && decide (d ≤ 1000000000) && paceB p
theorem okTime_true {d p : Int} (h : okTime d p = true) : (0 ≤ d ∧ d ≤ 1000000000) ∧ 1 ≤ p ∧ p ≤ 36000 := by unfold okTime paceB at h; simpa using h
def timeForF (d p : Int) : Int × Int := if okTime d p = true then Sc.sc d p 10000 4 else (0, 9)
def perKm : ByteArray := ⟨#[47, 107, 109]⟩
def paceText (n : Int) : ByteArray := itoaB (n / 60) ++ Rd.colon ++ padB (n % 60) ++ perKm
def paceTextR (n : Int) : ByteArray × Int := if paceB n = true then (paceText n, 0) else (⟨#[]⟩, 9)
set_option maxHeartbeats 2000000 in
theorem paceText_any (n : Int) (w : World) (hg : Glo w) : Calls Tryz.prog 17 #[.int .i64 n] w fun e w' => e = .returned (.tuple #[.string (paceTextR n).1, .int .i64 (paceTextR n).2]) ∧ Below w.heap.size w w' := by
  have D3 : Hid (∀ W : World, Calls Tryz.prog 54 #[.int .i64 n] W fun e w' => e = .returned (.bool (paceB n)) ∧ W = w') := Lib.hid (fun W => isPaceP_any n W)
  cases hp : paceB n
  case false =>
    have HX := Lib.hid (show paceTextR n = (⟨#[]⟩, 9) by unfold paceTextR; rw [hp]; rfl)
    rw [hp] at D3
    clear hp
    go_enter Tryz.func17, Tryz.ntmps17
    go_wp2_with (go_at_call 54; refine (D3.out _).mono ?_; rintro e _ ⟨rfl, rfl⟩)
    go_ret2
    exact ⟨by rw [HX.out]; rfl, Below.refl _ _⟩
  case true =>
    have hr : 1 ≤ n ∧ n ≤ 36000 := by unfold paceB at hp; simpa using hp
    have HX := Lib.hid (show paceTextR n = (itoaB (n / 60) ++ Rd.colon ++ padB (n % 60) ++ perKm, 0) by unfold paceTextR paceText; rw [hp]; rfl)
    rw [hp] at D3
    have HG := Lib.hid (fun (W : World) (h : Below w.heap.size w W) => hg.below h)
    have DA := Lib.hid (fun W h => itoa_any (n / 60) (by omega) (by omega) W (HG.out W h))
    have DB := Lib.hid (fun W h => two_any (n % 60) (by omega) (by omega) W (HG.out W h))
    have z1 := Rd.itoaB_size (n := n / 60) (by omega) (by omega)
    have z2 := Rd.padB_size (n := n % 60) (by omega) (by omega)
    generalize itoaB (n / 60) = r1 at HX DA z1
    generalize padB (n % 60) = r2 at HX DB z2
    clear hp
    go_enter Tryz.func17, Tryz.ntmps17
    go_upto_region 3 with (go_at_call 54; refine (D3.out _).mono ?_; rintro e _ ⟨rfl, rfl⟩)
    go_wp2_with fail
    refine (DA.out _ (Below.refl _ _)).mono ?_
    rintro e w1 ⟨rfl, hb1⟩
    go_wp2_with fail
    refine (DB.out w1 hb1).mono ?_
    rintro e w2 ⟨rfl, hb2⟩
    go_wp2_with fail
    go_ret2
    exact ⟨by rw [HX.out]; rfl, below_step hb1 hb2⟩
end Go.Proofs.YtcdilamkkodjjaaGreatDoor

/- Texts of the program, from the table of powers alone. -/
namespace Go.Proofs.YtcdilamkkodjjaaGreatDoor
open Go.RowKit Go.BigFrame
open Rd (sB bt itoaB padB padN fracB restB distText kmNm mNm ptB durText zeroB colon)

/-- the table of powers -/
structure Tab (w : World) : Prop where
  t : Lib.TabIs Tryz.prog w "internal/strconv.uint64pow10" .u64 Lib.pow10Tab
theorem Tab.below {w w' : World} (h : Tab w) (hb : Below w.heap.size w w') : Tab w' := ⟨var_below h.t hb⟩
theorem itoa_anyT (n : Int) (h0 : -9223372036854775808 ≤ n) (h1 : n ≤ 9223372036854775807) (w : World) (hg : Tab w) :
    Calls Tryz.prog 21 #[.int .i64 n] w fun e w' => e = .returned (.string (itoaB n)) ∧ Below w.heap.size w w' := by
  refine (Tryz.strconv_Itoa n h0 h1 w hg.t).mono ?_
  rintro e w' ⟨rfl, k, os, rfl⟩
  exact ⟨rfl, below_grow w k os⟩
theorem two_anyT (n : Int) (h0 : 0 ≤ n) (h1 : n < 100) (w : World) (hg : Tab w) : Calls Tryz.prog 38 #[.int .i64 n] w fun e w' => e = .returned (.string (padB n)) ∧ Below w.heap.size w w' := by
  have DI := Lib.hid (itoa_anyT n (by omega) (by omega) w hg)
  have hl := Rd.itoa_len h0 h1
  have HP : Hid (padB n = if n < 10 then zeroB ++ itoaB n else itoaB n) := Lib.hid rfl
  have D : Calls Tryz.prog 23 #[.int .i64 n, .int .i64 2] w fun e w' => e = .returned (.string (padB n)) ∧ Below w.heap.size w w' := by
    generalize padB n = r at HP ⊢
    obtain ⟨t, ht⟩ : ∃ t, itoaB n = t := ⟨_, rfl⟩
    rw [ht] at DI hl HP
    clear ht
    by_cases hn : n < 10
    · rw [if_pos hn] at hl
      have hr := HP.out
      rw [if_pos hn] at hr
      have HR := Lib.hid hr
      have hl' : ((t.size : Nat) : Int) = 1 := by omega
      clear hn HP hr
      go_enter Tryz.func23, Tryz.ntmps23
      go_upto_region 2 with (go_at_call 21; refine DI.out.mono ?_; rintro e w2 ⟨rfl, hb2⟩)
      go_wp2_with (go_at_call 63; refine (repeat_one _ _).mono ?_; rintro e _ ⟨rfl, rfl⟩)
      go_ret
      exact ⟨by rw [HR.out]; rfl, hb2⟩
    · rw [if_neg hn] at hl
      have hr := HP.out
      rw [if_neg hn] at hr
      have HR := Lib.hid hr
      have hl' : ((t.size : Nat) : Int) = 2 := by omega
      clear hn HP hr
      go_enter Tryz.func23, Tryz.ntmps23
      go_upto_region 2 with (go_at_call 21; refine DI.out.mono ?_; rintro e w2 ⟨rfl, hb2⟩)
      go_wp2_with (go_at_call 63; refine (repeat_zero _ _).mono ?_; rintro e _ ⟨rfl, rfl⟩)
      go_ret
      exact ⟨by rw [HR.out]; exact congrArg (fun x => Ending.returned (.string x)) (Rd.nil_app t), hb2⟩
  have HD := Lib.hid D
  generalize padB n = r at HD ⊢
  go_enter Tryz.func38, Tryz.ntmps38
  go_wp2_with (go_at_call 23; refine HD.out.mono ?_; rintro e w2 ⟨rfl, hb2⟩)
  go_ret
  exact ⟨rfl, hb2⟩
set_option maxHeartbeats 2000000 in
theorem durationText_anyT (n : Int) (h0 : -9223372036854775808 ≤ n) (h1 : n ≤ 9223372036854775807) (w : World) (hg : Tab w) :
    Calls Tryz.prog 15 #[.int .i64 n] w fun e w' => e = .returned (.tuple #[.string (durTextR n).1, .int .i64 (durTextR n).2]) ∧ Below w.heap.size w w' := by
  by_cases hn : n < 0
  · have t1 : decide (n < 0) = true := by simpa using hn
    have HX := Lib.hid (show durTextR n = (⟨#[]⟩, 9) from if_pos (Or.inl hn))
    clear hn
    go_enter Tryz.func15, Tryz.ntmps15
    go_wp2
    go_ret2
    exact ⟨by rw [HX.out]; rfl, Below.refl _ _⟩
  by_cases hb : 3599999 < n
  · have t1 : decide (n < 0) = false := by simpa using hn
    have t2 : decide (3599999 < n) = true := by simpa using hb
    have HX := Lib.hid (show durTextR n = (⟨#[]⟩, 9) from if_pos (Or.inr hb))
    go_enter Tryz.func15, Tryz.ntmps15
    go_wp2
    go_ret2
    exact ⟨by rw [HX.out]; rfl, Below.refl _ _⟩
  have t1 : decide (n < 0) = false := by simpa using hn
  have t2 : decide (3599999 < n) = false := by simpa using hb
  have HX := Lib.hid (show durTextR n = (durText n, 0) from if_neg (by omega))
  have HG := Lib.hid (fun (W : World) (h : Below w.heap.size w W) => hg.below h)
  by_cases hs : n < 3600
  · have t3 : decide (n < 3600) = true := by simpa using hs
    have HT := Lib.hid (show durText n = itoaB (n / 60) ++ colon ++ padB (n % 60) from if_pos hs)
    have D1 := Lib.hid (fun W h => itoa_anyT (n / 60) (by omega) (by omega) W (HG.out W h))
    have D2 := Lib.hid (fun W h => two_anyT (n % 60) (by omega) (by omega) W (HG.out W h))
    have z1 := Rd.itoaB_size (n := n / 60) (by omega) (by omega)
    generalize itoaB (n / 60) = r1 at HT D1 z1
    have z2 := Rd.padB_size (n := n % 60) (by omega) (by omega)
    generalize padB (n % 60) = r2 at HT D2 z2
    go_enter Tryz.func15, Tryz.ntmps15
    go_wp2_with fail
    refine (D1.out w (Below.refl _ _)).mono ?_
    rintro e w1 ⟨rfl, hb1⟩
    go_wp2_with fail
    refine (D2.out w1 hb1).mono ?_
    rintro e w2 ⟨rfl, hb2⟩
    go_wp2_with fail
    go_ret2
    exact ⟨by rw [HX.out, HT.out]; rfl, below_step hb1 hb2⟩
  · have t3 : decide (n < 3600) = false := by simpa using hs
    have HT := Lib.hid (show durText n = itoaB (n / 3600) ++ colon ++ padB (n / 60 % 60) ++ colon ++ padB (n % 60) from if_neg hs)
    have D1 := Lib.hid (fun W h => itoa_anyT (n / 3600) (by omega) (by omega) W (HG.out W h))
    have D2 := Lib.hid (fun W h => two_anyT (n / 60 % 60) (by omega) (by omega) W (HG.out W h))
    have D3 := Lib.hid (fun W h => two_anyT (n % 60) (by omega) (by omega) W (HG.out W h))
    have z1 := Rd.itoaB_size (n := n / 3600) (by omega) (by omega)
    generalize itoaB (n / 3600) = r1 at HT D1 z1
    have z2 := Rd.padB_size (n := n / 60 % 60) (by omega) (by omega)
    generalize padB (n / 60 % 60) = r2 at HT D2 z2
    have z3 := Rd.padB_size (n := n % 60) (by omega) (by omega)
    generalize padB (n % 60) = r3 at HT D3 z3
    go_enter Tryz.func15, Tryz.ntmps15
    go_wp2_with fail
    refine (D1.out w (Below.refl _ _)).mono ?_
    rintro e w1 ⟨rfl, hb1⟩
    go_wp2_with fail
    refine (D2.out w1 hb1).mono ?_
    rintro e w2 ⟨rfl, hb2⟩
    go_wp2_with fail
    refine (D3.out w2 (below_step hb1 hb2)).mono ?_
    rintro e w3 ⟨rfl, hb3⟩
    go_wp2_with fail
    go_ret2
    exact ⟨by rw [HX.out, HT.out]; rfl, below_step (below_step hb1 hb2) hb3⟩
theorem digits1_anyT (n : Nat) (h : n < 10) (w : World) (hg : Tab w) : Calls Tryz.prog 23 #[.int .i64 n, .int .i64 1] w fun e w' => e = .returned (.string (bt (padN 1 n))) ∧ Below w.heap.size w w' := by
  have DI := Lib.hid (itoa_anyT n (by omega) (by omega) w hg)
  obtain ⟨h1, h2⟩ := Rd.pad_one h
  have hl : (itoaB (n : Int)).size = 1 := h1
  have hp : bt (padN 1 n) = itoaB (n : Int) := by rw [h2]; rfl
  rw [hp]
  generalize itoaB (n : Int) = t at DI hl ⊢
  have hl' : ((t.size : Nat) : Int) = 1 := by omega
  go_enter Tryz.func23, Tryz.ntmps23
  go_upto_region 2 with (go_at_call 21; refine DI.out.mono ?_; rintro e w2 ⟨rfl, hb2⟩)
  go_wp2_with (go_at_call 63; refine (repeat_zero _ _).mono ?_; rintro e _ ⟨rfl, rfl⟩)
  go_ret
  exact ⟨congrArg (fun x => Ending.returned (.string x)) (Rd.nil_app t), hb2⟩
theorem digits4z_anyT (n : Nat) (h : n < 10000) (w : World) (hg : Tab w) : Calls Tryz.prog 23 #[.int .i64 n, .int .i64 4] w fun e w' => e = .returned (.string (bt (padN 4 n))) ∧ Below w.heap.size w w' := by
  have DI := Lib.hid (itoa_anyT n (by omega) (by omega) w hg)
  obtain ⟨z, h1, h2, h3⟩ := Rd.pad_four h
  have hl : (itoaB (n : Int)).size + z = 4 := h1
  have DR : Hid (∀ W, Calls Tryz.prog 63 #[.string ⟨#[48]⟩, .int .i64 z] W fun e w' => e = .returned (.string (bt (List.replicate z 48))) ∧ W = w') := Lib.hid (by
    intro W
    rcases (show z = 0 ∨ z = 1 ∨ z = 2 ∨ z = 3 by omega) with rfl | rfl | rfl | rfl
    · exact repeat_zero _ W
    · exact repeat_one _ W
    · exact repeat_many 2 (Or.inl rfl) W
    · exact repeat_many 3 (Or.inr rfl) W)
  have HP : Hid (bt (padN 4 n) = bt (List.replicate z 48) ++ itoaB (n : Int)) := Lib.hid (by
    rw [h3]
    apply Rd.sB_inj
    show (List.replicate z 48 ++ Lib.itoa (n : Int)) = _
    unfold sB
    rw [ByteArray.data_append, Array.toList_append]
    rfl)
  have hzl : (bt (List.replicate z 48)).size = z := by show (List.replicate z (48 : UInt8)).length = z; rw [List.length_replicate]
  generalize bt (padN 4 n) = r at HP ⊢
  generalize bt (List.replicate z 48) = zz at DR HP hzl
  generalize itoaB (n : Int) = t at DI hl HP
  rcases (show z = 0 ∨ z = 1 ∨ z = 2 ∨ z = 3 by omega) with rfl | rfl | rfl | rfl
  · have hl' : ((t.size : Nat) : Int) = 4 := by omega
    go_enter Tryz.func23, Tryz.ntmps23
    go_upto_region 2 with (go_at_call 21; refine DI.out.mono ?_; rintro e w2 ⟨rfl, hb2⟩)
    go_wp2_with (go_at_call 63; refine (DR.out _).mono ?_; rintro e _ ⟨rfl, rfl⟩)
    go_ret
    exact ⟨by rw [HP.out]; rfl, hb2⟩
  · have hl' : ((t.size : Nat) : Int) = 3 := by omega
    go_enter Tryz.func23, Tryz.ntmps23
    go_upto_region 2 with (go_at_call 21; refine DI.out.mono ?_; rintro e w2 ⟨rfl, hb2⟩)
    go_wp2_with (go_at_call 63; refine (DR.out _).mono ?_; rintro e _ ⟨rfl, rfl⟩)
    go_ret
    exact ⟨by rw [HP.out]; rfl, hb2⟩
  · have hl' : ((t.size : Nat) : Int) = 2 := by omega
    go_enter Tryz.func23, Tryz.ntmps23
    go_upto_region 2 with (go_at_call 21; refine DI.out.mono ?_; rintro e w2 ⟨rfl, hb2⟩)
    go_wp2_with (go_at_call 63; refine (DR.out _).mono ?_; rintro e _ ⟨rfl, rfl⟩)
    go_ret
    exact ⟨by rw [HP.out]; rfl, hb2⟩
  · have hl' : ((t.size : Nat) : Int) = 1 := by omega
    go_enter Tryz.func23, Tryz.ntmps23
    go_upto_region 2 with (go_at_call 21; refine DI.out.mono ?_; rintro e w2 ⟨rfl, hb2⟩)
    go_wp2_with (go_at_call 63; refine (DR.out _).mono ?_; rintro e _ ⟨rfl, rfl⟩)
    go_ret
    exact ⟨by rw [HP.out]; rfl, hb2⟩
set_option maxHeartbeats 2000000 in
set_option maxRecDepth 100000 in
theorem distanceText_anyT (n : Int) (h0 : -9223372036854775808 ≤ n) (h1 : n ≤ 9223372036854775807) (w : World) (hg : Tab w) :
    Calls Tryz.prog 6 #[.int .i64 n] w fun e w' => e = .returned (.tuple #[.string (distTextR n).1, .int .i64 (distTextR n).2]) ∧ Below w.heap.size w w' := by
  by_cases hn : n < 0
  · have t1 : decide (n < 0) = true := by simpa using hn
    have HX := Lib.hid (show distTextR n = (⟨#[]⟩, 9) from if_pos (Or.inl hn))
    clear hn
    go_enter Tryz.func6, Tryz.ntmps6
    go_wp2
    go_ret2
    exact ⟨by rw [HX.out]; rfl, Below.refl _ _⟩
  by_cases hb : 1000000000 < n
  · have t1 : decide (n < 0) = false := by simpa using hn
    have t2 : decide (1000000000 < n) = true := by simpa using hb
    have HX := Lib.hid (show distTextR n = (⟨#[]⟩, 9) from if_pos (Or.inr hb))
    go_enter Tryz.func6, Tryz.ntmps6
    go_wp2
    go_ret2
    exact ⟨by rw [HX.out]; rfl, Below.refl _ _⟩
  have t1 : decide (n < 0) = false := by simpa using hn
  have t2 : decide (1000000000 < n) = false := by simpa using hb
  have HX := Lib.hid (show distTextR n = (distText n, 0) from if_neg (by omega))
  have HG := Lib.hid (fun (W : World) (h : Below w.heap.size w W) => hg.below h)
  by_cases hs : 10000 ≤ n
  ·
    have t3 : decide (10000 ≤ n) = true := by simpa using hs
    obtain ⟨m, hm⟩ : ∃ m : Nat, n % 10000 = m := ⟨(n % 10000).toNat, by omega⟩
    have hml : m < 10 ^ 4 := by show m < 10000; omega
    have HT := Lib.hid (show distText n = itoaB (n / 10000) ++ restB 4 (n % 10000) ++ kmNm from if_pos hs)
    rw [hm] at HT
    have D1 := Lib.hid (fun W h => itoa_anyT (n / 10000) (by omega) (by omega) W (HG.out W h))
    have D2 := Lib.hid (fun W h => digits4z_anyT m hml W (HG.out W h))
    have D3 := Lib.hid (fun W => trim_any 4 m hml (by omega) W)
    have z1 := Rd.itoaB_size (n := n / 10000) (by omega) (by omega)
    generalize itoaB (n / 10000) = r1 at HT D1 z1
    have z2 : (bt (fracB 4 m)).size ≤ 4 := Nat.le_trans (frac_len 4 m) (by omega)
    have HR : Hid (restB 4 (m : Int) = if m = 0 then ⟨#[]⟩ else ptB ++ bt (fracB 4 m)) := Lib.hid (by
      unfold restB
      rw [Int.toNat_natCast]
      by_cases h : m = 0
      · rw [if_pos (by omega), if_pos h]
      · rw [if_neg (by omega), if_neg h])
    have HE : Hid (((bt (fracB 4 m)).toList == []) = decide (m = 0) ∧ ((bt (fracB 4 m)).toList != []) = !decide (m = 0)) := Lib.hid (by
      have e : (bt (fracB 4 m)).toList = fracB 4 m := by rw [ByteArray.toList_eq]; rfl
      rw [e]
      by_cases h : m = 0
      · subst h; rw [Rd.fracB_zero]; exact ⟨rfl, rfl⟩
      · have := Rd.fracB_ne (k := 4) (show 0 < m by omega) hml
        rw [decide_eq_false h]
        exact ⟨by simpa using this, by simpa using this⟩)
    generalize bt (fracB 4 m) = r2 at HR HE D3 z2
    generalize bt (padN 4 m) = r3 at D2 D3
    generalize restB 4 (m : Int) = r4 at HT HR
    by_cases hz : m = 0
    ·
      have he := HE.out
      rw [decide_eq_true hz] at he
      obtain ⟨he1, he2⟩ := he
      have hr := HR.out
      rw [if_pos hz] at hr
      have HR2 := Lib.hid hr
      clear HE HR hr hz
      go_enter Tryz.func6, Tryz.ntmps6
      go_upto_region 6 with fail
      go_wp2_with fail
      refine (D1.out w (Below.refl _ _)).mono ?_
      rintro e w1 ⟨rfl, hb1⟩
      go_wp2_with fail
      refine (D2.out w1 hb1).mono ?_
      rintro e w2 ⟨rfl, hb2⟩
      go_wp2_with fail
      refine (D3.out w2).mono ?_
      rintro e _ ⟨rfl, rfl⟩
      go_wp2_with fail
      go_ret2
      exact ⟨by rw [HX.out, HT.out, HR2.out, app_nil]; rfl, below_step hb1 hb2⟩
    ·
      have he := HE.out
      rw [decide_eq_false hz] at he
      obtain ⟨he1, he2⟩ := he
      have hr := HR.out
      rw [if_neg hz] at hr
      have HR2 := Lib.hid hr
      clear HE HR hr hz
      go_enter Tryz.func6, Tryz.ntmps6
      go_upto_region 6 with fail
      go_wp2_with fail
      refine (D1.out w (Below.refl _ _)).mono ?_
      rintro e w1 ⟨rfl, hb1⟩
      go_wp2_with fail
      refine (D2.out w1 hb1).mono ?_
      rintro e w2 ⟨rfl, hb2⟩
      go_wp2_with fail
      refine (D3.out w2).mono ?_
      rintro e _ ⟨rfl, rfl⟩
      go_wp2_with fail
      go_ret2
      exact ⟨by rw [HX.out, HT.out, HR2.out]; rfl, below_step hb1 hb2⟩
  ·
    have t3 : decide (10000 ≤ n) = false := by simpa using hs
    obtain ⟨m, hm⟩ : ∃ m : Nat, n % 10 = m := ⟨(n % 10).toNat, by omega⟩
    have hml : m < 10 ^ 1 := by show m < 10; omega
    have HT := Lib.hid (show distText n = itoaB (n / 10) ++ restB 1 (n % 10) ++ mNm from if_neg hs)
    rw [hm] at HT
    have D1 := Lib.hid (fun W h => itoa_anyT (n / 10) (by omega) (by omega) W (HG.out W h))
    have D2 := Lib.hid (fun W h => digits1_anyT m hml W (HG.out W h))
    have D3 := Lib.hid (fun W => trim_any 1 m hml (by omega) W)
    have z1 := Rd.itoaB_size (n := n / 10) (by omega) (by omega)
    generalize itoaB (n / 10) = r1 at HT D1 z1
    have z2 : (bt (fracB 1 m)).size ≤ 4 := Nat.le_trans (frac_len 1 m) (by omega)
    have HR : Hid (restB 1 (m : Int) = if m = 0 then ⟨#[]⟩ else ptB ++ bt (fracB 1 m)) := Lib.hid (by
      unfold restB
      rw [Int.toNat_natCast]
      by_cases h : m = 0
      · rw [if_pos (by omega), if_pos h]
      · rw [if_neg (by omega), if_neg h])
    have HE : Hid (((bt (fracB 1 m)).toList == []) = decide (m = 0) ∧ ((bt (fracB 1 m)).toList != []) = !decide (m = 0)) := Lib.hid (by
      have e : (bt (fracB 1 m)).toList = fracB 1 m := by rw [ByteArray.toList_eq]; rfl
      rw [e]
      by_cases h : m = 0
      · subst h; rw [Rd.fracB_zero]; exact ⟨rfl, rfl⟩
      · have := Rd.fracB_ne (k := 1) (show 0 < m by omega) hml
        rw [decide_eq_false h]
        exact ⟨by simpa using this, by simpa using this⟩)
    generalize bt (fracB 1 m) = r2 at HR HE D3 z2
    generalize bt (padN 1 m) = r3 at D2 D3
    generalize restB 1 (m : Int) = r4 at HT HR
    by_cases hz : m = 0
    ·
      have he := HE.out
      rw [decide_eq_true hz] at he
      obtain ⟨he1, he2⟩ := he
      have hr := HR.out
      rw [if_pos hz] at hr
      have HR2 := Lib.hid hr
      clear HE HR hr hz
      go_enter Tryz.func6, Tryz.ntmps6
      go_upto_region 6 with fail
      go_wp2_with fail
      refine (D1.out w (Below.refl _ _)).mono ?_
      rintro e w1 ⟨rfl, hb1⟩
      go_wp2_with fail
      refine (D2.out w1 hb1).mono ?_
      rintro e w2 ⟨rfl, hb2⟩
      go_wp2_with fail
      refine (D3.out w2).mono ?_
      rintro e _ ⟨rfl, rfl⟩
      go_wp2_with fail
      go_ret2
      exact ⟨by rw [HX.out, HT.out, HR2.out, app_nil]; rfl, below_step hb1 hb2⟩
    ·
      have he := HE.out
      rw [decide_eq_false hz] at he
      obtain ⟨he1, he2⟩ := he
      have hr := HR.out
      rw [if_neg hz] at hr
      have HR2 := Lib.hid hr
      clear HE HR hr hz
      go_enter Tryz.func6, Tryz.ntmps6
      go_upto_region 6 with fail
      go_wp2_with fail
      refine (D1.out w (Below.refl _ _)).mono ?_
      rintro e w1 ⟨rfl, hb1⟩
      go_wp2_with fail
      refine (D2.out w1 hb1).mono ?_
      rintro e w2 ⟨rfl, hb2⟩
      go_wp2_with fail
      refine (D3.out w2).mono ?_
      rintro e _ ⟨rfl, rfl⟩
      go_wp2_with fail
      go_ret2
      exact ⟨by rw [HX.out, HT.out, HR2.out]; rfl, below_step hb1 hb2⟩
set_option maxHeartbeats 2000000 in
theorem paceText_anyT (n : Int) (w : World) (hg : Tab w) : Calls Tryz.prog 17 #[.int .i64 n] w fun e w' => e = .returned (.tuple #[.string (paceTextR n).1, .int .i64 (paceTextR n).2]) ∧ Below w.heap.size w w' := by
  have D3 : Hid (∀ W : World, Calls Tryz.prog 54 #[.int .i64 n] W fun e w' => e = .returned (.bool (paceB n)) ∧ W = w') := Lib.hid (fun W => isPaceP_any n W)
  cases hp : paceB n
  case false =>
    have HX := Lib.hid (show paceTextR n = (⟨#[]⟩, 9) by unfold paceTextR; rw [hp]; rfl)
    rw [hp] at D3
    clear hp
    go_enter Tryz.func17, Tryz.ntmps17
    go_wp2_with (go_at_call 54; refine (D3.out _).mono ?_; rintro e _ ⟨rfl, rfl⟩)
    go_ret2
    exact ⟨by rw [HX.out]; rfl, Below.refl _ _⟩
  case true =>
    have hr : 1 ≤ n ∧ n ≤ 36000 := by unfold paceB at hp; simpa using hp
    have HX := Lib.hid (show paceTextR n = (itoaB (n / 60) ++ Rd.colon ++ padB (n % 60) ++ perKm, 0) by unfold paceTextR paceText; rw [hp]; rfl)
    rw [hp] at D3
    have HG := Lib.hid (fun (W : World) (h : Below w.heap.size w W) => hg.below h)
    have DA := Lib.hid (fun W h => itoa_anyT (n / 60) (by omega) (by omega) W (HG.out W h))
    have DB := Lib.hid (fun W h => two_anyT (n % 60) (by omega) (by omega) W (HG.out W h))
    have z1 := Rd.itoaB_size (n := n / 60) (by omega) (by omega)
    have z2 := Rd.padB_size (n := n % 60) (by omega) (by omega)
    generalize itoaB (n / 60) = r1 at HX DA z1
    generalize padB (n % 60) = r2 at HX DB z2
    clear hp
    go_enter Tryz.func17, Tryz.ntmps17
    go_upto_region 3 with (go_at_call 54; refine (D3.out _).mono ?_; rintro e _ ⟨rfl, rfl⟩)
    go_wp2_with fail
    refine (DA.out _ (Below.refl _ _)).mono ?_
    rintro e w1 ⟨rfl, hb1⟩
    go_wp2_with fail
    refine (DB.out w1 hb1).mono ?_
    rintro e w2 ⟨rfl, hb2⟩
    go_wp2_with fail
    go_ret2
    exact ⟨by rw [HX.out]; rfl, below_step hb1 hb2⟩
theorem digits4_anyT (n : Int) (h0 : 1000 ≤ n) (h1 : n ≤ 9999) (w : World) (hg : Tab w) : Calls Tryz.prog 23 #[.int .i64 n, .int .i64 4] w fun e w' => e = .returned (.string (itoaB n)) ∧ Below w.heap.size w w' := by
  have DI := Lib.hid (itoa_anyT n (by omega) (by omega) w hg)
  have hl := itoa_four h0 h1
  generalize itoaB n = t at DI hl ⊢
  have hl' : ((t.size : Nat) : Int) = 4 := by omega
  go_enter Tryz.func23, Tryz.ntmps23
  go_upto_region 2 with (go_at_call 21; refine DI.out.mono ?_; rintro e w2 ⟨rfl, hb2⟩)
  go_wp2_with (go_at_call 63; refine (repeat_zero _ _).mono ?_; rintro e _ ⟨rfl, rfl⟩)
  go_ret
  exact ⟨congrArg (fun x => Ending.returned (.string x)) (Rd.nil_app t), hb2⟩
set_option maxHeartbeats 2000000 in
theorem dateText_anyT (day : Int) (w : World) (hg : Tab w) : Calls Tryz.prog 19 #[.int .i64 day] w fun e w' => e = .returned (.tuple #[.string (dateTextR day).1, .int .i64 (dateTextR day).2]) ∧ Below w.heap.size w w' := by
  have D1 := Lib.hid (fun W => isDay_any day W)
  cases hb : dayB day
  · have HX := Lib.hid (show dateTextR day = (⟨#[]⟩, 9) by unfold dateTextR; rw [hb]; rfl)
    rw [hb] at D1
    clear hb
    go_enter Tryz.func19, Tryz.ntmps19
    go_wp2_with (go_at_call 57; refine (D1.out _).mono ?_; rintro e _ ⟨rfl, rfl⟩)
    go_ret2
    exact ⟨by rw [HX.out]; rfl, Below.refl _ _⟩
  · have HX := Lib.hid (show dateTextR day = (dateText day, 0) by unfold dateTextR; rw [hb]; rfl)
    obtain ⟨b1, b2, b3, b4, b5, b6⟩ := date_bounds hb
    have hr := dayB_true hb
    rw [hb] at D1
    have D2 := Lib.hid (fun W => dateOf_any day W (by omega) (by omega))
    have HT : Hid (dateText day = itoaB (Cal.yearOf day) ++ dashB ++ padB (Cal.monthOf day) ++ dashB ++ padB (Cal.dateOf day)) := Lib.hid rfl
    have HG := Lib.hid (fun (W : World) (h : Below w.heap.size w W) => hg.below h)
    have D3 := Lib.hid (fun W h => digits4_anyT (Cal.yearOf day) b1 b2 W (HG.out W h))
    have D4 := Lib.hid (fun W h => two_anyT (Cal.monthOf day) b3 b4 W (HG.out W h))
    have D5 := Lib.hid (fun W h => two_anyT (Cal.dateOf day) b5 b6 W (HG.out W h))
    have z1 := itoa_four b1 b2
    have z2 := Rd.padB_size b3 b4
    have z3 := Rd.padB_size b5 b6
    generalize Cal.yearOf day = y at *
    generalize Cal.monthOf day = m at *
    generalize Cal.dateOf day = d at *
    generalize itoaB y = r1 at HT D3 z1
    obtain ⟨r2, h2⟩ : ∃ x, padB m = x := ⟨_, rfl⟩
    obtain ⟨r3, h3⟩ : ∃ x, padB d = x := ⟨_, rfl⟩
    rw [h2] at D4 z2 HT
    rw [h3] at D5 z3 HT
    have D : Hid (Calls Tryz.prog 37 #[.int .i64 day] w fun e w' => e = .returned (.string (dateText day)) ∧ Below w.heap.size w w') := Lib.hid (by
      generalize dateText day = r at HT ⊢
      clear HX h2 h3 D1 hb
      go_enter Tryz.func37, Tryz.ntmps37
      go_upto_region 2 with (go_at_call 76; refine (D2.out _).mono ?_; rintro e _ ⟨rfl, rfl⟩)
      go_wp2_with fail
      refine (D3.out _ (Below.refl _ _)).mono ?_
      rintro e w1 ⟨rfl, hb1⟩
      go_wp2_with fail
      refine (D4.out w1 hb1).mono ?_
      rintro e w2 ⟨rfl, hb2⟩
      go_wp2_with fail
      refine (D5.out w2 (below_step hb1 hb2)).mono ?_
      rintro e w3 ⟨rfl, hb3⟩
      go_wp2_with fail
      go_ret
      exact ⟨by rw [HT.out]; rfl, below_step (below_step hb1 hb2) hb3⟩)
    generalize dateText day = r at D HX
    clear hb HT D3 D4 D5 D2 h2 h3
    go_enter Tryz.func19, Tryz.ntmps19
    go_wp2_with (first
      | (go_at_call 57; refine (D1.out _).mono ?_; rintro e _ ⟨rfl, rfl⟩)
      | (go_at_call 37; refine D.out.mono ?_; rintro e w1 ⟨rfl, hb1⟩))
    go_ret2
    exact ⟨by rw [HX.out]; rfl, hb1⟩
set_option maxHeartbeats 2000000 in
theorem dateTextP_anyT (day : Int) (hb : dayB day = true) (w : World) (hg : Tab w) : Calls Tryz.prog 37 #[.int .i64 day] w fun e w' => e = .returned (.string (dateText day)) ∧ Below w.heap.size w w' := by
  obtain ⟨b1, b2, b3, b4, b5, b6⟩ := date_bounds hb
  have hr := dayB_true hb
  have D2 := Lib.hid (fun W => dateOf_any day W (by omega) (by omega))
  have HT : Hid (dateText day = itoaB (Cal.yearOf day) ++ dashB ++ padB (Cal.monthOf day) ++ dashB ++ padB (Cal.dateOf day)) := Lib.hid rfl
  have HG := Lib.hid (fun (W : World) (h : Below w.heap.size w W) => hg.below h)
  have D3 := Lib.hid (fun W h => digits4_anyT (Cal.yearOf day) b1 b2 W (HG.out W h))
  have D4 := Lib.hid (fun W h => two_anyT (Cal.monthOf day) b3 b4 W (HG.out W h))
  have D5 := Lib.hid (fun W h => two_anyT (Cal.dateOf day) b5 b6 W (HG.out W h))
  have z1 := itoa_four b1 b2
  have z2 := Rd.padB_size b3 b4
  have z3 := Rd.padB_size b5 b6
  generalize Cal.yearOf day = y at *
  generalize Cal.monthOf day = m at *
  generalize Cal.dateOf day = d at *
  generalize itoaB y = r1 at HT D3 z1
  obtain ⟨r2, h2⟩ : ∃ x, padB m = x := ⟨_, rfl⟩
  obtain ⟨r3, h3⟩ : ∃ x, padB d = x := ⟨_, rfl⟩
  rw [h2] at D4 z2 HT
  rw [h3] at D5 z3 HT
  generalize dateText day = r at HT ⊢
  clear h2 h3 hb
  go_enter Tryz.func37, Tryz.ntmps37
  go_upto_region 2 with (go_at_call 76; refine (D2.out _).mono ?_; rintro e _ ⟨rfl, rfl⟩)
  go_wp2_with fail
  refine (D3.out _ (Below.refl _ _)).mono ?_
  rintro e w1 ⟨rfl, hb1⟩
  go_wp2_with fail
  refine (D4.out w1 hb1).mono ?_
  rintro e w2 ⟨rfl, hb2⟩
  go_wp2_with fail
  refine (D5.out w2 (below_step hb1 hb2)).mono ?_
  rintro e w3 ⟨rfl, hb3⟩
  go_wp2_with fail
  go_ret
  exact ⟨by rw [HT.out]; rfl, below_step (below_step hb1 hb2) hb3⟩
set_option maxHeartbeats 2000000 in
set_option maxRecDepth 100000 in
theorem stampText_anyT (first moment : Int) (a : Option Addr) (len cap : Nat) (F O : Nat → Int) (w : World) (hr : Rows2 w a len F O) (hg : Tab w) :
    Calls Tryz.prog 11 #[.agg #[.int .i64 first, .slice a len cap], .int .i64 moment] w fun e w' => e = .returned (.tuple #[.string (stampTextR (localR first F O len moment)).1, .int .i64 (stampTextR (localR first F O len moment)).2]) ∧ Below w.heap.size w w' := by
  have hw1 : Below w.heap.size w (w.alloc (.cells #[.int .i64 first, .slice a len cap] 31)) := (Below.refl _ _).alloc (Nat.le_refl _) _
  have HR1 := hr.below hw1 (Nat.le_refl _)
  have hc := Lib.hid (local_any first moment a len cap F O _ HR1)
  have hb := localR_bounds first F O len moment
  generalize localR first F O len moment = p at hc hb ⊢
  obtain ⟨day, s, z⟩ := p
  unfold tri at hc
  simp only at hc hb
  clear hr HR1
  by_cases h0 : z = 0
  · subst h0
    obtain ⟨b1, s0, s1⟩ := hb rfl
    have HX := Lib.hid (show stampTextR (day, s, 0) = (stampText day s, 0) from if_pos rfl)
    have HG := Lib.hid (fun (W : World) (h : Below w.heap.size w W) => hg.below h)
    have HT : Hid (stampText day s = dateText day ++ spB ++ padB (s / 3600) ++ colB ++ padB (s / 60 % 60) ++ colB ++ padB (s % 60)) := Lib.hid rfl
    have D1 := Lib.hid (fun W h => dateTextP_anyT day b1 W (HG.out W h))
    have z0 := dateText_size b1
    have D2 := Lib.hid (fun W h => two_anyT (s / 3600) (by omega) (by omega) W (HG.out W h))
    have D3 := Lib.hid (fun W h => two_anyT (s / 60 % 60) (by omega) (by omega) W (HG.out W h))
    have D4 := Lib.hid (fun W h => two_anyT (s % 60) (by omega) (by omega) W (HG.out W h))
    have z1 := Rd.padB_size (n := s / 3600) (by omega) (by omega)
    have z2 := Rd.padB_size (n := s / 60 % 60) (by omega) (by omega)
    have z3 := Rd.padB_size (n := s % 60) (by omega) (by omega)
    generalize dateText day = r0 at HT D1 z0
    generalize padB (s / 3600) = r1 at HT D2 z1
    generalize padB (s / 60 % 60) = r2 at HT D3 z2
    generalize padB (s % 60) = r3 at HT D4 z3
    clear hb b1 hg
    go_enter Tryz.func11, Tryz.ntmps11
    go_wp2_with fail
    refine hc.out.mono ?_
    rintro e w1 ⟨rfl, hb1⟩
    have HB1 := Lib.hid (hw1.trans (hb1.mono (by simp)))
    clear hb1 hw1 hc
    go_wp2_with fail
    refine (D1.out _ HB1.out).mono ?_
    rintro e w2 ⟨rfl, hb2⟩
    have HB2 := Lib.hid (below_step HB1.out hb2)
    clear hb2 HB1
    go_wp2_with fail
    refine (D2.out _ HB2.out).mono ?_
    rintro e w3 ⟨rfl, hb3⟩
    have HB3 := Lib.hid (below_step HB2.out hb3)
    clear hb3 HB2
    go_wp2_with fail
    refine (D3.out _ HB3.out).mono ?_
    rintro e w4 ⟨rfl, hb4⟩
    have HB4 := Lib.hid (below_step HB3.out hb4)
    clear hb4 HB3
    go_wp2_with fail
    refine (D4.out _ HB4.out).mono ?_
    rintro e w5 ⟨rfl, hb5⟩
    have HB5 := Lib.hid (below_step HB4.out hb5)
    clear hb5 HB4
    go_wp2_with fail
    go_ret2
    exact ⟨by rw [HX.out, HT.out]; rfl, HB5.out⟩
  · have hz : (z == 0) = false := by simpa using h0
    have hz' : (z != 0) = true := by simpa using h0
    have HX := Lib.hid (show stampTextR (day, s, z) = (⟨#[]⟩, z) from if_neg h0)
    clear h0 hb
    go_enter Tryz.func11, Tryz.ntmps11
    go_wp2_with fail
    refine hc.out.mono ?_
    rintro e w1 ⟨rfl, hb1⟩
    have HB1 := Lib.hid (hw1.trans (hb1.mono (by simp)))
    clear hb1
    go_wp2_with fail
    go_ret2
    exact ⟨by rw [HX.out]; rfl, HB1.out⟩
end Go.Proofs.YtcdilamkkodjjaaGreatDoor
