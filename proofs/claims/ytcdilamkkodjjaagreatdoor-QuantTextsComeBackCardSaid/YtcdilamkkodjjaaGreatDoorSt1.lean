/- Several texts of this claim in one. -/
/- Years, leap years and weeks, in plain numbers. -/
namespace Cal
def gg (n : Nat) : Nat := n - n/1460 + n/36524 - n/146096
def st (y : Nat) : Nat := 365*y + y/4 - y/100 + y/400
theorem gg_mono1 (n : Nat) : gg n ≤ gg (n+1) := by unfold gg; omega
theorem gg_mono (a d : Nat) : gg a ≤ gg (a+d) := by
  induction d with
  | zero => exact Nat.le_refl _
  | succ d ih => exact Nat.le_trans ih (gg_mono1 (a+d))
theorem ends : ∀ y, y < 400 → gg (st y) / 365 = y ∧ gg (st (y+1) - 1) / 365 = y := by decide +kernel
theorem st_mono1 (y : Nat) : st y < st (y+1) := by unfold st; omega
/-- the year within an era: where the days lie. -/
theorem yoe_of (n y : Nat) (hy : y < 400) (h1 : st y ≤ n) (h2 : n < st (y+1)) : gg n / 365 = y := by
  have ⟨e1, e2⟩ := ends y hy
  have m1 := gg_mono (st y) (n - st y)
  have m2 := gg_mono n (st (y+1) - 1 - n)
  rw [show st y + (n - st y) = n by omega] at m1
  rw [show n + (st (y+1) - 1 - n) = st (y+1) - 1 by omega] at m2
  omega
theorem find (n : Nat) (k : Nat) (h : n < st k) : ∃ y, y < k ∧ st y ≤ n ∧ n < st (y+1) := by
  induction k with
  | zero => simp [st] at h
  | succ k ih =>
    by_cases hk : n < st k
    · obtain ⟨y, h1, h2, h3⟩ := ih hk; exact ⟨y, by omega, h2, h3⟩
    · exact ⟨k, by omega, by omega, h⟩
theorem yoe (n : Nat) (h : n < 146097) : gg n / 365 < 400 ∧ st (gg n / 365) ≤ n ∧ n < st (gg n / 365 + 1) := by
  obtain ⟨y, h1, h2, h3⟩ := find n 400 (by simp [st]; omega)
  rw [yoe_of n y h1 h2 h3]; exact ⟨h1, h2, h3⟩

/-- dayNumber of the 1st of January, less 1 .. as Int -/
def dn (y : Int) : Int := (y - 1) / 400 * 146097 + (y - 1) % 400 * 365 + (y - 1) % 400 / 4 - (y - 1) % 400 / 100 + 306 - 730427
/-- the year of a day, as dateOf reckons it -/
def yr (day : Int) : Int :=
  let n := day + 730427
  let era := n / 146097
  let n := n % 146097
  let o := (n - n / 1460 + n / 36524 - n / 146096) / 365
  let n := n - (365 * o + o / 4 - o / 100)
  let m := (5 * n + 2) / 153
  if 12 < m + 3 then era * 400 + o + 1 else era * 400 + o
theorem dn_mono1 (y : Int) : dn y + 365 ≤ dn (y + 1) ∧ dn (y+1) ≤ dn y + 366 := by unfold dn; omega
theorem dn_mono (y : Int) (k : Nat) : dn y + 365 * k ≤ dn (y + k) := by
  induction k with
  | zero => simp
  | succ k ih => have := dn_mono1 (y + k); rw [show y + ((k + 1 : Nat) : Int) = y + k + 1 by omega]; omega
theorem dn_lt {y z : Int} (h : dn y < dn (z + 1)) : y ≤ z := by
  rcases (show y ≤ z ∨ z + 1 ≤ y by omega) with h1 | h1
  · exact h1
  · have := dn_mono (z + 1) (y - (z + 1)).toNat
    rw [show z + 1 + (((y - (z+1)).toNat : Nat) : Int) = y by omega] at this; omega
theorem dn_at (e o : Int) (h0 : 0 ≤ o) (h1 : o < 400) : dn (400 * e + o + 1) = e * 146097 + o * 365 + o / 4 - o / 100 + 306 - 730427 := by
  unfold dn
  have e1 : (400 * e + o + 1 - 1) / 400 = e := by omega
  have e2 : (400 * e + o + 1 - 1) % 400 = o := by omega
  rw [e1, e2]
/-- the year out of the era, the year of it, and the day of that. -/
theorem year_at (e o k : Int) (h0 : 0 ≤ o) (h1 : o < 400) (k0 : 0 ≤ k) (k1 : k < 365 + ((o + 1) / 4 - o / 4) - ((o + 1) / 100 - o / 100) + (o + 1) / 400) :
    let y := if 12 < (5 * k + 2) / 153 + 3 then e * 400 + o + 1 else e * 400 + o
    let day := e * 146097 + (365 * o + o / 4 - o / 100) + k - 730427
    dn y ≤ day ∧ day < dn (y + 1) := by
  have hm : 12 < (5 * k + 2) / 153 + 3 ↔ 306 ≤ k := by omega
  simp only [hm]
  by_cases hk : 306 ≤ k
  · simp only [hk, if_true]
    rw [show e * 400 + o + 1 = 400 * e + o + 1 by omega, dn_at e o h0 h1]
    refine ⟨by omega, ?_⟩
    by_cases h : o = 399
    · subst h
      rw [show 400 * e + 399 + 1 + 1 = 400 * (e + 1) + 0 + 1 by omega, dn_at (e+1) 0 (by omega) (by omega)]; omega
    · rw [show 400 * e + o + 1 + 1 = 400 * e + (o + 1) + 1 by omega, dn_at e (o+1) (by omega) (by omega)]; omega
  · simp only [hk, if_false]
    rw [show e * 400 + o + 1 = 400 * e + o + 1 by omega, dn_at e o h0 h1]
    refine ⟨?_, by omega⟩
    by_cases h : o = 0
    · subst h
      rw [show e * 400 + 0 = 400 * (e - 1) + 399 + 1 by omega, dn_at (e-1) 399 (by omega) (by omega)]; omega
    · rw [show e * 400 + o = 400 * e + (o - 1) + 1 by omega, dn_at e (o-1) (by omega) (by omega)]; omega
theorem yr_spec (day : Int) : dn (yr day) ≤ day ∧ day < dn (yr day + 1) := by
  obtain ⟨n, hn⟩ : ∃ n : Nat, (n : Int) = (day + 730427) % 146097 := ⟨((day + 730427) % 146097).toNat, by omega⟩
  have hlt : n < 146097 := by omega
  have hy := yoe n hlt
  have hg : ((gg n : Nat) : Int) = n - (n : Int) / 1460 + (n : Int) / 36524 - (n : Int) / 146096 := by unfold gg; omega
  generalize ho : gg n / 365 = o at hy
  have ho' : (o : Int) = (n - (n : Int) / 1460 + (n : Int) / 36524 - (n : Int) / 146096) / 365 := by rw [← hg]; omega
  have hy' : (o : Int) < 400 ∧ 365 * (o : Int) + (o : Int) / 4 - (o : Int) / 100 ≤ n ∧ (n : Int) < 365 * ((o : Int) + 1) + ((o : Int) + 1) / 4 - ((o : Int) + 1) / 100 + ((o : Int) + 1) / 400 := by
    have c1 : ((st o : Nat) : Int) = 365 * (o : Int) + (o : Int) / 4 - (o : Int) / 100 + (o : Int) / 400 := by unfold st; omega
    have c2 : ((st (o + 1) : Nat) : Int) = 365 * ((o : Int) + 1) + ((o : Int) + 1) / 4 - ((o : Int) + 1) / 100 + ((o : Int) + 1) / 400 := by
      have : ((o + 1 : Nat) : Int) = (o : Int) + 1 := by omega
      rw [← this]; unfold st; omega
    clear ho' hg ho
    omega
  clear hy hg ho
  have key := year_at ((day + 730427) / 146097) o (n - (365 * (o : Int) + (o : Int) / 4 - (o : Int) / 100)) (by omega) hy'.1 (by omega) (by omega)
  unfold yr
  simp only [← hn, ← ho']
  have hd : (day + 730427) / 146097 * 146097 + (365 * (o : Int) + (o : Int) / 4 - (o : Int) / 100) + (n - (365 * (o : Int) + (o : Int) / 4 - (o : Int) / 100)) - 730427 = day := by omega
  simp only [hd] at key
  exact key
theorem yr_unique {day y : Int} (h1 : dn y ≤ day) (h2 : day < dn (y + 1)) : yr day = y := by
  have ⟨a, b⟩ := yr_spec day
  have c : y ≤ yr day := dn_lt (by omega)
  have d : yr day ≤ y := dn_lt (by omega)
  omega

/-! ### the reference -/
def leap (y : Int) : Bool := y % 4 == 0 && (y % 100 != 0 || y % 400 == 0)
def yl (y : Int) : Int := if leap y = true then 366 else 365
theorem yl_dn (y : Int) : yl y = dn (y + 1) - dn y := by
  unfold yl leap
  simp only [Bool.and_eq_true, Bool.or_eq_true, beq_iff_eq, bne_iff_ne, ne_eq]
  unfold dn
  split <;> omega
/-- the sum of the lengths of k years from y on. -/
def suml (y : Int) : Nat → Int
  | 0 => 0
  | k + 1 => suml y k + yl (y + k)
theorem suml_dn (y : Int) (k : Nat) : suml y k = dn (y + k) - dn y := by
  induction k with
  | zero => simp [suml]
  | succ k ih => rw [suml, ih, yl_dn, show y + ((k + 1 : Nat) : Int) = y + k + 1 by omega]; omega
theorem dn2000 : dn 2000 = -2 := by decide
theorem dn_era (y k : Int) : dn (y + 400 * k) = dn y + 146097 * k := by unfold dn; omega
/-- before(year), for a year from 2000 on -/
theorem before_dn (y : Int) : (y - 2000) / 400 * 146097 + suml 2000 ((y - 2000) % 400).toNat = dn y + 2 := by
  rw [suml_dn, dn2000, show 2000 + ((((y - 2000) % 400).toNat : Nat) : Int) = 2000 + (y - 2000) % 400 by omega]
  have := dn_era (2000 + (y - 2000) % 400) ((y - 2000) / 400)
  rw [show 2000 + (y - 2000) % 400 + 400 * ((y - 2000) / 400) = y by omega] at this
  omega
/-- the first Monday of week 1 of a year -/
def fm (y : Int) : Int := dn y + 3 - (dn y + 3) % 7
theorem fm_le (y day : Int) : fm y ≤ day ↔ dn y ≤ day - day % 7 + 3 := by unfold fm; omega
theorem fm_week (y day : Int) : (day - fm y) / 7 + 1 = (day - day % 7 + 3 - dn y) / 7 + 1 := by unfold fm; omega

/-! ### what the program reckons -/
/-- the number of a day, as the program reckons it -/
def dayNum (y m d : Int) : Int :=
  let y' := if m < 3 then y - 1 else y
  y' / 400 * 146097 + y' % 400 * 365 + y' % 400 / 4 - y' % 400 / 100 + (153 * ((m + 9) % 12) + 2) / 5 + d - 1 - 730427
theorem dayNum_jan (y d : Int) : dayNum y 1 d = dn y + d - 1 := by
  unfold dayNum dn; simp; omega
/-- the day within the era, the year of the era, the day of that year, the month counted from March -/
def eraOf (day : Int) : Int := (day + 730427) / 146097
def inEra (day : Int) : Int := (day + 730427) % 146097
def yoeOf (day : Int) : Int := (inEra day - inEra day / 1460 + inEra day / 36524 - inEra day / 146096) / 365
def doyOf (day : Int) : Int := inEra day - (365 * yoeOf day + yoeOf day / 4 - yoeOf day / 100)
def mpOf (day : Int) : Int := (5 * doyOf day + 2) / 153
def yearOf (day : Int) : Int := if 12 < mpOf day + 3 then eraOf day * 400 + yoeOf day + 1 else eraOf day * 400 + yoeOf day
def monthOf (day : Int) : Int := if 12 < mpOf day + 3 then mpOf day + 3 - 12 else mpOf day + 3
def dateOf (day : Int) : Int := doyOf day - (153 * mpOf day + 2) / 5 + 1
theorem yearOf_yr (day : Int) : yearOf day = yr day := rfl
theorem bounds (day : Int) : 0 ≤ inEra day ∧ inEra day < 146097 ∧ 0 ≤ yoeOf day ∧ yoeOf day < 400 ∧ 0 ≤ doyOf day ∧ doyOf day ≤ 365 ∧ 0 ≤ mpOf day ∧ mpOf day ≤ 11 := by
  have h1 : 0 ≤ inEra day ∧ inEra day < 146097 := by unfold inEra; omega
  obtain ⟨n, hn⟩ := Int.eq_ofNat_of_zero_le h1.1
  have hlt : n < 146097 := by omega
  have hy := yoe n hlt
  have hg : ((gg n : Nat) : Int) = n - (n : Int) / 1460 + (n : Int) / 36524 - (n : Int) / 146096 := by unfold gg; omega
  have ho : yoeOf day = ((gg n / 365 : Nat) : Int) := by unfold yoeOf; rw [hn, ← hg]; omega
  generalize gg n / 365 = o at hy ho
  have hy' : (o : Int) < 400 ∧ 365 * (o : Int) + (o : Int) / 4 - (o : Int) / 100 ≤ n ∧ (n : Int) < 365 * ((o : Int) + 1) + ((o : Int) + 1) / 4 - ((o : Int) + 1) / 100 + ((o : Int) + 1) / 400 := by
    have c1 : ((st o : Nat) : Int) = 365 * (o : Int) + (o : Int) / 4 - (o : Int) / 100 + (o : Int) / 400 := by unfold st; omega
    have c2 : ((st (o + 1) : Nat) : Int) = 365 * ((o : Int) + 1) + ((o : Int) + 1) / 4 - ((o : Int) + 1) / 100 + ((o : Int) + 1) / 400 := by
      have : ((o + 1 : Nat) : Int) = (o : Int) + 1 := by omega
      rw [← this]; unfold st; omega
    clear ho hg
    omega
  have h3 : 0 ≤ doyOf day ∧ doyOf day ≤ 365 := by unfold doyOf; rw [ho, hn]; omega
  have h4 : 0 ≤ mpOf day ∧ mpOf day ≤ 11 := by unfold mpOf; omega
  exact ⟨h1.1, h1.2, by omega, by omega, h3.1, h3.2, h4.1, h4.2⟩
/-! ### the months of the reference -/
def ml (y m : Int) : Int := if m = 2 then yl y - 337 else if m = 4 ∨ m = 6 ∨ m = 9 ∨ m = 11 then 30 else 31
theorem yl_cases (y : Int) : yl y = 365 ∨ yl y = 366 := by unfold yl; split <;> simp
theorem ml_bounds (y m : Int) : 28 ≤ ml y m ∧ ml y m ≤ 31 := by
  have := yl_cases y
  unfold ml; split
  · omega
  · split <;> omega
/-- month by month -/
def mloop (y : Int) : Nat → Int → Int → Int × Int
  | 0, m, n => (m, n)
  | f + 1, m, n => if ml y m ≤ n then mloop y f (m + 1) (n - ml y m) else (m, n)
/-- the days ahead of a month -/
def cum (y : Int) (m : Nat) : Int := match m with | 0 => 0 | k + 1 => cum y k + ml y ((k : Int) + 1)
theorem cum_all (y : Int) : cum y 12 = yl y := by
  simp only [cum, ml]
  omega
end Cal

/- Dates and days of both, in plain words. -/
namespace Cal
theorem cum_tab (y : Int) : cum y 0 = 0 ∧ cum y 1 = 31 ∧ cum y 2 = yl y - 306 ∧ cum y 3 = yl y - 275 ∧ cum y 4 = yl y - 245 ∧ cum y 5 = yl y - 214 ∧ cum y 6 = yl y - 184 ∧ cum y 7 = yl y - 153 ∧ cum y 8 = yl y - 122 ∧ cum y 9 = yl y - 92 ∧ cum y 10 = yl y - 61 ∧ cum y 11 = yl y - 31 ∧ cum y 12 = yl y := by
  simp only [cum, ml]
  simp
  omega
theorem dayNum_cum (y d : Int) {k : Nat} (hk : k ≤ 11) : dayNum y ((k : Int) + 1) d = dn y + cum y k + d - 1 := by
  have hyl := yl_dn y
  obtain ⟨t0, t1, t2, t3, t4, t5, t6, t7, t8, t9, t10, t11, _⟩ := cum_tab y
  rcases (show k = 0 ∨ k = 1 ∨ k = 2 ∨ k = 3 ∨ k = 4 ∨ k = 5 ∨ k = 6 ∨ k = 7 ∨ k = 8 ∨ k = 9 ∨ k = 10 ∨ k = 11 by omega) with rfl | rfl | rfl | rfl | rfl | rfl | rfl | rfl | rfl | rfl | rfl | rfl
  · rw [t0]
    have := dayNum_jan y d
    simpa using this
  · rw [t1]
    clear hyl t0 t1 t2 t3 t4 t5 t6 t7 t8 t9 t10 t11
    unfold dayNum dn
    simp
    omega
  all_goals
    first | rw [t2] | rw [t3] | rw [t4] | rw [t5] | rw [t6] | rw [t7] | rw [t8] | rw [t9] | rw [t10] | rw [t11]
    rw [hyl]
    clear hyl t0 t1 t2 t3 t4 t5 t6 t7 t8 t9 t10 t11
    unfold dayNum dn
    simp
    omega
/-- how long the year from March on is -/
theorem doy_lt (day : Int) : doyOf day < 365 + ((yoeOf day + 1) / 4 - yoeOf day / 4) - ((yoeOf day + 1) / 100 - yoeOf day / 100) + (yoeOf day + 1) / 400 := by
  have h1 : 0 ≤ inEra day ∧ inEra day < 146097 := by unfold inEra; omega
  obtain ⟨n, hn⟩ := Int.eq_ofNat_of_zero_le h1.1
  have hlt : n < 146097 := by omega
  have hy := yoe n hlt
  have hg : ((gg n : Nat) : Int) = n - (n : Int) / 1460 + (n : Int) / 36524 - (n : Int) / 146096 := by unfold gg; omega
  have ho : yoeOf day = ((gg n / 365 : Nat) : Int) := by unfold yoeOf; rw [hn, ← hg]; omega
  generalize gg n / 365 = o at hy ho
  have hy' : (o : Int) < 400 ∧ (n : Int) < 365 * ((o : Int) + 1) + ((o : Int) + 1) / 4 - ((o : Int) + 1) / 100 + ((o : Int) + 1) / 400 := by
    have c2 : ((st (o + 1) : Nat) : Int) = 365 * ((o : Int) + 1) + ((o : Int) + 1) / 4 - ((o : Int) + 1) / 100 + ((o : Int) + 1) / 400 := by
      have : ((o + 1 : Nat) : Int) = (o : Int) + 1 := by omega
      rw [← this]; unfold st; omega
    clear ho hg
    omega
  unfold doyOf
  rw [ho, hn]
  omega
/-- a day by its March year -/
theorem day_at (day : Int) : day = dn (eraOf day * 400 + yoeOf day + 1) - 306 + doyOf day := by
  obtain ⟨h1, h2, h3, h4, h5, h6, _, _⟩ := bounds day
  have e := dn_at (eraOf day) (yoeOf day) h3 h4
  rw [show eraOf day * 400 + yoeOf day + 1 = 400 * eraOf day + yoeOf day + 1 by omega, e]
  unfold doyOf eraOf inEra
  omega
theorem yl_at (day : Int) : yl (eraOf day * 400 + yoeOf day + 1) = 365 + ((yoeOf day + 1) / 4 - yoeOf day / 4) - ((yoeOf day + 1) / 100 - yoeOf day / 100) + (yoeOf day + 1) / 400 := by
  obtain ⟨h1, h2, h3, h4, h5, h6, _, _⟩ := bounds day
  rw [yl_dn]
  generalize eraOf day = e at *
  generalize yoeOf day = o at *
  unfold dn
  omega
def tt : Nat → Int
  | 3 => 31 | 4 => 61 | 5 => 92 | 6 => 122 | 7 => 153 | 8 => 184 | 9 => 214 | 10 => 245 | 11 => 275 | 12 => 306
  | _ => 0
theorem cum_tt (y : Int) {k : Nat} (h2 : 2 ≤ k) (hk : k ≤ 12) : cum y k = yl y - 306 + tt k := by
  obtain ⟨_, _, t2, t3, t4, t5, t6, t7, t8, t9, t10, t11, t12⟩ := cum_tab y
  rcases (show k = 2 ∨ k = 3 ∨ k = 4 ∨ k = 5 ∨ k = 6 ∨ k = 7 ∨ k = 8 ∨ k = 9 ∨ k = 10 ∨ k = 11 ∨ k = 12 by omega) with rfl | rfl | rfl | rfl | rfl | rfl | rfl | rfl | rfl | rfl | rfl
  · rw [t2]; simp only [tt]; omega
  · rw [t3]; simp only [tt]; omega
  · rw [t4]; simp only [tt]; omega
  · rw [t5]; simp only [tt]; omega
  · rw [t6]; simp only [tt]; omega
  · rw [t7]; simp only [tt]; omega
  · rw [t8]; simp only [tt]; omega
  · rw [t9]; simp only [tt]; omega
  · rw [t10]; simp only [tt]; omega
  · rw [t11]; simp only [tt]; omega
  · rw [t12]; simp only [tt]; omega
theorem tt_bounds {k : Nat} (hk : k ≤ 12) : 0 ≤ tt k ∧ tt k ≤ 306 := by
  rcases (show k = 0 ∨ k = 1 ∨ k = 2 ∨ k = 3 ∨ k = 4 ∨ k = 5 ∨ k = 6 ∨ k = 7 ∨ k = 8 ∨ k = 9 ∨ k = 10 ∨ k = 11 ∨ k = 12 by omega) with rfl | rfl | rfl | rfl | rfl | rfl | rfl | rfl | rfl | rfl | rfl | rfl | rfl <;> decide
theorem tt_month {q : Int} {k : Nat} (h2 : 2 ≤ k) (hk : k ≤ 11) (a : tt k ≤ q) (b : q < tt (k + 1)) : (5 * q + 2) / 153 + 3 = (k : Int) + 1 ∧ q - (153 * ((5 * q + 2) / 153) + 2) / 5 + 1 = q - tt k + 1 := by
  rcases (show k = 2 ∨ k = 3 ∨ k = 4 ∨ k = 5 ∨ k = 6 ∨ k = 7 ∨ k = 8 ∨ k = 9 ∨ k = 10 ∨ k = 11 by omega) with rfl | rfl | rfl | rfl | rfl | rfl | rfl | rfl | rfl | rfl
  all_goals
    simp only [tt, Nat.reduceAdd] at a b ⊢
    omega
theorem month_of {Y q : Int} {k : Nat} (hk : k ≤ 11) (h0 : 0 ≤ q) (h1 : cum Y k ≤ yl Y - 306 + q) (h2 : yl Y - 306 + q < cum Y (k + 1)) :
    (5 * q + 2) / 153 + 3 = (k : Int) + 1 ∧ q - (153 * ((5 * q + 2) / 153) + 2) / 5 + 1 = yl Y - 306 + q - cum Y k + 1 := by
  have hy := yl_cases Y
  rcases (show k = 0 ∨ k = 1 ∨ 2 ≤ k by omega) with rfl | rfl | hk2
  · exfalso
    rw [(cum_tab Y).2.1] at h2
    omega
  · exfalso
    rw [(cum_tab Y).2.2.1] at h2
    omega
  · rw [cum_tt Y hk2 (by omega)] at h1 ⊢
    rw [cum_tt Y (by omega) (by omega)] at h2
    have := tt_month (q := q) hk2 hk (by omega) (by omega)
    exact ⟨this.1, by rw [this.2]; omega⟩
theorem month_jan {Y q : Int} {k : Nat} (hk : k ≤ 11) (h0 : 306 ≤ q) (hq : q < yl Y) (h1 : cum Y k ≤ q - 306) (h2 : q - 306 < cum Y (k + 1)) :
    (5 * q + 2) / 153 + 3 - 12 = (k : Int) + 1 ∧ q - (153 * ((5 * q + 2) / 153) + 2) / 5 + 1 = q - 306 - cum Y k + 1 := by
  have hy := yl_cases Y
  rcases (show k = 0 ∨ k = 1 ∨ 2 ≤ k by omega) with rfl | rfl | hk2
  · rw [(cum_tab Y).2.1] at h2
    rw [(cum_tab Y).1]
    omega
  · rw [(cum_tab Y).2.1] at h1 ⊢
    omega
  · exfalso
    rw [cum_tt Y hk2 (by omega)] at h1
    have := tt_bounds (k := k) (by omega)
    omega
theorem date_of {day : Int} {k : Nat} (hk : k ≤ 11) (h1 : cum (yr day) k ≤ day - dn (yr day)) (h2 : day - dn (yr day) < cum (yr day) (k + 1)) : monthOf day = (k : Int) + 1 ∧ dateOf day = day - dn (yr day) - cum (yr day) k + 1 := by
  obtain ⟨_, _, b3, b4, b5, b6, b7, b8⟩ := bounds day
  have hda := day_at day
  have hmp : mpOf day = (5 * doyOf day + 2) / 153 := rfl
  have hyr : yr day = if 12 < mpOf day + 3 then eraOf day * 400 + yoeOf day + 1 else eraOf day * 400 + yoeOf day := rfl
  have hmo : monthOf day = if 12 < mpOf day + 3 then mpOf day + 3 - 12 else mpOf day + 3 := rfl
  have hdt : dateOf day = doyOf day - (153 * mpOf day + 2) / 5 + 1 := rfl
  by_cases hc : 12 < mpOf day + 3
  · have hdl := doy_lt day
    have hya := yl_at day
    rw [← hya] at hdl
    rw [if_pos hc] at hyr hmo
    rw [hyr] at h1 h2 ⊢
    rw [hmo, hdt]
    have hq : day - dn (eraOf day * 400 + yoeOf day + 1) = doyOf day - 306 := by omega
    rw [hq] at h1 h2 ⊢
    rw [hmp] at hc ⊢
    exact month_jan hk (by omega) hdl h1 h2
  · rw [if_neg hc] at hyr hmo
    rw [hyr] at h1 h2 ⊢
    rw [hmo, hdt]
    have hy1 := yl_dn (eraOf day * 400 + yoeOf day)
    have hq : day - dn (eraOf day * 400 + yoeOf day) = yl (eraOf day * 400 + yoeOf day) - 306 + doyOf day := by omega
    rw [hq] at h1 h2 ⊢
    rw [hmp] at hc ⊢
    exact month_of hk b5 h1 h2
/-! ### the day of a date -/
def dayOfF (y m d : Int) : Int × Int :=
  if (2000 ≤ y ∧ y ≤ 9999 ∧ 1 ≤ m ∧ m ≤ 12 ∧ 1 ≤ d ∧ d ≤ 31) ∧ (0 ≤ dayNum y m d ∧ dayNum y m d ≤ 999999) ∧ yearOf (dayNum y m d) = y ∧ monthOf (dayNum y m d) = m ∧ dateOf (dayNum y m d) = d then (dayNum y m d, 0) else (0, 9)
def rdayN (y m d : Int) : Int := if y < 2000 then -1 else dn y + cum y (m - 1).toNat + d - 1
def rdayOfF (y m d : Int) : Int × Int := if (1990 ≤ y ∧ y ≤ 4740 ∧ 1 ≤ m ∧ m ≤ 12 ∧ 1 ≤ d ∧ d ≤ ml y m) ∧ 0 ≤ rdayN y m d ∧ rdayN y m d ≤ 999999 then (rdayN y m d, 0) else (0, 9)
theorem cum_succ (y : Int) (k : Nat) : cum y (k + 1) = cum y k + ml y ((k : Int) + 1) := rfl
theorem cum_le (y : Int) {k : Nat} (hk : k ≤ 11) : 0 ≤ cum y k ∧ cum y (k + 1) ≤ yl y := by
  have hc2 := yl_cases y
  rcases (show k = 0 ∨ k = 1 ∨ 2 ≤ k by omega) with rfl | rfl | hk2
  · rw [(cum_tab y).1, (cum_tab y).2.1]
    omega
  · rw [(cum_tab y).2.1, (cum_tab y).2.2.1]
    omega
  · rw [cum_tt y hk2 (by omega), cum_tt y (by omega) (by omega)]
    have h1 := tt_bounds (k := k) (by omega)
    have h2 := tt_bounds (k := k + 1) (by omega)
    omega
theorem dayOf_eq (y m d : Int) : dayOfF y m d = rdayOfF y m d := by
  unfold dayOfF rdayOfF
  by_cases hr : 2000 ≤ y ∧ 1 ≤ m ∧ m ≤ 12 ∧ 1 ≤ d
  case neg =>
    rw [if_neg (fun h => hr ⟨h.1.1, h.1.2.2.1, h.1.2.2.2.1, h.1.2.2.2.2.1⟩), if_neg]
    rintro ⟨⟨h1, h2, h3, h4, h5, h6⟩, h7, h8⟩
    unfold rdayN at h7
    split at h7
    · omega
    · exact hr ⟨by omega, h3, h4, h5⟩
  case pos =>
    obtain ⟨hy, hm1, hm12, hd1⟩ := hr
    obtain ⟨k, rfl⟩ : ∃ k : Nat, m = (k : Int) + 1 := ⟨(m - 1).toNat, by omega⟩
    have hk : k ≤ 11 := by omega
    have hN : rdayN y ((k : Int) + 1) d = dayNum y ((k : Int) + 1) d := by
      unfold rdayN
      rw [if_neg (by omega), dayNum_cum y d hk, show ((k : Int) + 1 - 1).toNat = k by omega]
    rw [hN]
    have hDN := dayNum_cum y d hk
    obtain ⟨n, hn⟩ : ∃ n, dayNum y ((k : Int) + 1) d = n := ⟨_, rfl⟩
    rw [hn] at hDN ⊢
    have hcl := cum_le y hk
    have hcs := cum_succ y k
    have hmb := ml_bounds y ((k : Int) + 1)
    have hyl := yl_dn y
    by_cases hn1 : 0 ≤ n ∧ n ≤ 999999
    case neg => rw [if_neg (fun h => hn1 h.2.1), if_neg (fun h => hn1 h.2)]
    case pos =>
      have hy2 : y ≤ 4740 := by
        apply Classical.byContradiction
        intro hgt
        have h1 := dn_mono 4741 (y - 4741).toNat
        rw [show (4741 : Int) + ((y - 4741).toNat : Int) = y by omega] at h1
        have h2 : dn 4741 = 1001128 := by decide
        omega
      by_cases hdm : d ≤ ml y ((k : Int) + 1)
      case pos =>
        have hyr : yr n = y := yr_unique (by omega) (by omega)
        have hdo := date_of (day := n) hk (by rw [hyr]; omega) (by rw [hyr]; omega)
        rw [hyr] at hdo
        rw [if_pos ⟨⟨hy, by omega, hm1, hm12, hd1, by omega⟩, hn1, by rw [yearOf_yr, hyr], hdo.1, by rw [hdo.2]; omega⟩, if_pos ⟨⟨by omega, hy2, hm1, hm12, hd1, hdm⟩, hn1⟩]
      case neg =>
        rw [if_neg, if_neg (fun h => hdm h.1.2.2.2.2.2)]
        rintro ⟨_, _, e1, e2, e3⟩
        rw [yearOf_yr] at e1
        obtain ⟨s1, s2⟩ := yr_spec n
        rw [e1] at s1 s2
        -- the month that the day lies in
        have hex : ∃ j : Nat, j ≤ 11 ∧ cum y j ≤ n - dn y ∧ n - dn y < cum y (j + 1) := by
          apply Classical.byContradiction
          intro hno
          have hall : ∀ j : Nat, j ≤ 12 → cum y j ≤ n - dn y := by
            intro j
            induction j with
            | zero => intro _; simp only [cum]; omega
            | succ j ih =>
              intro hj
              have := ih (by omega)
              apply Classical.byContradiction
              intro hlt
              exact hno ⟨j, by omega, this, by omega⟩
          have := hall 12 (Nat.le_refl _)
          rw [cum_all] at this
          omega
        obtain ⟨j, hj, c1, c2⟩ := hex
        have hdo := date_of (day := n) hj (by rw [e1]; exact c1) (by rw [e1]; exact c2)
        rw [e1] at hdo
        have hjk : j = k := by have := hdo.1; omega
        subst hjk
        omega
end Cal
