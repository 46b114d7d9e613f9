/- Several texts of this claim in one. -/
/- Years, leap years and weeks, in plain numbers. -/
namespace Cal
def gg (n : Nat) : Nat := n - n/1460 + n/36524 - n/146096
def st (y : Nat) : Nat := 365*y + y/4 - y/100 + y/400
theorem gg_mono1 (n : Nat) : gg n ≤ gg (n+1) := by unfold gg; omega
theorem gg_mono (a d : Nat) : gg a ≤ gg (a+d) := by
  induction d with
  | zero => exact Nat.le_refl _
  | succ d ih => exact Nat.le_trans ih (gg_mono1 (a+d))
theorem ends : ∀ y, y < 400 → gg (st y) / 365 = y ∧ gg (st (y+1) - 1) / 365 = y := by decide +kernel
theorem st_mono1 (y : Nat) : st y < st (y+1) := by unfold st; omega
/-- the year within an era: where the days lie. -/
theorem yoe_of (n y : Nat) (hy : y < 400) (h1 : st y ≤ n) (h2 : n < st (y+1)) : gg n / 365 = y := by
  have ⟨e1, e2⟩ := ends y hy
  have m1 := gg_mono (st y) (n - st y)
  have m2 := gg_mono n (st (y+1) - 1 - n)
  rw [show st y + (n - st y) = n by omega] at m1
  rw [show n + (st (y+1) - 1 - n) = st (y+1) - 1 by omega] at m2
  omega
theorem find (n : Nat) (k : Nat) (h : n < st k) : ∃ y, y < k ∧ st y ≤ n ∧ n < st (y+1) := by
  induction k with
  | zero => simp [st] at h
  | succ k ih =>
    by_cases hk : n < st k
    · obtain ⟨y, h1, h2, h3⟩ := ih hk; exact ⟨y, by omega, h2, h3⟩
    · exact ⟨k, by omega, by omega, h⟩
theorem yoe (n : Nat) (h : n < 146097) : gg n / 365 < 400 ∧ st (gg n / 365) ≤ n ∧ n < st (gg n / 365 + 1) := by
  obtain ⟨y, h1, h2, h3⟩ := find n 400 (by simp [st]; omega)
  rw [yoe_of n y h1 h2 h3]; exact ⟨h1, h2, h3⟩

/-- dayNumber of the 1st of January, less 1 .. as Int -/
def dn (y : Int) : Int := (y - 1) / 400 * 146097 + (y - 1) % 400 * 365 + (y - 1) % 400 / 4 - (y - 1) % 400 / 100 + 306 - 730427
/-- the year of a day, as dateOf reckons it -/
def yr (day : Int) : Int :=
  let n := day + 730427
  let era := n / 146097
  let n := n % 146097
  let o := (n - n / 1460 + n / 36524 - n / 146096) / 365
  let n := n - (365 * o + o / 4 - o / 100)
  let m := (5 * n + 2) / 153
  if 12 < m + 3 then era * 400 + o + 1 else era * 400 + o
theorem dn_mono1 (y : Int) : dn y + 365 ≤ dn (y + 1) ∧ dn (y+1) ≤ dn y + 366 := by unfold dn; omega
theorem dn_mono (y : Int) (k : Nat) : dn y + 365 * k ≤ dn (y + k) := by
  induction k with
  | zero => simp
  | succ k ih => have := dn_mono1 (y + k); rw [show y + ((k + 1 : Nat) : Int) = y + k + 1 by omega]; omega
theorem dn_lt {y z : Int} (h : dn y < dn (z + 1)) : y ≤ z := by
  rcases (show y ≤ z ∨ z + 1 ≤ y by omega) with h1 | h1
  · exact h1
  · have := dn_mono (z + 1) (y - (z + 1)).toNat
    rw [show z + 1 + (((y - (z+1)).toNat : Nat) : Int) = y by omega] at this; omega
theorem dn_at (e o : Int) (h0 : 0 ≤ o) (h1 : o < 400) : dn (400 * e + o + 1) = e * 146097 + o * 365 + o / 4 - o / 100 + 306 - 730427 := by
  unfold dn
  have e1 : (400 * e + o + 1 - 1) / 400 = e := by omega
  have e2 : (400 * e + o + 1 - 1) % 400 = o := by omega
  rw [e1, e2]
/-- the year out of the era, the year of it, and the day of that. -/
theorem year_at (e o k : Int) (h0 : 0 ≤ o) (h1 : o < 400) (k0 : 0 ≤ k) (k1 : k < 365 + ((o + 1) / 4 - o / 4) - ((o + 1) / 100 - o / 100) + (o + 1) / 400) :
    let y := if 12 < (5 * k + 2) / 153 + 3 then e * 400 + o + 1 else e * 400 + o
    let day := e * 146097 + (365 * o + o / 4 - o / 100) + k - 730427
    dn y ≤ day ∧ day < dn (y + 1) := by
  have hm : 12 < (5 * k + 2) / 153 + 3 ↔ 306 ≤ k := by omega
  simp only [hm]
  by_cases hk : 306 ≤ k
  · simp only [hk, if_true]
    rw [show e * 400 + o + 1 = 400 * e + o + 1 by omega, dn_at e o h0 h1]
    refine ⟨by omega, ?_⟩
    by_cases h : o = 399
    · subst h
      rw [show 400 * e + 399 + 1 + 1 = 400 * (e + 1) + 0 + 1 by omega, dn_at (e+1) 0 (by omega) (by omega)]; omega
    · rw [show 400 * e + o + 1 + 1 = 400 * e + (o + 1) + 1 by omega, dn_at e (o+1) (by omega) (by omega)]; omega
  · simp only [hk, if_false]
    rw [show e * 400 + o + 1 = 400 * e + o + 1 by omega, dn_at e o h0 h1]
    refine ⟨?_, by omega⟩
    by_cases h : o = 0
    · subst h
      rw [show e * 400 + 0 = 400 * (e - 1) + 399 + 1 by omega, dn_at (e-1) 399 (by omega) (by omega)]; omega
    · rw [show e * 400 + o = 400 * e + (o - 1) + 1 by omega, dn_at e (o-1) (by omega) (by omega)]; omega
theorem yr_spec (day : Int) : dn (yr day) ≤ day ∧ day < dn (yr day + 1) := by
  obtain ⟨n, hn⟩ : ∃ n : Nat, (n : Int) = (day + 730427) % 146097 := ⟨((day + 730427) % 146097).toNat, by omega⟩
  have hlt : n < 146097 := by omega
  have hy := yoe n hlt
  have hg : ((gg n : Nat) : Int) = n - (n : Int) / 1460 + (n : Int) / 36524 - (n : Int) / 146096 := by unfold gg; omega
  generalize ho : gg n / 365 = o at hy
  have ho' : (o : Int) = (n - (n : Int) / 1460 + (n : Int) / 36524 - (n : Int) / 146096) / 365 := by rw [← hg]; omega
  have hy' : (o : Int) < 400 ∧ 365 * (o : Int) + (o : Int) / 4 - (o : Int) / 100 ≤ n ∧ (n : Int) < 365 * ((o : Int) + 1) + ((o : Int) + 1) / 4 - ((o : Int) + 1) / 100 + ((o : Int) + 1) / 400 := by
    have c1 : ((st o : Nat) : Int) = 365 * (o : Int) + (o : Int) / 4 - (o : Int) / 100 + (o : Int) / 400 := by unfold st; omega
    have c2 : ((st (o + 1) : Nat) : Int) = 365 * ((o : Int) + 1) + ((o : Int) + 1) / 4 - ((o : Int) + 1) / 100 + ((o : Int) + 1) / 400 := by
      have : ((o + 1 : Nat) : Int) = (o : Int) + 1 := by omega
      rw [← this]; unfold st; omega
    clear ho' hg ho
    omega
  clear hy hg ho
  have key := year_at ((day + 730427) / 146097) o (n - (365 * (o : Int) + (o : Int) / 4 - (o : Int) / 100)) (by omega) hy'.1 (by omega) (by omega)
  unfold yr
  simp only [← hn, ← ho']
  have hd : (day + 730427) / 146097 * 146097 + (365 * (o : Int) + (o : Int) / 4 - (o : Int) / 100) + (n - (365 * (o : Int) + (o : Int) / 4 - (o : Int) / 100)) - 730427 = day := by omega
  simp only [hd] at key
  exact key
theorem yr_unique {day y : Int} (h1 : dn y ≤ day) (h2 : day < dn (y + 1)) : yr day = y := by
  have ⟨a, b⟩ := yr_spec day
  have c : y ≤ yr day := dn_lt (by omega)
  have d : yr day ≤ y := dn_lt (by omega)
  omega

/-! ### the reference -/
def leap (y : Int) : Bool := y % 4 == 0 && (y % 100 != 0 || y % 400 == 0)
def yl (y : Int) : Int := if leap y = true then 366 else 365
theorem yl_dn (y : Int) : yl y = dn (y + 1) - dn y := by
  unfold yl leap
  simp only [Bool.and_eq_true, Bool.or_eq_true, beq_iff_eq, bne_iff_ne, ne_eq]
  unfold dn
  split <;> omega
/-- the sum of the lengths of k years from y on. -/
def suml (y : Int) : Nat → Int
  | 0 => 0
  | k + 1 => suml y k + yl (y + k)
theorem suml_dn (y : Int) (k : Nat) : suml y k = dn (y + k) - dn y := by
  induction k with
  | zero => simp [suml]
  | succ k ih => rw [suml, ih, yl_dn, show y + ((k + 1 : Nat) : Int) = y + k + 1 by omega]; omega
theorem dn2000 : dn 2000 = -2 := by decide
theorem dn_era (y k : Int) : dn (y + 400 * k) = dn y + 146097 * k := by unfold dn; omega
/-- before(year), for a year from 2000 on -/
theorem before_dn (y : Int) : (y - 2000) / 400 * 146097 + suml 2000 ((y - 2000) % 400).toNat = dn y + 2 := by
  rw [suml_dn, dn2000, show 2000 + ((((y - 2000) % 400).toNat : Nat) : Int) = 2000 + (y - 2000) % 400 by omega]
  have := dn_era (2000 + (y - 2000) % 400) ((y - 2000) / 400)
  rw [show 2000 + (y - 2000) % 400 + 400 * ((y - 2000) / 400) = y by omega] at this
  omega
/-- the first Monday of week 1 of a year -/
def fm (y : Int) : Int := dn y + 3 - (dn y + 3) % 7
theorem fm_le (y day : Int) : fm y ≤ day ↔ dn y ≤ day - day % 7 + 3 := by unfold fm; omega
theorem fm_week (y day : Int) : (day - fm y) / 7 + 1 = (day - day % 7 + 3 - dn y) / 7 + 1 := by unfold fm; omega

/-! ### what the program reckons -/
/-- the number of a day, as the program reckons it -/
def dayNum (y m d : Int) : Int :=
  let y' := if m < 3 then y - 1 else y
  y' / 400 * 146097 + y' % 400 * 365 + y' % 400 / 4 - y' % 400 / 100 + (153 * ((m + 9) % 12) + 2) / 5 + d - 1 - 730427
theorem dayNum_jan (y d : Int) : dayNum y 1 d = dn y + d - 1 := by
  unfold dayNum dn; simp; omega
/-- the day within the era, the year of the era, the day of that year, the month counted from March -/
def eraOf (day : Int) : Int := (day + 730427) / 146097
def inEra (day : Int) : Int := (day + 730427) % 146097
def yoeOf (day : Int) : Int := (inEra day - inEra day / 1460 + inEra day / 36524 - inEra day / 146096) / 365
def doyOf (day : Int) : Int := inEra day - (365 * yoeOf day + yoeOf day / 4 - yoeOf day / 100)
def mpOf (day : Int) : Int := (5 * doyOf day + 2) / 153
def yearOf (day : Int) : Int := if 12 < mpOf day + 3 then eraOf day * 400 + yoeOf day + 1 else eraOf day * 400 + yoeOf day
def monthOf (day : Int) : Int := if 12 < mpOf day + 3 then mpOf day + 3 - 12 else mpOf day + 3
def dateOf (day : Int) : Int := doyOf day - (153 * mpOf day + 2) / 5 + 1
theorem yearOf_yr (day : Int) : yearOf day = yr day := rfl
theorem bounds (day : Int) : 0 ≤ inEra day ∧ inEra day < 146097 ∧ 0 ≤ yoeOf day ∧ yoeOf day < 400 ∧ 0 ≤ doyOf day ∧ doyOf day ≤ 365 ∧ 0 ≤ mpOf day ∧ mpOf day ≤ 11 := by
  have h1 : 0 ≤ inEra day ∧ inEra day < 146097 := by unfold inEra; omega
  obtain ⟨n, hn⟩ := Int.eq_ofNat_of_zero_le h1.1
  have hlt : n < 146097 := by omega
  have hy := yoe n hlt
  have hg : ((gg n : Nat) : Int) = n - (n : Int) / 1460 + (n : Int) / 36524 - (n : Int) / 146096 := by unfold gg; omega
  have ho : yoeOf day = ((gg n / 365 : Nat) : Int) := by unfold yoeOf; rw [hn, ← hg]; omega
  generalize gg n / 365 = o at hy ho
  have hy' : (o : Int) < 400 ∧ 365 * (o : Int) + (o : Int) / 4 - (o : Int) / 100 ≤ n ∧ (n : Int) < 365 * ((o : Int) + 1) + ((o : Int) + 1) / 4 - ((o : Int) + 1) / 100 + ((o : Int) + 1) / 400 := by
    have c1 : ((st o : Nat) : Int) = 365 * (o : Int) + (o : Int) / 4 - (o : Int) / 100 + (o : Int) / 400 := by unfold st; omega
    have c2 : ((st (o + 1) : Nat) : Int) = 365 * ((o : Int) + 1) + ((o : Int) + 1) / 4 - ((o : Int) + 1) / 100 + ((o : Int) + 1) / 400 := by
      have : ((o + 1 : Nat) : Int) = (o : Int) + 1 := by omega
      rw [← this]; unfold st; omega
    clear ho hg
    omega
  have h3 : 0 ≤ doyOf day ∧ doyOf day ≤ 365 := by unfold doyOf; rw [ho, hn]; omega
  have h4 : 0 ≤ mpOf day ∧ mpOf day ≤ 11 := by unfold mpOf; omega
  exact ⟨h1.1, h1.2, by omega, by omega, h3.1, h3.2, h4.1, h4.2⟩
/-! ### the months of the reference -/
def ml (y m : Int) : Int := if m = 2 then yl y - 337 else if m = 4 ∨ m = 6 ∨ m = 9 ∨ m = 11 then 30 else 31
theorem yl_cases (y : Int) : yl y = 365 ∨ yl y = 366 := by unfold yl; split <;> simp
theorem ml_bounds (y m : Int) : 28 ≤ ml y m ∧ ml y m ≤ 31 := by
  have := yl_cases y
  unfold ml; split
  · omega
  · split <;> omega
/-- month by month -/
def mloop (y : Int) : Nat → Int → Int → Int × Int
  | 0, m, n => (m, n)
  | f + 1, m, n => if ml y m ≤ n then mloop y f (m + 1) (n - ml y m) else (m, n)
/-- the days ahead of a month -/
def cum (y : Int) (m : Nat) : Int := match m with | 0 => 0 | k + 1 => cum y k + ml y ((k : Int) + 1)
theorem cum_all (y : Int) : cum y 12 = yl y := by
  simp only [cum, ml]
  omega
end Cal

/- Dates and days of both, in plain words. -/
namespace Cal
theorem cum_tab (y : Int) : cum y 0 = 0 ∧ cum y 1 = 31 ∧ cum y 2 = yl y - 306 ∧ cum y 3 = yl y - 275 ∧ cum y 4 = yl y - 245 ∧ cum y 5 = yl y - 214 ∧ cum y 6 = yl y - 184 ∧ cum y 7 = yl y - 153 ∧ cum y 8 = yl y - 122 ∧ cum y 9 = yl y - 92 ∧ cum y 10 = yl y - 61 ∧ cum y 11 = yl y - 31 ∧ cum y 12 = yl y := by
  simp only [cum, ml]
  simp
  omega
theorem dayNum_cum (y d : Int) {k : Nat} (hk : k ≤ 11) : dayNum y ((k : Int) + 1) d = dn y + cum y k + d - 1 := by
  have hyl := yl_dn y
  obtain ⟨t0, t1, t2, t3, t4, t5, t6, t7, t8, t9, t10, t11, _⟩ := cum_tab y
  rcases (show k = 0 ∨ k = 1 ∨ k = 2 ∨ k = 3 ∨ k = 4 ∨ k = 5 ∨ k = 6 ∨ k = 7 ∨ k = 8 ∨ k = 9 ∨ k = 10 ∨ k = 11 by omega) with rfl | rfl | rfl | rfl | rfl | rfl | rfl | rfl | rfl | rfl | rfl | rfl
  · rw [t0]
    have := dayNum_jan y d
    simpa using this
  · rw [t1]
    clear hyl t0 t1 t2 t3 t4 t5 t6 t7 t8 t9 t10 t11
    unfold dayNum dn
    simp
    omega
  all_goals
    first | rw [t2] | rw [t3] | rw [t4] | rw [t5] | rw [t6] | rw [t7] | rw [t8] | rw [t9] | rw [t10] | rw [t11]
    rw [hyl]
    clear hyl t0 t1 t2 t3 t4 t5 t6 t7 t8 t9 t10 t11
    unfold dayNum dn
    simp
    omega
/-- how long the year from March on is -/
theorem doy_lt (day : Int) : doyOf day < 365 + ((yoeOf day + 1) / 4 - yoeOf day / 4) - ((yoeOf day + 1) / 100 - yoeOf day / 100) + (yoeOf day + 1) / 400 := by
  have h1 : 0 ≤ inEra day ∧ inEra day < 146097 := by unfold inEra; omega
  obtain ⟨n, hn⟩ := Int.eq_ofNat_of_zero_le h1.1
  have hlt : n < 146097 := by omega
  have hy := yoe n hlt
  have hg : ((gg n : Nat) : Int) = n - (n : Int) / 1460 + (n : Int) / 36524 - (n : Int) / 146096 := by unfold gg; omega
  have ho : yoeOf day = ((gg n / 365 : Nat) : Int) := by unfold yoeOf; rw [hn, ← hg]; omega
  generalize gg n / 365 = o at hy ho
  have hy' : (o : Int) < 400 ∧ (n : Int) < 365 * ((o : Int) + 1) + ((o : Int) + 1) / 4 - ((o : Int) + 1) / 100 + ((o : Int) + 1) / 400 := by
    have c2 : ((st (o + 1) : Nat) : Int) = 365 * ((o : Int) + 1) + ((o : Int) + 1) / 4 - ((o : Int) + 1) / 100 + ((o : Int) + 1) / 400 := by
      have : ((o + 1 : Nat) : Int) = (o : Int) + 1 := by omega
      rw [← this]; unfold st; omega
    clear ho hg
    omega
  unfold doyOf
  rw [ho, hn]
  omega
/-- a day by its March year -/
theorem day_at (day : Int) : day = dn (eraOf day * 400 + yoeOf day + 1) - 306 + doyOf day := by
  obtain ⟨h1, h2, h3, h4, h5, h6, _, _⟩ := bounds day
  have e := dn_at (eraOf day) (yoeOf day) h3 h4
  rw [show eraOf day * 400 + yoeOf day + 1 = 400 * eraOf day + yoeOf day + 1 by omega, e]
  unfold doyOf eraOf inEra
  omega
theorem yl_at (day : Int) : yl (eraOf day * 400 + yoeOf day + 1) = 365 + ((yoeOf day + 1) / 4 - yoeOf day / 4) - ((yoeOf day + 1) / 100 - yoeOf day / 100) + (yoeOf day + 1) / 400 := by
  obtain ⟨h1, h2, h3, h4, h5, h6, _, _⟩ := bounds day
  rw [yl_dn]
  generalize eraOf day = e at *
  generalize yoeOf day = o at *
  unfold dn
  omega
def tt : Nat → Int
  | 3 => 31 | 4 => 61 | 5 => 92 | 6 => 122 | 7 => 153 | 8 => 184 | 9 => 214 | 10 => 245 | 11 => 275 | 12 => 306
  | _ => 0
theorem cum_tt (y : Int) {k : Nat} (h2 : 2 ≤ k) (hk : k ≤ 12) : cum y k = yl y - 306 + tt k := by
  obtain ⟨_, _, t2, t3, t4, t5, t6, t7, t8, t9, t10, t11, t12⟩ := cum_tab y
  rcases (show k = 2 ∨ k = 3 ∨ k = 4 ∨ k = 5 ∨ k = 6 ∨ k = 7 ∨ k = 8 ∨ k = 9 ∨ k = 10 ∨ k = 11 ∨ k = 12 by omega) with rfl | rfl | rfl | rfl | rfl | rfl | rfl | rfl | rfl | rfl | rfl
  · rw [t2]; simp only [tt]; omega
  · rw [t3]; simp only [tt]; omega
  · rw [t4]; simp only [tt]; omega
  · rw [t5]; simp only [tt]; omega
  · rw [t6]; simp only [tt]; omega
  · rw [t7]; simp only [tt]; omega
  · rw [t8]; simp only [tt]; omega
  · rw [t9]; simp only [tt]; omega
  · rw [t10]; simp only [tt]; omega
  · rw [t11]; simp only [tt]; omega
  · rw [t12]; simp only [tt]; omega
theorem tt_bounds {k : Nat} (hk : k ≤ 12) : 0 ≤ tt k ∧ tt k ≤ 306 := by
  rcases (show k = 0 ∨ k = 1 ∨ k = 2 ∨ k = 3 ∨ k = 4 ∨ k = 5 ∨ k = 6 ∨ k = 7 ∨ k = 8 ∨ k = 9 ∨ k = 10 ∨ k = 11 ∨ k = 12 by omega) with rfl | rfl | rfl | rfl | rfl | rfl | rfl | rfl | rfl | rfl | rfl | rfl | rfl <;> decide
theorem tt_month {q : Int} {k : Nat} (h2 : 2 ≤ k) (hk : k ≤ 11) (a : tt k ≤ q) (b : q < tt (k + 1)) : (5 * q + 2) / 153 + 3 = (k : Int) + 1 ∧ q - (153 * ((5 * q + 2) / 153) + 2) / 5 + 1 = q - tt k + 1 := by
  rcases (show k = 2 ∨ k = 3 ∨ k = 4 ∨ k = 5 ∨ k = 6 ∨ k = 7 ∨ k = 8 ∨ k = 9 ∨ k = 10 ∨ k = 11 by omega) with rfl | rfl | rfl | rfl | rfl | rfl | rfl | rfl | rfl | rfl
  all_goals
    simp only [tt, Nat.reduceAdd] at a b ⊢
    omega
theorem month_of {Y q : Int} {k : Nat} (hk : k ≤ 11) (h0 : 0 ≤ q) (h1 : cum Y k ≤ yl Y - 306 + q) (h2 : yl Y - 306 + q < cum Y (k + 1)) :
    (5 * q + 2) / 153 + 3 = (k : Int) + 1 ∧ q - (153 * ((5 * q + 2) / 153) + 2) / 5 + 1 = yl Y - 306 + q - cum Y k + 1 := by
  have hy := yl_cases Y
  rcases (show k = 0 ∨ k = 1 ∨ 2 ≤ k by omega) with rfl | rfl | hk2
  · exfalso
    rw [(cum_tab Y).2.1] at h2
    omega
  · exfalso
    rw [(cum_tab Y).2.2.1] at h2
    omega
  · rw [cum_tt Y hk2 (by omega)] at h1 ⊢
    rw [cum_tt Y (by omega) (by omega)] at h2
    have := tt_month (q := q) hk2 hk (by omega) (by omega)
    exact ⟨this.1, by rw [this.2]; omega⟩
theorem month_jan {Y q : Int} {k : Nat} (hk : k ≤ 11) (h0 : 306 ≤ q) (hq : q < yl Y) (h1 : cum Y k ≤ q - 306) (h2 : q - 306 < cum Y (k + 1)) :
    (5 * q + 2) / 153 + 3 - 12 = (k : Int) + 1 ∧ q - (153 * ((5 * q + 2) / 153) + 2) / 5 + 1 = q - 306 - cum Y k + 1 := by
  have hy := yl_cases Y
  rcases (show k = 0 ∨ k = 1 ∨ 2 ≤ k by omega) with rfl | rfl | hk2
  · rw [(cum_tab Y).2.1] at h2
    rw [(cum_tab Y).1]
    omega
  · rw [(cum_tab Y).2.1] at h1 ⊢
    omega
  · exfalso
    rw [cum_tt Y hk2 (by omega)] at h1
    have := tt_bounds (k := k) (by omega)
    omega
theorem date_of {day : Int} {k : Nat} (hk : k ≤ 11) (h1 : cum (yr day) k ≤ day - dn (yr day)) (h2 : day - dn (yr day) < cum (yr day) (k + 1)) : monthOf day = (k : Int) + 1 ∧ dateOf day = day - dn (yr day) - cum (yr day) k + 1 := by
  obtain ⟨_, _, b3, b4, b5, b6, b7, b8⟩ := bounds day
  have hda := day_at day
  have hmp : mpOf day = (5 * doyOf day + 2) / 153 := rfl
  have hyr : yr day = if 12 < mpOf day + 3 then eraOf day * 400 + yoeOf day + 1 else eraOf day * 400 + yoeOf day := rfl
  have hmo : monthOf day = if 12 < mpOf day + 3 then mpOf day + 3 - 12 else mpOf day + 3 := rfl
  have hdt : dateOf day = doyOf day - (153 * mpOf day + 2) / 5 + 1 := rfl
  by_cases hc : 12 < mpOf day + 3
  · have hdl := doy_lt day
    have hya := yl_at day
    rw [← hya] at hdl
    rw [if_pos hc] at hyr hmo
    rw [hyr] at h1 h2 ⊢
    rw [hmo, hdt]
    have hq : day - dn (eraOf day * 400 + yoeOf day + 1) = doyOf day - 306 := by omega
    rw [hq] at h1 h2 ⊢
    rw [hmp] at hc ⊢
    exact month_jan hk (by omega) hdl h1 h2
  · rw [if_neg hc] at hyr hmo
    rw [hyr] at h1 h2 ⊢
    rw [hmo, hdt]
    have hy1 := yl_dn (eraOf day * 400 + yoeOf day)
    have hq : day - dn (eraOf day * 400 + yoeOf day) = yl (eraOf day * 400 + yoeOf day) - 306 + doyOf day := by omega
    rw [hq] at h1 h2 ⊢
    rw [hmp] at hc ⊢
    exact month_of hk b5 h1 h2
/-! ### the day of a date -/
def dayOfF (y m d : Int) : Int × Int :=
  if (2000 ≤ y ∧ y ≤ 9999 ∧ 1 ≤ m ∧ m ≤ 12 ∧ 1 ≤ d ∧ d ≤ 31) ∧ (0 ≤ dayNum y m d ∧ dayNum y m d ≤ 999999) ∧ yearOf (dayNum y m d) = y ∧ monthOf (dayNum y m d) = m ∧ dateOf (dayNum y m d) = d then (dayNum y m d, 0) else (0, 9)
def rdayN (y m d : Int) : Int := if y < 2000 then -1 else dn y + cum y (m - 1).toNat + d - 1
def rdayOfF (y m d : Int) : Int × Int := if (1990 ≤ y ∧ y ≤ 4740 ∧ 1 ≤ m ∧ m ≤ 12 ∧ 1 ≤ d ∧ d ≤ ml y m) ∧ 0 ≤ rdayN y m d ∧ rdayN y m d ≤ 999999 then (rdayN y m d, 0) else (0, 9)
theorem cum_succ (y : Int) (k : Nat) : cum y (k + 1) = cum y k + ml y ((k : Int) + 1) := rfl
theorem cum_le (y : Int) {k : Nat} (hk : k ≤ 11) : 0 ≤ cum y k ∧ cum y (k + 1) ≤ yl y := by
  have hc2 := yl_cases y
  rcases (show k = 0 ∨ k = 1 ∨ 2 ≤ k by omega) with rfl | rfl | hk2
  · rw [(cum_tab y).1, (cum_tab y).2.1]
    omega
  · rw [(cum_tab y).2.1, (cum_tab y).2.2.1]
    omega
  · rw [cum_tt y hk2 (by omega), cum_tt y (by omega) (by omega)]
    have h1 := tt_bounds (k := k) (by omega)
    have h2 := tt_bounds (k := k + 1) (by omega)
    omega
theorem dayOf_eq (y m d : Int) : dayOfF y m d = rdayOfF y m d := by
  unfold dayOfF rdayOfF
  by_cases hr : 2000 ≤ y ∧ 1 ≤ m ∧ m ≤ 12 ∧ 1 ≤ d
  case neg =>
    rw [if_neg (fun h => hr ⟨h.1.1, h.1.2.2.1, h.1.2.2.2.1, h.1.2.2.2.2.1⟩), if_neg]
    rintro ⟨⟨h1, h2, h3, h4, h5, h6⟩, h7, h8⟩
    unfold rdayN at h7
    split at h7
    · omega
    · exact hr ⟨by omega, h3, h4, h5⟩
  case pos =>
    obtain ⟨hy, hm1, hm12, hd1⟩ := hr
    obtain ⟨k, rfl⟩ : ∃ k : Nat, m = (k : Int) + 1 := ⟨(m - 1).toNat, by omega⟩
    have hk : k ≤ 11 := by omega
    have hN : rdayN y ((k : Int) + 1) d = dayNum y ((k : Int) + 1) d := by
      unfold rdayN
      rw [if_neg (by omega), dayNum_cum y d hk, show ((k : Int) + 1 - 1).toNat = k by omega]
    rw [hN]
    have hDN := dayNum_cum y d hk
    obtain ⟨n, hn⟩ : ∃ n, dayNum y ((k : Int) + 1) d = n := ⟨_, rfl⟩
    rw [hn] at hDN ⊢
    have hcl := cum_le y hk
    have hcs := cum_succ y k
    have hmb := ml_bounds y ((k : Int) + 1)
    have hyl := yl_dn y
    by_cases hn1 : 0 ≤ n ∧ n ≤ 999999
    case neg => rw [if_neg (fun h => hn1 h.2.1), if_neg (fun h => hn1 h.2)]
    case pos =>
      have hy2 : y ≤ 4740 := by
        apply Classical.byContradiction
        intro hgt
        have h1 := dn_mono 4741 (y - 4741).toNat
        rw [show (4741 : Int) + ((y - 4741).toNat : Int) = y by omega] at h1
        have h2 : dn 4741 = 1001128 := by decide
        omega
      by_cases hdm : d ≤ ml y ((k : Int) + 1)
      case pos =>
        have hyr : yr n = y := yr_unique (by omega) (by omega)
        have hdo := date_of (day := n) hk (by rw [hyr]; omega) (by rw [hyr]; omega)
        rw [hyr] at hdo
        rw [if_pos ⟨⟨hy, by omega, hm1, hm12, hd1, by omega⟩, hn1, by rw [yearOf_yr, hyr], hdo.1, by rw [hdo.2]; omega⟩, if_pos ⟨⟨by omega, hy2, hm1, hm12, hd1, hdm⟩, hn1⟩]
      case neg =>
        rw [if_neg, if_neg (fun h => hdm h.1.2.2.2.2.2)]
        rintro ⟨_, _, e1, e2, e3⟩
        rw [yearOf_yr] at e1
        obtain ⟨s1, s2⟩ := yr_spec n
        rw [e1] at s1 s2
        -- the month that the day lies in
        have hex : ∃ j : Nat, j ≤ 11 ∧ cum y j ≤ n - dn y ∧ n - dn y < cum y (j + 1) := by
          apply Classical.byContradiction
          intro hno
          have hall : ∀ j : Nat, j ≤ 12 → cum y j ≤ n - dn y := by
            intro j
            induction j with
            | zero => intro _; simp only [cum]; omega
            | succ j ih =>
              intro hj
              have := ih (by omega)
              apply Classical.byContradiction
              intro hlt
              exact hno ⟨j, by omega, this, by omega⟩
          have := hall 12 (Nat.le_refl _)
          rw [cum_all] at this
          omega
        obtain ⟨j, hj, c1, c2⟩ := hex
        have hdo := date_of (day := n) hj (by rw [e1]; exact c1) (by rw [e1]; exact c2)
        rw [e1] at hdo
        have hjk : j = k := by have := hdo.1; omega
        subst hjk
        omega
end Cal

/- One digit of a long division, in plain numbers. -/
namespace Knuth
/-- one digit: B the base, y = a*B+b the divisor, u < y the head, d < B the next digit. -/
theorem up {B u d a b q : Nat} (hd : d < B) (hq : q * (a * B + b) ≤ u * B + d) (ha : 0 < a) : q ≤ u / a := by
  rw [Nat.le_div_iff_mul_le ha]
  have h1 : q * a * B ≤ u * B + d := by
    have : q * (a * B + b) = q * a * B + q * b := by rw [Nat.mul_add, Nat.mul_assoc]
    omega
  have h2 : q * a * B < (u + 1) * B := by rw [Nat.add_mul]; omega
  have := Nat.lt_of_mul_lt_mul_right h2
  omega

/-- the test is exact -/
theorem test {B u d a b q r : Nat} (h : r + q * a = u) : (u * B + d < q * (a * B + b)) ↔ r * B + d < q * b := by
  subst h
  have e1 : (r + q * a) * B = r * B + q * a * B := Nat.add_mul _ _ _
  have e2 : q * (a * B + b) = q * a * B + q * b := by rw [Nat.mul_add, Nat.mul_assoc]
  omega

theorem first {B u a b : Nat} (hb : b < B) (ha : B ≤ 2 * a) (ha0 : 0 < a) (hu : u < a * B + b) : u / a ≤ B + 1 := by
  have : u / a < B + 2 := by
    rw [Nat.div_lt_iff_lt_mul ha0]
    have : (B + 2) * a = a * B + 2 * a := by rw [Nat.add_mul, Nat.mul_comm B a]
    omega
  omega

/-- where the rest has grown to the base, the digit is not too great -/
theorem small {B u d a b q r : Nat} (hb : b < B) (h : r + q * a = u) (hr : B ≤ r) (hq : q ≤ B) : q * (a * B + b) ≤ u * B + d := by
  have := (test (B := B) (d := d) (b := b) h)
  have h1 : q * b ≤ B * B := Nat.mul_le_mul hq (Nat.le_of_lt hb)
  have h2 : B * B ≤ r * B := Nat.mul_le_mul_right _ hr
  have h3 : ¬ (u * B + d < q * (a * B + b)) := by rw [this]; omega
  omega

theorem digit {n y q : Nat} (h1 : q * y ≤ n) (h2 : n < (q + 1) * y) : n / y = q := by
  have hy : 0 < y := by
    rcases Nat.eq_zero_or_pos y with h | h
    · subst h; simp at h2
    · exact h
  rw [Nat.div_eq_iff hy]
  rw [Nat.add_mul] at h2
  omega

/-- the quotient's digit is below the base -/
theorem below {B u d y : Nat} (hd : d < B) (hu : u < y) : (u * B + d) / y < B := by
  rw [Nat.div_lt_iff_lt_mul (by omega)]
  have : u * B + B ≤ y * B := by rw [← Nat.succ_mul]; exact Nat.mul_le_mul_right _ hu
  rw [Nat.mul_comm B y]; omega

/-- two digits: the quotient and the rest out of the digits. -/
theorem two {B u d1 d0 y : Nat} (hy : 0 < y) :
    ((u * B + d1) * B + d0) / y = (u * B + d1) / y * B + ((u * B + d1) % y * B + d0) / y ∧
    ((u * B + d1) * B + d0) % y = ((u * B + d1) % y * B + d0) % y := by
  have h := Nat.div_add_mod (u * B + d1) y
  have e : (u * B + d1) * B + d0 = ((u * B + d1) % y * B + d0) + y * ((u * B + d1) / y * B) := by
    have h' : (u * B + d1) * B = (y * ((u * B + d1) / y) + (u * B + d1) % y) * B := by rw [h]
    rw [h', Nat.add_mul, Nat.mul_assoc]; omega
  constructor
  · conv => lhs; rw [e]
    rw [Nat.add_mul_div_left _ _ hy]; omega
  · conv => lhs; rw [e]
    rw [Nat.add_mul_mod_self_left]

/-- shifting both by a power -/
theorem shifted {n y s : Nat} : (n * 2 ^ s) / (y * 2 ^ s) = n / y ∧ (n * 2 ^ s) % (y * 2 ^ s) / 2 ^ s = n % y := by
  have hp : 0 < 2 ^ s := Nat.two_pow_pos s
  refine ⟨Nat.mul_div_mul_right _ _ hp, ?_⟩
  rw [Nat.mul_mod_mul_right, Nat.mul_div_cancel _ hp]

/-! ### the base 2^32 -/
/-- q is not below the digit, r is the rest that goes with it. -/
def Dig (u d a b q r : Nat) : Prop := q ≤ 4294967297 ∧ r < 4294967296 ∧ r + q * a = u ∧ (u * 4294967296 + d) / (a * 4294967296 + b) ≤ q
structure Par (u d a b : Nat) : Prop where
  uY : u < a * 4294967296 + b
  dB : d < 4294967296
  a0 : 2147483648 ≤ a
  aB : a < 4294967296
  bB : b < 4294967296
theorem dig_start {u d a b : Nat} (h : Par u d a b) : Dig u d a b (u / a) (u % a) := by
  obtain ⟨hu, hd, ha, ha', hb⟩ := h
  have h1 := first (B := 4294967296) hb (by omega) (by omega) hu
  have h2 := up (B := 4294967296) (u := u) (d := d) (a := a) (b := b) (q := (u * 4294967296 + d) / (a * 4294967296 + b)) hd (Nat.div_mul_le_self _ _) (by omega)
  have h3 := Nat.div_add_mod u a
  have h4 := Nat.mod_lt u (show 0 < a by omega)
  rw [Nat.mul_comm] at h3
  exact ⟨by omega, by omega, by omega, h2⟩
theorem dig_lt {u d a b : Nat} (h : Par u d a b) : (u * 4294967296 + d) / (a * 4294967296 + b) < 4294967296 := below h.dB h.uY
theorem Dig.over {u d a b q r : Nat} (h : Par u d a b) (g : Dig u d a b q r) (ht : 4294967296 ≤ q ∨ r * 4294967296 + d < q * b) : (u * 4294967296 + d) / (a * 4294967296 + b) < q := by
  have h1 := h.a0
  rcases ht with ht | ht
  · exact Nat.lt_of_lt_of_le (dig_lt h) ht
  · rw [Nat.div_lt_iff_lt_mul (by omega)]
    exact (test g.2.2.1).2 ht
theorem Dig.rest {u d a b q r : Nat} (g : Dig u d a b q r) (hq : 0 < q) : (r + a) + (q - 1) * a = u := by
  obtain ⟨g1, g2, g3, g4⟩ := g
  obtain ⟨k, rfl⟩ : ∃ k, q = k + 1 := ⟨q - 1, by omega⟩
  rw [Nat.add_sub_cancel]; rw [Nat.add_mul] at g3; omega
/-- too great: one less -/
theorem Dig.less {u d a b q r : Nat} (h : Par u d a b) (g : Dig u d a b q r) (ht : 4294967296 ≤ q ∨ r * 4294967296 + d < q * b) (hr : r + a < 4294967296) : Dig u d a b (q - 1) (r + a) := by
  have h1 := g.over h ht
  have h2 := g.rest (Nat.zero_lt_of_lt h1)
  have h3 := g.1
  exact ⟨by omega, hr, h2, Nat.le_sub_one_of_lt h1⟩
/-- too great, and behind it the rest has grown to the base: one less is the digit. -/
theorem Dig.last {u d a b q r : Nat} (h : Par u d a b) (g : Dig u d a b q r) (ht : 4294967296 ≤ q ∨ r * 4294967296 + d < q * b) (hr : 4294967296 ≤ r + a) : q - 1 = (u * 4294967296 + d) / (a * 4294967296 + b) := by
  have h1 := g.over h ht
  have h2 := g.rest (Nat.zero_lt_of_lt h1)
  have h3 := g.1
  have h4 := h.a0
  have h7 := small (B := 4294967296) (d := d) h.bB h2 (by omega) (by omega)
  have h8 : q - 1 ≤ (u * 4294967296 + d) / (a * 4294967296 + b) := by rw [Nat.le_div_iff_mul_le (by omega)]; exact h7
  omega
/-- not too great: the digit. -/
theorem Dig.done {u d a b q r : Nat} (h : Par u d a b) (g : Dig u d a b q r) (ht : q * b ≤ r * 4294967296 + d) : q = (u * 4294967296 + d) / (a * 4294967296 + b) := by
  have h4 := h.a0
  have h5 := g.2.2.2
  have h8 : q ≤ (u * 4294967296 + d) / (a * 4294967296 + b) := by
    rw [Nat.le_div_iff_mul_le (by omega)]
    have := (test (B := 4294967296) (d := d) (b := b) g.2.2.1)
    omega
  omega
theorem Dig.pos {u d a b q r : Nat} (h : Par u d a b) (g : Dig u d a b q r) (ht : 4294967296 ≤ q ∨ r * 4294967296 + d < q * b) : 1 ≤ q := by
  exact Nat.zero_lt_of_lt (g.over h ht)
/-- a product of two half words -/
theorem mul_half {q b : Nat} (hq : q < 4294967296) (hb : b < 4294967296) : q * b < 18446744073709551616 := by
  have : q * b ≤ 4294967295 * 4294967295 := Nat.mul_le_mul (by omega) (by omega)
  omega
theorem digits {B N y s u d1 d0 Y : Nat} (hY : y * 2 ^ s = Y) (h0 : 0 < Y) (hN : N * 2 ^ s = (u * B + d1) * B + d0) :
    ∃ Q1 u2 Q0 r2, Q1 = (u * B + d1) / Y ∧ Q0 = (u2 * B + d0) / Y ∧ Y * Q1 + u2 = u * B + d1 ∧ Y * Q0 + r2 = u2 * B + d0 ∧ u2 < Y ∧ r2 < Y ∧ N / y = Q1 * B + Q0 ∧ N % y = r2 / 2 ^ s := by
  have htwo := two (B := B) (u := u) (d1 := d1) (d0 := d0) (y := Y) h0
  rw [← hN, ← hY] at htwo
  have hsh := shifted (n := N) (y := y) (s := s)
  rw [hsh.1] at htwo
  rw [htwo.2] at hsh
  rw [hY] at htwo hsh
  exact ⟨_, _, _, _, rfl, rfl, Nat.div_add_mod _ _, Nat.div_add_mod _ _, Nat.mod_lt _ h0, Nat.mod_lt _ h0, htwo.1, hsh.2.symm⟩
theorem start {u d a b : Nat} (h : Par u d a b) : ∃ qh rh, qh = u / a ∧ rh = u % a ∧ qh ≤ 4294967297 ∧ rh < a ∧ Dig u d a b qh rh := by
  have h1 := dig_start h
  have h2 := h.a0
  exact ⟨_, _, rfl, rfl, h1.1, Nat.mod_lt _ (by omega), h1⟩
end Knuth

/- Scale, as a plain function; the law that rounded quotients are near. -/
namespace Sc
/-- does a quotient with a rest go away from 0? -/
def away (how : Int) (below : Bool) (whole rest den : Nat) : Bool :=
  if how = 1 then below
  else if how = 2 then !below
  else if how = 3 then false
  else if how = 4 then decide (den < 2 * rest) || (decide (2 * rest = den) && !below)
  else decide (den < 2 * rest) || (decide (2 * rest = den) && decide (whole % 2 = 1))
def quo (how : Int) (below : Bool) (whole rest den : Nat) : Nat :=
  if 0 < rest ∧ away how below whole rest den = true then whole + 1 else whole
def sgn (below : Bool) (q : Nat) : Int := if below = true then -(q : Int) else (q : Int)
/-- Scale's results. -/
def sc (a num den how : Int) : Int × Int :=
  if how < 1 ∨ 5 < how then (0, 7)
  else if den ≤ 0 ∨ num < 0 then (0, 1)
  else
    let n := a.natAbs * num.toNat
    if den.toNat ≤ n / 18446744073709551616 then (0, 9)
    else
      let q := quo how (decide (a < 0)) (n / den.toNat) (n % den.toNat) den.toNat
      if 4611686018427387904 < q then (0, 9) else (sgn (decide (a < 0)) q, 0)

theorem away_mul {k : Nat} (hk : 0 < k) (how : Int) (below : Bool) (whole rest den : Nat) :
    away how below whole (k * rest) (k * den) = away how below whole rest den := by
  have h1 : (k * den < 2 * (k * rest)) ↔ den < 2 * rest := by
    rw [show 2 * (k * rest) = k * (2 * rest) by rw [Nat.mul_left_comm]]
    exact ⟨fun h => Nat.lt_of_mul_lt_mul_left h, fun h => Nat.mul_lt_mul_of_pos_left h hk⟩
  have h2 : (2 * (k * rest) = k * den) ↔ 2 * rest = den := by
    rw [show 2 * (k * rest) = k * (2 * rest) by rw [Nat.mul_left_comm]]
    exact ⟨fun h => Nat.eq_of_mul_eq_mul_left hk h, fun h => by rw [h]⟩
  simp only [away, h1, h2]

theorem quo_mul {k : Nat} (hk : 0 < k) (how : Int) (below : Bool) (whole rest den : Nat) :
    quo how below whole (k * rest) (k * den) = quo how below whole rest den := by
  have : 0 < k * rest ↔ 0 < rest := by
    constructor
    · intro h
      rcases Nat.eq_zero_or_pos rest with h0 | h0
      · subst h0; simp at h
      · exact h0
    · exact fun h => Nat.mul_pos hk h
  simp only [quo, away_mul hk, this]

/-- at moderate numbers: the value. -/
theorem sc_small (a num den how : Int) (h1 : 1 ≤ how) (h5 : how ≤ 5) (hd : 1 ≤ den) (hn : 0 ≤ num) (hs : a.natAbs * num.toNat < 4611686018427387904) :
    sc a num den how = (sgn (decide (a < 0)) (quo how (decide (a < 0)) (a.natAbs * num.toNat / den.toNat) (a.natAbs * num.toNat % den.toNat) den.toNat), 0) := by
  unfold sc
  rw [if_neg (by omega), if_neg (by omega)]
  have h0 : a.natAbs * num.toNat / 18446744073709551616 = 0 := Nat.div_eq_of_lt (by omega)
  simp only [h0]
  rw [if_neg (by omega), if_neg]
  have hle : a.natAbs * num.toNat / den.toNat ≤ a.natAbs * num.toNat := Nat.div_le_self _ _
  unfold quo
  split <;> omega

theorem sc_arg (a num den how : Int) (h1 : 1 ≤ how) (h5 : how ≤ 5) (h : den ≤ 0 ∨ num < 0) : sc a num den how = (0, 1) := by
  unfold sc; rw [if_neg (by omega), if_pos h]
/-- where the arguments are right: in terms of the two words of the product -/
theorem sc_high (a how : Int) (num den : Nat) (h1 : 1 ≤ how) (h5 : how ≤ 5) (hd : 1 ≤ den) (h : den ≤ a.natAbs * num / 18446744073709551616) : sc a num den how = (0, 9) := by
  unfold sc; rw [if_neg (by omega), if_neg (by omega)]
  simp only [Int.toNat_natCast]
  rw [if_pos h]
theorem sc_of (a how : Int) (num den : Nat) (h1 : 1 ≤ how) (h5 : how ≤ 5) (hd : 1 ≤ den) (h : a.natAbs * num / 18446744073709551616 < den) :
    sc a num den how = if 4611686018427387904 < quo how (decide (a < 0)) (a.natAbs * num / den) (a.natAbs * num % den) den then (0, 9)
      else (sgn (decide (a < 0)) (quo how (decide (a < 0)) (a.natAbs * num / den) (a.natAbs * num % den) den), 0) := by
  unfold sc; rw [if_neg (by omega), if_neg (by omega)]
  simp only [Int.toNat_natCast]
  rw [if_neg (by omega)]
theorem sc_kind (a num den how : Int) (h : how < 1 ∨ 5 < how) : sc a num den how = (0, 7) := by unfold sc; rw [if_pos h]

/-- THE LAW QuantRoundsAreNear, of the plain function. -/
theorem near (a b k how : Int) (ha : -1000000000 ≤ a) (ha' : a ≤ 1000000000) (hb : 1 ≤ b) (hb' : b ≤ 1000000000) (hk : 1 ≤ k) (hk' : k ≤ 1000) (h1 : 1 ≤ how) (h5 : how ≤ 5) :
    ∃ n : Int, sc a 1 b how = (n, 0) ∧ sc (k * a) 1 (k * b) how = (n, 0) ∧ sc a k (k * b) how = (n, 0) ∧
      -b < a - n * b ∧ a - n * b < b ∧ -1000000000 ≤ n ∧ n ≤ 1000000000 ∧
      (how = 1 → 0 ≤ a - n * b) ∧ (how = 2 → a - n * b ≤ 0) ∧ (how = 3 → a - n * b = 0 ∨ ((0 < a - n * b) ↔ 0 < a)) ∧
      (4 ≤ how → 2 * (a - n * b) ≤ b ∧ -b ≤ 2 * (a - n * b)) := by
  have hK : 0 < k.toNat := by omega
  have hB : 0 < b.toNat := by omega
  have hsz : a.natAbs * k.toNat ≤ 1000000000 * 1000 := Nat.mul_le_mul (by omega) (by omega)
  have e1 : (k * a).natAbs = k.toNat * a.natAbs := by rw [Int.natAbs_mul]; congr 1; omega
  have e2 : (k * b).toNat = k.toNat * b.toNat := Int.toNat_mul (by omega) (by omega)
  have hkb : 1 ≤ k * b := by
    have := Int.mul_pos (show 0 < k by omega) (show 0 < b by omega); omega
  have hneg : decide (k * a < 0) = decide (a < 0) := by
    rcases (show a < 0 ∨ 0 ≤ a by omega) with h | h
    · have : k * a < 0 := Int.mul_neg_of_pos_of_neg (by omega) h
      simp [h, this]
    · have : 0 ≤ k * a := Int.mul_nonneg (by omega) h
      simp only [decide_eq_decide]; omega
  have hdm := Nat.div_add_mod a.natAbs b.toNat
  have hr := Nat.mod_lt a.natAbs hB
  have hq0 : a.natAbs / b.toNat ≤ a.natAbs := Nat.div_le_self _ _
  refine ⟨sgn (decide (a < 0)) (quo how (decide (a < 0)) (a.natAbs / b.toNat) (a.natAbs % b.toNat) b.toNat), ?_, ?_, ?_, ?_⟩
  · rw [sc_small a 1 b how h1 h5 hb (by omega) (by simp; omega)]; simp
  · rw [sc_small (k * a) 1 (k * b) how h1 h5 hkb (by omega) (by rw [e1]; simp; rw [Nat.mul_comm]; omega)]
    rw [e1, e2, hneg]; simp only [Int.toNat_one, Nat.mul_one]
    rw [Nat.mul_div_mul_left _ _ hK, Nat.mul_mod_mul_left, quo_mul hK]
  · rw [sc_small a k (k * b) how h1 h5 hkb (by omega) (by omega)]
    rw [e2, Nat.mul_comm a.natAbs, Nat.mul_div_mul_left _ _ hK, Nat.mul_mod_mul_left, quo_mul hK]
  · generalize hq : a.natAbs / b.toNat = q at *
    generalize hrr : a.natAbs % b.toNat = r at *
    have hbb : (b.toNat : Int) = b := by omega
    have hq' : (b * q + r : Int) = (a.natAbs : Int) := by
      have := congrArg (fun n : Nat => (n : Int)) hdm
      simp only [Int.natCast_add, Int.natCast_mul, hbb] at this; exact this
    have hw : ∀ n : Int, n * b = b * n := fun n => Int.mul_comm _ _
    have hqb : (q : Int) ≤ b * q := by
      have := Int.mul_le_mul_of_nonneg_right (show (1 : Int) ≤ b from hb) (show (0 : Int) ≤ (q : Int) by omega); omega
    have h12 : how = 1 ∨ how = 2 ∨ how = 3 ∨ how = 4 ∨ how = 5 := by omega
    have hst : r = 0 ∨ 0 < r := by omega
    have hneg2 : b * (-(q : Int)) = -(b * q) := by rw [Int.mul_neg]
    have hsucc : b * ((q : Int) + 1) = b * q + b := by rw [Int.mul_add, Int.mul_one]
    have hneg3 : b * (-((q : Int) + 1)) = -(b * q) - b := by rw [Int.mul_neg, hsucc]; omega
    by_cases hn : a < 0
    · have hab : (a.natAbs : Int) = -a := by omega
      simp only [hn, decide_true]
      have key : ∀ m : Nat, (m = q ∨ (m = q + 1 ∧ 0 < r)) → (quo how true q r b.toNat = m) → 
        (-b < a - sgn true m * b ∧ a - sgn true m * b < b ∧ -1000000000 ≤ sgn true m ∧ sgn true m ≤ 1000000000) ∧ ((m = q → a - sgn true m * b = -r) ∧ (m = q + 1 → a - sgn true m * b = b - r)) := by
        intro m hm _
        simp only [sgn, if_true, hw]
        rcases hm with rfl | ⟨rfl, h0⟩
        · rw [hneg2]; omega
        · rw [show ((q + 1 : Nat) : Int) = (q : Int) + 1 by omega, hneg3]; omega
      by_cases hup : 0 < r ∧ away how true q r b.toNat = true
      · have hm : quo how true q r b.toNat = q + 1 := by unfold quo; rw [if_pos hup]
        have ⟨k1, k2, k3⟩ := key (q + 1) (.inr ⟨rfl, hup.1⟩) hm
        rw [hm]; have k3 := k3 rfl
        refine ⟨k1.1, k1.2.1, k1.2.2.1, k1.2.2.2, ?_⟩
        rw [k3]
        obtain ⟨hr0, hup⟩ := hup
        rcases h12 with rfl | rfl | rfl | rfl | rfl <;> simp [away] at hup <;> omega
      · have hm : quo how true q r b.toNat = q := by unfold quo; rw [if_neg hup]
        have ⟨k1, k2, k3⟩ := key q (.inl rfl) hm
        rw [hm]; have k2 := k2 rfl
        refine ⟨k1.1, k1.2.1, k1.2.2.1, k1.2.2.2, ?_⟩
        rw [k2]
        rcases hst with rfl | hst
        · omega
        · have hup : ¬ away how true q r b.toNat = true := fun h => hup ⟨hst, h⟩
          rcases h12 with rfl | rfl | rfl | rfl | rfl <;> simp [away] at hup <;> omega
    · have hab : (a.natAbs : Int) = a := by omega
      simp only [hn, decide_false]
      have key : ∀ m : Nat, (m = q ∨ (m = q + 1 ∧ 0 < r)) → (quo how false q r b.toNat = m) → 
        (-b < a - sgn false m * b ∧ a - sgn false m * b < b ∧ -1000000000 ≤ sgn false m ∧ sgn false m ≤ 1000000000) ∧ ((m = q → a - sgn false m * b = r) ∧ (m = q + 1 → a - sgn false m * b = r - b)) := by
        intro m hm _
        simp only [sgn, Bool.false_eq_true, if_false, hw]
        rcases hm with rfl | ⟨rfl, h0⟩
        · omega
        · rw [show ((q + 1 : Nat) : Int) = (q : Int) + 1 by omega, hsucc]; omega
      by_cases hup : 0 < r ∧ away how false q r b.toNat = true
      · have hm : quo how false q r b.toNat = q + 1 := by unfold quo; rw [if_pos hup]
        have ⟨k1, k2, k3⟩ := key (q + 1) (.inr ⟨rfl, hup.1⟩) hm
        rw [hm]; have k3 := k3 rfl
        refine ⟨k1.1, k1.2.1, k1.2.2.1, k1.2.2.2, ?_⟩
        rw [k3]
        obtain ⟨hr0, hup⟩ := hup
        rcases h12 with rfl | rfl | rfl | rfl | rfl <;> simp [away] at hup <;> omega
      · have hm : quo how false q r b.toNat = q := by unfold quo; rw [if_neg hup]
        have ⟨k1, k2, k3⟩ := key q (.inl rfl) hm
        rw [hm]; have k2 := k2 rfl
        refine ⟨k1.1, k1.2.1, k1.2.2.1, k1.2.2.2, ?_⟩
        rw [k2]
        rcases hst with rfl | hst
        · omega
        · have hup : ¬ away how false q r b.toNat = true := fun h => hup ⟨hst, h⟩
          rcases h12 with rfl | rfl | rfl | rfl | rfl <;> simp [away] at hup <;> omega
end Sc
