/- Gear: a use is checked among others (reference; printed by wip/g/gen_ruse.py). -/
import Derived.Test.YtbkpoepacjinlaaGo
namespace Go.Proofs.Ytbkpoepacjinlaa
open Go.RowKit Go.BigFrame
open Gar (momG endG chkUse)

/-- is there one among the first k? -/
def anyK (p : Nat → Bool) (k : Nat) : Bool := (List.range k).any p
theorem anyK_none {p : Nat → Bool} : ∀ {k : Nat}, (∀ i, i < k → p i = false) → anyK p k = false
  | k, h => by
    unfold anyK
    rw [List.any_eq_false]
    intro i hi
    rw [h i (List.mem_range.1 hi)]
    simp
theorem anyK_some {p : Nat → Bool} {k i : Nat} (hi : i < k) (h : p i = true) : anyK p k = true := by
  unfold anyK
  rw [List.any_eq_true]
  exact ⟨i, List.mem_range.2 hi, h⟩
theorem not_inB (n lo hi : Int) : (!inB n lo hi) = !inB n lo hi := rfl
set_option maxHeartbeats 4000000 in
set_option maxRecDepth 100000 in
theorem rcheckUse_any (g : Gar) (a3 : Option Addr) (k c : Nat) (n r : ByteArray) (f s x : Int) (w : World) (hn : n.size ≤ maxLen) (hr : r.size ≤ maxLen) (hk : k ≤ g.nu) (hl : (g.nu : Int) ≤ 9223372036854775807)
    (hrow : RowK w a3 g.nu 5 (fun i => [.string (g.un i), .string (g.ur i), .int .i64 (g.uf i), .int .i64 (g.us i), .int .i64 (g.uw i)])) :
    Calls Try.prog 56 #[useV n r f s x, .slice a3 k c] w fun e w' => e = .returned (.int .i64 (chkUse n r (anyK (fun i => decide (g.un i = n)) k) f s x)) ∧ Below w.heap.size w w' := by
  have D1 := Lib.hid (fun W => risName_any n W hn)
  have D2 := Lib.hid (fun W => risName_any r W hr)
  have D3 := Lib.hid (fun W => rmoment_any f W)
  have D4 := Lib.hid (fun W => rout_any s 1 1000000 W)
  have D5 := Lib.hid (fun W => rout_any x 0 1000000000 W)
  have HR := Lib.hid hrow
  have hv : chkUse n r (anyK (fun i => decide (g.un i = n)) k) f s x = if (nameB n && nameB r) = false then 8 else if anyK (fun i => decide (g.un i = n)) k = true then 5 else if (momG f && inB s 1 1000000 && inB x 0 1000000000) = false then 9 else 0 := by
    unfold chkUse inB
    simp only [Bool.and_assoc]
  obtain ⟨z, hz⟩ : ∃ z, chkUse n r (anyK (fun i => decide (g.un i = n)) k) f s x = z := ⟨_, rfl⟩
  rw [hz]
  rw [hv] at hz
  have HZ := Lib.hid hz
  clear hv hn hr hz hrow
  unfold useV
  generalize nameB n = b1 at D1 HZ
  generalize nameB r = b2 at D2 HZ
  generalize momG f = b3 at D3 HZ
  generalize inB s 1 1000000 = b4 at D4 HZ
  generalize inB x 0 1000000000 = b5 at D5 HZ
  obtain ⟨W0, hW0, hb0, hz0, hl0⟩ := alloc_cells w #[.string n, .string r, .int .i64 f, .int .i64 s, .int .i64 x] 38
  have l0 := Ext.ex (hl0 0 _ rfl)
  have l0a := Ext.exa l0
  have l1 := Ext.ex (hl0 1 _ rfl)
  have l2 := Ext.ex (hl0 2 _ rfl)
  have l3 := Ext.ex (hl0 3 _ rfl)
  have l4 := Ext.ex (hl0 4 _ rfl)
  have HW0 := Lib.hid hW0
  have HB0 := Lib.hid hb0
  have hz0' : w.heap.size ≤ W0.heap.size := by omega
  have HZ0 := Lib.hid hz0
  clear hl0 hW0 hb0 hz0
  cases b1
  · go_enter Try.func56, Try.ntmps56
    go_wp2_with fail
    rw [HW0.out]
    refine ext_calls fun X => ?_
    refine (D1.out _).mono ?_
    rintro e w1 ⟨rfl, rfl⟩
    go_wp2_with fail
    go_ret
    exact ⟨ret_int (by rw [← HZ.out]; rfl), X.down HB0.out hz0'⟩
  cases b2
  · go_enter Try.func56, Try.ntmps56
    go_wp2_with fail
    rw [HW0.out]
    refine ext_calls fun X => ?_
    refine (D1.out _).mono ?_
    rintro e w1 ⟨rfl, rfl⟩
    go_wp2_with fail
    refine (D2.out _).mono ?_
    rintro e w1 ⟨rfl, rfl⟩
    go_wp2_with fail
    go_ret
    exact ⟨ret_int (by rw [← HZ.out]; rfl), X.down HB0.out hz0'⟩
  go_enter Try.func56, Try.ntmps56
  go_wp2_with fail
  rw [HW0.out]
  refine ext_calls fun X => ?_
  refine (D1.out _).mono ?_
  rintro e w1 ⟨rfl, rfl⟩
  go_wp2_with fail
  refine (D2.out _).mono ?_
  rintro e w1 ⟨rfl, rfl⟩
  go_wp2_with fail
  go_loopw [19] (fun iv wr => ∃ (j : Nat), iv = .int .i64 j ∧ j ≤ k ∧ (∃ X : Ext W0, wr = X.1) ∧ Hid (∀ i, i < j → decide (g.un i = n) = false)) (fun iv _ => k - (intOf iv).toNat)
  case atStart => exact ⟨0, rfl, by omega, ⟨X, rfl⟩, Lib.hid (fun i hi => by omega)⟩
  case round =>
    obtain ⟨j, rfl, hj, ⟨X, rfl⟩, HN⟩ := hrel
    by_cases hlt : j < k
    · have t1 : decide ((j : Int) < (k : Int)) = true := by rw [decide_eq_true_eq]; omega
      have t1' : decide (j < k) = true := by simpa using hlt
      obtain ⟨b, off, rfl, hbl, hc⟩ := (HR.out.below (X.down HB0.out hz0') (Nat.le_refl _)).here (by omega)
      have e0 : X.1.cell? ⟨b, off + j * 5, none⟩ = some (.string (g.un j)) := hc j (by omega) 0 (by omega)
      have e1 : X.1.cell? ⟨b, off + j * 5 + 1, none⟩ = some (.string (g.ur j)) := hc j (by omega) 1 (by omega)
      have e2 : X.1.cell? ⟨b, off + j * 5 + 2, none⟩ = some (.int .i64 (g.uf j)) := hc j (by omega) 2 (by omega)
      have e3 : X.1.cell? ⟨b, off + j * 5 + 3, none⟩ = some (.int .i64 (g.us j)) := hc j (by omega) 3 (by omega)
      have e4 : X.1.cell? ⟨b, off + j * 5 + 4, none⟩ = some (.int .i64 (g.uw j)) := hc j (by omega) 4 (by omega)
      have hse := str_eq n (g.un j)
      cases he : decide (n = g.un j)
      · rw [he] at hse
        have HN2 : Hid (∀ i, i < j + 1 → decide (g.un i = n) = false) := Lib.hid (fun i hi => by
          by_cases e : i = j
          · subst e
            rw [decide_eq_false_iff_not] at he ⊢
            exact fun h => he h.symm
          · exact HN.out i (by omega))
        generalize g.un j = q0 at e0 hse
        generalize g.ur j = q1 at e1
        generalize g.uf j = q2 at e2
        generalize g.us j = q3 at e3
        generalize g.uw j = q4 at e4
        clear hc he HN
        go_wp2_with fail
        go_roundw
        case rel => exact ⟨j + 1, by go_num, by omega, ⟨⟨_, below_step X.2 (below_al _ _)⟩, rfl⟩, HN2⟩
        case measure => simp [intOf]; omega
      · rw [he] at hse
        have HA := Lib.hid (anyK_some (p := fun i => decide (g.un i = n)) hlt (by rw [decide_eq_true_eq] at he ⊢; exact he.symm))
        generalize g.un j = q0 at e0 hse
        generalize g.ur j = q1 at e1
        generalize g.uf j = q2 at e2
        generalize g.us j = q3 at e3
        generalize g.uw j = q4 at e4
        clear hc he HN
        go_wp2_with fail
        go_ret
        exact ⟨ret_int (by rw [← HZ.out, HA.out]; rfl), (X.down HB0.out hz0').trans ((below_al _ _).mono (Nat.le_trans hz0' X.2.size))⟩
    · have t1 : decide ((j : Int) < (k : Int)) = false := by rw [decide_eq_false_iff_not]; omega
      have t1' : decide (j < k) = false := by simpa using hlt
      have HA := Lib.hid (anyK_none (p := fun i => decide (g.un i = n)) (k := k) (fun i hi => HN.out i (by omega)))
      clear HN hlt
      generalize anyK (fun i => decide (g.un i = n)) k = tw at HA HZ
      obtain rfl : tw = false := HA.out
      cases b3
      · go_wp2_with fail
        refine (D3.out _).mono ?_
        rintro e w1 ⟨rfl, rfl⟩
        go_wp2_with fail
        go_ret
        exact ⟨ret_int (by rw [← HZ.out]; rfl), X.down HB0.out hz0'⟩
      cases b4
      · go_wp2_with fail
        refine (D3.out _).mono ?_
        rintro e w1 ⟨rfl, rfl⟩
        go_wp2_with fail
        refine (D4.out _).mono ?_
        rintro e w1 ⟨rfl, rfl⟩
        go_wp2_with fail
        go_ret
        exact ⟨ret_int (by rw [← HZ.out]; rfl), X.down HB0.out hz0'⟩
      cases b5
      all_goals
        go_wp2_with fail
        refine (D3.out _).mono ?_
        rintro e w1 ⟨rfl, rfl⟩
        go_wp2_with fail
        refine (D4.out _).mono ?_
        rintro e w1 ⟨rfl, rfl⟩
        go_wp2_with fail
        refine (D5.out _).mono ?_
        rintro e w1 ⟨rfl, rfl⟩
        go_wp2_with fail
        go_ret
        exact ⟨ret_int (by rw [← HZ.out]; rfl), X.down HB0.out hz0'⟩
end Go.Proofs.Ytbkpoepacjinlaa
