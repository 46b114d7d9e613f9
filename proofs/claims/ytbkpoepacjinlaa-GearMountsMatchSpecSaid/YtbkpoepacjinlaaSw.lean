/- The stable sort of the library: the row that it rewrites; two ranges exchanged, a rotation. -/
import Derived.Test.YtbkpoepacjinlaaD
import Derived.Test.YtbkpoepacjinlaaSt
import Derived.OneCell
import Derived.OwnWalk
import Derived.Maps.AppendAt
import Derived.BigRegion
import Derived.Deep.QuietTactic
import Derived.BigQuiet
namespace Go.Proofs.Ytbkpoepacjinlaa
open Go.RowKit Go.BigFrame
open Stb (at' sw2)

/-- w is w0, but for the row of block g, which holds M, and new blocks -/
structure SW (w0 w : World) (base g cap n : Nat) (M : List Int) : Prop where
  len : M.length = n
  row : w.ownsRow base 3 1 (.slice (some ⟨g, 0, none⟩) n cap) n (M.map (.int .i64))
  grown : w0.grownBy w (some g)
theorem SW.cell {w0 w : World} {base g cap n : Nat} {M : List Int} (h : SW w0 w base g cap n M) {j : Nat} (hj : j < n) : w.cell? ⟨g, j, none⟩ = some (.int .i64 (at' M j)) := by
  rw [h.row.cellAt j (by omega), List.getElem?_map, Stb.at', List.getD_eq_getElem?_getD, List.getElem?_eq_getElem (by rw [h.len]; exact hj)]
  rfl
theorem SW.frozen {w0 w : World} {base g cap n : Nat} {M : List Int} (h : SW w0 w base g cap n M) (j : Nat) : w.frozen? ⟨g, j, none⟩ = false := h.row.frozenAt j
theorem SW.drewN {w0 w : World} {base g cap n : Nat} {M : List Int} (h : SW w0 w base g cap n M) (q : Nat) : SW w0 (w.drewN q) base g cap n M :=
  ⟨h.len, h.row, h.grown.trans ⟨rfl, rfl, rfl, Nat.le_refl _, fun _ _ _ => rfl⟩⟩
theorem SW.drew {w0 w : World} {base g cap n : Nat} {M : List Int} (h : SW w0 w base g cap n M) : SW w0 w.drew base g cap n M :=
  ⟨h.len, h.row, h.grown.trans ⟨rfl, rfl, rfl, Nat.le_refl _, fun _ _ _ => rfl⟩⟩
theorem SW.swap {w0 w : World} {base g cap n : Nat} {M : List Int} (h : SW w0 w base g cap n M) {i j : Nat} {x y : Int} (hx : at' M i = x) (hy : at' M j = y) :
    SW w0 ((w.setCell ⟨g, i, none⟩ (.int .i64 y)).setCell ⟨g, j, none⟩ (.int .i64 x)) base g cap n (sw2 M i j) := by
  obtain ⟨h1, g1⟩ := h.row.stored i (.int .i64 y)
  obtain ⟨h2, g2⟩ := h1.stored j (.int .i64 x)
  refine ⟨by rw [Stb.sw2_length]; exact h.len, ?_, h.grown.trans (g1.trans g2)⟩
  unfold Stb.sw2
  rw [show M.getD i 0 = x from hx, show M.getD j 0 = y from hy, List.map_set, List.map_set]
  exact h2

set_option maxHeartbeats 1000000 in
set_option maxRecDepth 100000 in
theorem swapRange_any (w0 w : World) (base g cap n x y k : Nat) (M : List Int) (fv : Value) (h : SW w0 w base g cap n M) (hxy : x + k ≤ y) (hy : y + k ≤ n) (hn : (n : Int) ≤ 1000000) :
    Calls Try.prog 204 #[.slice (some ⟨g, 0, none⟩) n cap, .int .i64 x, .int .i64 y, .int .i64 k, fv] w fun e w' =>
      e = .returned (.tuple #[]) ∧ ∃ M', SW w0 w' base g cap n M' ∧ M'.Perm M ∧ ∀ p, at' M' p = Stb.exF (at' M) x y k p := by
  have H := Lib.hid h
  clear h
  go_enter Try.func204, Try.ntmps204
  go_wp2_with fail
  go_loopw [10] (fun iv wr => ∃ (i : Nat) (M' : List Int), iv = .int .i64 i ∧ i ≤ k ∧ Hid (SW w0 wr base g cap n M') ∧ Hid (M'.Perm M) ∧ Hid (∀ p, at' M' p = Stb.exF (at' M) x y i p)) (fun iv _ => k - (intOf iv).toNat)
  case atStart => exact ⟨0, M, rfl, by omega, H, Lib.hid (List.Perm.refl _), Lib.hid (fun p => (Stb.exF_start _ _ _ _).symm)⟩
  case round =>
    obtain ⟨i, M', rfl, hi, HS, HP, HE⟩ := hrel
    by_cases hlt : i < k
    · have t1 : decide ((i : Int) < (k : Int)) = true := by rw [decide_eq_true_eq]; omega
      have c1 := HS.out.cell (j := x + i) (by omega)
      have c2 := HS.out.cell (j := y + i) (by omega)
      have f1 := HS.out.frozen (x + i)
      have f2 := HS.out.frozen (y + i)
      have e1 : ((x : Int) + (i : Int)).toNat = x + i := by omega
      have e2 : ((y : Int) + (i : Int)).toNat = y + i := by omega
      have b1 : IntKind.i64.wrap ((x : Int) + (i : Int)) = (x : Int) + (i : Int) := IntWalk.i64_in _ (by omega)
      have b2 : IntKind.i64.wrap ((y : Int) + (i : Int)) = (y : Int) + (i : Int) := IntWalk.i64_in _ (by omega)
      obtain ⟨u, hu⟩ : ∃ u, at' M' (x + i) = u := ⟨_, rfl⟩
      obtain ⟨v, hv⟩ : ∃ v, at' M' (y + i) = v := ⟨_, rfl⟩
      rw [hu] at c1
      rw [hv] at c2
      have HU := Lib.hid hu
      have HV := Lib.hid hv
      obtain ⟨p1, hp1⟩ : ∃ p1, x + i = p1 := ⟨_, rfl⟩
      obtain ⟨p2, hp2⟩ : ∃ p2, y + i = p2 := ⟨_, rfl⟩
      rw [hp1] at c1 f1 e1
      rw [hp2] at c2 f2 e2
      have HP1 := Lib.hid hp1
      have HP2 := Lib.hid hp2
      have hne : p1 ≠ p2 := by omega
      have l1 : p1 < n := by omega
      have l2 : p2 < n := by omega
      clear hu hv hp1 hp2
      go_wp2_with fail
      go_region
      go_wp2
      go_roundw
      case rel => exact ⟨i + 1, sw2 M' p1 p2, by go_num, by omega, Lib.hid ((HS.out.swap (by rw [← HP1.out]; exact HU.out) (by rw [← HP2.out]; exact HV.out)).drew), Lib.hid ((Stb.sw2_perm (by rw [HS.out.len]; exact l1) (by rw [HS.out.len]; exact l2)).trans HP.out), Lib.hid (by
        rw [← HP1.out, ← HP2.out]
        exact Stb.exF_step hxy hlt (by rw [HS.out.len]; exact hy) HE.out)⟩
      case measure => simp [intOf]; omega
    · have t1 : decide ((i : Int) < (k : Int)) = false := by rw [decide_eq_false_iff_not]; omega
      obtain rfl : i = k := by omega
      clear hlt
      go_wp2_with fail
      go_end0
      exact ⟨rfl, M', HS.out, HP.out, HE.out⟩

set_option maxHeartbeats 1000000 in
set_option maxRecDepth 100000 in
theorem rotate_any (w0 w : World) (base g cap n a m b : Nat) (M : List Int) (fv : Value) (h : SW w0 w base g cap n M) (ham : a < m) (hmb : m < b) (hb : b ≤ n) (hn : (n : Int) ≤ 1000000) :
    Calls Try.prog 202 #[.slice (some ⟨g, 0, none⟩) n cap, .int .i64 a, .int .i64 m, .int .i64 b, fv] w fun e w' =>
      e = .returned (.tuple #[]) ∧ ∃ M', SW w0 w' base g cap n M' ∧ M'.Perm M ∧ ∀ p, at' M' p = Stb.rotF (at' M) a m b p := by
  have H := Lib.hid h
  clear h
  go_enter Try.func202, Try.ntmps202
  go_wp2_with fail
  go_loopw [10, 11] (fun iv jv wr => ∃ (i j : Nat) (M' : List Int), iv = .int .i64 i ∧ jv = .int .i64 j ∧ 0 < i ∧ 0 < j ∧ i ≤ m ∧ m + j ≤ n ∧ Hid (SW w0 wr base g cap n M') ∧ Hid (M'.Perm M) ∧ Hid (∀ p, Stb.rotF (at' M') (m - i) m (m + j) p = Stb.rotF (at' M) a m b p)) (fun iv jv _ => (intOf iv).toNat + (intOf jv).toNat)
  case atStart => exact ⟨m - a, b - m, M, by congr 1; omega, by congr 1; omega, by omega, by omega, by omega, by omega, H, Lib.hid (List.Perm.refl _), Lib.hid (fun p => by rw [show m - (m - a) = a by omega, show m + (b - m) = b by omega])⟩
  case round =>
    obtain ⟨i, j, M', rfl, rfl, hi0, hj0, him, hjn, HS, HP, HE⟩ := hrel
    have e0 : (m : Int) - (i : Int) = ((m - i : Nat) : Int) := by omega
    by_cases hij : i = j
    · subst hij
      have t1 : ((i : Int) != (i : Int)) = false := by simp
      have hc := Lib.hid (swapRange_any w0 wr base g cap n (m - i) m i M' fv HS.out (by omega) hjn hn)
      go_wp2_with fail
      refine hc.out.mono ?_
      rintro e w1 ⟨rfl, M1, hS1, hP1, hE1⟩
      have HS1 := Lib.hid hS1
      have HP1 := Lib.hid (hP1.trans HP.out)
      have HE1 := Lib.hid (fun p => (hE1 p).trans ((Stb.rot_eq him p).trans (HE.out p)))
      clear hS1 hP1 hE1
      go_wp2_with fail
      go_end0
      exact ⟨rfl, M1, HS1.out, HP1.out, HE1.out⟩
    · have t1 : ((i : Int) != (j : Int)) = true := by simp; omega
      by_cases hlt : j < i
      · have t2 : decide ((j : Int) < (i : Int)) = true := by rw [decide_eq_true_eq]; omega
        have t2' : decide (j < i) = true := by simpa using hlt
        have hc := Lib.hid (swapRange_any w0 wr base g cap n (m - i) m j M' fv HS.out (by omega) hjn hn)
        go_wp2_with fail
        refine hc.out.mono ?_
        rintro e w1 ⟨rfl, M1, hS1, hP1, hE1⟩
        have HS1 := Lib.hid hS1
        have HP1 := Lib.hid (hP1.trans HP.out)
        have HE1 := Lib.hid (fun p => (Stb.rot_more him hlt hE1 p).trans (HE.out p))
        clear hS1 hP1 hE1
        go_wp2_with fail
        go_roundw
        case rel => exact ⟨i - j, j, M1, by congr 1; omega, rfl, by omega, hj0, by omega, hjn, HS1, HP1, HE1⟩
        case measure => simp [intOf]; omega
      · have t2 : decide ((j : Int) < (i : Int)) = false := by rw [decide_eq_false_iff_not]; omega
        have t2' : decide (j < i) = false := by simpa using hlt
        have hlt' : i < j := by omega
        have e1 : (m : Int) + (j : Int) - (i : Int) = ((m + j - i : Nat) : Int) := by omega
        have hc := Lib.hid (swapRange_any w0 wr base g cap n (m - i) (m + j - i) i M' fv HS.out (by omega) (by omega) hn)
        go_wp2_with fail
        refine hc.out.mono ?_
        rintro e w1 ⟨rfl, M1, hS1, hP1, hE1⟩
        have HS1 := Lib.hid hS1
        have HP1 := Lib.hid (hP1.trans HP.out)
        have HE1 := Lib.hid (fun p => (Stb.rot_less him hlt' hE1 p).trans (HE.out p))
        clear hS1 hP1 hE1
        go_wp2_with fail
        go_roundw
        case rel => exact ⟨i, j - i, M1, rfl, by congr 1; omega, hi0, by omega, him, by omega, HS1, HP1, HE1⟩
        case measure => simp [intOf]; omega
end Go.Proofs.Ytbkpoepacjinlaa
