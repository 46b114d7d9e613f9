/- Several texts of this claim in one. -/
import Derived.Test.YtjnfccphodjfiaaGreatMs2
import Derived.Test.YtjnfccphodjfiaaGreatShelf
namespace Go.Proofs.YtjnfccphodjfiaaGreat
set_option maxHeartbeats 8000000
set_option maxRecDepth 100000
open Go.RowKit Go.BigFrame
open Tr (inR)
theorem bneT {n m : Int} (h : n ≠ m) : (n != m) = true := bTt h
theorem bneF {n m : Int} (h : n = m) : (n != m) = false := by rw [h]; simp
structure Rw {α : Type} (C : α → List Value) (k : Nat) (w : World) (a : Option Addr) (l : List α) : Prop where
 here : 0 < l.length → ∃ b off, a = some ⟨b, off, none⟩ ∧ b < w.heap.size ∧ ∀ i x, l[i]? = some x → ∀ j v, (C x)[j]? = some v → w.cell? ⟨b, off + i * k + j, none⟩ = some v
theorem Rw.below {α : Type} {C : α → List Value} {k : Nat} {w w' : World} {a : Option Addr} {l : List α} (h : Rw C k w a l) (hb : Below w.heap.size w w') : Rw C k w' a l :=
 ⟨fun hl => by
  obtain ⟨b, off, e, hbl, hc⟩ := h.here hl; exact ⟨b, off, e, Nat.lt_of_lt_of_le hbl hb.size, fun i x hx j v hv => (hb.cell (p := ⟨b, off + i * k + j, none⟩) hbl).trans (hc i x hx j v hv)⟩⟩
theorem Rw.at {α : Type} {C : α → List Value} {k : Nat} {w : World} {a : Option Addr} {l : List α} (h : Rw C k w a l) {i : Nat} {x : α} (hx : l[i]? = some x) :
 ∃ b off, a = some ⟨b, off, none⟩ ∧ b < w.heap.size ∧ ∀ j v, (C x)[j]? = some v → w.cell? ⟨b, off + i * k + j, none⟩ = some v := by
 obtain ⟨b, off, e, hb, hc⟩ := h.here (by have := (List.getElem?_eq_some_iff.1 hx).1; omega); exact ⟨b, off, e, hb, hc i x hx⟩
theorem Rw.on {α : Type} {C : α → List Value} {k : Nat} {w : World} {b off : Nat} {l : List α} (h : Rw C k w (some ⟨b, off, none⟩) l) {i : Nat} {x : α} (hx : l[i]? = some x) :
 ∀ j v, (C x)[j]? = some v → w.cell? ⟨b, off + i * k + j, none⟩ = some v := by
 obtain ⟨b', off', e, _, hc⟩ := h.at hx; injection e with e; injection e with e1 e2; subst e1 e2; exact hc
def smC (s : Sm) : List Value := [.int .i64 s.tm, .int .i64 s.x, .int .i64 s.y, .int .i64 s.z, .int .i64 s.pu, .int .i64 s.po, .int .i64 s.st]
def smV (s : Sm) : Value := .agg #[.int .i64 s.tm, .int .i64 s.x, .int .i64 s.y, .int .i64 s.z, .int .i64 s.pu, .int .i64 s.po, .int .i64 s.st]
def lpC (p : Lp) : List Value := [.int .i64 p.f, .int .i64 p.t, .string p.s]
def lpV (p : Lp) : Value := .agg #[.int .i64 p.f, .int .i64 p.t, .string p.s]
def tgC (s : ByteArray) : List Value := [.string s]
def actV (A : Acv) (a b c : Option Addr) (ca cb cc : Nat) : Value := .agg #[.string A.name, .int .i64 A.sport, .int .i64 A.start, .slice a A.sm.length ca, .slice b A.lp.length cb, .slice c A.tg.length cc]
structure ActIn (w : World) (A : Acv) (a b c : Option Addr) : Prop where
 sm : Rw smC 7 w a A.sm
 lp : Rw lpC 3 w b A.lp
 tg : Rw tgC 1 w c A.tg
 name : A.name.size ≤ maxLen
 titles : ∀ p, p ∈ A.lp → p.s.size ≤ maxLen
 tags : ∀ s, s ∈ A.tg → s.size ≤ maxLen
 nsm : (A.sm.length : Int) ≤ 9223372036854775807
 nlp : (A.lp.length : Int) ≤ 9223372036854775807
 ntg : (A.tg.length : Int) ≤ 9223372036854775807
theorem ActIn.below {w w' : World} {A : Acv} {a b c : Option Addr} (h : ActIn w A a b c) (hb : Below w.heap.size w w') : ActIn w' A a b c :=
 ⟨h.sm.below hb, h.lp.below hb, h.tg.below hb, h.name, h.titles, h.tags, h.nsm, h.nlp, h.ntg⟩
theorem r2out_any (n lo hi : Int) (w : World) : Calls Tryz.prog 68 #[.int .i64 n, .int .i64 lo, .int .i64 hi] w fun e w' => e = .returned (.bool (!inR n lo hi)) ∧ w = w' := by
 by_cases h1 : n < lo
 · have t1 : decide (n < lo) = true := by simpa using h1
   have HV := qH (show (!inR n lo hi) = true by simp [inR]; omega); clear h1; go_enter Tryz.func68, Tryz.ntmps68; go_wp2_with fail; go_ret; exact ⟨ret_bool HV.out.symm, rfl⟩
 · have t1 : decide (n < lo) = false := by simpa using h1
   have HV := qH (show (!inR n lo hi) = decide (hi < n) by
    unfold inR; rw [decide_eq_true (show lo ≤ n by omega), Bool.true_and]; by_cases h : hi < n
    · rw [decide_eq_true h, decide_eq_false (by omega)]; rfl
    · rw [decide_eq_false h, decide_eq_true (by omega)]; rfl)
   clear h1; go_enter Tryz.func68, Tryz.ntmps68; go_wp2_with fail; go_ret; exact ⟨ret_bool HV.out.symm, rfl⟩
theorem r2IsName_any (s : ByteArray) (w : World) (hs : s.size ≤ maxLen) :
 Calls Tryz.prog 67 #[.string s] w fun e w' => e = .returned (.bool (nameB s)) ∧ w = w' := by
 unfold maxLen at hs; go_enter Tryz.func67, Tryz.ntmps67; go_wp2_with fail
 go_loop [3] (fun iv => ∃ (k : Nat), iv = .int .i64 k ∧ k ≤ s.size ∧ Hid (allN s k = true)) (fun iv => s.size - (intOf iv).toNat)
 case atStart => exact ⟨0, rfl, by omega, qH rfl⟩
 case round =>
  obtain ⟨k, rfl, hk, HA⟩ := hrel; by_cases hlt : k < s.size
  · have t3 : decide ((k : Int) < (s.size : Int)) = true := dTt (by omega)
    have t3' : decide (k < s.size) = true := by simpa using hlt
    have hub : (s[k].toNat : Int) ≤ 255 := by have := s[k].toNat_lt; omega
    have OKN := fun (h : Hid (nameC (s[k].toNat : Int) = true)) => qH (allN_step hlt HA.out h.out)
    have BADN := fun (h : Hid (nameC (s[k].toNat : Int) = false)) => allN_bad hlt h.out
    have OKN := qH OKN; have BADN := qH BADN; have hnn : 0 ≤ (s[k].toNat : Int) := Int.natCast_nonneg _; obtain ⟨x, hx⟩ : ∃ x : Int, (s[k].toNat : Int) = x := ⟨_, rfl⟩; rw [hx] at hub hnn OKN BADN; have hways : (0 ≤ x ∧ x ≤ 44) ∨ (45 ≤ x ∧ x ≤ 45) ∨ (46 ≤ x ∧ x ≤ 46) ∨ (47 ≤ x ∧ x ≤ 47) ∨ (48 ≤ x ∧ x ≤ 57) ∨ (58 ≤ x ∧ x ≤ 64) ∨ (65 ≤ x ∧ x ≤ 90) ∨ (91 ≤ x ∧ x ≤ 94) ∨ (95 ≤ x ∧ x ≤ 95) ∨ (96 ≤ x ∧ x ≤ 96) ∨ (97 ≤ x ∧ x ≤ 122) ∨ (123 ≤ x ∧ x ≤ 255) := by omega
    rcases hways with hways | hways | hways | hways | hways | hways | hways | hways | hways | hways | hways | hways
    · have hx0 : 0 ≤ x := by omega
      have hx1 : x ≤ 44 := by omega
      have d0 : decide ((97 : Int) ≤ x) = false := dFf (by omega); have d1 : decide ((65 : Int) ≤ x) = false := dFf (by omega); have d2 : decide ((48 : Int) ≤ x) = false := dFf (by omega); have e0 : decide (x ≤ (122 : Int)) = true := dTt (by omega); have e1 : decide (x ≤ (90 : Int)) = true := dTt (by omega); have e2 : decide (x ≤ (57 : Int)) = true := dTt (by omega); have b0 : (x == (45 : Int)) = false := bFf (by omega); have b1 : (x == (95 : Int)) = false := bFf (by omega); have b2 : (x == (46 : Int)) = false := bFf (by omega); have HC := qH (show nameC x = false by unfold nameC; simp; omega); clear hx0 hx1 hways; have HF := qH (BADN.out HC); clear OKN BADN HC; go_wp2_with fail; go_ret; exact ⟨ret_bool HF.out.symm, rfl⟩
    · have hx0 : 45 ≤ x := by omega
      have hx1 : x ≤ 45 := by omega
      have d0 : decide ((97 : Int) ≤ x) = false := dFf (by omega); have d1 : decide ((65 : Int) ≤ x) = false := dFf (by omega); have d2 : decide ((48 : Int) ≤ x) = false := dFf (by omega); have e0 : decide (x ≤ (122 : Int)) = true := dTt (by omega); have e1 : decide (x ≤ (90 : Int)) = true := dTt (by omega); have e2 : decide (x ≤ (57 : Int)) = true := dTt (by omega); have b0 : (x == (45 : Int)) = true := bEe (by omega); have b1 : (x == (95 : Int)) = false := bFf (by omega); have b2 : (x == (46 : Int)) = false := bFf (by omega); have HC := qH (show nameC x = true by unfold nameC; simp; omega); clear hx0 hx1 hways; have HF := OKN.out HC; clear OKN BADN HC; go_wp2_with fail
      go_round
      case rel => exact ⟨k + 1, by go_num, by omega, HF⟩
      case measure => simp [intOf]; omega
    · have hx0 : 46 ≤ x := by omega
      have hx1 : x ≤ 46 := by omega
      have d0 : decide ((97 : Int) ≤ x) = false := dFf (by omega); have d1 : decide ((65 : Int) ≤ x) = false := dFf (by omega); have d2 : decide ((48 : Int) ≤ x) = false := dFf (by omega); have e0 : decide (x ≤ (122 : Int)) = true := dTt (by omega); have e1 : decide (x ≤ (90 : Int)) = true := dTt (by omega); have e2 : decide (x ≤ (57 : Int)) = true := dTt (by omega); have b0 : (x == (45 : Int)) = false := bFf (by omega); have b1 : (x == (95 : Int)) = false := bFf (by omega); have b2 : (x == (46 : Int)) = true := bEe (by omega); have HC := qH (show nameC x = true by unfold nameC; simp; omega); clear hx0 hx1 hways; have HF := OKN.out HC; clear OKN BADN HC; go_wp2_with fail
      go_round
      case rel => exact ⟨k + 1, by go_num, by omega, HF⟩
      case measure => simp [intOf]; omega
    · have hx0 : 47 ≤ x := by omega
      have hx1 : x ≤ 47 := by omega
      have d0 : decide ((97 : Int) ≤ x) = false := dFf (by omega); have d1 : decide ((65 : Int) ≤ x) = false := dFf (by omega); have d2 : decide ((48 : Int) ≤ x) = false := dFf (by omega); have e0 : decide (x ≤ (122 : Int)) = true := dTt (by omega); have e1 : decide (x ≤ (90 : Int)) = true := dTt (by omega); have e2 : decide (x ≤ (57 : Int)) = true := dTt (by omega); have b0 : (x == (45 : Int)) = false := bFf (by omega); have b1 : (x == (95 : Int)) = false := bFf (by omega); have b2 : (x == (46 : Int)) = false := bFf (by omega); have HC := qH (show nameC x = false by unfold nameC; simp; omega); clear hx0 hx1 hways; have HF := qH (BADN.out HC); clear OKN BADN HC; go_wp2_with fail; go_ret; exact ⟨ret_bool HF.out.symm, rfl⟩
    · have hx0 : 48 ≤ x := by omega
      have hx1 : x ≤ 57 := by omega
      have d0 : decide ((97 : Int) ≤ x) = false := dFf (by omega); have d1 : decide ((65 : Int) ≤ x) = false := dFf (by omega); have d2 : decide ((48 : Int) ≤ x) = true := dTt (by omega); have e0 : decide (x ≤ (122 : Int)) = true := dTt (by omega); have e1 : decide (x ≤ (90 : Int)) = true := dTt (by omega); have e2 : decide (x ≤ (57 : Int)) = true := dTt (by omega); have b0 : (x == (45 : Int)) = false := bFf (by omega); have b1 : (x == (95 : Int)) = false := bFf (by omega); have b2 : (x == (46 : Int)) = false := bFf (by omega); have HC := qH (show nameC x = true by unfold nameC; simp; omega); clear hx0 hx1 hways; have HF := OKN.out HC; clear OKN BADN HC; go_wp2_with fail
      go_round
      case rel => exact ⟨k + 1, by go_num, by omega, HF⟩
      case measure => simp [intOf]; omega
    · have hx0 : 58 ≤ x := by omega
      have hx1 : x ≤ 64 := by omega
      have d0 : decide ((97 : Int) ≤ x) = false := dFf (by omega); have d1 : decide ((65 : Int) ≤ x) = false := dFf (by omega); have d2 : decide ((48 : Int) ≤ x) = true := dTt (by omega); have e0 : decide (x ≤ (122 : Int)) = true := dTt (by omega); have e1 : decide (x ≤ (90 : Int)) = true := dTt (by omega); have e2 : decide (x ≤ (57 : Int)) = false := dFf (by omega); have b0 : (x == (45 : Int)) = false := bFf (by omega); have b1 : (x == (95 : Int)) = false := bFf (by omega); have b2 : (x == (46 : Int)) = false := bFf (by omega); have HC := qH (show nameC x = false by unfold nameC; simp; omega); clear hx0 hx1 hways; have HF := qH (BADN.out HC); clear OKN BADN HC; go_wp2_with fail; go_ret; exact ⟨ret_bool HF.out.symm, rfl⟩
    · have hx0 : 65 ≤ x := by omega
      have hx1 : x ≤ 90 := by omega
      have d0 : decide ((97 : Int) ≤ x) = false := dFf (by omega); have d1 : decide ((65 : Int) ≤ x) = true := dTt (by omega); have d2 : decide ((48 : Int) ≤ x) = true := dTt (by omega); have e0 : decide (x ≤ (122 : Int)) = true := dTt (by omega); have e1 : decide (x ≤ (90 : Int)) = true := dTt (by omega); have e2 : decide (x ≤ (57 : Int)) = false := dFf (by omega); have b0 : (x == (45 : Int)) = false := bFf (by omega); have b1 : (x == (95 : Int)) = false := bFf (by omega); have b2 : (x == (46 : Int)) = false := bFf (by omega); have HC := qH (show nameC x = true by unfold nameC; simp; omega); clear hx0 hx1 hways; have HF := OKN.out HC; clear OKN BADN HC; go_wp2_with fail
      go_round
      case rel => exact ⟨k + 1, by go_num, by omega, HF⟩
      case measure => simp [intOf]; omega
    · have hx0 : 91 ≤ x := by omega
      have hx1 : x ≤ 94 := by omega
      have d0 : decide ((97 : Int) ≤ x) = false := dFf (by omega); have d1 : decide ((65 : Int) ≤ x) = true := dTt (by omega); have d2 : decide ((48 : Int) ≤ x) = true := dTt (by omega); have e0 : decide (x ≤ (122 : Int)) = true := dTt (by omega); have e1 : decide (x ≤ (90 : Int)) = false := dFf (by omega); have e2 : decide (x ≤ (57 : Int)) = false := dFf (by omega); have b0 : (x == (45 : Int)) = false := bFf (by omega); have b1 : (x == (95 : Int)) = false := bFf (by omega); have b2 : (x == (46 : Int)) = false := bFf (by omega); have HC := qH (show nameC x = false by unfold nameC; simp; omega); clear hx0 hx1 hways; have HF := qH (BADN.out HC); clear OKN BADN HC; go_wp2_with fail; go_ret; exact ⟨ret_bool HF.out.symm, rfl⟩
    · have hx0 : 95 ≤ x := by omega
      have hx1 : x ≤ 95 := by omega
      have d0 : decide ((97 : Int) ≤ x) = false := dFf (by omega); have d1 : decide ((65 : Int) ≤ x) = true := dTt (by omega); have d2 : decide ((48 : Int) ≤ x) = true := dTt (by omega); have e0 : decide (x ≤ (122 : Int)) = true := dTt (by omega); have e1 : decide (x ≤ (90 : Int)) = false := dFf (by omega); have e2 : decide (x ≤ (57 : Int)) = false := dFf (by omega); have b0 : (x == (45 : Int)) = false := bFf (by omega); have b1 : (x == (95 : Int)) = true := bEe (by omega); have b2 : (x == (46 : Int)) = false := bFf (by omega); have HC := qH (show nameC x = true by unfold nameC; simp; omega); clear hx0 hx1 hways; have HF := OKN.out HC; clear OKN BADN HC; go_wp2_with fail
      go_round
      case rel => exact ⟨k + 1, by go_num, by omega, HF⟩
      case measure => simp [intOf]; omega
    · have hx0 : 96 ≤ x := by omega
      have hx1 : x ≤ 96 := by omega
      have d0 : decide ((97 : Int) ≤ x) = false := dFf (by omega); have d1 : decide ((65 : Int) ≤ x) = true := dTt (by omega); have d2 : decide ((48 : Int) ≤ x) = true := dTt (by omega); have e0 : decide (x ≤ (122 : Int)) = true := dTt (by omega); have e1 : decide (x ≤ (90 : Int)) = false := dFf (by omega); have e2 : decide (x ≤ (57 : Int)) = false := dFf (by omega); have b0 : (x == (45 : Int)) = false := bFf (by omega); have b1 : (x == (95 : Int)) = false := bFf (by omega); have b2 : (x == (46 : Int)) = false := bFf (by omega); have HC := qH (show nameC x = false by unfold nameC; simp; omega); clear hx0 hx1 hways; have HF := qH (BADN.out HC); clear OKN BADN HC; go_wp2_with fail; go_ret; exact ⟨ret_bool HF.out.symm, rfl⟩
    · have hx0 : 97 ≤ x := by omega
      have hx1 : x ≤ 122 := by omega
      have d0 : decide ((97 : Int) ≤ x) = true := dTt (by omega); have d1 : decide ((65 : Int) ≤ x) = true := dTt (by omega); have d2 : decide ((48 : Int) ≤ x) = true := dTt (by omega); have e0 : decide (x ≤ (122 : Int)) = true := dTt (by omega); have e1 : decide (x ≤ (90 : Int)) = false := dFf (by omega); have e2 : decide (x ≤ (57 : Int)) = false := dFf (by omega); have b0 : (x == (45 : Int)) = false := bFf (by omega); have b1 : (x == (95 : Int)) = false := bFf (by omega); have b2 : (x == (46 : Int)) = false := bFf (by omega); have HC := qH (show nameC x = true by unfold nameC; simp; omega); clear hx0 hx1 hways; have HF := OKN.out HC; clear OKN BADN HC; go_wp2_with fail
      go_round
      case rel => exact ⟨k + 1, by go_num, by omega, HF⟩
      case measure => simp [intOf]; omega
    · have hx0 : 123 ≤ x := by omega
      have hx1 : x ≤ 255 := by omega
      have d0 : decide ((97 : Int) ≤ x) = true := dTt (by omega); have d1 : decide ((65 : Int) ≤ x) = true := dTt (by omega); have d2 : decide ((48 : Int) ≤ x) = true := dTt (by omega); have e0 : decide (x ≤ (122 : Int)) = false := dFf (by omega); have e1 : decide (x ≤ (90 : Int)) = false := dFf (by omega); have e2 : decide (x ≤ (57 : Int)) = false := dFf (by omega); have b0 : (x == (45 : Int)) = false := bFf (by omega); have b1 : (x == (95 : Int)) = false := bFf (by omega); have b2 : (x == (46 : Int)) = false := bFf (by omega); have HC := qH (show nameC x = false by unfold nameC; simp; omega); clear hx0 hx1 hways; have HF := qH (BADN.out HC); clear OKN BADN HC; go_wp2_with fail; go_ret; exact ⟨ret_bool HF.out.symm, rfl⟩
  · have t3 : decide ((k : Int) < (s.size : Int)) = false := dFf (by omega)
    have t3' : decide (k < s.size) = false := by simpa using hlt
    have HF := qH (show nameB s = (decide (1 ≤ s.size) && decide (s.size ≤ 60)) from nameB_of (by have := HA.out; rwa [show k = s.size by omega] at this)); clear hlt; by_cases h1 : 1 ≤ s.size
    · have t4 : decide ((1 : Int) ≤ (s.size : Int)) = true := dTt (by omega)
      have t4' : decide (1 ≤ s.size) = true := dTt (by omega); by_cases h6 : s.size ≤ 60
      · have t5 : decide ((s.size : Int) ≤ 60) = true := dTt (by omega)
        have t5' : decide (s.size ≤ 60) = true := dTt (by omega); have HG := qH (HF.out.trans (show (decide (1 ≤ s.size) && decide (s.size ≤ 60)) = true by rw [t4', t5']; rfl)); clear h1 h6 HF; go_wp2_with fail; go_ret; exact ⟨ret_bool HG.out.symm, rfl⟩
      · have t5 : decide ((s.size : Int) ≤ 60) = false := dFf (by omega)
        have t5' : decide (s.size ≤ 60) = false := dFf (by omega); have HG := qH (HF.out.trans (show (decide (1 ≤ s.size) && decide (s.size ≤ 60)) = false by rw [t4', t5']; rfl)); clear h1 h6 HF; go_wp2_with fail; go_ret; exact ⟨ret_bool HG.out.symm, rfl⟩
    · have t4 : decide ((1 : Int) ≤ (s.size : Int)) = false := dFf (by omega)
      have t4' : decide (1 ≤ s.size) = false := dFf (by omega); have HG := qH (HF.out.trans (show (decide (1 ≤ s.size) && decide (s.size ≤ 60)) = false by rw [t4']; rfl)); clear h1 HF; go_wp2_with fail; go_ret; exact ⟨ret_bool HG.out.symm, rfl⟩
theorem inRange_any (s : Sm) (w : World) : Calls Tryz.prog 61 #[smV s] w fun e w' => e = .returned (.bool (rangeS s)) ∧ Below w.heap.size w w' := by
 have D0 := qH (fun W => rcin_any s.x (-100000000) 100000000 W); have D1 := qH (fun W => rcin_any s.y (-100000000) 100000000 W); have D2 := qH (fun W => rcin_any s.z (-100000) 100000 W); have D3 := qH (fun W => rcin_any s.pu (-1) 300 W); have D4 := qH (fun W => rcin_any s.po (-1) 3000 W); have D5 := qH (fun W => rcin_any s.st (-1) 300 W); unfold rangeS smV; generalize inR s.x (-100000000) 100000000 = b0 at *; generalize inR s.y (-100000000) 100000000 = b1 at *; generalize inR s.z (-100000) 100000 = b2 at *; generalize inR s.pu (-1) 300 = b3 at *; generalize inR s.po (-1) 3000 = b4 at *; generalize inR s.st (-1) 300 = b5 at *
 cases b0
 · clear D1 D2 D3 D4 D5
   go_enter Tryz.func61, Tryz.ntmps61; go_wp2_with fail; refine (D0.out _).mono ?_; rintro e w1 ⟨rfl, rfl⟩; go_wp2_with fail; go_ret; exact ⟨ret_bool (by simp), below_al w _⟩
 · skip
   cases b1
   · clear D2 D3 D4 D5
     go_enter Tryz.func61, Tryz.ntmps61; go_wp2_with fail; refine (D0.out _).mono ?_; rintro e w1 ⟨rfl, rfl⟩; go_wp2_with fail; refine (D1.out _).mono ?_; rintro e w1 ⟨rfl, rfl⟩; go_wp2_with fail; go_ret; exact ⟨ret_bool (by simp), below_al w _⟩
   · skip
     cases b2
     · clear D3 D4 D5
       go_enter Tryz.func61, Tryz.ntmps61; go_wp2_with fail; refine (D0.out _).mono ?_; rintro e w1 ⟨rfl, rfl⟩; go_wp2_with fail; refine (D1.out _).mono ?_; rintro e w1 ⟨rfl, rfl⟩; go_wp2_with fail; refine (D2.out _).mono ?_; rintro e w1 ⟨rfl, rfl⟩; go_wp2_with fail; go_ret; exact ⟨ret_bool (by simp), below_al w _⟩
     · skip
       cases b3
       · clear D4 D5
         go_enter Tryz.func61, Tryz.ntmps61; go_wp2_with fail; refine (D0.out _).mono ?_; rintro e w1 ⟨rfl, rfl⟩; go_wp2_with fail; refine (D1.out _).mono ?_; rintro e w1 ⟨rfl, rfl⟩; go_wp2_with fail; refine (D2.out _).mono ?_; rintro e w1 ⟨rfl, rfl⟩; go_wp2_with fail; refine (D3.out _).mono ?_; rintro e w1 ⟨rfl, rfl⟩; go_wp2_with fail; go_ret; exact ⟨ret_bool (by simp), below_al w _⟩
       · skip
         cases b4
         · clear D5
           go_enter Tryz.func61, Tryz.ntmps61; go_wp2_with fail; refine (D0.out _).mono ?_; rintro e w1 ⟨rfl, rfl⟩; go_wp2_with fail; refine (D1.out _).mono ?_; rintro e w1 ⟨rfl, rfl⟩; go_wp2_with fail; refine (D2.out _).mono ?_; rintro e w1 ⟨rfl, rfl⟩; go_wp2_with fail; refine (D3.out _).mono ?_; rintro e w1 ⟨rfl, rfl⟩; go_wp2_with fail; refine (D4.out _).mono ?_; rintro e w1 ⟨rfl, rfl⟩; go_wp2_with fail; go_ret; exact ⟨ret_bool (by simp), below_al w _⟩
         · skip
           cases b5
           · skip
             go_enter Tryz.func61, Tryz.ntmps61; go_wp2_with fail; refine (D0.out _).mono ?_; rintro e w1 ⟨rfl, rfl⟩; go_wp2_with fail; refine (D1.out _).mono ?_; rintro e w1 ⟨rfl, rfl⟩; go_wp2_with fail; refine (D2.out _).mono ?_; rintro e w1 ⟨rfl, rfl⟩; go_wp2_with fail; refine (D3.out _).mono ?_; rintro e w1 ⟨rfl, rfl⟩; go_wp2_with fail; refine (D4.out _).mono ?_; rintro e w1 ⟨rfl, rfl⟩; go_wp2_with fail; refine (D5.out _).mono ?_; rintro e w1 ⟨rfl, rfl⟩; go_wp2_with fail; go_ret; exact ⟨ret_bool (by simp), below_al w _⟩
           · skip
             go_enter Tryz.func61, Tryz.ntmps61; go_wp2_with fail; refine (D0.out _).mono ?_; rintro e w1 ⟨rfl, rfl⟩; go_wp2_with fail; refine (D1.out _).mono ?_; rintro e w1 ⟨rfl, rfl⟩; go_wp2_with fail; refine (D2.out _).mono ?_; rintro e w1 ⟨rfl, rfl⟩; go_wp2_with fail; refine (D3.out _).mono ?_; rintro e w1 ⟨rfl, rfl⟩; go_wp2_with fail; refine (D4.out _).mono ?_; rintro e w1 ⟨rfl, rfl⟩; go_wp2_with fail; refine (D5.out _).mono ?_; rintro e w1 ⟨rfl, rfl⟩; go_wp2_with fail; go_ret; exact ⟨ret_bool (by simp), below_al w _⟩
theorem errS_ord {start : Int} {l : List Sm} {k : Nat} {s : Sm} (hx : l[k]? = some s) (ho : ordS l k s.tm = true) : errS start l k = 10 := by
 unfold errS; rw [hx]; simp only; rw [if_pos ho]
theorem errS_far {start : Int} {l : List Sm} {k : Nat} {s : Sm} (hx : l[k]? = some s) (ho : ordS l k s.tm = false) (h : 1000000 < s.tm ∨ 86399999999 < start + s.tm ∨ rangeS s = false) : errS start l k = 9 := by
 unfold errS; rw [hx]; simp only; rw [if_neg (by rw [ho]; simp), if_pos h]
theorem errS_ok {start : Int} {l : List Sm} {k : Nat} {s : Sm} (hx : l[k]? = some s) (ho : ordS l k s.tm = false) (h1 : ¬ 1000000 < s.tm) (h2 : ¬ 86399999999 < start + s.tm) (h3 : rangeS s = true) : errS start l k = 0 := by
 unfold errS; rw [hx]; simp only; rw [if_neg (by rw [ho]; simp), if_neg (fun h => by rcases h with h | h | h; exact h1 h; exact h2 h; rw [h3] at h; cases h)]
theorem errS_next {start : Int} {l : List Sm} {k : Nat} (h : ∀ i, i < k → errS start l i = 0) (h0 : errS start l k = 0) : ∀ i, i < k + 1 → errS start l i = 0 := fun i hi => by
 by_cases e : i = k
 · rw [e]; exact h0
 · exact h i (by omega)
theorem errS_nonneg {start : Int} {l : List Sm} {k : Nat} (h : ∀ i, i < k → errS start l i = 0) : ∀ (i : Nat) (s : Sm), i < k → l[i]? = some s → 0 ≤ s.tm
 | 0, s, hi, hs => by
  have := h 0 hi; unfold errS at this; rw [hs] at this; simp only at this
  split at this
  · cases this
  · rename_i ho
    unfold ordS at ho; simp at ho; omega
 | i + 1, s, hi, hs => by
  obtain ⟨p, hp⟩ : ∃ p, l[i]? = some p := ⟨_, List.getElem?_eq_getElem (by have := (List.getElem?_eq_some_iff.1 hs).1; omega)⟩; have hp0 := errS_nonneg h i p (by omega) hp; have := h (i + 1) hi; unfold errS at this; rw [hs] at this; simp only at this
  split at this
  · cases this
  · rename_i ho
    unfold ordS at ho; rw [if_neg (by omega), Nat.add_sub_cancel, hp] at ho; simp at ho; omega
theorem ordS_succ {l : List Sm} {j : Nat} {p : Sm} {t : Int} (hp : l[j]? = some p) : ordS l (j + 1) t = decide (t ≤ p.tm) := by
 unfold ordS; rw [if_neg (by omega), Nat.add_sub_cancel, hp]
theorem errL_9 {span : Int} {l : List Lp} {k : Nat} {p : Lp} (hx : l[k]? = some p) (h : p.f < 0 ∨ p.t ≤ p.f ∨ span < p.t) : errL span l k = 9 := by
 unfold errL; rw [hx]; simp only; rw [if_pos h]
theorem errL_ord {span : Int} {l : List Lp} {k : Nat} {p : Lp} (hx : l[k]? = some p) (h : ¬ (p.f < 0 ∨ p.t ≤ p.f ∨ span < p.t)) (ho : ordL l k p.f = true) : errL span l k = 10 := by
 unfold errL; rw [hx]; simp only; rw [if_neg h, if_pos ho]
theorem errL_title {span : Int} {l : List Lp} {k : Nat} {p : Lp} {b : Bool} (hx : l[k]? = some p) (h : ¬ (p.f < 0 ∨ p.t ≤ p.f ∨ span < p.t)) (ho : ordL l k p.f = false) (hb : titleB p.s = b) : errL span l k = if b = true then 0 else 8 := by
 unfold errL; rw [hx]; simp only; rw [if_neg h, if_neg (by rw [ho]; simp), hb]
theorem ordL_succ {l : List Lp} {j : Nat} {p : Lp} {t : Int} (hp : l[j]? = some p) : ordL l (j + 1) t = decide (t < p.t) := by
 unfold ordL; rw [if_neg (by omega), Nat.add_sub_cancel, hp]
theorem errT_name {l : List ByteArray} {k : Nat} {s : ByteArray} (hx : l[k]? = some s) (h : nameB s = false) : errT l k = 8 := by
 unfold errT; rw [hx]; simp only; rw [if_pos h]
theorem errT_ord {l : List ByteArray} {k : Nat} {s : ByteArray} {b : Bool} (hx : l[k]? = some s) (h : nameB s = true) (ho : ordT l k s = b) : errT l k = if b = true then 10 else 0 := by
 unfold errT; rw [hx]; simp only; rw [if_neg (by rw [h]; simp), ho]
theorem ordT_succ {l : List ByteArray} {j : Nat} {p s : ByteArray} (hp : l[j]? = some p) : ordT l (j + 1) s = !Op.bytesLess p.toList s.toList := by
 unfold ordT; rw [if_neg (by omega), Nat.add_sub_cancel, hp]
theorem bytesLe : ∀ a b : List UInt8, (Op.bytesLess a b || (a == b)) = !Op.bytesLess b a
 | [], [] => rfl
 | [], _ :: _ => rfl
 | _ :: _, [] => rfl
 | x :: a, y :: b => by
  have ih := bytesLe a b; rw [Op.bytesLess, Op.bytesLess, List.cons_beq_cons]; by_cases h1 : x < y
  · have h2 : ¬ y < x := fun h2 => by
     rw [UInt8.lt_iff_toNat_lt] at h1 h2; omega
    have h3 : (y == x) = false := by
     rw [beq_eq_false_iff_ne]; rintro rfl; exact h2 h1
    simp [h1, h2, h3]
  · by_cases h2 : y < x
    · have h3 : (x == y) = false := by
       rw [beq_eq_false_iff_ne]; rintro rfl; exact h1 h2
      simp [h1, h2, h3]
    · have h3 : x = y := by
       rw [← UInt8.toNat_inj]; rw [UInt8.lt_iff_toNat_lt] at h1 h2; omega
      subst h3; simp [h1, ih]
theorem chkR_1 {A : Acv} {e : Int} (h : chkSs A = e) (he : e ≠ 0) : chkR A = e := by
 unfold chkR; rw [h, if_neg he]
theorem chkR_2 {A : Acv} {e : Int} (h0 : chkSs A = 0) (h : chkLs A = e) (he : e ≠ 0) : chkR A = e := by
 unfold chkR; rw [h0, if_pos rfl, h, if_neg he]
theorem chkR_3 {A : Acv} {e : Int} (h0 : chkSs A = 0) (h1 : chkLs A = 0) (h : chkTs A = e) : chkR A = e := by
 unfold chkR; rw [h0, if_pos rfl, h1, if_pos rfl, h]
theorem spanS_at {l : List Sm} {j : Nat} {s : Sm} (hn : l.length = j + 1) (hs : l[j]? = some s) : spanS l = s.tm := by
 unfold spanS; rw [hn, Nat.add_sub_cancel, hs]
theorem span_any (A : Acv) (a b c : Option Addr) (ca cb cc : Nat) (w : World) (h : Rw smC 7 w a A.sm) (hl : (A.sm.length : Int) ≤ 9223372036854775807) :
 Calls Tryz.prog 62 #[actV A a b c ca cb cc] w fun e w' => e = .returned (.int .i64 (spanS A.sm)) ∧ Below w.heap.size w w' := by
 unfold actV; obtain ⟨n, hn⟩ : ∃ n, A.sm.length = n := ⟨_, rfl⟩; rw [hn] at hl ⊢; generalize A.lp.length = m; generalize A.tg.length = t
 cases n with
 | zero =>
  have HV := qH (show spanS A.sm = 0 by unfold spanS; rw [List.length_eq_zero_iff.1 hn]; rfl); clear hn; go_enter Tryz.func62, Tryz.ntmps62; go_wp2_with fail; go_ret; exact ⟨ret_int HV.out.symm, below_al w _⟩
 | succ j =>
  obtain ⟨s, hs⟩ : ∃ s, A.sm[j]? = some s := ⟨_, List.getElem?_eq_getElem (by omega)⟩; obtain ⟨ba, oa, rfl, hba, hc⟩ := h.at hs; have c0 : w.cell? ⟨ba, oa + j * 7, none⟩ = some (.int .i64 s.tm) := hc 0 _ rfl; have HV := qH (spanS_at hn hs); have hl' : (j : Int) ≤ 9223372036854775806 := by omega
  clear hl; have hwr : IntKind.i64.wrap ((j : Int) + 1 - 1) = (j : Int) := by rw [IntKind.wrap_i64]; omega
  have hsub : (j : Int) + 1 - 1 = (j : Int) := by omega
  obtain ⟨V0, hV0, hb0, hs0, hl0⟩ := alloc_cells w #[.string A.name, .int .i64 A.sport, .int .i64 A.start, .slice (some ⟨ba, oa, none⟩) (j + 1) ca, .slice b m cb, .slice c t cc] 26; have B3 := Ext.ex (hl0 3 _ rfl); have C0 := Ext.ex (bCel hb0 c0); have HV0 := qH hV0; have HB0 := qH hb0; have HS0 := qH (show w.heap.size ≤ V0.heap.size by omega); clear hs hc c0 hV0 hb0 hs0 hl0 hn h; go_enter Tryz.func62, Tryz.ntmps62; go_upto_region 1 with (fail); rw [HV0.out]; refine ext_wp fun X => ?_
  go_wp2_with fail; go_ret; exact ⟨ret_int HV.out.symm, X.down HB0.out HS0.out⟩
def ChkG (A : Acv) (a b c : Option Addr) (ca cb cc : Nat) (w : World) : Prop := Calls Tryz.prog 32 #[actV A a b c ca cb cc] w fun e w' => e = .returned (.int .i64 (chkA A)) ∧ Below w.heap.size w w'
theorem check_any (A : Acv) (a b c : Option Addr) (ca cb cc : Nat) (w : World) (h : ActIn w A a b c) : ChkG A a b c ca cb cc w := by
 have DN := qH (fun W => isName_any A.name W h.name); have D1 := qH (fun W => rcin_any A.sport 1 5 W); have D2 := qH (fun W => rcin_any A.start 0 86399999999 W); have HS := qH h.sm; have HL := qH h.lp; have HT := qH h.tg; have HTI := qH h.titles; have HTA := qH h.tags; have hn1 := h.nsm; have hm1 := h.nlp; have ht1 := h.ntg; unfold ChkG; have DSP := qH (fun (W : World) (h : Rw smC 7 W a A.sm) => span_any A a b c ca cb cc W h hn1); unfold actV at *; have HV : Hid (chkA A = if nameB A.name = false then 8 else if inR A.sport 1 5 = false then 7 else if inR A.start 0 86399999999 = false then 9
  else if 20000 < A.sm.length ∨ 200 < A.lp.length ∨ 20 < A.tg.length then 3 else chkR A) := qH rfl
 obtain ⟨n, hn⟩ : ∃ n, A.sm.length = n := ⟨_, rfl⟩; obtain ⟨m, hm⟩ : ∃ n, A.lp.length = n := ⟨_, rfl⟩; obtain ⟨t, ht⟩ : ∃ n, A.tg.length = n := ⟨_, rfl⟩; have HN := qH (And.intro hn (And.intro hm ht)); rw [hn, hm, ht] at HV DSP ⊢; rw [hn] at hn1; rw [hm] at hm1; rw [ht] at ht1; have HST := qH (fun (h : inR A.start 0 86399999999 = true) => inR_iff.1 h); generalize nameB A.name = bn at *; generalize inR A.sport 1 5 = b1 at *; generalize inR A.start 0 86399999999 = b2 at *; obtain ⟨V0, hV0, hb0, hs0, hl0⟩ := alloc_cells w #[.string A.name, .int .i64 A.sport, .int .i64 A.start, .slice a n ca, .slice b m cb, .slice c t cc] 26; have B0 := Ext.ex (hl0 0 _ rfl); have B1 := Ext.ex (hl0 1 _ rfl); have B2 := Ext.ex (hl0 2 _ rfl); have B3 := Ext.ex (hl0 3 _ rfl); have B4 := Ext.ex (hl0 4 _ rfl); have B5 := Ext.ex (hl0 5 _ rfl); have HV0 := qH hV0; have HB0 := qH hb0; have HS0 := qH (show w.heap.size ≤ V0.heap.size by omega); clear hV0 hb0 hs0 hl0 h hn hm ht
 cases bn
 · clear HS HL HT HTI HTA D1 D2 DSP HST
   have HF := qH (HV.out.trans (if_pos rfl)); go_enter Tryz.func32, Tryz.ntmps32; go_upto_region 1 with (fail); rw [HV0.out]; refine ext_wp fun X => ?_
   go_wp2_with fail; refine (DN.out _).mono ?_; rintro e w1 ⟨rfl, rfl⟩; go_wp2_with fail; go_ret; exact ⟨ret_int (HF.out).symm, X.down HB0.out HS0.out⟩
 have HV := qH (HV.out.trans (if_neg (by simp)))
 cases b1
 · clear HS HL HT HTI HTA D2 DSP HST
   have HF := qH (HV.out.trans (if_pos rfl)); go_enter Tryz.func32, Tryz.ntmps32; go_upto_region 1 with (fail); rw [HV0.out]; refine ext_wp fun X => ?_
   go_wp2_with fail; refine (DN.out _).mono ?_; rintro e w1 ⟨rfl, rfl⟩; go_wp2_with fail; refine (D1.out _).mono ?_; rintro e w1 ⟨rfl, rfl⟩; go_wp2_with fail; go_ret; exact ⟨ret_int (HF.out).symm, X.down HB0.out HS0.out⟩
 have HV := qH (HV.out.trans (if_neg (by simp)))
 cases b2
 · clear HS HL HT HTI HTA DSP HST
   have HF := qH (HV.out.trans (if_pos rfl)); go_enter Tryz.func32, Tryz.ntmps32; go_upto_region 1 with (fail); rw [HV0.out]; refine ext_wp fun X => ?_
   go_wp2_with fail; refine (DN.out _).mono ?_; rintro e w1 ⟨rfl, rfl⟩; go_wp2_with fail; refine (D1.out _).mono ?_; rintro e w1 ⟨rfl, rfl⟩; go_wp2_with fail; refine (D2.out _).mono ?_; rintro e w1 ⟨rfl, rfl⟩; go_wp2_with fail; go_ret; exact ⟨ret_int (HF.out).symm, X.down HB0.out HS0.out⟩
 have HV := qH (HV.out.trans (if_neg (by simp))); obtain ⟨hst1, hst2⟩ := HST.out rfl; clear HST; by_cases h0 : 20000 < n
 case pos =>
  have q0 : decide ((20000 : Int) < (n : Int)) = true := dTt (by omega); have q0' : decide (20000 < n) = true := dTt (by omega); have HF := qH (HV.out.trans (if_pos (by omega))); clear h0 HS HL HT HTI HTA DSP; go_enter Tryz.func32, Tryz.ntmps32; go_upto_region 1 with (fail); rw [HV0.out]; refine ext_wp fun X => ?_
  go_wp2_with fail; refine (DN.out _).mono ?_; rintro e w1 ⟨rfl, rfl⟩; go_wp2_with fail; refine (D1.out _).mono ?_; rintro e w1 ⟨rfl, rfl⟩; go_wp2_with fail; refine (D2.out _).mono ?_; rintro e w1 ⟨rfl, rfl⟩; go_wp2_with fail; go_ret; exact ⟨ret_int (HF.out).symm, X.down HB0.out HS0.out⟩
 have q0 : decide ((20000 : Int) < (n : Int)) = false := dFf (by omega); have q0' : decide (20000 < n) = false := dFf (by omega); by_cases h1 : 200 < m
 case pos =>
  have q1 : decide ((200 : Int) < (m : Int)) = true := dTt (by omega); have q1' : decide (200 < m) = true := dTt (by omega); have HF := qH (HV.out.trans (if_pos (by omega))); clear h0 h1 HS HL HT HTI HTA DSP; go_enter Tryz.func32, Tryz.ntmps32; go_upto_region 1 with (fail); rw [HV0.out]; refine ext_wp fun X => ?_
  go_wp2_with fail; refine (DN.out _).mono ?_; rintro e w1 ⟨rfl, rfl⟩; go_wp2_with fail; refine (D1.out _).mono ?_; rintro e w1 ⟨rfl, rfl⟩; go_wp2_with fail; refine (D2.out _).mono ?_; rintro e w1 ⟨rfl, rfl⟩; go_wp2_with fail; go_ret; exact ⟨ret_int (HF.out).symm, X.down HB0.out HS0.out⟩
 have q1 : decide ((200 : Int) < (m : Int)) = false := dFf (by omega); have q1' : decide (200 < m) = false := dFf (by omega); by_cases h2 : 20 < t
 case pos =>
  have q2 : decide ((20 : Int) < (t : Int)) = true := dTt (by omega); have q2' : decide (20 < t) = true := dTt (by omega); have HF := qH (HV.out.trans (if_pos (by omega))); clear h0 h1 h2 HS HL HT HTI HTA DSP; go_enter Tryz.func32, Tryz.ntmps32; go_upto_region 1 with (fail); rw [HV0.out]; refine ext_wp fun X => ?_
  go_wp2_with fail; refine (DN.out _).mono ?_; rintro e w1 ⟨rfl, rfl⟩; go_wp2_with fail; refine (D1.out _).mono ?_; rintro e w1 ⟨rfl, rfl⟩; go_wp2_with fail; refine (D2.out _).mono ?_; rintro e w1 ⟨rfl, rfl⟩; go_wp2_with fail; go_ret; exact ⟨ret_int (HF.out).symm, X.down HB0.out HS0.out⟩
 have q2 : decide ((20 : Int) < (t : Int)) = false := dFf (by omega); have q2' : decide (20 < t) = false := dFf (by omega); have HV := qH (HV.out.trans (if_neg (by omega))); go_enter Tryz.func32, Tryz.ntmps32; go_upto_region 1 with (fail); rw [HV0.out]; refine ext_wp fun X => ?_
 go_wp2_with fail; refine (DN.out _).mono ?_; rintro e w1 ⟨rfl, rfl⟩; go_wp2_with fail; refine (D1.out _).mono ?_; rintro e w1 ⟨rfl, rfl⟩; go_wp2_with fail; refine (D2.out _).mono ?_; rintro e w1 ⟨rfl, rfl⟩; go_wp2_with fail; clear DN D1 D2 q0 q1 q2 q0' q1' q2'
 go_loopw [45] (fun iv wr => ∃ (k : Nat), iv = .int .i64 k ∧ k ≤ n ∧ Hid ((chkSs A = firstE (errS A.start A.sm) (n - k) k) ∧ ∀ i, i < k → errS A.start A.sm i = 0) ∧ ∃ X : Ext V0, wr = X.1) (fun iv _ => n - (intOf iv).toNat)
 case atStart => exact ⟨0, rfl, by omega, qH ⟨by unfold chkSs; rw [HN.out.1]; rfl, fun i hi => by omega⟩, X, rfl⟩
 case round =>
  obtain ⟨k, rfl, hk, HE, X, rfl⟩ := hrel; by_cases hlt : k < n
  · have t2 : decide ((k : Int) < (n : Int)) = true := dTt (by omega)
    have t2' : decide (k < n) = true := by simpa using hlt
    obtain ⟨s, hx⟩ : ∃ s, A.sm[k]? = some s := ⟨_, List.getElem?_eq_getElem (by rw [HN.out.1]; exact hlt)⟩; have HX := qH (HS.out.below (bStp HB0.out X.2)); obtain ⟨ba, oa, rfl, hba, hc⟩ := HX.out.at hx; have c0 : X.1.cell? ⟨ba, oa + k * 7, none⟩ = some (.int .i64 s.tm) := hc 0 _ rfl; have c1 := hc 1 _ rfl; have c2 := hc 2 _ rfl; have c3 := hc 3 _ rfl; have c4 := hc 4 _ rfl; have c5 := hc 5 _ rfl; have c6 := hc 6 _ rfl; obtain ⟨V1, hV1, hvb, hvs, hvl⟩ := alloc_cells X.1 #[.int .i64 s.tm, .int .i64 s.x, .int .i64 s.y, .int .i64 s.z, .int .i64 s.pu, .int .i64 s.po, .int .i64 s.st] 72; have u0 := hvl 0 _ rfl; have u1 := hvl 1 _ rfl; have u2 := hvl 2 _ rfl; have u3 := hvl 3 _ rfl; have u4 := hvl 4 _ rfl; have u5 := hvl 5 _ rfl; have u6 := hvl 6 _ rfl; obtain ⟨Z, rfl⟩ : ∃ Z : Ext V0, V1 = Z.1 := ⟨⟨V1, bStp X.2 hvb⟩, rfl⟩; have HV1 := qH hV1; have HG := qH (firstE_go hlt HE.out.1); have HP := qH HE.out.2; have HHX := qH hx; have DR := qH (fun W => inRange_any s W); unfold smV at DR; clear hV1 hvs hvl HE hc hx; have hk20 : n ≤ 20000 := by omega
    obtain rfl | ⟨j, rfl⟩ : k = 0 ∨ ∃ j, k = j + 1 := by cases k; exact Or.inl rfl; exact Or.inr ⟨_, rfl⟩
    · skip
      simp only [Nat.zero_mul, Nat.add_zero] at c0 c1 c2 c3 c4 c5 c6; have U0 := Ext.ex u0; have U1 := Ext.ex u1; have U2 := Ext.ex u2; have U3 := Ext.ex u3; have U4 := Ext.ex u4; have U5 := Ext.ex u5; have U6 := Ext.ex u6; have B2' := Ext.re Z.2 B2; have HO : Hid (ordS A.sm 0 s.tm = decide (s.tm ≠ 0)) := qH rfl; by_cases ho : s.tm = 0
      case neg =>
       have b0 := bneT ho; have b0' := beqF ho; have HF := qH (HV.out.trans (chkR_1 ((HG.out.1 (by rw [errS_ord HHX.out (HO.out.trans (by simpa using ho))]; decide)).trans (errS_ord HHX.out (HO.out.trans (by simpa using ho)))) (by decide))); clear ho HG HO HHX DR HS HL HT HTI HTA DSP; go_wp2_with fail; rw [HV1.out]; go_wp2_with fail; go_ret; exact ⟨ret_int HF.out.symm, Z.down HB0.out HS0.out⟩
      have b0 := bneF ho; have b0' := beqT ho; have HO : Hid (ordS A.sm 0 s.tm = false) := qH (HO.out.trans (by simpa using ho)); by_cases f1 : 1000000 < s.tm
      case pos =>
       have d1 : decide ((1000000 : Int) < s.tm) = true := decide_eq_true f1; have HF := qH (HV.out.trans (chkR_1 ((HG.out.1 (by rw [errS_far HHX.out HO.out (Or.inl f1)]; decide)).trans (errS_far HHX.out HO.out (Or.inl f1))) (by decide))); clear f1 ho HG HO HHX DR HS HL HT HTI HTA DSP; go_wp2_with fail; rw [HV1.out]; go_wp2_with fail; refine wp_region_ext (W := Z.1) ⟨Z.1, Below.refl _ _⟩ (by kernel_rfl) (by kernel_rfl) ?_
       repeat go_big_quiet_step (fail)
       refine wpQuiet_nil ?_; rintro _ ⟨Y, rfl⟩; go_wp2_with fail; go_ret; exact ⟨ret_int HF.out.symm, bStp (bStp HB0.out Z.2) Y.2⟩
      have d1 : decide ((1000000 : Int) < s.tm) = false := decide_eq_false f1; have hs1 : 0 ≤ s.tm := by omega
      have hs2 : s.tm ≤ 1000000 := by omega
      by_cases f2 : 86399999999 < A.start + s.tm
      case pos =>
       have d2 : decide ((86399999999 : Int) < A.start + s.tm) = true := decide_eq_true f2; have HF := qH (HV.out.trans (chkR_1 ((HG.out.1 (by rw [errS_far HHX.out HO.out (Or.inr (Or.inl f2))]; decide)).trans (errS_far HHX.out HO.out (Or.inr (Or.inl f2)))) (by decide))); clear f1 f2 ho HG HO HHX DR HS HL HT HTI HTA DSP; go_wp2_with fail; rw [HV1.out]; go_wp2_with fail; refine wp_region_ext (W := Z.1) ⟨Z.1, Below.refl _ _⟩ (by kernel_rfl) (by kernel_rfl) ?_
       repeat go_big_quiet_step (fail)
       refine wpQuiet_nil ?_; rintro _ ⟨Y, rfl⟩; go_wp2_with fail; go_ret; exact ⟨ret_int HF.out.symm, bStp (bStp HB0.out Z.2) Y.2⟩
      have d2 : decide ((86399999999 : Int) < A.start + s.tm) = false := decide_eq_false f2; have HRG := qH (fun (h : rangeS s = false) => errS_far (start := A.start) HHX.out HO.out (Or.inr (Or.inr h))); have HOK := qH (fun (h : rangeS s = true) => errS_ok HHX.out HO.out f1 f2 h); generalize rangeS s = br at *
      cases br
      · have HF := qH (HV.out.trans (chkR_1 ((HG.out.1 (by rw [HRG.out rfl]; decide)).trans (HRG.out rfl)) (by decide)))
        clear f1 f2 ho HG HO HHX HOK HRG HS HL HT HTI HTA DSP; go_wp2_with fail; rw [HV1.out]; go_wp2_with fail; refine wp_region_ext (W := Z.1) ⟨Z.1, Below.refl _ _⟩ (by kernel_rfl) (by kernel_rfl) ?_
        repeat go_big_quiet_step (fail)
        refine wpQuiet_nil ?_; rintro _ ⟨Y, rfl⟩; go_wp2_with fail; refine (DR.out _).mono ?_; rintro e w1 ⟨rfl, hbw⟩; have HBW := qH (bStp (bStp (bStp HB0.out Z.2) Y.2) hbw); clear hbw; go_wp2_with fail; go_ret; exact ⟨ret_int HF.out.symm, HBW.out⟩
      · have HF := qH (And.intro (HG.out.2 (HOK.out rfl)) (errS_next HP.out (HOK.out rfl)))
        clear f1 f2 ho HG HO HHX HOK HRG; go_wp2_with fail; rw [HV1.out]; go_wp2_with fail; refine wp_region_ext (W := Z.1) ⟨Z.1, Below.refl _ _⟩ (by kernel_rfl) (by kernel_rfl) ?_
        repeat go_big_quiet_step (fail)
        refine wpQuiet_nil ?_; rintro _ ⟨Y, rfl⟩; go_wp2_with fail; refine (DR.out _).mono ?_; rintro e w1 ⟨rfl, hbw⟩; obtain ⟨Q, rfl⟩ : ∃ Q : Ext V0, w1 = Q.1 := ⟨⟨w1, bStp (bStp Z.2 Y.2) hbw⟩, rfl⟩; clear hbw; go_wp2_with fail
        go_roundw
        case rel => exact ⟨1, by go_num, by omega, HF, Q, rfl⟩
        case measure => simp [intOf]; omega
    · skip
      obtain ⟨p, hp⟩ : ∃ p, A.sm[j]? = some p := ⟨_, List.getElem?_eq_getElem (by have := HN.out.1; omega)⟩; have P0 : ∀ Y : Ext Z.1, Y.1.cell? ⟨ba, oa + j * 7, none⟩ = some (.int .i64 p.tm) := Ext.ex (bCel hvb (HX.out.on hp 0 _ rfl)); have U0 := Ext.ex u0; have U1 := Ext.ex u1; have U2 := Ext.ex u2; have U3 := Ext.ex u3; have U4 := Ext.ex u4; have U5 := Ext.ex u5; have U6 := Ext.ex u6; have B2' := Ext.re Z.2 B2; have B3' := Ext.re Z.2 B3; have HO := qH (ordS_succ (t := s.tm) hp); have e0 : (((j + 1 : Nat) : Int) == 0) = false := bFf (by omega); have e0' : ((j : Int) + 1 == 0) = false := bFf (by omega); have e1 : decide ((0 : Int) < (j : Int) + 1) = true := dTt (by omega); have hwr : IntKind.i64.wrap ((j : Int) + 1 - 1) = (j : Int) := by rw [IntKind.wrap_i64]; omega
      have hsub : (j : Int) + 1 - 1 = (j : Int) := by omega
      have hjn : j < n := by omega
      have HP2 := qH hp; clear hp; by_cases ho : s.tm ≤ p.tm
      case pos =>
       have b0 : decide (s.tm ≤ p.tm) = true := decide_eq_true ho; have HF := qH (HV.out.trans (chkR_1 ((HG.out.1 (by rw [errS_ord HHX.out (HO.out.trans (by exact decide_eq_true ho))]; decide)).trans (errS_ord HHX.out (HO.out.trans (by exact decide_eq_true ho)))) (by decide))); clear ho HG HO HHX DR HS HL HT HTI HTA DSP; go_wp2_with fail; rw [HV1.out]; go_wp2_with fail; refine wp_region_ext (W := Z.1) ⟨Z.1, Below.refl _ _⟩ (by kernel_rfl) (by kernel_rfl) ?_
       repeat go_big_quiet_step (fail)
       refine wpQuiet_nil ?_; rintro _ ⟨Y, rfl⟩; go_wp2_with fail; go_ret; exact ⟨ret_int HF.out.symm, bStp (bStp HB0.out Z.2) Y.2⟩
      have b0 : decide (s.tm ≤ p.tm) = false := decide_eq_false ho; have HO := qH (HO.out.trans (decide_eq_false ho)); by_cases f1 : 1000000 < s.tm
      case pos =>
       have d1 : decide ((1000000 : Int) < s.tm) = true := decide_eq_true f1; have HF := qH (HV.out.trans (chkR_1 ((HG.out.1 (by rw [errS_far HHX.out HO.out (Or.inl f1)]; decide)).trans (errS_far HHX.out HO.out (Or.inl f1))) (by decide))); clear f1 ho HG HO HHX DR HS HL HT HTI HTA DSP; go_wp2_with fail; rw [HV1.out]; go_wp2_with fail; refine wp_region_ext (W := Z.1) ⟨Z.1, Below.refl _ _⟩ (by kernel_rfl) (by kernel_rfl) ?_
       repeat go_big_quiet_step (fail)
       refine wpQuiet_nil ?_; rintro _ ⟨Y, rfl⟩; go_wp2_with fail; go_ret; exact ⟨ret_int HF.out.symm, bStp (bStp HB0.out Z.2) Y.2⟩
      have d1 : decide ((1000000 : Int) < s.tm) = false := decide_eq_false f1; have hs1 : 0 ≤ s.tm := by have := errS_nonneg HP.out j p (by omega) HP2.out; omega
      have hs2 : s.tm ≤ 1000000 := by omega
      by_cases f2 : 86399999999 < A.start + s.tm
      case pos =>
       have d2 : decide ((86399999999 : Int) < A.start + s.tm) = true := decide_eq_true f2; have HF := qH (HV.out.trans (chkR_1 ((HG.out.1 (by rw [errS_far HHX.out HO.out (Or.inr (Or.inl f2))]; decide)).trans (errS_far HHX.out HO.out (Or.inr (Or.inl f2)))) (by decide))); clear f1 f2 ho HG HO HHX DR HS HL HT HTI HTA DSP; go_wp2_with fail; rw [HV1.out]; go_wp2_with fail; refine wp_region_ext (W := Z.1) ⟨Z.1, Below.refl _ _⟩ (by kernel_rfl) (by kernel_rfl) ?_
       repeat go_big_quiet_step (fail)
       refine wpQuiet_nil ?_; rintro _ ⟨Y, rfl⟩; go_wp2_with fail; go_ret; exact ⟨ret_int HF.out.symm, bStp (bStp HB0.out Z.2) Y.2⟩
      have d2 : decide ((86399999999 : Int) < A.start + s.tm) = false := decide_eq_false f2; have HRG := qH (fun (h : rangeS s = false) => errS_far (start := A.start) HHX.out HO.out (Or.inr (Or.inr h))); have HOK := qH (fun (h : rangeS s = true) => errS_ok HHX.out HO.out f1 f2 h); generalize rangeS s = br at *
      cases br
      · have HF := qH (HV.out.trans (chkR_1 ((HG.out.1 (by rw [HRG.out rfl]; decide)).trans (HRG.out rfl)) (by decide)))
        clear f1 f2 ho HG HO HHX HOK HRG HS HL HT HTI HTA DSP; go_wp2_with fail; rw [HV1.out]; go_wp2_with fail; refine wp_region_ext (W := Z.1) ⟨Z.1, Below.refl _ _⟩ (by kernel_rfl) (by kernel_rfl) ?_
        repeat go_big_quiet_step (fail)
        refine wpQuiet_nil ?_; rintro _ ⟨Y, rfl⟩; go_wp2_with fail; refine (DR.out _).mono ?_; rintro e w1 ⟨rfl, hbw⟩; have HBW := qH (bStp (bStp (bStp HB0.out Z.2) Y.2) hbw); clear hbw; go_wp2_with fail; go_ret; exact ⟨ret_int HF.out.symm, HBW.out⟩
      · have HF := qH (And.intro (HG.out.2 (HOK.out rfl)) (errS_next HP.out (HOK.out rfl)))
        clear f1 f2 ho HG HO HHX HOK HRG; go_wp2_with fail; rw [HV1.out]; go_wp2_with fail; refine wp_region_ext (W := Z.1) ⟨Z.1, Below.refl _ _⟩ (by kernel_rfl) (by kernel_rfl) ?_
        repeat go_big_quiet_step (fail)
        refine wpQuiet_nil ?_; rintro _ ⟨Y, rfl⟩; go_wp2_with fail; refine (DR.out _).mono ?_; rintro e w1 ⟨rfl, hbw⟩; obtain ⟨Q, rfl⟩ : ∃ Q : Ext V0, w1 = Q.1 := ⟨⟨w1, bStp (bStp Z.2 Y.2) hbw⟩, rfl⟩; clear hbw; go_wp2_with fail
        go_roundw
        case rel => exact ⟨j + 1 + 1, by go_num, by omega, HF, Q, rfl⟩
        case measure => simp [intOf]; omega
  · have t2 : decide ((k : Int) < (n : Int)) = false := dFf (by omega)
    have t2' : decide (k < n) = false := by simpa using hlt
    have HSS := qH (firstE_end (by omega) HE.out.1); have HXX := qH (HS.out.below (bStp HB0.out X.2)); clear HE hlt hk HS; go_wp2_with fail; refine (DSP.out _ HXX.out).mono ?_; rintro e w1 ⟨rfl, hbw⟩; obtain ⟨X, rfl⟩ : ∃ Q : Ext V0, w1 = Q.1 := ⟨⟨w1, bStp X.2 hbw⟩, rfl⟩; clear hbw DSP HXX t2 t2'; obtain ⟨sp, hsp⟩ : ∃ sp, spanS A.sm = sp := ⟨_, rfl⟩; have HSP := qH hsp; rw [hsp]; clear hsp; go_wp2_with fail
    go_loopw [95] (fun iv wr => ∃ (k : Nat), iv = .int .i64 k ∧ k ≤ m ∧ Hid (chkLs A = firstE (errL sp A.lp) (m - k) k) ∧ ∃ X : Ext V0, wr = X.1) (fun iv _ => m - (intOf iv).toNat)
    case atStart => exact ⟨0, rfl, by omega, qH (by unfold chkLs; rw [HN.out.2.1, HSP.out]; rfl), X, rfl⟩
    case round =>
     obtain ⟨k, rfl, hk, HE, X, rfl⟩ := hrel; by_cases hlt : k < m
     · have t2 : decide ((k : Int) < (m : Int)) = true := dTt (by omega)
       have t2' : decide (k < m) = true := by simpa using hlt
       obtain ⟨s, hx⟩ : ∃ s, A.lp[k]? = some s := ⟨_, List.getElem?_eq_getElem (by rw [HN.out.2.1]; exact hlt)⟩; have HX := qH (HL.out.below (bStp HB0.out X.2)); obtain ⟨ba, oa, rfl, hba, hc⟩ := HX.out.at hx; have c0 : X.1.cell? ⟨ba, oa + k * 3, none⟩ = some (.int .i64 s.f) := hc 0 _ rfl; have c1 := hc 1 _ rfl; have c2 := hc 2 _ rfl; obtain ⟨V1, hV1, hvb, hvs, hvl⟩ := alloc_cells X.1 #[.int .i64 s.f, .int .i64 s.t, .string s.s] 75; have u0 := hvl 0 _ rfl; have u1 := hvl 1 _ rfl; have u2 := hvl 2 _ rfl; obtain ⟨Z, rfl⟩ : ∃ Z : Ext V0, V1 = Z.1 := ⟨⟨V1, bStp X.2 hvb⟩, rfl⟩; have HV1 := qH hV1; have HG := qH (firstE_go hlt HE.out); have HHX := qH hx; have DTI := qH (fun W => isTitle_any s.s W (HTI.out s (List.mem_of_getElem? hx))); clear hV1 hvs hvl HE hc hx; have hk20 : m ≤ 200 := by omega
       have U0 := Ext.ex u0; have U1 := Ext.ex u1; have U2 := Ext.ex u2; have B4' := Ext.re Z.2 B4; obtain rfl | ⟨j, rfl⟩ : k = 0 ∨ ∃ j, k = j + 1 := by cases k; exact Or.inl rfl; exact Or.inr ⟨_, rfl⟩
       · simp only [Nat.zero_mul, Nat.add_zero] at c0 c1 c2
         have HO : Hid (ordL A.lp 0 s.f = false) := qH rfl; by_cases g0 : s.f < 0
         case pos =>
          have d0 : decide (s.f < 0) = true := decide_eq_true g0; have HF := qH (HV.out.trans (chkR_2 HSS.out ((HG.out.1 (by rw [errL_9 HHX.out (Or.inl g0)]; decide)).trans (errL_9 HHX.out (Or.inl g0))) (by decide))); clear g0 HG HHX DTI HL HT HTI HTA; go_wp2_with fail; rw [HV1.out]; go_wp2_with fail; go_ret; exact ⟨ret_int HF.out.symm, Z.down HB0.out HS0.out⟩
         have d0 : decide (s.f < 0) = false := decide_eq_false g0; by_cases g1 : s.t ≤ s.f
         case pos =>
          have d1 : decide (s.t ≤ s.f) = true := decide_eq_true g1; have HF := qH (HV.out.trans (chkR_2 HSS.out ((HG.out.1 (by rw [errL_9 HHX.out (Or.inr (Or.inl g1))]; decide)).trans (errL_9 HHX.out (Or.inr (Or.inl g1)))) (by decide))); clear g0 g1 HG HHX DTI HL HT HTI HTA; go_wp2_with fail; rw [HV1.out]; go_wp2_with fail; go_ret; exact ⟨ret_int HF.out.symm, Z.down HB0.out HS0.out⟩
         have d1 : decide (s.t ≤ s.f) = false := decide_eq_false g1; by_cases g2 : sp < s.t
         case pos =>
          have d2 : decide (sp < s.t) = true := decide_eq_true g2; have HF := qH (HV.out.trans (chkR_2 HSS.out ((HG.out.1 (by rw [errL_9 HHX.out (Or.inr (Or.inr g2))]; decide)).trans (errL_9 HHX.out (Or.inr (Or.inr g2)))) (by decide))); clear g0 g1 g2 HG HHX DTI HL HT HTI HTA; go_wp2_with fail; rw [HV1.out]; go_wp2_with fail; go_ret; exact ⟨ret_int HF.out.symm, Z.down HB0.out HS0.out⟩
         have d2 : decide (sp < s.t) = false := decide_eq_false g2; have HET := qH (fun (b : Bool) (hb : titleB s.s = b) => errL_title (span := sp) HHX.out (fun h => by omega) HO.out hb); generalize titleB s.s = bt at *
         cases bt
         · have HF := qH (HV.out.trans (chkR_2 HSS.out ((HG.out.1 (by rw [HET.out false rfl]; decide)).trans (HET.out false rfl)) (by decide)))
           clear g0 g1 g2 HG HHX HL HT HTI HTA HET; go_wp2_with fail; rw [HV1.out]; go_wp2_with fail; refine wp_region_ext (W := Z.1) ⟨Z.1, Below.refl _ _⟩ (by kernel_rfl) (by kernel_rfl) ?_
           repeat go_big_quiet_step (fail)
           refine wpQuiet_nil ?_; rintro _ ⟨Y, rfl⟩; go_wp2_with fail; refine (DTI.out _).mono ?_; rintro e w1 ⟨rfl, rfl⟩; go_wp2_with fail; go_ret; exact ⟨ret_int HF.out.symm, bStp (bStp HB0.out Z.2) Y.2⟩
         · have HF := qH (HG.out.2 (HET.out true rfl))
           clear g0 g1 g2 HG HHX HET; go_wp2_with fail; rw [HV1.out]; go_wp2_with fail; refine wp_region_ext (W := Z.1) ⟨Z.1, Below.refl _ _⟩ (by kernel_rfl) (by kernel_rfl) ?_
           repeat go_big_quiet_step (fail)
           refine wpQuiet_nil ?_; rintro _ ⟨Y, rfl⟩; go_wp2_with fail; refine (DTI.out _).mono ?_; rintro e w1 ⟨rfl, rfl⟩; go_wp2_with fail
           go_roundw
           case rel => exact ⟨1, by go_num, by omega, HF, ⟨Y.1, bStp Z.2 Y.2⟩, rfl⟩
           case measure => simp [intOf]; omega
       · obtain ⟨p, hp⟩ : ∃ p, A.lp[j]? = some p := ⟨_, List.getElem?_eq_getElem (by have := HN.out.2.1; omega)⟩
         have P1 : ∀ Y : Ext Z.1, Y.1.cell? ⟨ba, oa + j * 3 + 1, none⟩ = some (.int .i64 p.t) := Ext.ex (bCel hvb (HX.out.on hp 1 _ rfl)); have HO1 := qH (ordL_succ (t := s.f) hp); have e0 : (((j + 1 : Nat) : Int) == 0) = false := bFf (by omega); have e0' : ((j : Int) + 1 == 0) = false := bFf (by omega); have e1 : decide ((0 : Int) < (j : Int) + 1) = true := dTt (by omega); have hwr : IntKind.i64.wrap ((j : Int) + 1 - 1) = (j : Int) := by rw [IntKind.wrap_i64]; omega
         have hsub : (j : Int) + 1 - 1 = (j : Int) := by omega
         have hjn : j < m := by omega
         clear hp; by_cases g0 : s.f < 0
         case pos =>
          have d0 : decide (s.f < 0) = true := decide_eq_true g0; have HF := qH (HV.out.trans (chkR_2 HSS.out ((HG.out.1 (by rw [errL_9 HHX.out (Or.inl g0)]; decide)).trans (errL_9 HHX.out (Or.inl g0))) (by decide))); clear g0 HG HHX DTI HL HT HTI HTA; go_wp2_with fail; rw [HV1.out]; go_wp2_with fail; go_ret; exact ⟨ret_int HF.out.symm, Z.down HB0.out HS0.out⟩
         have d0 : decide (s.f < 0) = false := decide_eq_false g0; by_cases g1 : s.t ≤ s.f
         case pos =>
          have d1 : decide (s.t ≤ s.f) = true := decide_eq_true g1; have HF := qH (HV.out.trans (chkR_2 HSS.out ((HG.out.1 (by rw [errL_9 HHX.out (Or.inr (Or.inl g1))]; decide)).trans (errL_9 HHX.out (Or.inr (Or.inl g1)))) (by decide))); clear g0 g1 HG HHX DTI HL HT HTI HTA; go_wp2_with fail; rw [HV1.out]; go_wp2_with fail; go_ret; exact ⟨ret_int HF.out.symm, Z.down HB0.out HS0.out⟩
         have d1 : decide (s.t ≤ s.f) = false := decide_eq_false g1; by_cases g2 : sp < s.t
         case pos =>
          have d2 : decide (sp < s.t) = true := decide_eq_true g2; have HF := qH (HV.out.trans (chkR_2 HSS.out ((HG.out.1 (by rw [errL_9 HHX.out (Or.inr (Or.inr g2))]; decide)).trans (errL_9 HHX.out (Or.inr (Or.inr g2)))) (by decide))); clear g0 g1 g2 HG HHX DTI HL HT HTI HTA; go_wp2_with fail; rw [HV1.out]; go_wp2_with fail; go_ret; exact ⟨ret_int HF.out.symm, Z.down HB0.out HS0.out⟩
         have d2 : decide (sp < s.t) = false := decide_eq_false g2; by_cases ho : s.f < p.t
         case pos =>
          have b0 : decide (s.f < p.t) = true := decide_eq_true ho; have HEO := qH (errL_ord (span := sp) HHX.out (fun h => by omega) (HO1.out.trans b0)); have HF := qH (HV.out.trans (chkR_2 HSS.out ((HG.out.1 (by rw [HEO.out]; decide)).trans HEO.out) (by decide))); clear g0 g1 g2 ho HG HHX DTI HL HT HTI HTA HEO; go_wp2_with fail; rw [HV1.out]; go_wp2_with fail; refine wp_region_ext (W := Z.1) ⟨Z.1, Below.refl _ _⟩ (by kernel_rfl) (by kernel_rfl) ?_
          repeat go_big_quiet_step (fail)
          refine wpQuiet_nil ?_; rintro _ ⟨Y, rfl⟩; go_wp2_with fail; go_ret; exact ⟨ret_int HF.out.symm, bStp (bStp HB0.out Z.2) Y.2⟩
         have b0 : decide (s.f < p.t) = false := decide_eq_false ho; have HO := qH (HO1.out.trans b0); have HET := qH (fun (b : Bool) (hb : titleB s.s = b) => errL_title (span := sp) HHX.out (fun h => by omega) HO.out hb); generalize titleB s.s = bt at *
         cases bt
         · have HF := qH (HV.out.trans (chkR_2 HSS.out ((HG.out.1 (by rw [HET.out false rfl]; decide)).trans (HET.out false rfl)) (by decide)))
           clear g0 g1 g2 HG HHX HL HT HTI HTA HET; go_wp2_with fail; rw [HV1.out]; go_wp2_with fail; refine wp_region_ext (W := Z.1) ⟨Z.1, Below.refl _ _⟩ (by kernel_rfl) (by kernel_rfl) ?_
           repeat go_big_quiet_step (fail)
           refine wpQuiet_nil ?_; rintro _ ⟨Y, rfl⟩; go_wp2_with fail; refine (DTI.out _).mono ?_; rintro e w1 ⟨rfl, rfl⟩; go_wp2_with fail; go_ret; exact ⟨ret_int HF.out.symm, bStp (bStp HB0.out Z.2) Y.2⟩
         · have HF := qH (HG.out.2 (HET.out true rfl))
           clear g0 g1 g2 HG HHX HET; go_wp2_with fail; rw [HV1.out]; go_wp2_with fail; refine wp_region_ext (W := Z.1) ⟨Z.1, Below.refl _ _⟩ (by kernel_rfl) (by kernel_rfl) ?_
           repeat go_big_quiet_step (fail)
           refine wpQuiet_nil ?_; rintro _ ⟨Y, rfl⟩; go_wp2_with fail; refine (DTI.out _).mono ?_; rintro e w1 ⟨rfl, rfl⟩; go_wp2_with fail
           go_roundw
           case rel => exact ⟨j + 1 + 1, by go_num, by omega, HF, ⟨Y.1, bStp Z.2 Y.2⟩, rfl⟩
           case measure => simp [intOf]; omega
     · have t2 : decide ((k : Int) < (m : Int)) = false := dFf (by omega)
       have t2' : decide (k < m) = false := by simpa using hlt
       have HLL := qH (firstE_end (by omega) HE.out); clear HE hlt hk HL HTI; go_wp2_with fail; clear t2 t2'
       go_loopw [141] (fun iv wr => ∃ (k : Nat), iv = .int .i64 k ∧ k ≤ t ∧ Hid (chkTs A = firstE (errT A.tg) (t - k) k) ∧ ∃ X : Ext V0, wr = X.1) (fun iv _ => t - (intOf iv).toNat)
       case atStart => exact ⟨0, rfl, by omega, qH (by unfold chkTs; rw [HN.out.2.2]; rfl), X, rfl⟩
       case round =>
        obtain ⟨k, rfl, hk, HE, X, rfl⟩ := hrel; by_cases hlt : k < t
        · have t2 : decide ((k : Int) < (t : Int)) = true := dTt (by omega)
          have t2' : decide (k < t) = true := by simpa using hlt
          obtain ⟨s, hx⟩ : ∃ s, A.tg[k]? = some s := ⟨_, List.getElem?_eq_getElem (by rw [HN.out.2.2]; exact hlt)⟩; have HX := qH (HT.out.below (bStp HB0.out X.2)); obtain ⟨ba, oa, rfl, hba, hc⟩ := HX.out.at hx; have c0 : X.1.cell? ⟨ba, oa + k, none⟩ = some (.string s) := by
           have := hc 0 _ rfl
           rwa [Nat.mul_one, Nat.add_zero] at this
          have HG := qH (firstE_go hlt HE.out); have HHX := qH hx; have DNM := qH (fun W => isName_any s W (HTA.out s (List.mem_of_getElem? hx))); have HNA := qH (fun (h : nameB s = false) => errT_name HHX.out h); have HNO := qH (fun (h : nameB s = true) (b : Bool) (hb : ordT A.tg k s = b) => errT_ord HHX.out h hb); generalize nameB s = bn at *; clear HE hc hx; have hk20 : t ≤ 20 := by omega
          cases bn
          · have HF := qH (HV.out.trans (chkR_3 HSS.out HLL.out ((HG.out.1 (by rw [HNA.out rfl]; decide)).trans (HNA.out rfl))))
            clear HG HHX HNA HNO HT HTA; go_wp2_with fail; refine (DNM.out _).mono ?_; rintro e w1 ⟨rfl, rfl⟩; go_wp2_with fail; go_ret; exact ⟨ret_int HF.out.symm, X.down HB0.out HS0.out⟩
          · obtain rfl | ⟨j, rfl⟩ : k = 0 ∨ ∃ j, k = j + 1 := by cases k; exact Or.inl rfl; exact Or.inr ⟨_, rfl⟩
            · have HF := qH (HG.out.2 (HNO.out rfl false rfl))
              rw [Nat.add_zero] at c0; clear HG HHX HNA HNO; go_wp2_with fail; refine (DNM.out _).mono ?_; rintro e w1 ⟨rfl, rfl⟩; go_wp2_with fail
              go_roundw
              case rel => exact ⟨1, by go_num, by omega, HF, X, rfl⟩
              case measure => simp [intOf]; omega
            · obtain ⟨p, hp⟩ : ∃ p, A.tg[j]? = some p := ⟨_, List.getElem?_eq_getElem (by have := HN.out.2.2; omega)⟩
              have P0 : X.1.cell? ⟨ba, oa + j, none⟩ = some (.string p) := by
               have := HX.out.on hp 0 _ rfl
               rwa [Nat.mul_one, Nat.add_zero] at this
              have HO := qH (ordT_succ (s := s) hp); have e0 : decide ((0 : Int) < (j : Int) + 1) = true := dTt (by omega); have hwr : IntKind.i64.wrap ((j : Int) + 1 - 1) = (j : Int) := by rw [IntKind.wrap_i64]; omega
              have hsub : (j : Int) + 1 - 1 = (j : Int) := by omega
              have hjn : j < t := by omega
              clear hp; have HNO := qH (fun (b : Bool) (hb : Op.bytesLess p.toList s.toList = b) => HNO.out rfl (!b) (HO.out.trans (by rw [hb]))); have hle := bytesLe s.toList p.toList; generalize hb1 : Op.bytesLess s.toList p.toList = b1 at hle; generalize hb2 : (s.toList == p.toList) = b2 at hle
              cases b1
              · cases b2
                · have hbl : Op.bytesLess p.toList s.toList = true := by simpa using hle.symm
                  have HF := qH (HG.out.2 (HNO.out true hbl)); clear HG HHX HNA HNO HO hle hbl; go_wp2_with fail; refine (DNM.out _).mono ?_; rintro e w1 ⟨rfl, rfl⟩; go_wp2_with fail
                  go_roundw
                  case rel => exact ⟨j + 1 + 1, by go_num, by omega, HF, X, rfl⟩
                  case measure => simp [intOf]; omega
                · have hbl : Op.bytesLess p.toList s.toList = false := by simpa using hle.symm
                  have HF := qH (HV.out.trans (chkR_3 HSS.out HLL.out ((HG.out.1 (by rw [HNO.out false hbl]; decide)).trans (HNO.out false hbl)))); clear HG HHX HNA HNO HO HT HTA hle hbl; go_wp2_with fail; refine (DNM.out _).mono ?_; rintro e w1 ⟨rfl, rfl⟩; go_wp2_with fail; go_ret; exact ⟨ret_int HF.out.symm, X.down HB0.out HS0.out⟩
              · have hbl : Op.bytesLess p.toList s.toList = false := by simpa using hle.symm
                have HF := qH (HV.out.trans (chkR_3 HSS.out HLL.out ((HG.out.1 (by rw [HNO.out false hbl]; decide)).trans (HNO.out false hbl)))); clear HG HHX HNA HNO HO HT HTA hle hbl; go_wp2_with fail; refine (DNM.out _).mono ?_; rintro e w1 ⟨rfl, rfl⟩; go_wp2_with fail; go_ret; exact ⟨ret_int HF.out.symm, X.down HB0.out HS0.out⟩
        · have t2 : decide ((k : Int) < (t : Int)) = false := dFf (by omega)
          have t2' : decide (k < t) = false := by simpa using hlt
          have HF := qH (HV.out.trans (chkR_3 HSS.out HLL.out (firstE_end (by omega) HE.out))); clear HE hlt hk HT HTA; go_wp2_with fail; go_ret; exact ⟨ret_int HF.out.symm, X.down HB0.out HS0.out⟩
theorem rspan2_any (A : Acv) (a b c : Option Addr) (ca cb cc : Nat) (w : World) (h : Rw smC 7 w a A.sm) (hl : (A.sm.length : Int) ≤ 9223372036854775807) :
 Calls Tryz.prog 83 #[actV A a b c ca cb cc] w fun e w' => e = .returned (.int .i64 (spanS A.sm)) ∧ Below w.heap.size w w' := by
 unfold actV; obtain ⟨n, hn⟩ : ∃ n, A.sm.length = n := ⟨_, rfl⟩; rw [hn] at hl ⊢; generalize A.lp.length = m; generalize A.tg.length = t
 cases n with
 | zero =>
  have HV := qH (show spanS A.sm = 0 by unfold spanS; rw [List.length_eq_zero_iff.1 hn]; rfl); clear hn; go_enter Tryz.func83, Tryz.ntmps83; go_wp2_with fail; go_ret; exact ⟨ret_int HV.out.symm, below_al w _⟩
 | succ j =>
  obtain ⟨s, hs⟩ : ∃ s, A.sm[j]? = some s := ⟨_, List.getElem?_eq_getElem (by omega)⟩; obtain ⟨ba, oa, rfl, hba, hc⟩ := h.at hs; have c0 : w.cell? ⟨ba, oa + j * 7, none⟩ = some (.int .i64 s.tm) := hc 0 _ rfl; have HV := qH (spanS_at hn hs); have hl' : (j : Int) ≤ 9223372036854775806 := by omega
  clear hl; have e0 : ((j : Int) + 1 == 0) = false := bFf (by omega); have hwr : IntKind.i64.wrap ((j : Int) + 1 - 1) = (j : Int) := by rw [IntKind.wrap_i64]; omega
  have hsub : (j : Int) + 1 - 1 = (j : Int) := by omega
  obtain ⟨V0, hV0, hb0, hs0, hl0⟩ := alloc_cells w #[.string A.name, .int .i64 A.sport, .int .i64 A.start, .slice (some ⟨ba, oa, none⟩) (j + 1) ca, .slice b m cb, .slice c t cc] 26; have B3 := Ext.ex (hl0 3 _ rfl); have C0 := Ext.ex (bCel hb0 c0); have HV0 := qH hV0; have HB0 := qH hb0; have HS0 := qH (show w.heap.size ≤ V0.heap.size by omega); clear hs hc c0 hV0 hb0 hs0 hl0 hn h; go_enter Tryz.func83, Tryz.ntmps83; go_upto_region 1 with (fail); rw [HV0.out]; refine ext_wp fun X => ?_
  go_wp2_with fail; go_ret; exact ⟨ret_int HV.out.symm, X.down HB0.out HS0.out⟩
theorem sampleFault_any (A : Acv) (a b c : Option Addr) (ca cb cc k : Nat) (w : World) (h : Rw smC 7 w a A.sm) (hk : k < A.sm.length) (hn2 : A.sm.length ≤ 20000) (hst : 0 ≤ A.start ∧ A.start ≤ 86399999999) (hp : ∀ i, i < k → errS A.start A.sm i = 0) :
 Calls Tryz.prog 69 #[actV A a b c ca cb cc, .int .i64 k] w fun e w' => e = .returned (.int .i64 (errS A.start A.sm k)) ∧ Below w.heap.size w w' := by
 unfold actV; obtain ⟨s, hx⟩ : ∃ s, A.sm[k]? = some s := ⟨_, List.getElem?_eq_getElem hk⟩; obtain ⟨ba, oa, rfl, hba, hc⟩ := h.at hx; have c0 : w.cell? ⟨ba, oa + k * 7, none⟩ = some (.int .i64 s.tm) := hc 0 _ rfl; have c1 := hc 1 _ rfl; have c2 := hc 2 _ rfl; have c3 := hc 3 _ rfl; have c4 := hc 4 _ rfl; have c5 := hc 5 _ rfl; have c6 := hc 6 _ rfl; obtain ⟨n, hn⟩ : ∃ n, A.sm.length = n := ⟨_, rfl⟩; rw [hn] at hk hn2 ⊢; generalize A.lp.length = m; generalize A.tg.length = t; obtain ⟨hst1, hst2⟩ := hst; obtain ⟨V0, hV0, hb0, hs0, hl0⟩ := alloc_cells w #[.string A.name, .int .i64 A.sport, .int .i64 A.start, .slice (some ⟨ba, oa, none⟩) n ca, .slice b m cb, .slice c t cc] 26; obtain ⟨V1, hV1, hb1, hs1, hl1⟩ := alloc_cells V0 #[.int .i64 s.tm, .int .i64 s.x, .int .i64 s.y, .int .i64 s.z, .int .i64 s.pu, .int .i64 s.po, .int .i64 s.st] 72; have B2 := Ext.ex (bCel hb1 (hl0 2 _ rfl)); have B3 := Ext.ex (bCel hb1 (hl0 3 _ rfl)); have B3' : V0.cell? ⟨w.heap.size, 3, none⟩ = _ := hl0 3 _ rfl; have c0 := bCel hb0 c0; have c1 := bCel hb0 c1; have c2 := bCel hb0 c2; have c3 := bCel hb0 c3; have c4 := bCel hb0 c4; have c5 := bCel hb0 c5; have c6 := bCel hb0 c6; have U0 := Ext.ex (hl1 0 _ rfl); have U1 := Ext.ex (hl1 1 _ rfl); have U2 := Ext.ex (hl1 2 _ rfl); have U3 := Ext.ex (hl1 3 _ rfl); have U4 := Ext.ex (hl1 4 _ rfl); have U5 := Ext.ex (hl1 5 _ rfl); have U6 := Ext.ex (hl1 6 _ rfl); have HV0 := qH hV0; have HV1 := qH hV1; have HB0 := qH (bStp hb0 hb1); have HS0 := qH (show w.heap.size ≤ V1.heap.size by omega); have HROW := qH (fun (i : Nat) (p : Sm) (hp : A.sm[i]? = some p) => bCel hb1 (bCel hb0 (h.on hp 0 _ rfl))); have HHX := qH hx; have HP := qH hp; have HN := qH hn; clear hV0 hb0 hs0 hl0 hV1 hb1 hs1 hl1 hc hx hp hn h; have D0 := qH (fun W => r2out_any s.x (-100000000) 100000000 W); have D1 := qH (fun W => r2out_any s.y (-100000000) 100000000 W); have D2 := qH (fun W => r2out_any s.z (-100000) 100000 W); have D3 := qH (fun W => r2out_any s.pu (-1) 300 W); have D4 := qH (fun W => r2out_any s.po (-1) 3000 W); have D5 := qH (fun W => r2out_any s.st (-1) 300 W); obtain rfl | ⟨j, rfl⟩ : k = 0 ∨ ∃ j, k = j + 1 := by cases k; exact Or.inl rfl; exact Or.inr ⟨_, rfl⟩
 · simp only [Nat.zero_mul, Nat.add_zero] at c0 c1 c2 c3 c4 c5 c6
   have HO : Hid (ordS A.sm 0 s.tm = decide (s.tm ≠ 0)) := qH rfl; by_cases ho : s.tm = 0
   case neg =>
    have b0 := bneT ho; have b0' := beqF ho; have HF := qH (errS_ord (start := A.start) HHX.out (HO.out.trans (by simpa using ho))); clear ho D0 D1 D2 D3 D4 D5; go_enter Tryz.func69, Tryz.ntmps69; go_upto_region 1 with (fail); rw [HV0.out]; go_upto_region 2 with (fail); rw [HV1.out]; refine ext_wp fun X => ?_
    refine wp_region_ext (W := V1) _ (by kernel_rfl) (by kernel_rfl) ?_
    repeat go_big_quiet_step (fail)
    refine wpQuiet_nil ?_; rintro _ ⟨Y, rfl⟩; go_wp2_with fail; go_ret; exact ⟨ret_int HF.out.symm, Y.down HB0.out HS0.out⟩
   have b0 := bneF ho; have b0' := beqT ho; have HO : Hid (ordS A.sm 0 s.tm = false) := qH (HO.out.trans (by simpa using ho)); by_cases f1 : 1000000 < s.tm
   case pos =>
    have d1 : decide ((1000000 : Int) < s.tm) = true := decide_eq_true f1; have HF := qH (errS_far (start := A.start) HHX.out HO.out (Or.inl f1)); clear ho f1 D0 D1 D2 D3 D4 D5; go_enter Tryz.func69, Tryz.ntmps69; go_upto_region 1 with (fail); rw [HV0.out]; go_upto_region 2 with (fail); rw [HV1.out]; refine ext_wp fun X => ?_
    refine wp_region_ext (W := V1) _ (by kernel_rfl) (by kernel_rfl) ?_
    repeat go_big_quiet_step (fail)
    refine wpQuiet_nil ?_; rintro _ ⟨Y, rfl⟩; go_wp2_with fail; go_ret; exact ⟨ret_int HF.out.symm, Y.down HB0.out HS0.out⟩
   have d1 : decide ((1000000 : Int) < s.tm) = false := decide_eq_false f1; have hs1 : 0 ≤ s.tm := by omega
   have hs2 : s.tm ≤ 1000000 := by omega
   by_cases f2 : 86399999999 < A.start + s.tm
   case pos =>
    have d2 : decide ((86399999999 : Int) < A.start + s.tm) = true := decide_eq_true f2; have HF := qH (errS_far (start := A.start) HHX.out HO.out (Or.inr (Or.inl f2))); clear ho f1 f2 D0 D1 D2 D3 D4 D5; go_enter Tryz.func69, Tryz.ntmps69; go_upto_region 1 with (fail); rw [HV0.out]; go_upto_region 2 with (fail); rw [HV1.out]; refine ext_wp fun X => ?_
    refine wp_region_ext (W := V1) _ (by kernel_rfl) (by kernel_rfl) ?_
    repeat go_big_quiet_step (fail)
    refine wpQuiet_nil ?_; rintro _ ⟨Y, rfl⟩; go_wp2_with fail; go_ret; exact ⟨ret_int HF.out.symm, Y.down HB0.out HS0.out⟩
   have d2 : decide ((86399999999 : Int) < A.start + s.tm) = false := decide_eq_false f2; have HRG := qH (fun (h : rangeS s = false) => errS_far (start := A.start) HHX.out HO.out (Or.inr (Or.inr h))); have HOK := qH (fun (h : rangeS s = true) => errS_ok HHX.out HO.out f1 f2 h); clear ho f1 f2; unfold rangeS at HRG HOK; generalize inR s.x (-100000000) 100000000 = r0 at *; generalize inR s.y (-100000000) 100000000 = r1 at *; generalize inR s.z (-100000) 100000 = r2 at *; generalize inR s.pu (-1) 300 = r3 at *; generalize inR s.po (-1) 3000 = r4 at *; generalize inR s.st (-1) 300 = r5 at *
   cases r0
   · have HF := qH (HRG.out (by simp))
     clear HRG HOK D1 D2 D3 D4 D5; go_enter Tryz.func69, Tryz.ntmps69; go_upto_region 1 with (fail); rw [HV0.out]; go_upto_region 2 with (fail); rw [HV1.out]; refine ext_wp fun X => ?_
     refine wp_region_ext (W := V1) _ (by kernel_rfl) (by kernel_rfl) ?_
     repeat go_big_quiet_step (fail)
     refine wpQuiet_nil ?_; rintro _ ⟨Y, rfl⟩; go_wp2_with fail; refine (D0.out _).mono ?_; rintro e w1 ⟨rfl, rfl⟩; go_wp2_with fail; go_ret; exact ⟨ret_int HF.out.symm, Y.down HB0.out HS0.out⟩
   cases r1
   · have HF := qH (HRG.out (by simp))
     clear HRG HOK D2 D3 D4 D5; go_enter Tryz.func69, Tryz.ntmps69; go_upto_region 1 with (fail); rw [HV0.out]; go_upto_region 2 with (fail); rw [HV1.out]; refine ext_wp fun X => ?_
     refine wp_region_ext (W := V1) _ (by kernel_rfl) (by kernel_rfl) ?_
     repeat go_big_quiet_step (fail)
     refine wpQuiet_nil ?_; rintro _ ⟨Y, rfl⟩; go_wp2_with fail; refine (D0.out _).mono ?_; rintro e w1 ⟨rfl, rfl⟩; go_wp2_with fail; refine (D1.out _).mono ?_; rintro e w1 ⟨rfl, rfl⟩; go_wp2_with fail; go_ret; exact ⟨ret_int HF.out.symm, Y.down HB0.out HS0.out⟩
   cases r2
   · have HF := qH (HRG.out (by simp))
     clear HRG HOK D3 D4 D5; go_enter Tryz.func69, Tryz.ntmps69; go_upto_region 1 with (fail); rw [HV0.out]; go_upto_region 2 with (fail); rw [HV1.out]; refine ext_wp fun X => ?_
     refine wp_region_ext (W := V1) _ (by kernel_rfl) (by kernel_rfl) ?_
     repeat go_big_quiet_step (fail)
     refine wpQuiet_nil ?_; rintro _ ⟨Y, rfl⟩; go_wp2_with fail; refine (D0.out _).mono ?_; rintro e w1 ⟨rfl, rfl⟩; go_wp2_with fail; refine (D1.out _).mono ?_; rintro e w1 ⟨rfl, rfl⟩; go_wp2_with fail; refine (D2.out _).mono ?_; rintro e w1 ⟨rfl, rfl⟩; go_wp2_with fail; go_ret; exact ⟨ret_int HF.out.symm, Y.down HB0.out HS0.out⟩
   cases r3
   · have HF := qH (HRG.out (by simp))
     clear HRG HOK D4 D5; go_enter Tryz.func69, Tryz.ntmps69; go_upto_region 1 with (fail); rw [HV0.out]; go_upto_region 2 with (fail); rw [HV1.out]; refine ext_wp fun X => ?_
     refine wp_region_ext (W := V1) _ (by kernel_rfl) (by kernel_rfl) ?_
     repeat go_big_quiet_step (fail)
     refine wpQuiet_nil ?_; rintro _ ⟨Y, rfl⟩; go_wp2_with fail; refine (D0.out _).mono ?_; rintro e w1 ⟨rfl, rfl⟩; go_wp2_with fail; refine (D1.out _).mono ?_; rintro e w1 ⟨rfl, rfl⟩; go_wp2_with fail; refine (D2.out _).mono ?_; rintro e w1 ⟨rfl, rfl⟩; go_wp2_with fail; refine (D3.out _).mono ?_; rintro e w1 ⟨rfl, rfl⟩; go_wp2_with fail; go_ret; exact ⟨ret_int HF.out.symm, Y.down HB0.out HS0.out⟩
   cases r4
   · have HF := qH (HRG.out (by simp))
     clear HRG HOK D5; go_enter Tryz.func69, Tryz.ntmps69; go_upto_region 1 with (fail); rw [HV0.out]; go_upto_region 2 with (fail); rw [HV1.out]; refine ext_wp fun X => ?_
     refine wp_region_ext (W := V1) _ (by kernel_rfl) (by kernel_rfl) ?_
     repeat go_big_quiet_step (fail)
     refine wpQuiet_nil ?_; rintro _ ⟨Y, rfl⟩; go_wp2_with fail; refine (D0.out _).mono ?_; rintro e w1 ⟨rfl, rfl⟩; go_wp2_with fail; refine (D1.out _).mono ?_; rintro e w1 ⟨rfl, rfl⟩; go_wp2_with fail; refine (D2.out _).mono ?_; rintro e w1 ⟨rfl, rfl⟩; go_wp2_with fail; refine (D3.out _).mono ?_; rintro e w1 ⟨rfl, rfl⟩; go_wp2_with fail; refine (D4.out _).mono ?_; rintro e w1 ⟨rfl, rfl⟩; go_wp2_with fail; go_ret; exact ⟨ret_int HF.out.symm, Y.down HB0.out HS0.out⟩
   cases r5
   · have HF := qH (HRG.out (by simp))
     clear HRG HOK ; go_enter Tryz.func69, Tryz.ntmps69; go_upto_region 1 with (fail); rw [HV0.out]; go_upto_region 2 with (fail); rw [HV1.out]; refine ext_wp fun X => ?_
     refine wp_region_ext (W := V1) _ (by kernel_rfl) (by kernel_rfl) ?_
     repeat go_big_quiet_step (fail)
     refine wpQuiet_nil ?_; rintro _ ⟨Y, rfl⟩; go_wp2_with fail; refine (D0.out _).mono ?_; rintro e w1 ⟨rfl, rfl⟩; go_wp2_with fail; refine (D1.out _).mono ?_; rintro e w1 ⟨rfl, rfl⟩; go_wp2_with fail; refine (D2.out _).mono ?_; rintro e w1 ⟨rfl, rfl⟩; go_wp2_with fail; refine (D3.out _).mono ?_; rintro e w1 ⟨rfl, rfl⟩; go_wp2_with fail; refine (D4.out _).mono ?_; rintro e w1 ⟨rfl, rfl⟩; go_wp2_with fail; refine (D5.out _).mono ?_; rintro e w1 ⟨rfl, rfl⟩; go_wp2_with fail; go_ret; exact ⟨ret_int HF.out.symm, Y.down HB0.out HS0.out⟩
   have HF := qH (HOK.out (by simp)); clear HRG HOK; go_enter Tryz.func69, Tryz.ntmps69; go_upto_region 1 with (fail); rw [HV0.out]; go_upto_region 2 with (fail); rw [HV1.out]; refine ext_wp fun X => ?_
   refine wp_region_ext (W := V1) _ (by kernel_rfl) (by kernel_rfl) ?_
   repeat go_big_quiet_step (fail)
   refine wpQuiet_nil ?_; rintro _ ⟨Y, rfl⟩; go_wp2_with fail; refine (D0.out _).mono ?_; rintro e w1 ⟨rfl, rfl⟩; go_wp2_with fail; refine (D1.out _).mono ?_; rintro e w1 ⟨rfl, rfl⟩; go_wp2_with fail; refine (D2.out _).mono ?_; rintro e w1 ⟨rfl, rfl⟩; go_wp2_with fail; refine (D3.out _).mono ?_; rintro e w1 ⟨rfl, rfl⟩; go_wp2_with fail; refine (D4.out _).mono ?_; rintro e w1 ⟨rfl, rfl⟩; go_wp2_with fail; refine (D5.out _).mono ?_; rintro e w1 ⟨rfl, rfl⟩; go_wp2_with fail; go_ret; exact ⟨ret_int HF.out.symm, Y.down HB0.out HS0.out⟩
 · obtain ⟨p, hp⟩ : ∃ p, A.sm[j]? = some p := ⟨_, List.getElem?_eq_getElem (by have := HN.out; omega)⟩
   have P0 : ∀ Y : Ext V1, Y.1.cell? ⟨ba, oa + j * 7, none⟩ = some (.int .i64 p.tm) := Ext.ex (HROW.out j p hp); have HO := qH (ordS_succ (t := s.tm) hp); have e0 : (((j + 1 : Nat) : Int) == 0) = false := bFf (by omega); have e0' : ((j : Int) + 1 == 0) = false := bFf (by omega); have e1 : decide ((0 : Int) < (j : Int) + 1) = true := dTt (by omega); have hwr : IntKind.i64.wrap ((j : Int) + 1 - 1) = (j : Int) := by rw [IntKind.wrap_i64]; omega
   have hsub : (j : Int) + 1 - 1 = (j : Int) := by omega
   have hjn : j < n := by omega
   have HP2 := qH hp; clear hp; by_cases ho : s.tm ≤ p.tm
   case pos =>
    have b0 : decide (s.tm ≤ p.tm) = true := decide_eq_true ho; have HF := qH (errS_ord (start := A.start) HHX.out (HO.out.trans (decide_eq_true ho))); clear ho D0 D1 D2 D3 D4 D5; go_enter Tryz.func69, Tryz.ntmps69; go_upto_region 1 with (fail); rw [HV0.out]; go_upto_region 2 with (fail); rw [HV1.out]; refine ext_wp fun X => ?_
    refine wp_region_ext (W := V1) _ (by kernel_rfl) (by kernel_rfl) ?_
    repeat go_big_quiet_step (fail)
    refine wpQuiet_nil ?_; rintro _ ⟨Y, rfl⟩; go_wp2_with fail; go_ret; exact ⟨ret_int HF.out.symm, Y.down HB0.out HS0.out⟩
   have b0 : decide (s.tm ≤ p.tm) = false := decide_eq_false ho; have HO := qH (HO.out.trans (decide_eq_false ho)); by_cases f1 : 1000000 < s.tm
   case pos =>
    have d1 : decide ((1000000 : Int) < s.tm) = true := decide_eq_true f1; have HF := qH (errS_far (start := A.start) HHX.out HO.out (Or.inl f1)); clear ho f1 D0 D1 D2 D3 D4 D5; go_enter Tryz.func69, Tryz.ntmps69; go_upto_region 1 with (fail); rw [HV0.out]; go_upto_region 2 with (fail); rw [HV1.out]; refine ext_wp fun X => ?_
    refine wp_region_ext (W := V1) _ (by kernel_rfl) (by kernel_rfl) ?_
    repeat go_big_quiet_step (fail)
    refine wpQuiet_nil ?_; rintro _ ⟨Y, rfl⟩; go_wp2_with fail; go_ret; exact ⟨ret_int HF.out.symm, Y.down HB0.out HS0.out⟩
   have d1 : decide ((1000000 : Int) < s.tm) = false := decide_eq_false f1; have hs1 : 0 ≤ s.tm := by have := errS_nonneg HP.out j p (by omega) HP2.out; omega
   have hs2 : s.tm ≤ 1000000 := by omega
   by_cases f2 : 86399999999 < A.start + s.tm
   case pos =>
    have d2 : decide ((86399999999 : Int) < A.start + s.tm) = true := decide_eq_true f2; have HF := qH (errS_far (start := A.start) HHX.out HO.out (Or.inr (Or.inl f2))); clear ho f1 f2 D0 D1 D2 D3 D4 D5; go_enter Tryz.func69, Tryz.ntmps69; go_upto_region 1 with (fail); rw [HV0.out]; go_upto_region 2 with (fail); rw [HV1.out]; refine ext_wp fun X => ?_
    refine wp_region_ext (W := V1) _ (by kernel_rfl) (by kernel_rfl) ?_
    repeat go_big_quiet_step (fail)
    refine wpQuiet_nil ?_; rintro _ ⟨Y, rfl⟩; go_wp2_with fail; go_ret; exact ⟨ret_int HF.out.symm, Y.down HB0.out HS0.out⟩
   have d2 : decide ((86399999999 : Int) < A.start + s.tm) = false := decide_eq_false f2; have HRG := qH (fun (h : rangeS s = false) => errS_far (start := A.start) HHX.out HO.out (Or.inr (Or.inr h))); have HOK := qH (fun (h : rangeS s = true) => errS_ok HHX.out HO.out f1 f2 h); clear ho f1 f2; unfold rangeS at HRG HOK; generalize inR s.x (-100000000) 100000000 = r0 at *; generalize inR s.y (-100000000) 100000000 = r1 at *; generalize inR s.z (-100000) 100000 = r2 at *; generalize inR s.pu (-1) 300 = r3 at *; generalize inR s.po (-1) 3000 = r4 at *; generalize inR s.st (-1) 300 = r5 at *
   cases r0
   · have HF := qH (HRG.out (by simp))
     clear HRG HOK D1 D2 D3 D4 D5; go_enter Tryz.func69, Tryz.ntmps69; go_upto_region 1 with (fail); rw [HV0.out]; go_upto_region 2 with (fail); rw [HV1.out]; refine ext_wp fun X => ?_
     refine wp_region_ext (W := V1) _ (by kernel_rfl) (by kernel_rfl) ?_
     repeat go_big_quiet_step (fail)
     refine wpQuiet_nil ?_; rintro _ ⟨Y, rfl⟩; go_wp2_with fail; refine (D0.out _).mono ?_; rintro e w1 ⟨rfl, rfl⟩; go_wp2_with fail; go_ret; exact ⟨ret_int HF.out.symm, Y.down HB0.out HS0.out⟩
   cases r1
   · have HF := qH (HRG.out (by simp))
     clear HRG HOK D2 D3 D4 D5; go_enter Tryz.func69, Tryz.ntmps69; go_upto_region 1 with (fail); rw [HV0.out]; go_upto_region 2 with (fail); rw [HV1.out]; refine ext_wp fun X => ?_
     refine wp_region_ext (W := V1) _ (by kernel_rfl) (by kernel_rfl) ?_
     repeat go_big_quiet_step (fail)
     refine wpQuiet_nil ?_; rintro _ ⟨Y, rfl⟩; go_wp2_with fail; refine (D0.out _).mono ?_; rintro e w1 ⟨rfl, rfl⟩; go_wp2_with fail; refine (D1.out _).mono ?_; rintro e w1 ⟨rfl, rfl⟩; go_wp2_with fail; go_ret; exact ⟨ret_int HF.out.symm, Y.down HB0.out HS0.out⟩
   cases r2
   · have HF := qH (HRG.out (by simp))
     clear HRG HOK D3 D4 D5; go_enter Tryz.func69, Tryz.ntmps69; go_upto_region 1 with (fail); rw [HV0.out]; go_upto_region 2 with (fail); rw [HV1.out]; refine ext_wp fun X => ?_
     refine wp_region_ext (W := V1) _ (by kernel_rfl) (by kernel_rfl) ?_
     repeat go_big_quiet_step (fail)
     refine wpQuiet_nil ?_; rintro _ ⟨Y, rfl⟩; go_wp2_with fail; refine (D0.out _).mono ?_; rintro e w1 ⟨rfl, rfl⟩; go_wp2_with fail; refine (D1.out _).mono ?_; rintro e w1 ⟨rfl, rfl⟩; go_wp2_with fail; refine (D2.out _).mono ?_; rintro e w1 ⟨rfl, rfl⟩; go_wp2_with fail; go_ret; exact ⟨ret_int HF.out.symm, Y.down HB0.out HS0.out⟩
   cases r3
   · have HF := qH (HRG.out (by simp))
     clear HRG HOK D4 D5; go_enter Tryz.func69, Tryz.ntmps69; go_upto_region 1 with (fail); rw [HV0.out]; go_upto_region 2 with (fail); rw [HV1.out]; refine ext_wp fun X => ?_
     refine wp_region_ext (W := V1) _ (by kernel_rfl) (by kernel_rfl) ?_
     repeat go_big_quiet_step (fail)
     refine wpQuiet_nil ?_; rintro _ ⟨Y, rfl⟩; go_wp2_with fail; refine (D0.out _).mono ?_; rintro e w1 ⟨rfl, rfl⟩; go_wp2_with fail; refine (D1.out _).mono ?_; rintro e w1 ⟨rfl, rfl⟩; go_wp2_with fail; refine (D2.out _).mono ?_; rintro e w1 ⟨rfl, rfl⟩; go_wp2_with fail; refine (D3.out _).mono ?_; rintro e w1 ⟨rfl, rfl⟩; go_wp2_with fail; go_ret; exact ⟨ret_int HF.out.symm, Y.down HB0.out HS0.out⟩
   cases r4
   · have HF := qH (HRG.out (by simp))
     clear HRG HOK D5; go_enter Tryz.func69, Tryz.ntmps69; go_upto_region 1 with (fail); rw [HV0.out]; go_upto_region 2 with (fail); rw [HV1.out]; refine ext_wp fun X => ?_
     refine wp_region_ext (W := V1) _ (by kernel_rfl) (by kernel_rfl) ?_
     repeat go_big_quiet_step (fail)
     refine wpQuiet_nil ?_; rintro _ ⟨Y, rfl⟩; go_wp2_with fail; refine (D0.out _).mono ?_; rintro e w1 ⟨rfl, rfl⟩; go_wp2_with fail; refine (D1.out _).mono ?_; rintro e w1 ⟨rfl, rfl⟩; go_wp2_with fail; refine (D2.out _).mono ?_; rintro e w1 ⟨rfl, rfl⟩; go_wp2_with fail; refine (D3.out _).mono ?_; rintro e w1 ⟨rfl, rfl⟩; go_wp2_with fail; refine (D4.out _).mono ?_; rintro e w1 ⟨rfl, rfl⟩; go_wp2_with fail; go_ret; exact ⟨ret_int HF.out.symm, Y.down HB0.out HS0.out⟩
   cases r5
   · have HF := qH (HRG.out (by simp))
     clear HRG HOK ; go_enter Tryz.func69, Tryz.ntmps69; go_upto_region 1 with (fail); rw [HV0.out]; go_upto_region 2 with (fail); rw [HV1.out]; refine ext_wp fun X => ?_
     refine wp_region_ext (W := V1) _ (by kernel_rfl) (by kernel_rfl) ?_
     repeat go_big_quiet_step (fail)
     refine wpQuiet_nil ?_; rintro _ ⟨Y, rfl⟩; go_wp2_with fail; refine (D0.out _).mono ?_; rintro e w1 ⟨rfl, rfl⟩; go_wp2_with fail; refine (D1.out _).mono ?_; rintro e w1 ⟨rfl, rfl⟩; go_wp2_with fail; refine (D2.out _).mono ?_; rintro e w1 ⟨rfl, rfl⟩; go_wp2_with fail; refine (D3.out _).mono ?_; rintro e w1 ⟨rfl, rfl⟩; go_wp2_with fail; refine (D4.out _).mono ?_; rintro e w1 ⟨rfl, rfl⟩; go_wp2_with fail; refine (D5.out _).mono ?_; rintro e w1 ⟨rfl, rfl⟩; go_wp2_with fail; go_ret; exact ⟨ret_int HF.out.symm, Y.down HB0.out HS0.out⟩
   have HF := qH (HOK.out (by simp)); clear HRG HOK; go_enter Tryz.func69, Tryz.ntmps69; go_upto_region 1 with (fail); rw [HV0.out]; go_upto_region 2 with (fail); rw [HV1.out]; refine ext_wp fun X => ?_
   refine wp_region_ext (W := V1) _ (by kernel_rfl) (by kernel_rfl) ?_
   repeat go_big_quiet_step (fail)
   refine wpQuiet_nil ?_; rintro _ ⟨Y, rfl⟩; go_wp2_with fail; refine (D0.out _).mono ?_; rintro e w1 ⟨rfl, rfl⟩; go_wp2_with fail; refine (D1.out _).mono ?_; rintro e w1 ⟨rfl, rfl⟩; go_wp2_with fail; refine (D2.out _).mono ?_; rintro e w1 ⟨rfl, rfl⟩; go_wp2_with fail; refine (D3.out _).mono ?_; rintro e w1 ⟨rfl, rfl⟩; go_wp2_with fail; refine (D4.out _).mono ?_; rintro e w1 ⟨rfl, rfl⟩; go_wp2_with fail; refine (D5.out _).mono ?_; rintro e w1 ⟨rfl, rfl⟩; go_wp2_with fail; go_ret; exact ⟨ret_int HF.out.symm, Y.down HB0.out HS0.out⟩
theorem lapFault_any (A : Acv) (a b c : Option Addr) (ca cb cc k : Nat) (w : World) (h0 : Rw smC 7 w a A.sm) (h : Rw lpC 3 w b A.lp) (hk : k < A.lp.length) (hn2 : A.lp.length ≤ 200) (hn0 : (A.sm.length : Int) ≤ 9223372036854775807) (hti : ∀ p, p ∈ A.lp → p.s.size ≤ maxLen) :
 Calls Tryz.prog 70 #[actV A a b c ca cb cc, .int .i64 k] w fun e w' => e = .returned (.int .i64 (errL (spanS A.sm) A.lp k)) ∧ Below w.heap.size w w' := by
 have DSP := fun (W : World) (hb : Below w.heap.size w W) => rspan2_any A a b c ca cb cc W (h0.below hb) hn0
 unfold actV at *; obtain ⟨s, hx⟩ : ∃ s, A.lp[k]? = some s := ⟨_, List.getElem?_eq_getElem hk⟩; have hsz := hti s (List.mem_of_getElem? hx); unfold maxLen at hsz; obtain ⟨ba, oa, rfl, hba, hc⟩ := h.at hx; have c0 : w.cell? ⟨ba, oa + k * 3, none⟩ = some (.int .i64 s.f) := hc 0 _ rfl; have c1 := hc 1 _ rfl; have c2 := hc 2 _ rfl; obtain ⟨n, hn⟩ : ∃ n, A.lp.length = n := ⟨_, rfl⟩; rw [hn] at hk hn2 DSP ⊢; generalize A.sm.length = m at *; generalize A.tg.length = t at *; obtain ⟨V0, hV0, hb0, hs0, hl0⟩ := alloc_cells w #[.string A.name, .int .i64 A.sport, .int .i64 A.start, .slice a m ca, .slice (some ⟨ba, oa, none⟩) n cb, .slice c t cc] 26; obtain ⟨V1, hV1, hb1, hs1, hl1⟩ := alloc_cells V0 #[.int .i64 s.f, .int .i64 s.t, .string s.s] 75; have B0 := Ext.ex (bCel hb1 (hl0 0 _ rfl)); have B1 := Ext.ex (bCel hb1 (hl0 1 _ rfl)); have B2 := Ext.ex (bCel hb1 (hl0 2 _ rfl)); have B3 := Ext.ex (bCel hb1 (hl0 3 _ rfl)); have B4 := Ext.ex (bCel hb1 (hl0 4 _ rfl)); have B5 := Ext.ex (bCel hb1 (hl0 5 _ rfl)); have B4' : V0.cell? ⟨w.heap.size, 4, none⟩ = _ := hl0 4 _ rfl; have c0 := bCel hb0 c0; have c1 := bCel hb0 c1; have c2 := bCel hb0 c2; have U0 := Ext.ex (hl1 0 _ rfl); have U1 := Ext.ex (hl1 1 _ rfl); have U2 := Ext.ex (hl1 2 _ rfl); have HV0 := qH hV0; have HV1 := qH hV1; have HB0 := qH (bStp hb0 hb1); have HS0 := qH (show w.heap.size ≤ V1.heap.size by omega); have DSP := qH (fun (Z : Ext V1) => Z.calls (DSP Z.1 (bStp (bStp hb0 hb1) Z.2))); have HROW := qH (fun (i : Nat) (p : Lp) (hp : A.lp[i]? = some p) => bCel hb1 (bCel hb0 (h.on hp 1 _ rfl))); have HHX := qH hx; have HN := qH hn; obtain ⟨sp, hsp⟩ : ∃ sp, spanS A.sm = sp := ⟨_, rfl⟩; rw [hsp] at DSP ⊢; have DO := qH (fun (x : Int) W => r2out_any x 32 126 W); clear hV0 hb0 hs0 hl0 hV1 hb1 hs1 hl1 hc hx hn h hti h0 hsp; obtain rfl | ⟨j, rfl⟩ : k = 0 ∨ ∃ j, k = j + 1 := by cases k; exact Or.inl rfl; exact Or.inr ⟨_, rfl⟩
 · simp only [Nat.zero_mul, Nat.add_zero] at c0 c1 c2
   rw [show ((0 : Nat) : Int) = 0 from rfl]; have HO : Hid (ordL A.lp 0 s.f = false) := qH rfl; by_cases g0 : s.f < 0
   case pos =>
    have d0 : decide (s.f < 0) = true := decide_eq_true g0; have HF := qH (errL_9 (span := sp) HHX.out (Or.inl g0)); clear g0; go_enter Tryz.func70, Tryz.ntmps70; go_upto_region 1 with (fail); rw [HV0.out]; go_upto_region 2 with (fail); rw [HV1.out]; refine ext_wp fun X => ?_
    refine wp_region_ext (W := V1) _ (by kernel_rfl) (by kernel_rfl) ?_
    repeat go_big_quiet_step (fail)
    refine wpQuiet_nil ?_; rintro _ ⟨Y, rfl⟩; go_wp2_with fail; go_ret; exact ⟨ret_int HF.out.symm, Y.down HB0.out HS0.out⟩
   have d0 : decide (s.f < 0) = false := decide_eq_false g0; by_cases g1 : s.t ≤ s.f
   case pos =>
    have d1 : decide (s.t ≤ s.f) = true := decide_eq_true g1; have HF := qH (errL_9 (span := sp) HHX.out (Or.inr (Or.inl g1))); clear g0 g1; go_enter Tryz.func70, Tryz.ntmps70; go_upto_region 1 with (fail); rw [HV0.out]; go_upto_region 2 with (fail); rw [HV1.out]; refine ext_wp fun X => ?_
    refine wp_region_ext (W := V1) _ (by kernel_rfl) (by kernel_rfl) ?_
    repeat go_big_quiet_step (fail)
    refine wpQuiet_nil ?_; rintro _ ⟨Y, rfl⟩; go_wp2_with fail; go_ret; exact ⟨ret_int HF.out.symm, Y.down HB0.out HS0.out⟩
   have d1 : decide (s.t ≤ s.f) = false := decide_eq_false g1; by_cases g2 : sp < s.t
   case pos =>
    have d2 : decide (sp < s.t) = true := decide_eq_true g2; have HF := qH (errL_9 (span := sp) HHX.out (Or.inr (Or.inr g2))); clear g0 g1 g2; go_enter Tryz.func70, Tryz.ntmps70; go_upto_region 1 with (fail); rw [HV0.out]; go_upto_region 2 with (fail); rw [HV1.out]; refine ext_wp fun X => ?_
    refine wp_region_ext (W := V1) _ (by kernel_rfl) (by kernel_rfl) ?_
    repeat go_big_quiet_step (exact DSP.out _)
    refine wpQuiet_nil ?_; rintro _ ⟨Y, rfl⟩; go_wp2_with fail; go_ret; exact ⟨ret_int HF.out.symm, Y.down HB0.out HS0.out⟩
   have d2 : decide (sp < s.t) = false := decide_eq_false g2; have HET := qH (fun (b : Bool) (hb : titleB s.s = b) => errL_title (span := sp) HHX.out (fun h => by omega) HO.out hb); clear g0 g1 g2; go_enter Tryz.func70, Tryz.ntmps70; go_upto_region 1 with (fail); rw [HV0.out]; go_upto_region 2 with (fail); rw [HV1.out]; refine ext_wp fun X => ?_
   refine wp_region_ext (W := V1) _ (by kernel_rfl) (by kernel_rfl) ?_
   repeat go_big_quiet_step (exact DSP.out _)
   refine wpQuiet_nil ?_; rintro _ ⟨Y, rfl⟩; go_wp2_with fail; refine wp_region_ext (W := V1) _ (by kernel_rfl) (by kernel_rfl) ?_
   repeat go_big_quiet_step (fail)
   refine wpQuiet_nil ?_; rintro _ ⟨Y, rfl⟩; go_wp2_with fail
   go_loopw [6] (fun iv wr => ∃ (q : Nat), iv = .int .i64 q ∧ q ≤ s.s.size ∧ Hid (allT s.s q = true) ∧ ∃ X : Ext V1, wr = X.1) (fun iv _ => s.s.size - (intOf iv).toNat)
   case atStart => exact ⟨0, rfl, by omega, qH rfl, Y, rfl⟩
   case round =>
    obtain ⟨q, rfl, hq, HA, X, rfl⟩ := hrel; by_cases hlt : q < s.s.size
    · have t3 : decide ((q : Int) < (s.s.size : Int)) = true := dTt (by omega)
      have t3' : decide (q < s.s.size) = true := by simpa using hlt
      have hub : (s.s[q].toNat : Int) ≤ 255 := by have := s.s[q].toNat_lt; omega
      have OKN := qH (fun (h1 : 32 ≤ s.s[q].toNat) (h2 : s.s[q].toNat ≤ 126) => allT_step hlt HA.out h1 h2); have BADN := qH (fun (h : ¬ (32 ≤ s.s[q].toNat ∧ s.s[q].toNat ≤ 126)) => titleB_bad hlt h); have hi : inR (s.s[q].toNat : Int) 32 126 = true ↔ (32 ≤ s.s[q].toNat ∧ s.s[q].toNat ≤ 126) := by
       unfold inR; simp only [Bool.and_eq_true, decide_eq_true_eq]; omega
      have D := DO.out (s.s[q].toNat : Int)
      cases hb : inR (s.s[q].toNat : Int) 32 126
      · rw [hb] at D hi
        have HF := qH ((HET.out false (BADN.out (fun h => by have := hi.2 h; cases this)))); have D := qH D; clear hi hb OKN BADN HET; go_wp2_with fail; refine (D.out _).mono ?_; rintro e w1 ⟨rfl, rfl⟩; go_wp2_with fail; go_ret; exact ⟨ret_int HF.out.symm, X.down HB0.out HS0.out⟩
      · rw [hb] at D hi
        have HF := qH (OKN.out (hi.1 rfl).1 (hi.1 rfl).2); have D := qH D; clear hi hb OKN BADN; go_wp2_with fail; refine (D.out _).mono ?_; rintro e w1 ⟨rfl, rfl⟩; go_wp2_with fail
        go_roundw
        case rel => exact ⟨q + 1, by go_num, by omega, HF, X, rfl⟩
        case measure => simp [intOf]; omega
    · have t3 : decide ((q : Int) < (s.s.size : Int)) = false := dFf (by omega)
      have t3' : decide (q < s.s.size) = false := by simpa using hlt
      have HT := qH (titleB_of (by have := HA.out; rwa [show q = s.s.size by omega] at this)); clear hlt; by_cases h6 : s.s.size ≤ 60
      · have t4 : decide ((60 : Int) < (s.s.size : Int)) = false := dFf (by omega)
        have t4' : decide (60 < s.s.size) = false := dFf (by omega); have HF := qH (HET.out true (HT.out.trans (decide_eq_true h6))); clear h6; go_wp2_with fail; go_ret; exact ⟨ret_int HF.out.symm, X.down HB0.out HS0.out⟩
      · have t4 : decide ((60 : Int) < (s.s.size : Int)) = true := dTt (by omega)
        have t4' : decide (60 < s.s.size) = true := dTt (by omega); have HF := qH (HET.out false (HT.out.trans (decide_eq_false h6))); clear h6; go_wp2_with fail; go_ret; exact ⟨ret_int HF.out.symm, X.down HB0.out HS0.out⟩
 · obtain ⟨p, hp⟩ : ∃ p, A.lp[j]? = some p := ⟨_, List.getElem?_eq_getElem (by have := HN.out; omega)⟩
   have P1 : ∀ Y : Ext V1, Y.1.cell? ⟨ba, oa + j * 3 + 1, none⟩ = some (.int .i64 p.t) := Ext.ex (HROW.out j p hp); have HO1 := qH (ordL_succ (t := s.f) hp); have e0' : ((j : Int) + 1 == 0) = false := bFf (by omega); have e1 : decide ((0 : Int) < (j : Int) + 1) = true := dTt (by omega); have hwr : IntKind.i64.wrap ((j : Int) + 1 - 1) = (j : Int) := by rw [IntKind.wrap_i64]; omega
   have hsub : (j : Int) + 1 - 1 = (j : Int) := by omega
   have hjn : j < n := by omega
   clear hp; by_cases g0 : s.f < 0
   case pos =>
    have d0 : decide (s.f < 0) = true := decide_eq_true g0; have HF := qH (errL_9 (span := sp) HHX.out (Or.inl g0)); clear g0; go_enter Tryz.func70, Tryz.ntmps70; go_upto_region 1 with (fail); rw [HV0.out]; go_upto_region 2 with (fail); rw [HV1.out]; refine ext_wp fun X => ?_
    refine wp_region_ext (W := V1) _ (by kernel_rfl) (by kernel_rfl) ?_
    repeat go_big_quiet_step (fail)
    refine wpQuiet_nil ?_; rintro _ ⟨Y, rfl⟩; go_wp2_with fail; go_ret; exact ⟨ret_int HF.out.symm, Y.down HB0.out HS0.out⟩
   have d0 : decide (s.f < 0) = false := decide_eq_false g0; by_cases g1 : s.t ≤ s.f
   case pos =>
    have d1 : decide (s.t ≤ s.f) = true := decide_eq_true g1; have HF := qH (errL_9 (span := sp) HHX.out (Or.inr (Or.inl g1))); clear g0 g1; go_enter Tryz.func70, Tryz.ntmps70; go_upto_region 1 with (fail); rw [HV0.out]; go_upto_region 2 with (fail); rw [HV1.out]; refine ext_wp fun X => ?_
    refine wp_region_ext (W := V1) _ (by kernel_rfl) (by kernel_rfl) ?_
    repeat go_big_quiet_step (fail)
    refine wpQuiet_nil ?_; rintro _ ⟨Y, rfl⟩; go_wp2_with fail; go_ret; exact ⟨ret_int HF.out.symm, Y.down HB0.out HS0.out⟩
   have d1 : decide (s.t ≤ s.f) = false := decide_eq_false g1; by_cases g2 : sp < s.t
   case pos =>
    have d2 : decide (sp < s.t) = true := decide_eq_true g2; have HF := qH (errL_9 (span := sp) HHX.out (Or.inr (Or.inr g2))); clear g0 g1 g2; go_enter Tryz.func70, Tryz.ntmps70; go_upto_region 1 with (fail); rw [HV0.out]; go_upto_region 2 with (fail); rw [HV1.out]; refine ext_wp fun X => ?_
    refine wp_region_ext (W := V1) _ (by kernel_rfl) (by kernel_rfl) ?_
    repeat go_big_quiet_step (exact DSP.out _)
    refine wpQuiet_nil ?_; rintro _ ⟨Y, rfl⟩; go_wp2_with fail; go_ret; exact ⟨ret_int HF.out.symm, Y.down HB0.out HS0.out⟩
   have d2 : decide (sp < s.t) = false := decide_eq_false g2; by_cases ho : s.f < p.t
   case pos =>
    have b0 : decide (s.f < p.t) = true := decide_eq_true ho; have HF := qH (errL_ord (span := sp) HHX.out (fun h => by omega) (HO1.out.trans b0)); clear g0 g1 g2 ho; go_enter Tryz.func70, Tryz.ntmps70; go_upto_region 1 with (fail); rw [HV0.out]; go_upto_region 2 with (fail); rw [HV1.out]; refine ext_wp fun X => ?_
    refine wp_region_ext (W := V1) _ (by kernel_rfl) (by kernel_rfl) ?_
    repeat go_big_quiet_step (exact DSP.out _)
    refine wpQuiet_nil ?_; rintro _ ⟨Y, rfl⟩; go_wp2_with fail; refine wp_region_ext (W := V1) _ (by kernel_rfl) (by kernel_rfl) ?_
    repeat go_big_quiet_step (fail)
    refine wpQuiet_nil ?_; rintro _ ⟨Y, rfl⟩; go_wp2_with fail; go_ret; exact ⟨ret_int HF.out.symm, Y.down HB0.out HS0.out⟩
   have b0 : decide (s.f < p.t) = false := decide_eq_false ho; have HO := qH (HO1.out.trans b0); have HET := qH (fun (b : Bool) (hb : titleB s.s = b) => errL_title (span := sp) HHX.out (fun h => by omega) HO.out hb); clear g0 g1 g2; go_enter Tryz.func70, Tryz.ntmps70; go_upto_region 1 with (fail); rw [HV0.out]; go_upto_region 2 with (fail); rw [HV1.out]; refine ext_wp fun X => ?_
   refine wp_region_ext (W := V1) _ (by kernel_rfl) (by kernel_rfl) ?_
   repeat go_big_quiet_step (exact DSP.out _)
   refine wpQuiet_nil ?_; rintro _ ⟨Y, rfl⟩; go_wp2_with fail; refine wp_region_ext (W := V1) _ (by kernel_rfl) (by kernel_rfl) ?_
   repeat go_big_quiet_step (fail)
   refine wpQuiet_nil ?_; rintro _ ⟨Y, rfl⟩; go_wp2_with fail
   go_loopw [6] (fun iv wr => ∃ (q : Nat), iv = .int .i64 q ∧ q ≤ s.s.size ∧ Hid (allT s.s q = true) ∧ ∃ X : Ext V1, wr = X.1) (fun iv _ => s.s.size - (intOf iv).toNat)
   case atStart => exact ⟨0, rfl, by omega, qH rfl, Y, rfl⟩
   case round =>
    obtain ⟨q, rfl, hq, HA, X, rfl⟩ := hrel; by_cases hlt : q < s.s.size
    · have t3 : decide ((q : Int) < (s.s.size : Int)) = true := dTt (by omega)
      have t3' : decide (q < s.s.size) = true := by simpa using hlt
      have hub : (s.s[q].toNat : Int) ≤ 255 := by have := s.s[q].toNat_lt; omega
      have OKN := qH (fun (h1 : 32 ≤ s.s[q].toNat) (h2 : s.s[q].toNat ≤ 126) => allT_step hlt HA.out h1 h2); have BADN := qH (fun (h : ¬ (32 ≤ s.s[q].toNat ∧ s.s[q].toNat ≤ 126)) => titleB_bad hlt h); have hi : inR (s.s[q].toNat : Int) 32 126 = true ↔ (32 ≤ s.s[q].toNat ∧ s.s[q].toNat ≤ 126) := by
       unfold inR; simp only [Bool.and_eq_true, decide_eq_true_eq]; omega
      have D := DO.out (s.s[q].toNat : Int)
      cases hb : inR (s.s[q].toNat : Int) 32 126
      · rw [hb] at D hi
        have HF := qH ((HET.out false (BADN.out (fun h => by have := hi.2 h; cases this)))); have D := qH D; clear hi hb OKN BADN HET; go_wp2_with fail; refine (D.out _).mono ?_; rintro e w1 ⟨rfl, rfl⟩; go_wp2_with fail; go_ret; exact ⟨ret_int HF.out.symm, X.down HB0.out HS0.out⟩
      · rw [hb] at D hi
        have HF := qH (OKN.out (hi.1 rfl).1 (hi.1 rfl).2); have D := qH D; clear hi hb OKN BADN; go_wp2_with fail; refine (D.out _).mono ?_; rintro e w1 ⟨rfl, rfl⟩; go_wp2_with fail
        go_roundw
        case rel => exact ⟨q + 1, by go_num, by omega, HF, X, rfl⟩
        case measure => simp [intOf]; omega
    · have t3 : decide ((q : Int) < (s.s.size : Int)) = false := dFf (by omega)
      have t3' : decide (q < s.s.size) = false := by simpa using hlt
      have HT := qH (titleB_of (by have := HA.out; rwa [show q = s.s.size by omega] at this)); clear hlt; by_cases h6 : s.s.size ≤ 60
      · have t4 : decide ((60 : Int) < (s.s.size : Int)) = false := dFf (by omega)
        have t4' : decide (60 < s.s.size) = false := dFf (by omega); have HF := qH (HET.out true (HT.out.trans (decide_eq_true h6))); clear h6; go_wp2_with fail; go_ret; exact ⟨ret_int HF.out.symm, X.down HB0.out HS0.out⟩
      · have t4 : decide ((60 : Int) < (s.s.size : Int)) = true := dTt (by omega)
        have t4' : decide (60 < s.s.size) = true := dTt (by omega); have HF := qH (HET.out false (HT.out.trans (decide_eq_false h6))); clear h6; go_wp2_with fail; go_ret; exact ⟨ret_int HF.out.symm, X.down HB0.out HS0.out⟩
theorem rcheck2_any (A : Acv) (a b c : Option Addr) (ca cb cc : Nat) (w : World) (h : ActIn w A a b c) : Calls Tryz.prog 35 #[actV A a b c ca cb cc] w fun e w' => e = .returned (.int .i64 (chkA A)) ∧ Below w.heap.size w w' := by
 have DN := qH (fun W => r2IsName_any A.name W h.name); have D1 := qH (fun W => r2out_any A.sport 1 5 W); have D2 := qH (fun W => r2out_any A.start 0 86399999999 W); have HT := qH h.tg; have HTA := qH h.tags; have hn1 := h.nsm; have hm1 := h.nlp; have ht1 := h.ntg; have DSF := qH (fun (k : Nat) (W : World) (hb : Below w.heap.size w W) (hk : k < A.sm.length) (hn2 : A.sm.length ≤ 20000) (hst : 0 ≤ A.start ∧ A.start ≤ 86399999999) (hp : ∀ i, i < k → errS A.start A.sm i = 0) => sampleFault_any A a b c ca cb cc k W (h.sm.below hb) hk hn2 hst hp); have DLF := qH (fun (k : Nat) (W : World) (hb : Below w.heap.size w W) (hk : k < A.lp.length) (hn2 : A.lp.length ≤ 200) => lapFault_any A a b c ca cb cc k W (h.sm.below hb) (h.lp.below hb) hk hn2 hn1 h.titles); unfold actV at *; have HV : Hid (chkA A = if nameB A.name = false then 8 else if inR A.sport 1 5 = false then 7 else if inR A.start 0 86399999999 = false then 9
  else if 20000 < A.sm.length ∨ 200 < A.lp.length ∨ 20 < A.tg.length then 3 else chkR A) := qH rfl
 obtain ⟨n, hn⟩ : ∃ n, A.sm.length = n := ⟨_, rfl⟩; obtain ⟨m, hm⟩ : ∃ n, A.lp.length = n := ⟨_, rfl⟩; obtain ⟨t, ht⟩ : ∃ n, A.tg.length = n := ⟨_, rfl⟩; have HN := qH (And.intro hn (And.intro hm ht)); rw [hn, hm, ht] at HV DSF DLF ⊢; rw [hn] at hn1; rw [hm] at hm1; rw [ht] at ht1; have HST := qH (fun (h : inR A.start 0 86399999999 = true) => inR_iff.1 h); generalize nameB A.name = bn at *; generalize inR A.sport 1 5 = b1 at *; generalize inR A.start 0 86399999999 = b2 at *; obtain ⟨V0, hV0, hb0, hs0, hl0⟩ := alloc_cells w #[.string A.name, .int .i64 A.sport, .int .i64 A.start, .slice a n ca, .slice b m cb, .slice c t cc] 26; have B0 := Ext.ex (hl0 0 _ rfl); have B1 := Ext.ex (hl0 1 _ rfl); have B2 := Ext.ex (hl0 2 _ rfl); have B3 := Ext.ex (hl0 3 _ rfl); have B4 := Ext.ex (hl0 4 _ rfl); have B5 := Ext.ex (hl0 5 _ rfl); have HV0 := qH hV0; have HB0 := qH hb0; have HS0 := qH (show w.heap.size ≤ V0.heap.size by omega); clear hV0 hb0 hs0 hl0 h hn hm ht
 cases bn
 · have HF := qH (HV.out.trans (if_pos rfl))
   clear HT HTA D1 D2 DSF DLF HST; go_enter Tryz.func35, Tryz.ntmps35; go_upto_region 1 with (fail); rw [HV0.out]; refine ext_wp fun X => ?_
   go_wp2_with fail; refine (DN.out _).mono ?_; rintro e w1 ⟨rfl, rfl⟩; go_wp2_with fail; go_ret; exact ⟨ret_int (HF.out).symm, X.down HB0.out HS0.out⟩
 have HV := qH (HV.out.trans (if_neg (by simp)))
 cases b1
 · have HF := qH (HV.out.trans (if_pos rfl))
   clear HT HTA D2 DSF DLF HST; go_enter Tryz.func35, Tryz.ntmps35; go_upto_region 1 with (fail); rw [HV0.out]; refine ext_wp fun X => ?_
   go_wp2_with fail; refine (DN.out _).mono ?_; rintro e w1 ⟨rfl, rfl⟩; go_wp2_with fail; refine (D1.out _).mono ?_; rintro e w1 ⟨rfl, rfl⟩; go_wp2_with fail; go_ret; exact ⟨ret_int (HF.out).symm, X.down HB0.out HS0.out⟩
 have HV := qH (HV.out.trans (if_neg (by simp)))
 cases b2
 · have HF := qH (HV.out.trans (if_pos rfl))
   clear HT HTA DSF DLF HST; go_enter Tryz.func35, Tryz.ntmps35; go_upto_region 1 with (fail); rw [HV0.out]; refine ext_wp fun X => ?_
   go_wp2_with fail; refine (DN.out _).mono ?_; rintro e w1 ⟨rfl, rfl⟩; go_wp2_with fail; refine (D1.out _).mono ?_; rintro e w1 ⟨rfl, rfl⟩; go_wp2_with fail; refine (D2.out _).mono ?_; rintro e w1 ⟨rfl, rfl⟩; go_wp2_with fail; go_ret; exact ⟨ret_int (HF.out).symm, X.down HB0.out HS0.out⟩
 have HV := qH (HV.out.trans (if_neg (by simp))); have HST2 := qH (HST.out rfl); clear HST; by_cases h0 : 20000 < n
 case pos =>
  have q0 : decide ((20000 : Int) < (n : Int)) = true := dTt (by omega); have q0' : decide (20000 < n) = true := dTt (by omega); have HF := qH (HV.out.trans (if_pos (by omega))); clear h0 HT HTA DSF DLF; go_enter Tryz.func35, Tryz.ntmps35; go_upto_region 1 with (fail); rw [HV0.out]; refine ext_wp fun X => ?_
  go_wp2_with fail; refine (DN.out _).mono ?_; rintro e w1 ⟨rfl, rfl⟩; go_wp2_with fail; refine (D1.out _).mono ?_; rintro e w1 ⟨rfl, rfl⟩; go_wp2_with fail; refine (D2.out _).mono ?_; rintro e w1 ⟨rfl, rfl⟩; go_wp2_with fail; go_ret; exact ⟨ret_int (HF.out).symm, X.down HB0.out HS0.out⟩
 have q0 : decide ((20000 : Int) < (n : Int)) = false := dFf (by omega); have q0' : decide (20000 < n) = false := dFf (by omega); by_cases h1 : 200 < m
 case pos =>
  have q1 : decide ((200 : Int) < (m : Int)) = true := dTt (by omega); have q1' : decide (200 < m) = true := dTt (by omega); have HF := qH (HV.out.trans (if_pos (by omega))); clear h0 h1 HT HTA DSF DLF; go_enter Tryz.func35, Tryz.ntmps35; go_upto_region 1 with (fail); rw [HV0.out]; refine ext_wp fun X => ?_
  go_wp2_with fail; refine (DN.out _).mono ?_; rintro e w1 ⟨rfl, rfl⟩; go_wp2_with fail; refine (D1.out _).mono ?_; rintro e w1 ⟨rfl, rfl⟩; go_wp2_with fail; refine (D2.out _).mono ?_; rintro e w1 ⟨rfl, rfl⟩; go_wp2_with fail; go_ret; exact ⟨ret_int (HF.out).symm, X.down HB0.out HS0.out⟩
 have q1 : decide ((200 : Int) < (m : Int)) = false := dFf (by omega); have q1' : decide (200 < m) = false := dFf (by omega); by_cases h2 : 20 < t
 case pos =>
  have q2 : decide ((20 : Int) < (t : Int)) = true := dTt (by omega); have q2' : decide (20 < t) = true := dTt (by omega); have HF := qH (HV.out.trans (if_pos (by omega))); clear h0 h1 h2 HT HTA DSF DLF; go_enter Tryz.func35, Tryz.ntmps35; go_upto_region 1 with (fail); rw [HV0.out]; refine ext_wp fun X => ?_
  go_wp2_with fail; refine (DN.out _).mono ?_; rintro e w1 ⟨rfl, rfl⟩; go_wp2_with fail; refine (D1.out _).mono ?_; rintro e w1 ⟨rfl, rfl⟩; go_wp2_with fail; refine (D2.out _).mono ?_; rintro e w1 ⟨rfl, rfl⟩; go_wp2_with fail; go_ret; exact ⟨ret_int (HF.out).symm, X.down HB0.out HS0.out⟩
 have q2 : decide ((20 : Int) < (t : Int)) = false := dFf (by omega); have q2' : decide (20 < t) = false := dFf (by omega); have HV := qH (HV.out.trans (if_neg (by omega))); go_enter Tryz.func35, Tryz.ntmps35; go_upto_region 1 with (fail); rw [HV0.out]; refine ext_wp fun X => ?_
 go_wp2_with fail; refine (DN.out _).mono ?_; rintro e w1 ⟨rfl, rfl⟩; go_wp2_with fail; refine (D1.out _).mono ?_; rintro e w1 ⟨rfl, rfl⟩; go_wp2_with fail; refine (D2.out _).mono ?_; rintro e w1 ⟨rfl, rfl⟩; go_wp2_with fail; clear DN D1 D2 q0 q1 q2 q0' q1' q2'
 go_loopw [42] (fun iv wr => ∃ (k : Nat), iv = .int .i64 k ∧ k ≤ n ∧ Hid ((chkSs A = firstE (errS A.start A.sm) (n - k) k) ∧ ∀ i, i < k → errS A.start A.sm i = 0) ∧ ∃ X : Ext V0, wr = X.1) (fun iv _ => n - (intOf iv).toNat)
 case atStart => exact ⟨0, rfl, by omega, qH ⟨by unfold chkSs; rw [HN.out.1]; rfl, fun i hi => by omega⟩, X, rfl⟩
 case round =>
  obtain ⟨k, rfl, hk, HE, X, rfl⟩ := hrel; by_cases hlt : k < n
  · have t2 : decide ((k : Int) < (n : Int)) = true := dTt (by omega)
    have t2' : decide (k < n) = true := by simpa using hlt
    have DX := qH (DSF.out k X.1 (bStp HB0.out X.2) hlt (by omega) HST2.out HE.out.2); have HG := qH (firstE_go hlt HE.out.1); have HP := qH (fun h0 => errS_next HE.out.2 h0); have hk20 : n ≤ 20000 := by omega
    clear HE; generalize errS A.start A.sm k = r at *; by_cases h0 : r = 0
    · subst h0
      have HF := qH (And.intro (HG.out.2 rfl) (HP.out rfl)); clear HG HP; go_wp2_with fail; refine DX.out.mono ?_; rintro e w1 ⟨rfl, hbw⟩; obtain ⟨Q, rfl⟩ : ∃ Q : Ext V0, w1 = Q.1 := ⟨⟨w1, bStp X.2 hbw⟩, rfl⟩; clear hbw; go_wp2_with fail
      go_roundw
      case rel => exact ⟨k + 1, by go_num, by omega, HF, Q, rfl⟩
      case measure => simp [intOf]; omega
    · have bne := bneT h0
      have HF := qH (HV.out.trans (chkR_1 (HG.out.1 h0) h0)); clear HG HP h0 DSF DLF HT HTA; go_wp2_with fail; refine DX.out.mono ?_; rintro e w1 ⟨rfl, hbw⟩; have HBW := qH (bStp (bStp HB0.out X.2) hbw); clear hbw; go_wp2_with fail; go_ret; exact ⟨ret_int HF.out.symm, HBW.out⟩
  · have t2 : decide ((k : Int) < (n : Int)) = false := dFf (by omega)
    have t2' : decide (k < n) = false := by simpa using hlt
    have HSS := qH (firstE_end (by omega) HE.out.1); clear HE hlt hk DSF; go_wp2_with fail; clear t2 t2'
    go_loopw [55] (fun iv wr => ∃ (k : Nat), iv = .int .i64 k ∧ k ≤ m ∧ Hid (chkLs A = firstE (errL (spanS A.sm) A.lp) (m - k) k) ∧ ∃ X : Ext V0, wr = X.1) (fun iv _ => m - (intOf iv).toNat)
    case atStart => exact ⟨0, rfl, by omega, qH (by unfold chkLs; rw [HN.out.2.1]; rfl), X, rfl⟩
    case round =>
     obtain ⟨k, rfl, hk, HE, X, rfl⟩ := hrel; by_cases hlt : k < m
     · have t2 : decide ((k : Int) < (m : Int)) = true := dTt (by omega)
       have t2' : decide (k < m) = true := by simpa using hlt
       have DX := qH (DLF.out k X.1 (bStp HB0.out X.2) hlt (by omega)); have HG := qH (firstE_go hlt HE.out); have hk20 : m ≤ 200 := by omega
       clear HE; generalize errL (spanS A.sm) A.lp k = r at *; by_cases h0 : r = 0
       · subst h0
         have HF := qH (HG.out.2 rfl); clear HG; go_wp2_with fail; refine DX.out.mono ?_; rintro e w1 ⟨rfl, hbw⟩; obtain ⟨Q, rfl⟩ : ∃ Q : Ext V0, w1 = Q.1 := ⟨⟨w1, bStp X.2 hbw⟩, rfl⟩; clear hbw; go_wp2_with fail
         go_roundw
         case rel => exact ⟨k + 1, by go_num, by omega, HF, Q, rfl⟩
         case measure => simp [intOf]; omega
       · have bne := bneT h0
         have HF := qH (HV.out.trans (chkR_2 HSS.out (HG.out.1 h0) h0)); clear HG h0 DLF HT HTA; go_wp2_with fail; refine DX.out.mono ?_; rintro e w1 ⟨rfl, hbw⟩; have HBW := qH (bStp (bStp HB0.out X.2) hbw); clear hbw; go_wp2_with fail; go_ret; exact ⟨ret_int HF.out.symm, HBW.out⟩
     · have t2 : decide ((k : Int) < (m : Int)) = false := dFf (by omega)
       have t2' : decide (k < m) = false := by simpa using hlt
       have HLL := qH (firstE_end (by omega) HE.out); clear HE hlt hk DLF; go_wp2_with fail; clear t2 t2'
       go_loopw [68] (fun iv wr => ∃ (k : Nat), iv = .int .i64 k ∧ k ≤ t ∧ Hid (chkTs A = firstE (errT A.tg) (t - k) k) ∧ ∃ X : Ext V0, wr = X.1) (fun iv _ => t - (intOf iv).toNat)
       case atStart => exact ⟨0, rfl, by omega, qH (by unfold chkTs; rw [HN.out.2.2]; rfl), X, rfl⟩
       case round =>
        obtain ⟨k, rfl, hk, HE, X, rfl⟩ := hrel; by_cases hlt : k < t
        · have t2 : decide ((k : Int) < (t : Int)) = true := dTt (by omega)
          have t2' : decide (k < t) = true := by simpa using hlt
          obtain ⟨s, hx⟩ : ∃ s, A.tg[k]? = some s := ⟨_, List.getElem?_eq_getElem (by rw [HN.out.2.2]; exact hlt)⟩; have HX := qH (HT.out.below (bStp HB0.out X.2)); obtain ⟨ba, oa, rfl, hba, hc⟩ := HX.out.at hx; have c0 : X.1.cell? ⟨ba, oa + k, none⟩ = some (.string s) := by
           have := hc 0 _ rfl
           rwa [Nat.mul_one, Nat.add_zero] at this
          have HG := qH (firstE_go hlt HE.out); have HHX := qH hx; have DNM := qH (fun W => r2IsName_any s W (HTA.out s (List.mem_of_getElem? hx))); have HNA := qH (fun (h : nameB s = false) => errT_name HHX.out h); have HNO := qH (fun (h : nameB s = true) (b : Bool) (hb : ordT A.tg k s = b) => errT_ord HHX.out h hb); generalize nameB s = bn at *; clear HE hc hx; have hk20 : t ≤ 20 := by omega
          cases bn
          · have HF := qH (HV.out.trans (chkR_3 HSS.out HLL.out ((HG.out.1 (by rw [HNA.out rfl]; decide)).trans (HNA.out rfl))))
            clear HG HHX HNA HNO HT HTA; go_wp2_with fail; refine (DNM.out _).mono ?_; rintro e w1 ⟨rfl, rfl⟩; go_wp2_with fail; go_ret; exact ⟨ret_int HF.out.symm, X.down HB0.out HS0.out⟩
          · obtain rfl | ⟨j, rfl⟩ : k = 0 ∨ ∃ j, k = j + 1 := by cases k; exact Or.inl rfl; exact Or.inr ⟨_, rfl⟩
            · have HF := qH (HG.out.2 (HNO.out rfl false rfl))
              rw [Nat.add_zero] at c0; clear HG HHX HNA HNO; go_wp2_with fail; refine (DNM.out _).mono ?_; rintro e w1 ⟨rfl, rfl⟩; go_wp2_with fail
              go_roundw
              case rel => exact ⟨1, by go_num, by omega, HF, X, rfl⟩
              case measure => simp [intOf]; omega
            · obtain ⟨p, hp⟩ : ∃ p, A.tg[j]? = some p := ⟨_, List.getElem?_eq_getElem (by have := HN.out.2.2; omega)⟩
              have P0 : X.1.cell? ⟨ba, oa + j, none⟩ = some (.string p) := by
               have := HX.out.on hp 0 _ rfl
               rwa [Nat.mul_one, Nat.add_zero] at this
              have HO := qH (ordT_succ (s := s) hp); have e0 : decide ((0 : Int) < (j : Int) + 1) = true := dTt (by omega); have hwr : IntKind.i64.wrap ((j : Int) + 1 - 1) = (j : Int) := by rw [IntKind.wrap_i64]; omega
              have hsub : (j : Int) + 1 - 1 = (j : Int) := by omega
              have hjn : j < t := by omega
              clear hp; have HNO := qH (fun (b : Bool) (hb : Op.bytesLess p.toList s.toList = b) => HNO.out rfl (!b) (HO.out.trans (by rw [hb]))); have hle := bytesLe s.toList p.toList; generalize hb1 : Op.bytesLess s.toList p.toList = b1 at hle; generalize hb2 : (s.toList == p.toList) = b2 at hle
              cases b1
              · cases b2
                · have hbl : Op.bytesLess p.toList s.toList = true := by simpa using hle.symm
                  have HF := qH (HG.out.2 (HNO.out true hbl)); clear HG HHX HNA HNO HO hle hbl; go_wp2_with fail; refine (DNM.out _).mono ?_; rintro e w1 ⟨rfl, rfl⟩; go_wp2_with fail
                  go_roundw
                  case rel => exact ⟨j + 1 + 1, by go_num, by omega, HF, X, rfl⟩
                  case measure => simp [intOf]; omega
                · have hbl : Op.bytesLess p.toList s.toList = false := by simpa using hle.symm
                  have HF := qH (HV.out.trans (chkR_3 HSS.out HLL.out ((HG.out.1 (by rw [HNO.out false hbl]; decide)).trans (HNO.out false hbl)))); clear HG HHX HNA HNO HO HT HTA hle hbl; go_wp2_with fail; refine (DNM.out _).mono ?_; rintro e w1 ⟨rfl, rfl⟩; go_wp2_with fail; go_ret; exact ⟨ret_int HF.out.symm, X.down HB0.out HS0.out⟩
              · have hbl : Op.bytesLess p.toList s.toList = false := by simpa using hle.symm
                have HF := qH (HV.out.trans (chkR_3 HSS.out HLL.out ((HG.out.1 (by rw [HNO.out false hbl]; decide)).trans (HNO.out false hbl)))); clear HG HHX HNA HNO HO HT HTA hle hbl; go_wp2_with fail; refine (DNM.out _).mono ?_; rintro e w1 ⟨rfl, rfl⟩; go_wp2_with fail; go_ret; exact ⟨ret_int HF.out.symm, X.down HB0.out HS0.out⟩
        · have t2 : decide ((k : Int) < (t : Int)) = false := dFf (by omega)
          have t2' : decide (k < t) = false := by simpa using hlt
          have HF := qH (HV.out.trans (chkR_3 HSS.out HLL.out (firstE_end (by omega) HE.out))); clear HE hlt hk HT HTA; go_wp2_with fail; go_ret; exact ⟨ret_int HF.out.symm, X.down HB0.out HS0.out⟩
def scRet (p : Int × Int) : Ending := .returned (.tuple #[.int .i64 p.1, .int .i64 p.2])
theorem hasRow_new (w : World) (o : Obj) : HasRow ((w.alloc o).alloc (.cells wayRow 221)) (w.heap.size + 1) := by
 intro j hj; rw [World.cell?_alloc_at _ _ _ _ (by simp)]; rcases (show j = 0 ∨ j = 1 ∨ j = 2 ∨ j = 3 ∨ j = 4 ∨ j = 5 ∨ j = 6 ∨ j = 7 ∨ j = 8 ∨ j = 9 by omega) with rfl | rfl | rfl | rfl | rfl | rfl | rfl | rfl | rfl | rfl <;> rfl
theorem how_new (w : World) (how : Int) (o : Obj) : ((w.alloc (.cells #[.int .i64 how] 3)).alloc o).cell? ⟨w.heap.size, 0, none⟩ = some (.int .i64 how) := by
 rw [World.cell?_alloc_past _ _ _ (by simp), World.cell?_alloc_at _ _ _ _ rfl]; rfl
theorem below_two (w : World) (o o' : Obj) : Below w.heap.size w ((w.alloc o).alloc o') := ((Below.refl _ _).alloc (Nat.le_refl _) o).alloc (by simp) o'
theorem scale_kind (a num den how : Int) (w : World) (h : how < 1 ∨ 5 < how) :
 Calls Tryz.prog 204 #[.int .i64 a, .int .i64 num, .int .i64 den, .int .i64 how] w fun e w' => e = scRet (0, 7) ∧ Below w.heap.size w w' := by
 have hw : wayAt how = -1 := by unfold wayAt; rw [if_neg (by omega)]
 have hmf : ∀ (fn : Fn) (first cap : Array Value) (w : World), (Instr.makeFunc fn first cap).run Tryz.prog w = .ok (.func fn first cap) w := fun _ _ _ _ => rfl
 go_enter Tryz.func204, Tryz.ntmps204; go_wp2_with fail; refine (ways_any _).mono ?_; rintro e w1 ⟨rfl, rfl⟩; go_wp2_with fail; refine (index_any _ _ how _ (hasRow_new w _) (how_new w how _) (by simp) (by simp; omega)).mono ?_; rintro e w1 ⟨rfl, hb⟩; rw [hw]; have hb' := (below_two w _ _).trans (hb.mono (by simp; omega)); clear hb
 go_wp2
 go_ret2; exact ⟨rfl, hb'⟩
theorem scale_arg (a num den how : Int) (w : World) (h1 : 1 ≤ how) (h5 : how ≤ 5) (h : den ≤ 0 ∨ num < 0) :
 Calls Tryz.prog 204 #[.int .i64 a, .int .i64 num, .int .i64 den, .int .i64 how] w fun e w' => e = scRet (0, 1) ∧ Below w.heap.size w w' := by
 have hw : wayAt how = how - 1 := by unfold wayAt; rw [if_pos ⟨h1, h5⟩]
 have hmf : ∀ (fn : Fn) (first cap : Array Value) (w : World), (Instr.makeFunc fn first cap).run Tryz.prog w = .ok (.func fn first cap) w := fun _ _ _ _ => rfl
 have hk : decide (how - 1 < 0) = false := dFf (by omega); by_cases hd : den ≤ 0
 all_goals
  go_enter Tryz.func204, Tryz.ntmps204; go_wp2_with fail; refine (ways_any _).mono ?_; rintro e w1 ⟨rfl, rfl⟩; go_wp2_with fail; refine (index_any _ _ how _ (hasRow_new w _) (how_new w how _) (by simp) (by simp; omega)).mono ?_; rintro e w1 ⟨rfl, hb⟩; rw [hw]; have hb' := (below_two w _ _).trans (hb.mono (by simp; omega)); clear hb hw
 · go_wp2
   go_ret2; exact ⟨rfl, hb'⟩
 · have hd2 : decide (den ≤ 0) = false := dFf (by omega)
   have hn2 : decide (num < 0) = true := dTt (by omega); clear h hd
   go_wp2
   go_ret2; exact ⟨rfl, hb'⟩
theorem neg_wrap {a : Int} (h : a < 0) (h1 : -9223372036854775808 ≤ a) : IntKind.u64.wrap (-IntKind.u64.wrap a) = (a.natAbs : Int) := by
 simp only [IntKind.wrap_u64]; omega
theorem fin_ok {a num den how v : Int} {S : Bool} {q r d Q : Nat}
 (h : Sc.sc a num den how = if 4611686018427387904 < Sc.quo how S q r d then (0, 9) else (Sc.sgn S (Sc.quo how S q r d), 0))
 (hQ : Sc.quo how S q r d = Q) (hl : (Q : Int) ≤ 4611686018427387904) (hv : v = Sc.sgn S Q) :
 Ending.returned (.tuple #[.int .i64 v, .int .i64 0]) = scRet (Sc.sc a num den how) := by
 rw [h, hQ, if_neg (by omega), hv]; rfl
theorem fin_big {a num den how : Int} {S : Bool} {q r d Q : Nat}
 (h : Sc.sc a num den how = if 4611686018427387904 < Sc.quo how S q r d then (0, 9) else (Sc.sgn S (Sc.quo how S q r d), 0))
 (hQ : Sc.quo how S q r d = Q) (hl : 4611686018427387904 < (Q : Int)) :
 Ending.returned (.tuple #[.int .i64 0, .int .i64 9]) = scRet (Sc.sc a num den how) := by
 rw [h, hQ, if_pos (by omega)]; rfl
theorem quo_rest0 (how : Int) (S : Bool) (q d : Nat) : Sc.quo how S q 0 d = q := by simp [Sc.quo]
theorem quo_stay {how : Int} {S : Bool} {q r d : Nat} (h : Sc.away how S q r d = false) : Sc.quo how S q r d = q := by simp [Sc.quo, h]
theorem quo_up {how : Int} {S : Bool} {q r d : Nat} (h0 : 0 < r) (h : Sc.away how S q r d = true) : Sc.quo how S q r d = q + 1 := by simp [Sc.quo, h, h0]
theorem scale_neg (a how : Int) (num den hi lo q r k A : Nat) (w : World) (hk : Hid (how = (k : Int) + 1)) (hk5 : k < 5) (hd : 1 ≤ den) (hD : (den : Int) ≤ 9223372036854775807) (hM : (num : Int) ≤ 9223372036854775807)
 (hs : a < 0) (_ha1 : -9223372036854775808 ≤ a) (hneg : IntKind.u64.wrap (-IntKind.u64.wrap a) = (A : Int))
 (hhi' : ((A * num / 18446744073709551616 : Nat) : Int) = hi) (hlo' : ((A * num % 18446744073709551616 : Nat) : Int) = lo) (hlt : (hi : Int) < den)
 (hq' : (((hi * 18446744073709551616 + lo) / den : Nat) : Int) = q) (hr' : (((hi * 18446744073709551616 + lo) % den : Nat) : Int) = r) (hr0 : (r : Int) < den) (_hlo2 : (lo : Int) ≤ 18446744073709551615) (hq2 : (q : Int) ≤ 18446744073709551615) (hA : (A : Int) ≤ 9223372036854775808)
 (hfin : Hid (Sc.sc a num den how = if 4611686018427387904 < Sc.quo how true q r den then (0, 9) else (Sc.sgn true (Sc.quo how true q r den), 0))) :
 Calls Tryz.prog 204 #[.int .i64 a, .int .i64 num, .int .i64 den, .int .i64 how] w fun e w' => e = scRet (Sc.sc a num den how) ∧ Below w.heap.size w w' := by
 have hw : wayAt how = (k : Int) := by have := hk.out; unfold wayAt; rw [if_pos (by omega)]; omega
 have hmf : ∀ (fn : Fn) (first cap : Array Value) (w : World), (Instr.makeFunc fn first cap).run Tryz.prog w = .ok (.func fn first cap) w := fun _ _ _ _ => rfl
 have b1 : decide ((den : Int) ≤ 0) = false := dFf (by omega); have b2 : decide ((den : Int) ≤ hi) = false := dFf (by omega); have hmul := qH (Go.Proofs.Tryz.bits_Mul64 A num); have hdiv := qH (div64_any hi lo den); obtain ⟨f, g0, g1, hcf, hf'⟩ := way_any k hk5; have hf := qH hf'; clear hf'; unfold fnv at g1; go_enter Tryz.func204, Tryz.ntmps204; go_wp2_with fail; refine (ways_any _).mono ?_; rintro e w1 ⟨rfl, rfl⟩; go_wp2_with fail; refine (index_any _ _ how _ (hasRow_new w _) (how_new w how _) (by simp) (by simp; omega)).mono ?_; rintro e w1 ⟨rfl, hb⟩; rw [hw]; have hrow := (hasRow_new w (.cells #[.int .i64 how] 3)).at hb (by simp); have hb' := (below_two w _ _).trans (hb.mono (by simp; omega)); have hk5i : (k : Int) < 5 := by omega
 have r0 := hrow (k * 2) (by omega); have r1 := hrow (k * 2 + 1) (by omega); rw [g0] at r0; rw [g1] at r1; clear hb hw hrow g0 g1; go_wp2_with fail; refine (hmul.out (by omega) (by omega) _).mono ?_; rintro e w2 ⟨rfl, rfl⟩; rw [hhi', hlo']; go_wp2_with fail; refine (hdiv.out _ (by omega) (by omega) (by omega)).mono ?_; rintro e w3 ⟨rfl, hn⟩; rw [hq', hr']; obtain ⟨r0', r1', hb2⟩ : w3.cell? ⟨w.heap.size + 1, k * 2, none⟩ = some (.int .i64 ((k : Int) + 1)) ∧ w3.cell? ⟨w.heap.size + 1, k * 2 + 1, none⟩ = some (.func (.func f) #[] #[]) ∧ Below w.heap.size w w3 := by
  obtain ⟨n, rfl⟩ := hn; exact ⟨r0, r1, below_drewN hb' n⟩
 have Hb2 := qH hb2; clear hn r0 r1 hb' hb2 hmul hdiv hq' hr' hhi' hlo' b2; by_cases hr1 : r = 0
 · subst hr1
   have hQ := qH (quo_rest0 how true q den); go_wp2_with fail
   go_quiet (fail)
   go_wp2
   all_goals go_ret2
   all_goals refine ⟨?_, below_drewN Hb2.out _⟩
   all_goals first | exact fin_ok hfin.out hQ.out (by assumption) (by simp [Sc.sgn]) | exact fin_big hfin.out hQ.out (by assumption)
 · have c1 : decide ((0 : Int) < (r : Int)) = true := dTt (by omega)
   have hr1' : 0 < r := by omega
   clear hr1; by_cases hq3 : q ≤ 4611686018427387904
   · have c2 : decide ((q : Int) ≤ 4611686018427387904) = true := dTt (by omega)
     have hq3i : (q : Int) ≤ 4611686018427387904 := by omega
     clear hq3
     cases haw : Sc.away how true q r den
     · have hwf : wayF ((k : Int) + 1) true q (cmpF r ((den : Int) - r)) = false := by rw [← hk.out, wayF_away, haw]
       have hQ := qH (quo_stay haw); clear haw; go_wp2_with fail; refine wp_region_quiet_lit (by kernel_rfl) (by kernel_rfl) ?_
       repeat (go_big_quiet_step (fail))
       go_big_quiet_want
       go_big_quiet_op
       go_big_quiet_call ((refine (compare_any _ _ _).mono ?_; exact fun _ _ h => ⟨h.1, _, h.2.symm⟩))
       go_big_quiet_want
       go_big_quiet_op
       go_big_quiet_call ((refine (hf.out _ _ _ _ (by omega)).mono ?_; exact fun _ _ h => ⟨h.1, _, h.2.symm⟩))
       repeat (go_big_quiet_step (fail))
       refine wpQuiet_nil ?_; intro w4 hw4; obtain ⟨nq, rfl⟩ := hw4; have c4 : decide (4611686018427387904 < (q : Int)) = false := dFf (by omega); clear hk5 hd hr1' hmf hcf hlt
       go_wp2
       go_ret2; refine ⟨?_, below_drewN Hb2.out _⟩; exact fin_ok hfin.out hQ.out (by omega) (by simp [Sc.sgn])
     · have hwf : wayF ((k : Int) + 1) true q (cmpF r ((den : Int) - r)) = true := by rw [← hk.out, wayF_away, haw]
       have hQ := qH (quo_up hr1' haw); clear haw; go_wp2_with fail; refine wp_region_quiet_lit (by kernel_rfl) (by kernel_rfl) ?_
       repeat (go_big_quiet_step (fail))
       go_big_quiet_want
       go_big_quiet_op
       go_big_quiet_call ((refine (compare_any _ _ _).mono ?_; exact fun _ _ h => ⟨h.1, _, h.2.symm⟩))
       go_big_quiet_want
       go_big_quiet_op
       go_big_quiet_call ((refine (hf.out _ _ _ _ (by omega)).mono ?_; exact fun _ _ h => ⟨h.1, _, h.2.symm⟩))
       repeat (go_big_quiet_step (fail))
       refine wpQuiet_nil ?_; intro w4 hw4; obtain ⟨nq, rfl⟩ := hw4; by_cases hq4 : (q : Int) = 4611686018427387904
       · have c4 : decide (4611686018427387904 < (q : Int) + 1) = true := dTt (by omega)
         have Hq4 := qH hq4; clear hk5 hd hr1' hmf hcf hlt hq4
         go_wp2
         go_ret2; refine ⟨?_, below_drewN Hb2.out _⟩; exact fin_big hfin.out hQ.out (by have := Hq4.out; omega)
       · have c4 : decide (4611686018427387904 < (q : Int) + 1) = false := dFf (by omega)
         have hq5 : (q : Int) ≤ 4611686018427387903 := by omega
         clear hk5 hd hr1' hmf hcf hlt hq4 hq3i
         go_wp2
         go_ret2; refine ⟨?_, below_drewN Hb2.out _⟩; exact fin_ok hfin.out hQ.out (by omega) (by simp [Sc.sgn]; try omega)
   · have c2 : decide ((q : Int) ≤ 4611686018427387904) = false := dFf (by omega)
     have hq3i : 4611686018427387904 < (q : Int) := by omega
     clear hq3; go_wp2_with fail
     go_quiet (fail)
     go_wp2
     go_ret2; refine ⟨?_, below_drewN Hb2.out _⟩
     cases haw : Sc.away how true q r den
     · exact fin_big hfin.out (quo_stay haw) hq3i
     · exact fin_big hfin.out (quo_up hr1' haw) (by omega)
theorem scale_pos (how : Int) (num den hi lo q r k A : Nat) (w : World) (hk : Hid (how = (k : Int) + 1)) (hk5 : k < 5) (hd : 1 ≤ den) (hD : (den : Int) ≤ 9223372036854775807) (hM : (num : Int) ≤ 9223372036854775807)
 (hhi' : ((A * num / 18446744073709551616 : Nat) : Int) = hi) (hlo' : ((A * num % 18446744073709551616 : Nat) : Int) = lo) (hlt : (hi : Int) < den)
 (hq' : (((hi * 18446744073709551616 + lo) / den : Nat) : Int) = q) (hr' : (((hi * 18446744073709551616 + lo) % den : Nat) : Int) = r) (hr0 : (r : Int) < den) (_hlo2 : (lo : Int) ≤ 18446744073709551615) (hq2 : (q : Int) ≤ 18446744073709551615) (hA : (A : Int) ≤ 9223372036854775807)
 (hfin : Hid (Sc.sc A num den how = if 4611686018427387904 < Sc.quo how false q r den then (0, 9) else (Sc.sgn false (Sc.quo how false q r den), 0))) :
 Calls Tryz.prog 204 #[.int .i64 A, .int .i64 num, .int .i64 den, .int .i64 how] w fun e w' => e = scRet (Sc.sc A num den how) ∧ Below w.heap.size w w' := by
 have hw : wayAt how = (k : Int) := by have := hk.out; unfold wayAt; rw [if_pos (by omega)]; omega
 have hmf : ∀ (fn : Fn) (first cap : Array Value) (w : World), (Instr.makeFunc fn first cap).run Tryz.prog w = .ok (.func fn first cap) w := fun _ _ _ _ => rfl
 have b5 : decide ((A : Int) < 0) = false := dFf (by omega); have b1 : decide ((den : Int) ≤ 0) = false := dFf (by omega); have b2 : decide ((den : Int) ≤ hi) = false := dFf (by omega); have hmul := qH (Go.Proofs.Tryz.bits_Mul64 A num); have hdiv := qH (div64_any hi lo den); obtain ⟨f, g0, g1, hcf, hf'⟩ := way_any k hk5; have hf := qH hf'; clear hf'; unfold fnv at g1; go_enter Tryz.func204, Tryz.ntmps204; go_wp2_with fail; refine (ways_any _).mono ?_; rintro e w1 ⟨rfl, rfl⟩; go_wp2_with fail; refine (index_any _ _ how _ (hasRow_new w _) (how_new w how _) (by simp) (by simp; omega)).mono ?_; rintro e w1 ⟨rfl, hb⟩; rw [hw]; have hrow := (hasRow_new w (.cells #[.int .i64 how] 3)).at hb (by simp); have hb' := (below_two w _ _).trans (hb.mono (by simp; omega)); have hk5i : (k : Int) < 5 := by omega
 have r0 := hrow (k * 2) (by omega); have r1 := hrow (k * 2 + 1) (by omega); rw [g0] at r0; rw [g1] at r1; clear hb hw hrow g0 g1; go_wp2_with fail; refine (hmul.out (by omega) (by omega) _).mono ?_; rintro e w2 ⟨rfl, rfl⟩; rw [hhi', hlo']; go_wp2_with fail; refine (hdiv.out _ (by omega) (by omega) (by omega)).mono ?_; rintro e w3 ⟨rfl, hn⟩; rw [hq', hr']; obtain ⟨r0', r1', hb2⟩ : w3.cell? ⟨w.heap.size + 1, k * 2, none⟩ = some (.int .i64 ((k : Int) + 1)) ∧ w3.cell? ⟨w.heap.size + 1, k * 2 + 1, none⟩ = some (.func (.func f) #[] #[]) ∧ Below w.heap.size w w3 := by
  obtain ⟨n, rfl⟩ := hn; exact ⟨r0, r1, below_drewN hb' n⟩
 have Hb2 := qH hb2; clear hn r0 r1 hb' hb2 hmul hdiv hq' hr' hhi' hlo' b2; by_cases hr1 : r = 0
 · subst hr1
   have hQ := qH (quo_rest0 how false q den); go_wp2_with fail
   go_quiet (fail)
   go_wp2
   all_goals go_ret2
   all_goals refine ⟨?_, below_drewN Hb2.out _⟩
   all_goals first | exact fin_ok hfin.out hQ.out (by assumption) (by simp [Sc.sgn]) | exact fin_big hfin.out hQ.out (by assumption)
 · have c1 : decide ((0 : Int) < (r : Int)) = true := dTt (by omega)
   have hr1' : 0 < r := by omega
   clear hr1; by_cases hq3 : q ≤ 4611686018427387904
   · have c2 : decide ((q : Int) ≤ 4611686018427387904) = true := dTt (by omega)
     have hq3i : (q : Int) ≤ 4611686018427387904 := by omega
     clear hq3
     cases haw : Sc.away how false q r den
     · have hwf : wayF ((k : Int) + 1) false q (cmpF r ((den : Int) - r)) = false := by rw [← hk.out, wayF_away, haw]
       have hQ := qH (quo_stay haw); clear haw; go_wp2_with fail; refine wp_region_quiet_lit (by kernel_rfl) (by kernel_rfl) ?_
       repeat (go_big_quiet_step (fail))
       go_big_quiet_want
       go_big_quiet_op
       go_big_quiet_call ((refine (compare_any _ _ _).mono ?_; exact fun _ _ h => ⟨h.1, _, h.2.symm⟩))
       go_big_quiet_want
       go_big_quiet_op
       go_big_quiet_call ((refine (hf.out _ _ _ _ (by omega)).mono ?_; exact fun _ _ h => ⟨h.1, _, h.2.symm⟩))
       repeat (go_big_quiet_step (fail))
       refine wpQuiet_nil ?_; intro w4 hw4; obtain ⟨nq, rfl⟩ := hw4; have c4 : decide (4611686018427387904 < (q : Int)) = false := dFf (by omega); clear hk5 hd hr1' hmf hcf hlt
       go_wp2
       go_ret2; refine ⟨?_, below_drewN Hb2.out _⟩; exact fin_ok hfin.out hQ.out (by omega) (by simp [Sc.sgn])
     · have hwf : wayF ((k : Int) + 1) false q (cmpF r ((den : Int) - r)) = true := by rw [← hk.out, wayF_away, haw]
       have hQ := qH (quo_up hr1' haw); clear haw; go_wp2_with fail; refine wp_region_quiet_lit (by kernel_rfl) (by kernel_rfl) ?_
       repeat (go_big_quiet_step (fail))
       go_big_quiet_want
       go_big_quiet_op
       go_big_quiet_call ((refine (compare_any _ _ _).mono ?_; exact fun _ _ h => ⟨h.1, _, h.2.symm⟩))
       go_big_quiet_want
       go_big_quiet_op
       go_big_quiet_call ((refine (hf.out _ _ _ _ (by omega)).mono ?_; exact fun _ _ h => ⟨h.1, _, h.2.symm⟩))
       repeat (go_big_quiet_step (fail))
       refine wpQuiet_nil ?_; intro w4 hw4; obtain ⟨nq, rfl⟩ := hw4; by_cases hq4 : (q : Int) = 4611686018427387904
       · have c4 : decide (4611686018427387904 < (q : Int) + 1) = true := dTt (by omega)
         have Hq4 := qH hq4; clear hk5 hd hr1' hmf hcf hlt hq4
         go_wp2
         go_ret2; refine ⟨?_, below_drewN Hb2.out _⟩; exact fin_big hfin.out hQ.out (by have := Hq4.out; omega)
       · have c4 : decide (4611686018427387904 < (q : Int) + 1) = false := dFf (by omega)
         have hq5 : (q : Int) ≤ 4611686018427387903 := by omega
         clear hk5 hd hr1' hmf hcf hlt hq4 hq3i
         go_wp2
         go_ret2; refine ⟨?_, below_drewN Hb2.out _⟩; exact fin_ok hfin.out hQ.out (by omega) (by simp [Sc.sgn]; try omega)
   · have c2 : decide ((q : Int) ≤ 4611686018427387904) = false := dFf (by omega)
     have hq3i : 4611686018427387904 < (q : Int) := by omega
     clear hq3; go_wp2_with fail
     go_quiet (fail)
     go_wp2
     go_ret2; refine ⟨?_, below_drewN Hb2.out _⟩
     cases haw : Sc.away how false q r den
     · exact fin_big hfin.out (quo_stay haw) hq3i
     · exact fin_big hfin.out (quo_up hr1' haw) (by omega)
theorem word_split (n : Nat) : n / 18446744073709551616 * 18446744073709551616 + n % 18446744073709551616 = n := by omega
theorem scale_high_neg (a how : Int) (num den hi k A : Nat) (w : World) (hk : Hid (how = (k : Int) + 1)) (hk5 : k < 5) (hd : 1 ≤ den) (hD : (den : Int) ≤ 9223372036854775807) (hM : (num : Int) ≤ 9223372036854775807)
 (hs : a < 0) (hneg : IntKind.u64.wrap (-IntKind.u64.wrap a) = (A : Int)) (hA : (A : Int) ≤ 9223372036854775808)
 (hhi' : ((A * num / 18446744073709551616 : Nat) : Int) = hi) (hle : (den : Int) ≤ hi) :
 Calls Tryz.prog 204 #[.int .i64 a, .int .i64 num, .int .i64 den, .int .i64 how] w fun e w' => e = scRet (0, 9) ∧ Below w.heap.size w w' := by
 have hw : wayAt how = (k : Int) := by have := hk.out; unfold wayAt; rw [if_pos (by omega)]; omega
 have hmf : ∀ (fn : Fn) (first cap : Array Value) (w : World), (Instr.makeFunc fn first cap).run Tryz.prog w = .ok (.func fn first cap) w := fun _ _ _ _ => rfl
 have b1 : decide ((den : Int) ≤ 0) = false := dFf (by omega); have b2 : decide ((den : Int) ≤ hi) = true := dTt (by omega); have hmul := qH (Go.Proofs.Tryz.bits_Mul64 A num); go_enter Tryz.func204, Tryz.ntmps204; go_wp2_with fail; refine (ways_any _).mono ?_; rintro e w1 ⟨rfl, rfl⟩; go_wp2_with fail; refine (index_any _ _ how _ (hasRow_new w _) (how_new w how _) (by simp) (by simp; omega)).mono ?_; rintro e w1 ⟨rfl, hb⟩; rw [hw]; have hb' := (below_two w _ _).trans (hb.mono (by simp; omega)); have hk5i : (k : Int) < 5 := by omega
 clear hb hw; go_wp2_with fail; refine (hmul.out (by omega) (by omega) _).mono ?_; rintro e w2 ⟨rfl, rfl⟩; rw [hhi']
 go_wp2
 go_ret2; exact ⟨rfl, hb'⟩
theorem scale_high_pos (how : Int) (num den hi k A : Nat) (w : World) (hk : Hid (how = (k : Int) + 1)) (hk5 : k < 5) (hd : 1 ≤ den) (hD : (den : Int) ≤ 9223372036854775807) (hM : (num : Int) ≤ 9223372036854775807)
 (hA : (A : Int) ≤ 9223372036854775807)
 (hhi' : ((A * num / 18446744073709551616 : Nat) : Int) = hi) (hle : (den : Int) ≤ hi) :
 Calls Tryz.prog 204 #[.int .i64 A, .int .i64 num, .int .i64 den, .int .i64 how] w fun e w' => e = scRet (0, 9) ∧ Below w.heap.size w w' := by
 have hw : wayAt how = (k : Int) := by have := hk.out; unfold wayAt; rw [if_pos (by omega)]; omega
 have hmf : ∀ (fn : Fn) (first cap : Array Value) (w : World), (Instr.makeFunc fn first cap).run Tryz.prog w = .ok (.func fn first cap) w := fun _ _ _ _ => rfl
 have b5 : decide ((A : Int) < 0) = false := dFf (by omega); have b1 : decide ((den : Int) ≤ 0) = false := dFf (by omega); have b2 : decide ((den : Int) ≤ hi) = true := dTt (by omega); have hmul := qH (Go.Proofs.Tryz.bits_Mul64 A num); go_enter Tryz.func204, Tryz.ntmps204; go_wp2_with fail; refine (ways_any _).mono ?_; rintro e w1 ⟨rfl, rfl⟩; go_wp2_with fail; refine (index_any _ _ how _ (hasRow_new w _) (how_new w how _) (by simp) (by simp; omega)).mono ?_; rintro e w1 ⟨rfl, hb⟩; rw [hw]; have hb' := (below_two w _ _).trans (hb.mono (by simp; omega)); have hk5i : (k : Int) < 5 := by omega
 clear hb hw; go_wp2_with fail; refine (hmul.out (by omega) (by omega) _).mono ?_; rintro e w2 ⟨rfl, rfl⟩; rw [hhi']
 go_wp2
 go_ret2; exact ⟨rfl, hb'⟩
theorem scale_any (a num den how : Int) (w : World) (ha1 : -9223372036854775808 ≤ a) (ha2 : a ≤ 9223372036854775807) (hn : num ≤ 9223372036854775807) (hd : den ≤ 9223372036854775807) :
 Calls Tryz.prog 204 #[.int .i64 a, .int .i64 num, .int .i64 den, .int .i64 how] w fun e w' => e = scRet (Sc.sc a num den how) ∧ Below w.heap.size w w' := by
 by_cases h1 : how < 1 ∨ 5 < how
 · rw [Sc.sc_kind _ _ _ _ h1]; exact scale_kind a num den how w h1
 by_cases h2 : den ≤ 0 ∨ num < 0
 · rw [Sc.sc_arg _ _ _ _ (by omega) (by omega) h2]; exact scale_arg a num den how w (by omega) (by omega) h2
 obtain ⟨num, rfl⟩ := Int.eq_ofNat_of_zero_le (show 0 ≤ num by omega); obtain ⟨den, rfl⟩ := Int.eq_ofNat_of_zero_le (show 0 ≤ den by omega); obtain ⟨k, hk⟩ : ∃ k : Nat, how = (k : Int) + 1 := ⟨(how - 1).toNat, by omega⟩; have hk5 : k < 5 := by omega
 obtain ⟨N, hN⟩ : ∃ N, N = a.natAbs * num := ⟨_, rfl⟩; have hN2 : N ≤ 9223372036854775808 * 9223372036854775807 := by rw [hN]; exact Nat.mul_le_mul (by omega) (by omega)
 by_cases h3 : den ≤ a.natAbs * num / 18446744073709551616
 · rw [Sc.sc_high a how num den (by omega) (by omega) (by omega) h3]
   by_cases h4 : a < 0
   · exact scale_high_neg a how num den _ k a.natAbs w (qH hk) hk5 (by omega) hd hn h4 (neg_wrap h4 ha1) (by omega) rfl (by omega)
   · obtain ⟨A, rfl⟩ := Int.eq_ofNat_of_zero_le (show 0 ≤ a by omega)
     rw [Int.natAbs_natCast] at h3; exact scale_high_pos how num den _ k A w (qH hk) hk5 (by omega) hd hn ha2 rfl (by omega)
 · have hfin := Sc.sc_of a how num den (by omega) (by omega) (by omega) (by omega)
   rw [← hN] at hfin h3; have hr := Nat.mod_lt N (show 0 < den by omega); have hq : N / den < 18446744073709551616 := by
    rw [Nat.div_lt_iff_lt_mul (by omega)]; omega
   have hlo := Nat.mod_lt N (show 0 < 18446744073709551616 by omega); by_cases h4 : a < 0
   · rw [show decide (a < 0) = true by simpa using h4] at hfin
     refine scale_neg a how num den (N / 18446744073709551616) (N % 18446744073709551616) (N / den) (N % den) k a.natAbs w (qH hk) hk5 (by omega) hd hn h4 ha1 (neg_wrap h4 ha1) (by rw [← hN]) (by rw [← hN]) (by omega) (by rw [word_split]) (by rw [word_split]) (by omega) (by omega) (by omega) (by omega) (qH hfin)
   · obtain ⟨A, rfl⟩ := Int.eq_ofNat_of_zero_le (show 0 ≤ a by omega)
     rw [show decide ((A : Int) < 0) = false by rw [decide_eq_false_iff_not]; exact h4] at hfin; rw [Int.natAbs_natCast] at hN; refine scale_pos how num den (N / 18446744073709551616) (N % 18446744073709551616) (N / den) (N % den) k A w (qH hk) hk5 (by omega) hd hn (by rw [← hN]) (by rw [← hN]) (by omega) (by rw [word_split]) (by rw [word_split]) (by omega) (by omega) (by omega) (by omega) (qH hfin)
theorem moreF_away {how : Int} (h1 : 1 ≤ how) (h5 : how ≤ 5) (b : Bool) (q r d : Nat) : moreF q r d b how = decide (0 < r ∧ Sc.away how b q r d = true) := by
 have e3 : ((q : Int) % 2 = 1) ↔ q % 2 = 1 := by omega
 have e5 : ((q : Int) % 2 == 1) = decide (q % 2 = 1) := by rw [Bool.eq_iff_iff, beq_iff_eq, decide_eq_true_eq]; exact e3
 unfold moreF; by_cases h0 : r = 0
 · subst h0; simp
 rw [if_neg (by omega)]; have hr : 0 < r := by omega
 unfold Sc.away; by_cases a1 : how = 1
 · subst a1; cases b <;> simp [hr]
 by_cases a2 : how = 2
 · subst a2; cases b <;> simp [hr]
 by_cases a3 : how = 3
 · subst a3; simp
 simp only [a1, a2, a3, if_false]; by_cases h6 : (r : Int) = d - r
 · rw [if_neg (by omega)]
   have h7 : 2 * r = d := by omega
   simp only [h7, hr, true_and, decide_true, Bool.true_and, e5]; by_cases a4 : how = 4
   · subst a4; cases b <;> simp
   · simp [a4]
 · rw [if_pos h6]
   have h7 : ¬ 2 * r = d := by omega
   simp only [h7, hr, true_and, decide_false, Bool.false_and, Bool.or_false]; have h8 : ((d : Int) - r < r) ↔ d < 2 * r := by omega
   by_cases a4 : how = 4
   · subst a4; simp [h8]
   · simp [a4, h8]
theorem rscale_kind (a num den how : Int) (w : World) (h : how < 1 ∨ 5 < how) :
 Calls Tryz.prog 122 #[.int .i64 a, .int .i64 num, .int .i64 den, .int .i64 how] w fun e w' => e = scRet (0, 7) ∧ Below w.heap.size w w' := by
 have ho : (decide (how < 1) || decide (5 < how)) = true := by simpa using h
 have hout := qH (outside_any how 1 5); clear h; go_enter Tryz.func122, Tryz.ntmps122; go_wp2_with fail; refine (hout.out w).mono ?_; rintro e w1 ⟨rfl, rfl⟩; rw [ho]
 go_wp2
 go_ret2; exact ⟨rfl, Below.refl _ _⟩
theorem rscale_arg (a num den how : Int) (w : World) (h1 : 1 ≤ how) (h5 : how ≤ 5) (h : den ≤ 0 ∨ num < 0) :
 Calls Tryz.prog 122 #[.int .i64 a, .int .i64 num, .int .i64 den, .int .i64 how] w fun e w' => e = scRet (0, 1) ∧ Below w.heap.size w w' := by
 have ho : (decide (how < 1) || decide (5 < how)) = false := by simp; omega
 have hout := qH (outside_any how 1 5); by_cases hd : den ≤ 0
 · have hd2 : decide (den < 1) = true := dTt (by omega)
   clear h; go_enter Tryz.func122, Tryz.ntmps122; go_wp2_with fail; refine (hout.out w).mono ?_; rintro e w1 ⟨rfl, rfl⟩; rw [ho]
   go_wp2
   go_ret2; exact ⟨rfl, Below.refl _ _⟩
 · have hd2 : decide (den < 1) = false := dFf (by omega)
   have hn2 : decide (num < 0) = true := dTt (by omega); clear h hd; go_enter Tryz.func122, Tryz.ntmps122; go_wp2_with fail; refine (hout.out w).mono ?_; rintro e w1 ⟨rfl, rfl⟩; rw [ho]
   go_wp2
   go_ret2; exact ⟨rfl, Below.refl _ _⟩
theorem rscale_high (a how : Int) (num den hi A : Nat) (w : World) (h1 : 1 ≤ how) (h5 : how ≤ 5) (hd : 1 ≤ den) (hD : (den : Int) ≤ 9223372036854775807) (hM : (num : Int) ≤ 9223372036854775807)
 (ha1 : -9223372036854775808 ≤ a) (ha2 : a ≤ 9223372036854775807) (hA : (A : Int) ≤ 9223372036854775808) (hAa : Hid (A = a.natAbs))
 (hhi' : ((A * num / 18446744073709551616 : Nat) : Int) = hi) (hle : (den : Int) ≤ hi) :
 Calls Tryz.prog 122 #[.int .i64 a, .int .i64 num, .int .i64 den, .int .i64 how] w fun e w' => e = scRet (0, 9) ∧ Below w.heap.size w w' := by
 have ho : (decide (how < 1) || decide (5 < how)) = false := by simp; omega
 have hout := qH (outside_any how 1 5); have hsz := qH (size_any a); have hmul := qH (Go.Proofs.Tryz.bits_Mul64 A num); have b1 : decide ((den : Int) < 1) = false := dFf (by omega); have b2 : decide ((den : Int) ≤ hi) = true := dTt (by omega); go_enter Tryz.func122, Tryz.ntmps122; go_wp2_with fail; refine (hout.out w).mono ?_; rintro e w1 ⟨rfl, rfl⟩; rw [ho]; go_wp2_with fail; refine (hsz.out _ ha1 ha2).mono ?_; rintro e w1 ⟨rfl, rfl⟩; rw [← hAa.out]; go_wp2_with fail; refine (hmul.out (by omega) (by omega) _).mono ?_; rintro e w2 ⟨rfl, rfl⟩; rw [hhi']
 go_wp2
 go_ret2; exact ⟨rfl, Below.refl _ _⟩
theorem rscale_of (a how : Int) (num den hi lo q r A : Nat) (S : Bool) (w : World) (h1 : 1 ≤ how) (h5 : how ≤ 5) (hd : 1 ≤ den) (hD : (den : Int) ≤ 9223372036854775807) (hM : (num : Int) ≤ 9223372036854775807)
 (ha1 : -9223372036854775808 ≤ a) (ha2 : a ≤ 9223372036854775807) (hA : (A : Int) ≤ 9223372036854775808) (hAa : Hid (A = a.natAbs)) (hS : decide (a < 0) = S)
 (hhi' : ((A * num / 18446744073709551616 : Nat) : Int) = hi) (hlo' : ((A * num % 18446744073709551616 : Nat) : Int) = lo) (hlt : (hi : Int) < den)
 (hq' : (((hi * 18446744073709551616 + lo) / den : Nat) : Int) = q) (hr' : (((hi * 18446744073709551616 + lo) % den : Nat) : Int) = r) (hr0 : (r : Int) < den) (_hlo2 : (lo : Int) ≤ 18446744073709551615) (hq2 : (q : Int) ≤ 18446744073709551615)
 (hfin : Hid (Sc.sc a num den how = if 4611686018427387904 < Sc.quo how S q r den then (0, 9) else (Sc.sgn S (Sc.quo how S q r den), 0))) :
 Calls Tryz.prog 122 #[.int .i64 a, .int .i64 num, .int .i64 den, .int .i64 how] w fun e w' => e = scRet (Sc.sc a num den how) ∧ Below w.heap.size w w' := by
 have ho : (decide (how < 1) || decide (5 < how)) = false := by simp; omega
 have hout := qH (outside_any how 1 5); have hsz := qH (size_any a); have hmul := qH (Go.Proofs.Tryz.bits_Mul64 A num); have hdiv := qH (div64_any hi lo den); have b1 : decide ((den : Int) < 1) = false := dFf (by omega); have b2 : decide ((den : Int) ≤ hi) = false := dFf (by omega); have hmore := qH (more_any q r den S how); have hma := qH (moreF_away h1 h5 S q r den); go_enter Tryz.func122, Tryz.ntmps122; go_wp2_with fail; refine (hout.out w).mono ?_; rintro e w1 ⟨rfl, rfl⟩; rw [ho]; go_wp2_with fail; refine (hsz.out _ ha1 ha2).mono ?_; rintro e w1 ⟨rfl, rfl⟩; rw [← hAa.out]; go_wp2_with fail; refine (hmul.out (by omega) (by omega) _).mono ?_; rintro e w2 ⟨rfl, rfl⟩; rw [hhi', hlo']; go_wp2_with fail; refine (hdiv.out _ (by omega) (by omega) (by omega)).mono ?_; rintro e w3 ⟨rfl, nd, rfl⟩; rw [hq', hr']; clear hhi' hlo' hq' hr' b1 b2; go_wp2_with fail; refine (hmore.out _ (by omega) (by omega) (by omega) (by omega)).mono ?_; rintro e w4 ⟨rfl, rfl⟩; rw [hma.out]
 cases haw : decide (0 < r ∧ Sc.away how S q r den = true)
 · have hQ : Sc.quo how S q r den = q := by
    unfold Sc.quo; rw [if_neg (by simpa using haw)]
   have HQ := qH hQ; clear haw hQ hma hmore; by_cases h9 : (q : Int) ≤ 4611686018427387904
   · have c4 : decide (4611686018427387904 < (q : Int)) = false := dFf (by omega)
     cases S
     · go_wp2
       go_ret2; exact ⟨fin_ok hfin.out HQ.out h9 (by simp [Sc.sgn]), below_drewN (Below.refl _ _) _⟩
     · go_wp2
       go_ret2; exact ⟨fin_ok hfin.out HQ.out h9 (by simp [Sc.sgn]), below_drewN (Below.refl _ _) _⟩
   · have c4 : decide (4611686018427387904 < (q : Int)) = true := dTt (by omega)
     have h9' := qH h9; clear h9
     go_wp2
     go_ret2; exact ⟨fin_big hfin.out HQ.out (by have := h9'.out; omega), below_drewN (Below.refl _ _) _⟩
 · have hQ : Sc.quo how S q r den = q + 1 := by
    unfold Sc.quo; rw [if_pos (by simpa using haw)]
   have HQ := qH hQ; clear haw hQ hma hmore; by_cases h8 : (q : Int) = 18446744073709551615
   · have c5 : IntKind.u64.wrap ((q : Int) + 1) = 0 := by rw [IntKind.wrap_u64]; omega
     have H8 := qH h8; clear h8
     go_wp2
     go_ret2; exact ⟨fin_big hfin.out HQ.out (by have := H8.out; omega), below_drewN (Below.refl _ _) _⟩
   · have c5 : IntKind.u64.wrap ((q : Int) + 1) = (q : Int) + 1 := by rw [IntKind.wrap_u64]; omega
     have c6 : ((q : Int) + 1 == 0) = false := bFf (by omega); have H8 := qH h8; clear h8; by_cases h9 : (q : Int) + 1 ≤ 4611686018427387904
     · have c4 : decide (4611686018427387904 < (q : Int) + 1) = false := dFf (by omega)
       cases S
       · go_wp2
         go_ret2; exact ⟨fin_ok hfin.out HQ.out (by omega) (by simp [Sc.sgn]), below_drewN (Below.refl _ _) _⟩
       · go_wp2
         go_ret2; exact ⟨fin_ok hfin.out HQ.out (by omega) (by simp [Sc.sgn]), below_drewN (Below.refl _ _) _⟩
     · have c4 : decide (4611686018427387904 < (q : Int) + 1) = true := dTt (by omega)
       have h9' := qH h9; clear h9
       go_wp2
       go_ret2; exact ⟨fin_big hfin.out HQ.out (by have := h9'.out; omega), below_drewN (Below.refl _ _) _⟩
theorem rscale_any (a num den how : Int) (w : World) (ha1 : -9223372036854775808 ≤ a) (ha2 : a ≤ 9223372036854775807) (hn : num ≤ 9223372036854775807) (hd : den ≤ 9223372036854775807) :
 Calls Tryz.prog 122 #[.int .i64 a, .int .i64 num, .int .i64 den, .int .i64 how] w fun e w' => e = scRet (Sc.sc a num den how) ∧ Below w.heap.size w w' := by
 by_cases h1 : how < 1 ∨ 5 < how
 · rw [Sc.sc_kind _ _ _ _ h1]; exact rscale_kind a num den how w h1
 by_cases h2 : den ≤ 0 ∨ num < 0
 · rw [Sc.sc_arg _ _ _ _ (by omega) (by omega) h2]; exact rscale_arg a num den how w (by omega) (by omega) h2
 obtain ⟨num, rfl⟩ := Int.eq_ofNat_of_zero_le (show 0 ≤ num by omega); obtain ⟨den, rfl⟩ := Int.eq_ofNat_of_zero_le (show 0 ≤ den by omega); obtain ⟨N, hN⟩ : ∃ N, N = a.natAbs * num := ⟨_, rfl⟩; have hN2 : N ≤ 9223372036854775808 * 9223372036854775807 := by rw [hN]; exact Nat.mul_le_mul (by omega) (by omega)
 by_cases h3 : den ≤ a.natAbs * num / 18446744073709551616
 · rw [Sc.sc_high a how num den (by omega) (by omega) (by omega) h3]
   exact rscale_high a how num den _ a.natAbs w (by omega) (by omega) (by omega) hd hn ha1 ha2 (by omega) (qH rfl) rfl (by omega)
 · have hfin := Sc.sc_of a how num den (by omega) (by omega) (by omega) (by omega)
   rw [← hN] at hfin h3; have hr := Nat.mod_lt N (show 0 < den by omega); have hq : N / den < 18446744073709551616 := by
    rw [Nat.div_lt_iff_lt_mul (by omega)]; omega
   have hlo := Nat.mod_lt N (show 0 < 18446744073709551616 by omega); exact rscale_of a how num den (N / 18446744073709551616) (N % 18446744073709551616) (N / den) (N % den) a.natAbs _ w (by omega) (by omega) (by omega) hd hn ha1 ha2 (by omega) (qH rfl) rfl
    (by rw [← hN]) (by rw [← hN]) (by omega) (by rw [word_split]) (by rw [word_split]) (by omega) (by omega) (by omega) (qH hfin)
theorem cmpI_lt (x y : Int) : decide (Lib.compareInt x y < 0) = decide (x < y) := by
 unfold Lib.compareInt; by_cases h : x < y
 · rw [if_pos h, decide_eq_true h]; rfl
 · rw [if_neg h, decide_eq_false h]
   split <;> rfl
theorem cmpI_eq (x y : Int) : (Lib.compareInt x y == 0) = decide (x = y) := by
 unfold Lib.compareInt; by_cases h : x < y
 · rw [if_pos h, decide_eq_false (by omega)]; rfl
 · rw [if_neg h]
   by_cases h2 : x > y
   · rw [if_pos h2, decide_eq_false (by omega)]; rfl
   · rw [if_neg h2, decide_eq_true (by omega)]; rfl
theorem whereCmp_any (s : Sm) (n : Int) (w : World) : Calls Tryz.prog 232 #[smV s, .int .i64 n] w fun e w' => e = .returned (.int .i64 (Lib.compareInt s.tm n)) ∧ Below w.heap.size w w' := by
 have D := qH (fun W => Tryz.cmp_Compare_int s.tm n W); unfold smV; generalize Lib.compareInt s.tm n = r at *; go_enter Tryz.func232, Tryz.ntmps232; go_wp2_with fail; refine (D.out _).mono ?_; rintro e w1 ⟨rfl, hw⟩; have HB := qH (show Below w.heap.size w w1 from hw ▸ below_al w _); clear hw; go_wp2_with fail; go_ret; exact ⟨rfl, HB.out⟩
def foundS (l : List Sm) (n : Int) : Bool := match l[lbS l n]? with
 | some s => decide (s.tm = n)
 | none => false
theorem searchS_any (a : Option Addr) (l : List Sm) (c : Nat) (x start : Int) (w : World) (hr : Rw smC 7 w a l) (ho : SmOk start l) (hl : l.length ≤ 20000) :
 Calls Tryz.prog 231 #[.slice a l.length c, .int .i64 x, .func (.func 232) #[] #[]] w fun e w' => e = .returned (.tuple #[.int .i64 (lbS l x), .bool (foundS l x)]) ∧ Below w.heap.size w w' := by
 have HR := qH hr; have HO := qH ho; have DZ := qH (fun (s : Sm) (W : World) => whereCmp_any s x W); have crun : ∀ (args : Array Value) (W : World), Sem.run Tryz.prog (callFunc 232 args) W = .ok (.enter 232 args) W := fun _ _ => by kernel_rfl
 obtain ⟨n, hn⟩ : ∃ n, l.length = n := ⟨_, rfl⟩; have HN := qH hn; rw [hn] at hl ⊢; clear hr ho hn; unfold smV at DZ; go_enter Tryz.func231, Tryz.ntmps231; go_wp2_with fail
 go_loopw [9, 10] (fun iv jv wr => ∃ (i j : Nat), iv = .int .i64 i ∧ jv = .int .i64 j ∧ i ≤ j ∧ j ≤ n ∧ Hid ((∀ s : Sm, 0 < i → l[i - 1]? = some s → s.tm < x) ∧ (∀ s : Sm, l[j]? = some s → x ≤ s.tm)) ∧ ∃ X : Ext w, wr = X.1) (fun iv jv _ => (intOf jv).toNat - (intOf iv).toNat)
 case atStart => exact ⟨0, n, rfl, rfl, by omega, by omega, qH ⟨fun s h => by omega, fun s h => by rw [List.getElem?_eq_none (by rw [HN.out]; exact Nat.le_refl _)] at h; cases h⟩, ⟨w, Below.refl _ _⟩, rfl⟩
 case round =>
  obtain ⟨i, j, rfl, rfl, hij, hj, HE, X, rfl⟩ := hrel; by_cases hlt : i < j
  · have t1 : decide ((i : Int) < (j : Int)) = true := dTt (by omega)
    have t1' : decide (i < j) = true := by simpa using hlt
    obtain ⟨k, hk⟩ : ∃ k : Nat, (i + j) / 2 = k := ⟨_, rfl⟩; have ek : ((i : Int) + (j : Int)) / 2 = (k : Int) := by omega
    have hki : i ≤ k := by omega
    have hkj : k < j := by omega
    have hkn : k < n := by omega
    have hb1 : (i : Int) ≤ 20000 := by omega
    have hb2 : (j : Int) ≤ 20000 := by omega
    have hb3 : (k : Int) ≤ 20000 := by omega
    obtain ⟨s, hx⟩ : ∃ s, l[k]? = some s := ⟨_, List.getElem?_eq_getElem (by rw [HN.out]; exact hkn)⟩; have HX := qH (HR.out.below X.2); obtain ⟨ba, oa, rfl, hba, hc⟩ := HX.out.at hx; have c0 : X.1.cell? ⟨ba, oa + k * 7, none⟩ = some (.int .i64 s.tm) := hc 0 _ rfl; have c1 := hc 1 _ rfl; have c2 := hc 2 _ rfl; have c3 := hc 3 _ rfl; have c4 := hc 4 _ rfl; have c5 := hc 5 _ rfl; have c6 := hc 6 _ rfl; have D := qH (DZ.out s); have t3 := cmpI_lt s.tm x; have HHX := qH hx; generalize Lib.compareInt s.tm x = cv at D t3; clear hk hc hx; by_cases hs : s.tm < x
    · rw [decide_eq_true hs] at t3
      have HH := qH (show (∀ z : Sm, 0 < k + 1 → l[k + 1 - 1]? = some z → z.tm < x) ∧ (∀ z : Sm, l[j]? = some z → x ≤ z.tm) from ⟨fun z _ hz => by
       rw [Nat.add_sub_cancel, HHX.out] at hz; injection hz with hz; subst hz; exact hs, HE.out.2⟩)
      clear hs HE; go_wp2_with fail; refine (D.out _).mono ?_; rintro e w1 ⟨rfl, hb⟩; obtain ⟨Z, rfl⟩ : ∃ Z : Ext w, w1 = Z.1 := ⟨⟨w1, bStp X.2 hb⟩, rfl⟩; clear hb; go_wp2_with fail
      go_roundw
      case rel => exact ⟨k + 1, j, by go_num, rfl, by omega, hj, HH, Z, rfl⟩
      case measure => simp [intOf]; omega
    · rw [decide_eq_false hs] at t3
      have HH := qH (show (∀ z : Sm, 0 < i → l[i - 1]? = some z → z.tm < x) ∧ (∀ z : Sm, l[k]? = some z → x ≤ z.tm) from ⟨HE.out.1, fun z hz => by
       rw [HHX.out] at hz; injection hz with hz; subst hz; omega⟩)
      clear hs HE; go_wp2_with fail; refine (D.out _).mono ?_; rintro e w1 ⟨rfl, hb⟩; obtain ⟨Z, rfl⟩ : ∃ Z : Ext w, w1 = Z.1 := ⟨⟨w1, bStp X.2 hb⟩, rfl⟩; clear hb; go_wp2_with fail
      go_roundw
      case rel => exact ⟨i, k, rfl, rfl, hki, by omega, HH, Z, rfl⟩
      case measure => simp [intOf]; omega
  · have t1 : decide ((i : Int) < (j : Int)) = false := dFf (by omega)
    have t1' : decide (i < j) = false := by simpa using hlt
    obtain rfl : i = j := by omega
    have HL := qH (lbS_halved HO.out (by rw [HN.out]; exact hj) HE.out.1 HE.out.2); clear HE hlt hij; by_cases hin : i < n
    · have t2 : decide ((i : Int) < (n : Int)) = true := dTt (by omega)
      have t2' : decide (i < n) = true := by simpa using hin
      obtain ⟨s, hx⟩ : ∃ s, l[i]? = some s := ⟨_, List.getElem?_eq_getElem (by rw [HN.out]; exact hin)⟩; have HX := qH (HR.out.below X.2); obtain ⟨ba, oa, rfl, hba, hc⟩ := HX.out.at hx; have c0 : X.1.cell? ⟨ba, oa + i * 7, none⟩ = some (.int .i64 s.tm) := hc 0 _ rfl; have c1 := hc 1 _ rfl; have c2 := hc 2 _ rfl; have c3 := hc 3 _ rfl; have c4 := hc 4 _ rfl; have c5 := hc 5 _ rfl; have c6 := hc 6 _ rfl; have D := qH (DZ.out s); have t3 := cmpI_eq s.tm x; have HF := qH (show foundS l x = decide (s.tm = x) by unfold foundS; rw [HL.out, hx]); generalize Lib.compareInt s.tm x = cv at D t3; generalize decide (s.tm = x) = bf at t3 HF; clear hc hx; go_wp2_with fail; refine (D.out _).mono ?_; rintro e w1 ⟨rfl, hb⟩; have HB := qH (bStp X.2 hb); clear hb; go_wp2_with fail; go_ret2; exact ⟨by rw [HL.out, HF.out]; rfl, HB.out⟩
    · have t2 : decide ((i : Int) < (n : Int)) = false := dFf (by omega)
      have t2' : decide (i < n) = false := by simpa using hin
      have HF := qH (show foundS l x = false by unfold foundS; rw [HL.out, List.getElem?_eq_none (by rw [HN.out]; omega)]); have HX := qH X.2; clear hin; go_wp2_with fail; go_ret2; exact ⟨by rw [HL.out, HF.out]; rfl, HX.out⟩
theorem sc_near {a num den : Int} (ha : -200000000 ≤ a) (ha' : a ≤ 200000000) (hn : 0 ≤ num) (hd : num ≤ den) (hd1 : 1 ≤ den) (hd2 : den ≤ 1000000) : -200000001 ≤ (Sc.sc a num den 4).1 ∧ (Sc.sc a num den 4).1 ≤ 200000001 := by
 have hna : a.natAbs ≤ 200000000 := by omega
 have hnn : num.toNat ≤ den.toNat := by omega
 have hdn : den.toNat ≤ 1000000 := by omega
 have hmul : a.natAbs * num.toNat ≤ a.natAbs * den.toNat := Nat.mul_le_mul_left _ hnn; have hbig : a.natAbs * num.toNat ≤ 200000000 * 1000000 := Nat.mul_le_mul hna (Nat.le_trans hnn hdn); rw [Sc.sc_small a num den 4 (by decide) (by decide) hd1 hn (Nat.lt_of_le_of_lt hbig (by decide))]; have hq : a.natAbs * num.toNat / den.toNat ≤ a.natAbs := by
  have h1 : a.natAbs * num.toNat / den.toNat ≤ a.natAbs * den.toNat / den.toNat := Nat.div_le_div_right hmul
  rwa [Nat.mul_div_cancel _ (by omega)] at h1
 generalize a.natAbs * num.toNat / den.toNat = q at hq; have hQ : ∀ b r d, Sc.quo 4 b q r d ≤ q + 1 := fun b r d => by
  unfold Sc.quo
  split <;> omega
 have := hQ (decide (a < 0)) (a.natAbs * num.toNat % den.toNat) den.toNat; generalize Sc.quo 4 (decide (a < 0)) q (a.natAbs * num.toNat % den.toNat) den.toNat = Q at this; unfold Sc.sgn
 split <;> simp only <;> omega
theorem between_any (p q part whole : Int) (w : World) (hp : -100000000 ≤ p ∧ p ≤ 100000000) (hq : -100000000 ≤ q ∧ q ≤ 100000000) (h0 : 0 ≤ part) (h1 : part ≤ whole) (h2 : 1 ≤ whole) (h3 : whole ≤ 1000000) :
 Calls Tryz.prog 194 #[.int .i64 p, .int .i64 q, .int .i64 part, .int .i64 whole] w fun e w' => e = .returned (.int .i64 (betw p q part whole)) ∧ Below w.heap.size w w' := by
 have D := qH (fun W => scale_any (q - p) part whole 4 W (by omega) (by omega) (by omega) (by omega)); have hn := sc_near (a := q - p) (num := part) (den := whole) (by omega) (by omega) h0 h1 h2 h3; unfold betw; unfold scRet at D; generalize Sc.sc (q - p) part whole 4 = r at *; obtain ⟨r1, r2⟩ := r; simp only at *; obtain ⟨hn1, hn2⟩ := hn; obtain ⟨hp1, hp2⟩ := hp; obtain ⟨hq1, hq2⟩ := hq; clear h0 h1 h2 h3; go_enter Tryz.func194, Tryz.ntmps194; go_wp2_with fail; refine (D.out _).mono ?_; rintro e w1 ⟨rfl, hb⟩; have HB := qH hb; clear hb D; go_wp2_with fail; go_ret; exact ⟨rfl, HB.out⟩
theorem rbetween_any (p q part whole : Int) (w : World) (hp : -100000000 ≤ p ∧ p ≤ 100000000) (hq : -100000000 ≤ q ∧ q ≤ 100000000) (h0 : 0 ≤ part) (h1 : part ≤ whole) (h2 : 1 ≤ whole) (h3 : whole ≤ 1000000) :
 Calls Tryz.prog 92 #[.int .i64 p, .int .i64 q, .int .i64 part, .int .i64 whole] w fun e w' => e = .returned (.int .i64 (betw p q part whole)) ∧ Below w.heap.size w w' := by
 have D := qH (fun W => rscale_any (q - p) part whole 4 W (by omega) (by omega) (by omega) (by omega)); have hn := sc_near (a := q - p) (num := part) (den := whole) (by omega) (by omega) h0 h1 h2 h3; unfold betw; unfold scRet at D; generalize Sc.sc (q - p) part whole 4 = r at *; obtain ⟨r1, r2⟩ := r; simp only at *; obtain ⟨hn1, hn2⟩ := hn; obtain ⟨hp1, hp2⟩ := hp; obtain ⟨hq1, hq2⟩ := hq; clear h0 h1 h2 h3; go_enter Tryz.func92, Tryz.ntmps92; go_wp2_with fail; refine (D.out _).mono ?_; rintro e w1 ⟨rfl, hb⟩; have HB := qH hb; clear hb D; go_wp2_with fail; go_ret; exact ⟨rfl, HB.out⟩
end Go.Proofs.YtjnfccphodjfiaaGreat
