/- Several texts of this claim in one. -/
import Derived.Test.YtckjdpnmalkpnaaTt3
import Derived.Test.YtckjdpnmalkpnaaTt2
import Derived.Test.YtckjdpnmalkpnaaRows
import Derived.ProofKit
import Derived.OpenShut
import Derived.Lib.SmallJoins
import Derived.Carry
import Derived.ChangeMaps5
/- Edits: CheckEdit of the reference. (printed by wip/t/gen_tsb.py) -/
namespace Go.Proofs.Ytckjdpnmalkpnaa
open Go.RowKit Go.BigFrame
open Tr (Ed inR)

def RChk (x : Ed) (w : World) : Prop := Calls Try.prog 39 #[edV x] w fun e w' => e = .returned (.int .i64 (chkE x)) ∧ Below w.heap.size w w'
theorem str_eq0 {s : ByteArray} (h : s.size = 0) : (s.toList == []) = true := by
  rw [ByteArray.toList_eq, beq_iff_eq]
  exact List.length_eq_zero_iff.1 h
theorem str_ne0 {s : ByteArray} (h : s.size = 0) : (s.toList != []) = false := by
  unfold bne
  rw [str_eq0 h]
  rfl
theorem str_eq1 {s : ByteArray} (h : s.size ≠ 0) : (s.toList == []) = false := by
  rw [ByteArray.toList_eq, beq_eq_false_iff_ne]
  exact fun e => h (List.length_eq_zero_iff.2 e)
theorem str_ne1 {s : ByteArray} (h : s.size ≠ 0) : (s.toList != []) = true := by
  unfold bne
  rw [str_eq1 h]
  rfl
theorem neF {n m : Int} (h : n = m) : (n != m) = false := by rw [h]; simp
theorem chkE_form {x : Ed} (hk : 1 ≤ x.k ∧ x.k ≤ 12) {b : Bool} (h : formE x = b) : chkE x = if b = false then 2 else fieldE x := by
  unfold chkE
  rw [if_neg (by omega), h]
theorem rngE_of {n lo hi : Int} {b : Bool} (h : inR n lo hi = b) : rngE n lo hi = if b = true then 0 else 9 := by
  unfold rngE
  rw [h]
set_option maxHeartbeats 4000000 in
theorem rcheck_2 (n f t : Int) (s : ByteArray) (w : World) (_ : s.size ≤ maxLen) : RChk ⟨2, n, f, t, s⟩ w := by
  have DO : Hid (∀ W, Calls Try.prog 31 #[.int .i64 2, .int .i64 1, .int .i64 12] W fun e w' => e = .returned (.bool false) ∧ W = w') := Lib.hid (fun W => rout_any 2 1 12 W)
  have DT : Hid (∀ W, Calls Try.prog 66 #[.int .i64 2] W fun e w' => e = .returned (.bool false) ∧ W = w') := Lib.hid (fun W => rtext_any 2 W)
  have DN : Hid (∀ W, Calls Try.prog 67 #[.int .i64 2] W fun e w' => e = .returned (.bool true) ∧ W = w') := Lib.hid (fun W => rn_any 2 W)
  have DS : Hid (∀ W, Calls Try.prog 68 #[.int .i64 2] W fun e w' => e = .returned (.bool false) ∧ W = w') := Lib.hid (fun W => rspan_any 2 W)
  unfold RChk edV
  by_cases h1 : s.size = 0
  case neg =>
    have q1 := str_eq1 h1
    have q2 := str_ne1 h1
    have HV := Lib.hid (show chkE ⟨2, n, f, t, s⟩ = 2 from chkE_form (b := false) (by simp) (by simp [formE, h1]))
    clear h1
    go_enter Try.func39, Try.ntmps39
    go_wp2_with fail
    refine (DO.out _).mono ?_
    rintro e w1 ⟨rfl, rfl⟩
    go_wp2_with fail
    refine (DT.out _).mono ?_
    rintro e w1 ⟨rfl, rfl⟩
    go_wp2_with fail
    go_ret
    exact ⟨ret_int HV.out.symm, below_al w _⟩
  have q1 := str_eq0 h1
  have q2 := str_ne0 h1
  by_cases h2 : f = 0
  case neg =>
    have b2 := neT h2
    have HV := Lib.hid (show chkE ⟨2, n, f, t, s⟩ = 2 from chkE_form (b := false) (by simp) (by simp [formE, h2]))
    clear h1 h2
    go_enter Try.func39, Try.ntmps39
    go_wp2_with fail
    refine (DO.out _).mono ?_
    rintro e w1 ⟨rfl, rfl⟩
    go_wp2_with fail
    refine (DT.out _).mono ?_
    rintro e w1 ⟨rfl, rfl⟩
    go_wp2_with fail
    refine (DN.out _).mono ?_
    rintro e w1 ⟨rfl, rfl⟩
    go_wp2_with fail
    refine (DS.out _).mono ?_
    rintro e w1 ⟨rfl, rfl⟩
    go_wp2_with fail
    go_ret
    exact ⟨ret_int HV.out.symm, below_al w _⟩
  have b2 := neF h2
  by_cases h3 : t = 0
  case neg =>
    have b3 := neT h3
    have HV := Lib.hid (show chkE ⟨2, n, f, t, s⟩ = 2 from chkE_form (b := false) (by simp) (by simp [formE, h3]))
    clear h1 h2 h3
    go_enter Try.func39, Try.ntmps39
    go_wp2_with fail
    refine (DO.out _).mono ?_
    rintro e w1 ⟨rfl, rfl⟩
    go_wp2_with fail
    refine (DT.out _).mono ?_
    rintro e w1 ⟨rfl, rfl⟩
    go_wp2_with fail
    refine (DN.out _).mono ?_
    rintro e w1 ⟨rfl, rfl⟩
    go_wp2_with fail
    refine (DS.out _).mono ?_
    rintro e w1 ⟨rfl, rfl⟩
    go_wp2_with fail
    go_ret
    exact ⟨ret_int HV.out.symm, below_al w _⟩
  have b3 := neF h3
  have HV0 := Lib.hid (show chkE ⟨2, n, f, t, s⟩ = if inR n 1 5 = true then 0 else 7 from (chkE_form (b := true) (by simp) (by simp [formE, h1, h2, h3])).trans (by simp [fieldE]))
  have DB := Lib.hid (fun W => rout_any n 1 5 W)
  clear h1 h2 h3
  generalize inR n 1 5 = b at *
  cases b
  all_goals
    have HV := Lib.hid (HV0.out)
    go_enter Try.func39, Try.ntmps39
    go_wp2_with fail
    refine (DO.out _).mono ?_
    rintro e w1 ⟨rfl, rfl⟩
    go_wp2_with fail
    refine (DT.out _).mono ?_
    rintro e w1 ⟨rfl, rfl⟩
    go_wp2_with fail
    refine (DN.out _).mono ?_
    rintro e w1 ⟨rfl, rfl⟩
    go_wp2_with fail
    refine (DS.out _).mono ?_
    rintro e w1 ⟨rfl, rfl⟩
    go_wp2_with fail
    refine (DB.out _).mono ?_
    rintro e w1 ⟨rfl, rfl⟩
    go_wp2_with fail
    go_ret
    exact ⟨ret_int HV.out.symm, below_al w _⟩
set_option maxHeartbeats 4000000 in
theorem rcheck_5 (n f t : Int) (s : ByteArray) (w : World) (_ : s.size ≤ maxLen) : RChk ⟨5, n, f, t, s⟩ w := by
  have DO : Hid (∀ W, Calls Try.prog 31 #[.int .i64 5, .int .i64 1, .int .i64 12] W fun e w' => e = .returned (.bool false) ∧ W = w') := Lib.hid (fun W => rout_any 5 1 12 W)
  have DT : Hid (∀ W, Calls Try.prog 66 #[.int .i64 5] W fun e w' => e = .returned (.bool false) ∧ W = w') := Lib.hid (fun W => rtext_any 5 W)
  have DN : Hid (∀ W, Calls Try.prog 67 #[.int .i64 5] W fun e w' => e = .returned (.bool true) ∧ W = w') := Lib.hid (fun W => rn_any 5 W)
  have DS : Hid (∀ W, Calls Try.prog 68 #[.int .i64 5] W fun e w' => e = .returned (.bool false) ∧ W = w') := Lib.hid (fun W => rspan_any 5 W)
  unfold RChk edV
  by_cases h1 : s.size = 0
  case neg =>
    have q1 := str_eq1 h1
    have q2 := str_ne1 h1
    have HV := Lib.hid (show chkE ⟨5, n, f, t, s⟩ = 2 from chkE_form (b := false) (by simp) (by simp [formE, h1]))
    clear h1
    go_enter Try.func39, Try.ntmps39
    go_wp2_with fail
    refine (DO.out _).mono ?_
    rintro e w1 ⟨rfl, rfl⟩
    go_wp2_with fail
    refine (DT.out _).mono ?_
    rintro e w1 ⟨rfl, rfl⟩
    go_wp2_with fail
    go_ret
    exact ⟨ret_int HV.out.symm, below_al w _⟩
  have q1 := str_eq0 h1
  have q2 := str_ne0 h1
  by_cases h2 : f = 0
  case neg =>
    have b2 := neT h2
    have HV := Lib.hid (show chkE ⟨5, n, f, t, s⟩ = 2 from chkE_form (b := false) (by simp) (by simp [formE, h2]))
    clear h1 h2
    go_enter Try.func39, Try.ntmps39
    go_wp2_with fail
    refine (DO.out _).mono ?_
    rintro e w1 ⟨rfl, rfl⟩
    go_wp2_with fail
    refine (DT.out _).mono ?_
    rintro e w1 ⟨rfl, rfl⟩
    go_wp2_with fail
    refine (DN.out _).mono ?_
    rintro e w1 ⟨rfl, rfl⟩
    go_wp2_with fail
    refine (DS.out _).mono ?_
    rintro e w1 ⟨rfl, rfl⟩
    go_wp2_with fail
    go_ret
    exact ⟨ret_int HV.out.symm, below_al w _⟩
  have b2 := neF h2
  by_cases h3 : t = 0
  case neg =>
    have b3 := neT h3
    have HV := Lib.hid (show chkE ⟨5, n, f, t, s⟩ = 2 from chkE_form (b := false) (by simp) (by simp [formE, h3]))
    clear h1 h2 h3
    go_enter Try.func39, Try.ntmps39
    go_wp2_with fail
    refine (DO.out _).mono ?_
    rintro e w1 ⟨rfl, rfl⟩
    go_wp2_with fail
    refine (DT.out _).mono ?_
    rintro e w1 ⟨rfl, rfl⟩
    go_wp2_with fail
    refine (DN.out _).mono ?_
    rintro e w1 ⟨rfl, rfl⟩
    go_wp2_with fail
    refine (DS.out _).mono ?_
    rintro e w1 ⟨rfl, rfl⟩
    go_wp2_with fail
    go_ret
    exact ⟨ret_int HV.out.symm, below_al w _⟩
  have b3 := neF h3
  have HV0 := Lib.hid (show chkE ⟨5, n, f, t, s⟩ = if inR n (loE 5) (hiE 5) = true then 0 else 9 from (chkE_form (b := true) (by simp) (by simp [formE, h1, h2, h3])).trans (by simp [fieldE, rngE, loE, hiE]))
  have DB := Lib.hid (fun W => rout_any n (loE 5) (hiE 5) W)
  have DL := Lib.hid (fun W => rbounds_any 5 W)
  clear h1 h2 h3
  generalize inR n (loE 5) (hiE 5) = b at *
  generalize loE 5 = lo at *
  generalize hiE 5 = hi at *
  cases b
  all_goals
    have HV := Lib.hid (HV0.out)
    go_enter Try.func39, Try.ntmps39
    go_wp2_with fail
    refine (DO.out _).mono ?_
    rintro e w1 ⟨rfl, rfl⟩
    go_wp2_with fail
    refine (DT.out _).mono ?_
    rintro e w1 ⟨rfl, rfl⟩
    go_wp2_with fail
    refine (DN.out _).mono ?_
    rintro e w1 ⟨rfl, rfl⟩
    go_wp2_with fail
    refine (DS.out _).mono ?_
    rintro e w1 ⟨rfl, rfl⟩
    go_wp2_with fail
    refine (DS.out _).mono ?_
    rintro e w1 ⟨rfl, rfl⟩
    go_wp2_with fail
    refine (DL.out _).mono ?_
    rintro e w1 ⟨rfl, rfl⟩
    go_wp2_with fail
    refine (DB.out _).mono ?_
    rintro e w1 ⟨rfl, rfl⟩
    go_wp2_with fail
    go_ret
    exact ⟨ret_int HV.out.symm, below_al w _⟩
set_option maxHeartbeats 4000000 in
theorem rcheck_6 (n f t : Int) (s : ByteArray) (w : World) (_ : s.size ≤ maxLen) : RChk ⟨6, n, f, t, s⟩ w := by
  have DO : Hid (∀ W, Calls Try.prog 31 #[.int .i64 6, .int .i64 1, .int .i64 12] W fun e w' => e = .returned (.bool false) ∧ W = w') := Lib.hid (fun W => rout_any 6 1 12 W)
  have DT : Hid (∀ W, Calls Try.prog 66 #[.int .i64 6] W fun e w' => e = .returned (.bool false) ∧ W = w') := Lib.hid (fun W => rtext_any 6 W)
  have DN : Hid (∀ W, Calls Try.prog 67 #[.int .i64 6] W fun e w' => e = .returned (.bool true) ∧ W = w') := Lib.hid (fun W => rn_any 6 W)
  have DS : Hid (∀ W, Calls Try.prog 68 #[.int .i64 6] W fun e w' => e = .returned (.bool false) ∧ W = w') := Lib.hid (fun W => rspan_any 6 W)
  unfold RChk edV
  by_cases h1 : s.size = 0
  case neg =>
    have q1 := str_eq1 h1
    have q2 := str_ne1 h1
    have HV := Lib.hid (show chkE ⟨6, n, f, t, s⟩ = 2 from chkE_form (b := false) (by simp) (by simp [formE, h1]))
    clear h1
    go_enter Try.func39, Try.ntmps39
    go_wp2_with fail
    refine (DO.out _).mono ?_
    rintro e w1 ⟨rfl, rfl⟩
    go_wp2_with fail
    refine (DT.out _).mono ?_
    rintro e w1 ⟨rfl, rfl⟩
    go_wp2_with fail
    go_ret
    exact ⟨ret_int HV.out.symm, below_al w _⟩
  have q1 := str_eq0 h1
  have q2 := str_ne0 h1
  by_cases h2 : f = 0
  case neg =>
    have b2 := neT h2
    have HV := Lib.hid (show chkE ⟨6, n, f, t, s⟩ = 2 from chkE_form (b := false) (by simp) (by simp [formE, h2]))
    clear h1 h2
    go_enter Try.func39, Try.ntmps39
    go_wp2_with fail
    refine (DO.out _).mono ?_
    rintro e w1 ⟨rfl, rfl⟩
    go_wp2_with fail
    refine (DT.out _).mono ?_
    rintro e w1 ⟨rfl, rfl⟩
    go_wp2_with fail
    refine (DN.out _).mono ?_
    rintro e w1 ⟨rfl, rfl⟩
    go_wp2_with fail
    refine (DS.out _).mono ?_
    rintro e w1 ⟨rfl, rfl⟩
    go_wp2_with fail
    go_ret
    exact ⟨ret_int HV.out.symm, below_al w _⟩
  have b2 := neF h2
  by_cases h3 : t = 0
  case neg =>
    have b3 := neT h3
    have HV := Lib.hid (show chkE ⟨6, n, f, t, s⟩ = 2 from chkE_form (b := false) (by simp) (by simp [formE, h3]))
    clear h1 h2 h3
    go_enter Try.func39, Try.ntmps39
    go_wp2_with fail
    refine (DO.out _).mono ?_
    rintro e w1 ⟨rfl, rfl⟩
    go_wp2_with fail
    refine (DT.out _).mono ?_
    rintro e w1 ⟨rfl, rfl⟩
    go_wp2_with fail
    refine (DN.out _).mono ?_
    rintro e w1 ⟨rfl, rfl⟩
    go_wp2_with fail
    refine (DS.out _).mono ?_
    rintro e w1 ⟨rfl, rfl⟩
    go_wp2_with fail
    go_ret
    exact ⟨ret_int HV.out.symm, below_al w _⟩
  have b3 := neF h3
  have HV0 := Lib.hid (show chkE ⟨6, n, f, t, s⟩ = if inR n (loE 6) (hiE 6) = true then 0 else 9 from (chkE_form (b := true) (by simp) (by simp [formE, h1, h2, h3])).trans (by simp [fieldE, rngE, loE, hiE]))
  have DB := Lib.hid (fun W => rout_any n (loE 6) (hiE 6) W)
  have DL := Lib.hid (fun W => rbounds_any 6 W)
  clear h1 h2 h3
  generalize inR n (loE 6) (hiE 6) = b at *
  generalize loE 6 = lo at *
  generalize hiE 6 = hi at *
  cases b
  all_goals
    have HV := Lib.hid (HV0.out)
    go_enter Try.func39, Try.ntmps39
    go_wp2_with fail
    refine (DO.out _).mono ?_
    rintro e w1 ⟨rfl, rfl⟩
    go_wp2_with fail
    refine (DT.out _).mono ?_
    rintro e w1 ⟨rfl, rfl⟩
    go_wp2_with fail
    refine (DN.out _).mono ?_
    rintro e w1 ⟨rfl, rfl⟩
    go_wp2_with fail
    refine (DS.out _).mono ?_
    rintro e w1 ⟨rfl, rfl⟩
    go_wp2_with fail
    refine (DS.out _).mono ?_
    rintro e w1 ⟨rfl, rfl⟩
    go_wp2_with fail
    refine (DL.out _).mono ?_
    rintro e w1 ⟨rfl, rfl⟩
    go_wp2_with fail
    refine (DB.out _).mono ?_
    rintro e w1 ⟨rfl, rfl⟩
    go_wp2_with fail
    go_ret
    exact ⟨ret_int HV.out.symm, below_al w _⟩
set_option maxHeartbeats 4000000 in
theorem rcheck_7 (n f t : Int) (s : ByteArray) (w : World) (_ : s.size ≤ maxLen) : RChk ⟨7, n, f, t, s⟩ w := by
  have DO : Hid (∀ W, Calls Try.prog 31 #[.int .i64 7, .int .i64 1, .int .i64 12] W fun e w' => e = .returned (.bool false) ∧ W = w') := Lib.hid (fun W => rout_any 7 1 12 W)
  have DT : Hid (∀ W, Calls Try.prog 66 #[.int .i64 7] W fun e w' => e = .returned (.bool false) ∧ W = w') := Lib.hid (fun W => rtext_any 7 W)
  have DN : Hid (∀ W, Calls Try.prog 67 #[.int .i64 7] W fun e w' => e = .returned (.bool true) ∧ W = w') := Lib.hid (fun W => rn_any 7 W)
  have DS : Hid (∀ W, Calls Try.prog 68 #[.int .i64 7] W fun e w' => e = .returned (.bool false) ∧ W = w') := Lib.hid (fun W => rspan_any 7 W)
  unfold RChk edV
  by_cases h1 : s.size = 0
  case neg =>
    have q1 := str_eq1 h1
    have q2 := str_ne1 h1
    have HV := Lib.hid (show chkE ⟨7, n, f, t, s⟩ = 2 from chkE_form (b := false) (by simp) (by simp [formE, h1]))
    clear h1
    go_enter Try.func39, Try.ntmps39
    go_wp2_with fail
    refine (DO.out _).mono ?_
    rintro e w1 ⟨rfl, rfl⟩
    go_wp2_with fail
    refine (DT.out _).mono ?_
    rintro e w1 ⟨rfl, rfl⟩
    go_wp2_with fail
    go_ret
    exact ⟨ret_int HV.out.symm, below_al w _⟩
  have q1 := str_eq0 h1
  have q2 := str_ne0 h1
  by_cases h2 : f = 0
  case neg =>
    have b2 := neT h2
    have HV := Lib.hid (show chkE ⟨7, n, f, t, s⟩ = 2 from chkE_form (b := false) (by simp) (by simp [formE, h2]))
    clear h1 h2
    go_enter Try.func39, Try.ntmps39
    go_wp2_with fail
    refine (DO.out _).mono ?_
    rintro e w1 ⟨rfl, rfl⟩
    go_wp2_with fail
    refine (DT.out _).mono ?_
    rintro e w1 ⟨rfl, rfl⟩
    go_wp2_with fail
    refine (DN.out _).mono ?_
    rintro e w1 ⟨rfl, rfl⟩
    go_wp2_with fail
    refine (DS.out _).mono ?_
    rintro e w1 ⟨rfl, rfl⟩
    go_wp2_with fail
    go_ret
    exact ⟨ret_int HV.out.symm, below_al w _⟩
  have b2 := neF h2
  by_cases h3 : t = 0
  case neg =>
    have b3 := neT h3
    have HV := Lib.hid (show chkE ⟨7, n, f, t, s⟩ = 2 from chkE_form (b := false) (by simp) (by simp [formE, h3]))
    clear h1 h2 h3
    go_enter Try.func39, Try.ntmps39
    go_wp2_with fail
    refine (DO.out _).mono ?_
    rintro e w1 ⟨rfl, rfl⟩
    go_wp2_with fail
    refine (DT.out _).mono ?_
    rintro e w1 ⟨rfl, rfl⟩
    go_wp2_with fail
    refine (DN.out _).mono ?_
    rintro e w1 ⟨rfl, rfl⟩
    go_wp2_with fail
    refine (DS.out _).mono ?_
    rintro e w1 ⟨rfl, rfl⟩
    go_wp2_with fail
    go_ret
    exact ⟨ret_int HV.out.symm, below_al w _⟩
  have b3 := neF h3
  have HV0 := Lib.hid (show chkE ⟨7, n, f, t, s⟩ = if inR n (loE 7) (hiE 7) = true then 0 else 9 from (chkE_form (b := true) (by simp) (by simp [formE, h1, h2, h3])).trans (by simp [fieldE, rngE, loE, hiE]))
  have DB := Lib.hid (fun W => rout_any n (loE 7) (hiE 7) W)
  have DL := Lib.hid (fun W => rbounds_any 7 W)
  clear h1 h2 h3
  generalize inR n (loE 7) (hiE 7) = b at *
  generalize loE 7 = lo at *
  generalize hiE 7 = hi at *
  cases b
  all_goals
    have HV := Lib.hid (HV0.out)
    go_enter Try.func39, Try.ntmps39
    go_wp2_with fail
    refine (DO.out _).mono ?_
    rintro e w1 ⟨rfl, rfl⟩
    go_wp2_with fail
    refine (DT.out _).mono ?_
    rintro e w1 ⟨rfl, rfl⟩
    go_wp2_with fail
    refine (DN.out _).mono ?_
    rintro e w1 ⟨rfl, rfl⟩
    go_wp2_with fail
    refine (DS.out _).mono ?_
    rintro e w1 ⟨rfl, rfl⟩
    go_wp2_with fail
    refine (DS.out _).mono ?_
    rintro e w1 ⟨rfl, rfl⟩
    go_wp2_with fail
    refine (DL.out _).mono ?_
    rintro e w1 ⟨rfl, rfl⟩
    go_wp2_with fail
    refine (DB.out _).mono ?_
    rintro e w1 ⟨rfl, rfl⟩
    go_wp2_with fail
    go_ret
    exact ⟨ret_int HV.out.symm, below_al w _⟩
set_option maxHeartbeats 4000000 in
theorem rcheck_9 (n f t : Int) (s : ByteArray) (w : World) (_ : s.size ≤ maxLen) : RChk ⟨9, n, f, t, s⟩ w := by
  have DO : Hid (∀ W, Calls Try.prog 31 #[.int .i64 9, .int .i64 1, .int .i64 12] W fun e w' => e = .returned (.bool false) ∧ W = w') := Lib.hid (fun W => rout_any 9 1 12 W)
  have DT : Hid (∀ W, Calls Try.prog 66 #[.int .i64 9] W fun e w' => e = .returned (.bool false) ∧ W = w') := Lib.hid (fun W => rtext_any 9 W)
  have DN : Hid (∀ W, Calls Try.prog 67 #[.int .i64 9] W fun e w' => e = .returned (.bool true) ∧ W = w') := Lib.hid (fun W => rn_any 9 W)
  have DS : Hid (∀ W, Calls Try.prog 68 #[.int .i64 9] W fun e w' => e = .returned (.bool false) ∧ W = w') := Lib.hid (fun W => rspan_any 9 W)
  unfold RChk edV
  by_cases h1 : s.size = 0
  case neg =>
    have q1 := str_eq1 h1
    have q2 := str_ne1 h1
    have HV := Lib.hid (show chkE ⟨9, n, f, t, s⟩ = 2 from chkE_form (b := false) (by simp) (by simp [formE, h1]))
    clear h1
    go_enter Try.func39, Try.ntmps39
    go_wp2_with fail
    refine (DO.out _).mono ?_
    rintro e w1 ⟨rfl, rfl⟩
    go_wp2_with fail
    refine (DT.out _).mono ?_
    rintro e w1 ⟨rfl, rfl⟩
    go_wp2_with fail
    go_ret
    exact ⟨ret_int HV.out.symm, below_al w _⟩
  have q1 := str_eq0 h1
  have q2 := str_ne0 h1
  by_cases h2 : f = 0
  case neg =>
    have b2 := neT h2
    have HV := Lib.hid (show chkE ⟨9, n, f, t, s⟩ = 2 from chkE_form (b := false) (by simp) (by simp [formE, h2]))
    clear h1 h2
    go_enter Try.func39, Try.ntmps39
    go_wp2_with fail
    refine (DO.out _).mono ?_
    rintro e w1 ⟨rfl, rfl⟩
    go_wp2_with fail
    refine (DT.out _).mono ?_
    rintro e w1 ⟨rfl, rfl⟩
    go_wp2_with fail
    refine (DN.out _).mono ?_
    rintro e w1 ⟨rfl, rfl⟩
    go_wp2_with fail
    refine (DS.out _).mono ?_
    rintro e w1 ⟨rfl, rfl⟩
    go_wp2_with fail
    go_ret
    exact ⟨ret_int HV.out.symm, below_al w _⟩
  have b2 := neF h2
  by_cases h3 : t = 0
  case neg =>
    have b3 := neT h3
    have HV := Lib.hid (show chkE ⟨9, n, f, t, s⟩ = 2 from chkE_form (b := false) (by simp) (by simp [formE, h3]))
    clear h1 h2 h3
    go_enter Try.func39, Try.ntmps39
    go_wp2_with fail
    refine (DO.out _).mono ?_
    rintro e w1 ⟨rfl, rfl⟩
    go_wp2_with fail
    refine (DT.out _).mono ?_
    rintro e w1 ⟨rfl, rfl⟩
    go_wp2_with fail
    refine (DN.out _).mono ?_
    rintro e w1 ⟨rfl, rfl⟩
    go_wp2_with fail
    refine (DS.out _).mono ?_
    rintro e w1 ⟨rfl, rfl⟩
    go_wp2_with fail
    go_ret
    exact ⟨ret_int HV.out.symm, below_al w _⟩
  have b3 := neF h3
  have HV0 := Lib.hid (show chkE ⟨9, n, f, t, s⟩ = if inR n (loE 9) (hiE 9) = true then 0 else 9 from (chkE_form (b := true) (by simp) (by simp [formE, h1, h2, h3])).trans (by simp [fieldE, rngE, loE, hiE]))
  have DB := Lib.hid (fun W => rout_any n (loE 9) (hiE 9) W)
  have DL := Lib.hid (fun W => rbounds_any 9 W)
  clear h1 h2 h3
  generalize inR n (loE 9) (hiE 9) = b at *
  generalize loE 9 = lo at *
  generalize hiE 9 = hi at *
  cases b
  all_goals
    have HV := Lib.hid (HV0.out)
    go_enter Try.func39, Try.ntmps39
    go_wp2_with fail
    refine (DO.out _).mono ?_
    rintro e w1 ⟨rfl, rfl⟩
    go_wp2_with fail
    refine (DT.out _).mono ?_
    rintro e w1 ⟨rfl, rfl⟩
    go_wp2_with fail
    refine (DN.out _).mono ?_
    rintro e w1 ⟨rfl, rfl⟩
    go_wp2_with fail
    refine (DS.out _).mono ?_
    rintro e w1 ⟨rfl, rfl⟩
    go_wp2_with fail
    refine (DS.out _).mono ?_
    rintro e w1 ⟨rfl, rfl⟩
    go_wp2_with fail
    refine (DL.out _).mono ?_
    rintro e w1 ⟨rfl, rfl⟩
    go_wp2_with fail
    refine (DB.out _).mono ?_
    rintro e w1 ⟨rfl, rfl⟩
    go_wp2_with fail
    go_ret
    exact ⟨ret_int HV.out.symm, below_al w _⟩
set_option maxHeartbeats 4000000 in
theorem rcheck_10 (n f t : Int) (s : ByteArray) (w : World) (_ : s.size ≤ maxLen) : RChk ⟨10, n, f, t, s⟩ w := by
  have DO : Hid (∀ W, Calls Try.prog 31 #[.int .i64 10, .int .i64 1, .int .i64 12] W fun e w' => e = .returned (.bool false) ∧ W = w') := Lib.hid (fun W => rout_any 10 1 12 W)
  have DT : Hid (∀ W, Calls Try.prog 66 #[.int .i64 10] W fun e w' => e = .returned (.bool false) ∧ W = w') := Lib.hid (fun W => rtext_any 10 W)
  have DN : Hid (∀ W, Calls Try.prog 67 #[.int .i64 10] W fun e w' => e = .returned (.bool true) ∧ W = w') := Lib.hid (fun W => rn_any 10 W)
  have DS : Hid (∀ W, Calls Try.prog 68 #[.int .i64 10] W fun e w' => e = .returned (.bool false) ∧ W = w') := Lib.hid (fun W => rspan_any 10 W)
  unfold RChk edV
  by_cases h1 : s.size = 0
  case neg =>
    have q1 := str_eq1 h1
    have q2 := str_ne1 h1
    have HV := Lib.hid (show chkE ⟨10, n, f, t, s⟩ = 2 from chkE_form (b := false) (by simp) (by simp [formE, h1]))
    clear h1
    go_enter Try.func39, Try.ntmps39
    go_wp2_with fail
    refine (DO.out _).mono ?_
    rintro e w1 ⟨rfl, rfl⟩
    go_wp2_with fail
    refine (DT.out _).mono ?_
    rintro e w1 ⟨rfl, rfl⟩
    go_wp2_with fail
    go_ret
    exact ⟨ret_int HV.out.symm, below_al w _⟩
  have q1 := str_eq0 h1
  have q2 := str_ne0 h1
  by_cases h2 : f = 0
  case neg =>
    have b2 := neT h2
    have HV := Lib.hid (show chkE ⟨10, n, f, t, s⟩ = 2 from chkE_form (b := false) (by simp) (by simp [formE, h2]))
    clear h1 h2
    go_enter Try.func39, Try.ntmps39
    go_wp2_with fail
    refine (DO.out _).mono ?_
    rintro e w1 ⟨rfl, rfl⟩
    go_wp2_with fail
    refine (DT.out _).mono ?_
    rintro e w1 ⟨rfl, rfl⟩
    go_wp2_with fail
    refine (DN.out _).mono ?_
    rintro e w1 ⟨rfl, rfl⟩
    go_wp2_with fail
    refine (DS.out _).mono ?_
    rintro e w1 ⟨rfl, rfl⟩
    go_wp2_with fail
    go_ret
    exact ⟨ret_int HV.out.symm, below_al w _⟩
  have b2 := neF h2
  by_cases h3 : t = 0
  case neg =>
    have b3 := neT h3
    have HV := Lib.hid (show chkE ⟨10, n, f, t, s⟩ = 2 from chkE_form (b := false) (by simp) (by simp [formE, h3]))
    clear h1 h2 h3
    go_enter Try.func39, Try.ntmps39
    go_wp2_with fail
    refine (DO.out _).mono ?_
    rintro e w1 ⟨rfl, rfl⟩
    go_wp2_with fail
    refine (DT.out _).mono ?_
    rintro e w1 ⟨rfl, rfl⟩
    go_wp2_with fail
    refine (DN.out _).mono ?_
    rintro e w1 ⟨rfl, rfl⟩
    go_wp2_with fail
    refine (DS.out _).mono ?_
    rintro e w1 ⟨rfl, rfl⟩
    go_wp2_with fail
    go_ret
    exact ⟨ret_int HV.out.symm, below_al w _⟩
  have b3 := neF h3
  have HV0 := Lib.hid (show chkE ⟨10, n, f, t, s⟩ = if inR n (loE 10) (hiE 10) = true then 0 else 9 from (chkE_form (b := true) (by simp) (by simp [formE, h1, h2, h3])).trans (by simp [fieldE, rngE, loE, hiE]))
  have DB := Lib.hid (fun W => rout_any n (loE 10) (hiE 10) W)
  have DL := Lib.hid (fun W => rbounds_any 10 W)
  clear h1 h2 h3
  generalize inR n (loE 10) (hiE 10) = b at *
  generalize loE 10 = lo at *
  generalize hiE 10 = hi at *
  cases b
  all_goals
    have HV := Lib.hid (HV0.out)
    go_enter Try.func39, Try.ntmps39
    go_wp2_with fail
    refine (DO.out _).mono ?_
    rintro e w1 ⟨rfl, rfl⟩
    go_wp2_with fail
    refine (DT.out _).mono ?_
    rintro e w1 ⟨rfl, rfl⟩
    go_wp2_with fail
    refine (DN.out _).mono ?_
    rintro e w1 ⟨rfl, rfl⟩
    go_wp2_with fail
    refine (DS.out _).mono ?_
    rintro e w1 ⟨rfl, rfl⟩
    go_wp2_with fail
    refine (DS.out _).mono ?_
    rintro e w1 ⟨rfl, rfl⟩
    go_wp2_with fail
    refine (DL.out _).mono ?_
    rintro e w1 ⟨rfl, rfl⟩
    go_wp2_with fail
    refine (DB.out _).mono ?_
    rintro e w1 ⟨rfl, rfl⟩
    go_wp2_with fail
    go_ret
    exact ⟨ret_int HV.out.symm, below_al w _⟩
set_option maxHeartbeats 4000000 in
theorem rcheck_12 (n f t : Int) (s : ByteArray) (w : World) (_ : s.size ≤ maxLen) : RChk ⟨12, n, f, t, s⟩ w := by
  have DO : Hid (∀ W, Calls Try.prog 31 #[.int .i64 12, .int .i64 1, .int .i64 12] W fun e w' => e = .returned (.bool false) ∧ W = w') := Lib.hid (fun W => rout_any 12 1 12 W)
  have DT : Hid (∀ W, Calls Try.prog 66 #[.int .i64 12] W fun e w' => e = .returned (.bool false) ∧ W = w') := Lib.hid (fun W => rtext_any 12 W)
  have DN : Hid (∀ W, Calls Try.prog 67 #[.int .i64 12] W fun e w' => e = .returned (.bool true) ∧ W = w') := Lib.hid (fun W => rn_any 12 W)
  have DS : Hid (∀ W, Calls Try.prog 68 #[.int .i64 12] W fun e w' => e = .returned (.bool false) ∧ W = w') := Lib.hid (fun W => rspan_any 12 W)
  unfold RChk edV
  by_cases h1 : s.size = 0
  case neg =>
    have q1 := str_eq1 h1
    have q2 := str_ne1 h1
    have HV := Lib.hid (show chkE ⟨12, n, f, t, s⟩ = 2 from chkE_form (b := false) (by simp) (by simp [formE, h1]))
    clear h1
    go_enter Try.func39, Try.ntmps39
    go_wp2_with fail
    refine (DO.out _).mono ?_
    rintro e w1 ⟨rfl, rfl⟩
    go_wp2_with fail
    refine (DT.out _).mono ?_
    rintro e w1 ⟨rfl, rfl⟩
    go_wp2_with fail
    go_ret
    exact ⟨ret_int HV.out.symm, below_al w _⟩
  have q1 := str_eq0 h1
  have q2 := str_ne0 h1
  by_cases h2 : f = 0
  case neg =>
    have b2 := neT h2
    have HV := Lib.hid (show chkE ⟨12, n, f, t, s⟩ = 2 from chkE_form (b := false) (by simp) (by simp [formE, h2]))
    clear h1 h2
    go_enter Try.func39, Try.ntmps39
    go_wp2_with fail
    refine (DO.out _).mono ?_
    rintro e w1 ⟨rfl, rfl⟩
    go_wp2_with fail
    refine (DT.out _).mono ?_
    rintro e w1 ⟨rfl, rfl⟩
    go_wp2_with fail
    refine (DN.out _).mono ?_
    rintro e w1 ⟨rfl, rfl⟩
    go_wp2_with fail
    refine (DS.out _).mono ?_
    rintro e w1 ⟨rfl, rfl⟩
    go_wp2_with fail
    go_ret
    exact ⟨ret_int HV.out.symm, below_al w _⟩
  have b2 := neF h2
  by_cases h3 : t = 0
  case neg =>
    have b3 := neT h3
    have HV := Lib.hid (show chkE ⟨12, n, f, t, s⟩ = 2 from chkE_form (b := false) (by simp) (by simp [formE, h3]))
    clear h1 h2 h3
    go_enter Try.func39, Try.ntmps39
    go_wp2_with fail
    refine (DO.out _).mono ?_
    rintro e w1 ⟨rfl, rfl⟩
    go_wp2_with fail
    refine (DT.out _).mono ?_
    rintro e w1 ⟨rfl, rfl⟩
    go_wp2_with fail
    refine (DN.out _).mono ?_
    rintro e w1 ⟨rfl, rfl⟩
    go_wp2_with fail
    refine (DS.out _).mono ?_
    rintro e w1 ⟨rfl, rfl⟩
    go_wp2_with fail
    go_ret
    exact ⟨ret_int HV.out.symm, below_al w _⟩
  have b3 := neF h3
  have HV0 := Lib.hid (show chkE ⟨12, n, f, t, s⟩ = if inR n (loE 12) (hiE 12) = true then 0 else 9 from (chkE_form (b := true) (by simp) (by simp [formE, h1, h2, h3])).trans (by simp [fieldE, rngE, loE, hiE]))
  have DB := Lib.hid (fun W => rout_any n (loE 12) (hiE 12) W)
  have DL := Lib.hid (fun W => rbounds_any 12 W)
  clear h1 h2 h3
  generalize inR n (loE 12) (hiE 12) = b at *
  generalize loE 12 = lo at *
  generalize hiE 12 = hi at *
  cases b
  all_goals
    have HV := Lib.hid (HV0.out)
    go_enter Try.func39, Try.ntmps39
    go_wp2_with fail
    refine (DO.out _).mono ?_
    rintro e w1 ⟨rfl, rfl⟩
    go_wp2_with fail
    refine (DT.out _).mono ?_
    rintro e w1 ⟨rfl, rfl⟩
    go_wp2_with fail
    refine (DN.out _).mono ?_
    rintro e w1 ⟨rfl, rfl⟩
    go_wp2_with fail
    refine (DS.out _).mono ?_
    rintro e w1 ⟨rfl, rfl⟩
    go_wp2_with fail
    refine (DS.out _).mono ?_
    rintro e w1 ⟨rfl, rfl⟩
    go_wp2_with fail
    refine (DL.out _).mono ?_
    rintro e w1 ⟨rfl, rfl⟩
    go_wp2_with fail
    refine (DB.out _).mono ?_
    rintro e w1 ⟨rfl, rfl⟩
    go_wp2_with fail
    go_ret
    exact ⟨ret_int HV.out.symm, below_al w _⟩
set_option maxHeartbeats 4000000 in
theorem rcheck_1 (n f t : Int) (s : ByteArray) (w : World) (hs : s.size ≤ maxLen) : RChk ⟨1, n, f, t, s⟩ w := by
  have DO : Hid (∀ W, Calls Try.prog 31 #[.int .i64 1, .int .i64 1, .int .i64 12] W fun e w' => e = .returned (.bool false) ∧ W = w') := Lib.hid (fun W => rout_any 1 1 12 W)
  have DT : Hid (∀ W, Calls Try.prog 66 #[.int .i64 1] W fun e w' => e = .returned (.bool true) ∧ W = w') := Lib.hid (fun W => rtext_any 1 W)
  have DN : Hid (∀ W, Calls Try.prog 67 #[.int .i64 1] W fun e w' => e = .returned (.bool false) ∧ W = w') := Lib.hid (fun W => rn_any 1 W)
  have DS : Hid (∀ W, Calls Try.prog 68 #[.int .i64 1] W fun e w' => e = .returned (.bool false) ∧ W = w') := Lib.hid (fun W => rspan_any 1 W)
  unfold RChk edV
  by_cases h1 : n = 0
  case neg =>
    have b1 := neT h1
    have HV := Lib.hid (show chkE ⟨1, n, f, t, s⟩ = 2 from chkE_form (b := false) (by simp) (by simp [formE, h1]))
    clear h1
    go_enter Try.func39, Try.ntmps39
    go_wp2_with fail
    refine (DO.out _).mono ?_
    rintro e w1 ⟨rfl, rfl⟩
    go_wp2_with fail
    refine (DT.out _).mono ?_
    rintro e w1 ⟨rfl, rfl⟩
    go_wp2_with fail
    refine (DN.out _).mono ?_
    rintro e w1 ⟨rfl, rfl⟩
    go_wp2_with fail
    go_ret
    exact ⟨ret_int HV.out.symm, below_al w _⟩
  have b1 := neF h1
  by_cases h2 : f = 0
  case neg =>
    have b2 := neT h2
    have HV := Lib.hid (show chkE ⟨1, n, f, t, s⟩ = 2 from chkE_form (b := false) (by simp) (by simp [formE, h2]))
    clear h1 h2
    go_enter Try.func39, Try.ntmps39
    go_wp2_with fail
    refine (DO.out _).mono ?_
    rintro e w1 ⟨rfl, rfl⟩
    go_wp2_with fail
    refine (DT.out _).mono ?_
    rintro e w1 ⟨rfl, rfl⟩
    go_wp2_with fail
    refine (DN.out _).mono ?_
    rintro e w1 ⟨rfl, rfl⟩
    go_wp2_with fail
    refine (DS.out _).mono ?_
    rintro e w1 ⟨rfl, rfl⟩
    go_wp2_with fail
    go_ret
    exact ⟨ret_int HV.out.symm, below_al w _⟩
  have b2 := neF h2
  by_cases h3 : t = 0
  case neg =>
    have b3 := neT h3
    have HV := Lib.hid (show chkE ⟨1, n, f, t, s⟩ = 2 from chkE_form (b := false) (by simp) (by simp [formE, h3]))
    clear h1 h2 h3
    go_enter Try.func39, Try.ntmps39
    go_wp2_with fail
    refine (DO.out _).mono ?_
    rintro e w1 ⟨rfl, rfl⟩
    go_wp2_with fail
    refine (DT.out _).mono ?_
    rintro e w1 ⟨rfl, rfl⟩
    go_wp2_with fail
    refine (DN.out _).mono ?_
    rintro e w1 ⟨rfl, rfl⟩
    go_wp2_with fail
    refine (DS.out _).mono ?_
    rintro e w1 ⟨rfl, rfl⟩
    go_wp2_with fail
    go_ret
    exact ⟨ret_int HV.out.symm, below_al w _⟩
  have b3 := neF h3
  have HV0 := Lib.hid (show chkE ⟨1, n, f, t, s⟩ = if nameB s = true then 0 else 8 from (chkE_form (b := true) (by simp) (by simp [formE, h1, h2, h3])).trans (by simp [fieldE]))
  have DB := Lib.hid (fun W => risName_any s W hs)
  clear h1 h2 h3 hs
  generalize nameB s = b at *
  cases b
  all_goals
    have HV := Lib.hid (HV0.out)
    go_enter Try.func39, Try.ntmps39
    go_wp2_with fail
    refine (DO.out _).mono ?_
    rintro e w1 ⟨rfl, rfl⟩
    go_wp2_with fail
    refine (DT.out _).mono ?_
    rintro e w1 ⟨rfl, rfl⟩
    go_wp2_with fail
    refine (DN.out _).mono ?_
    rintro e w1 ⟨rfl, rfl⟩
    go_wp2_with fail
    refine (DS.out _).mono ?_
    rintro e w1 ⟨rfl, rfl⟩
    go_wp2_with fail
    refine (DB.out _).mono ?_
    rintro e w1 ⟨rfl, rfl⟩
    go_wp2_with fail
    go_ret
    exact ⟨ret_int HV.out.symm, below_al w _⟩
set_option maxHeartbeats 4000000 in
theorem rcheck_3 (n f t : Int) (s : ByteArray) (w : World) (hs : s.size ≤ maxLen) : RChk ⟨3, n, f, t, s⟩ w := by
  have DO : Hid (∀ W, Calls Try.prog 31 #[.int .i64 3, .int .i64 1, .int .i64 12] W fun e w' => e = .returned (.bool false) ∧ W = w') := Lib.hid (fun W => rout_any 3 1 12 W)
  have DT : Hid (∀ W, Calls Try.prog 66 #[.int .i64 3] W fun e w' => e = .returned (.bool true) ∧ W = w') := Lib.hid (fun W => rtext_any 3 W)
  have DN : Hid (∀ W, Calls Try.prog 67 #[.int .i64 3] W fun e w' => e = .returned (.bool false) ∧ W = w') := Lib.hid (fun W => rn_any 3 W)
  have DS : Hid (∀ W, Calls Try.prog 68 #[.int .i64 3] W fun e w' => e = .returned (.bool false) ∧ W = w') := Lib.hid (fun W => rspan_any 3 W)
  unfold RChk edV
  by_cases h1 : n = 0
  case neg =>
    have b1 := neT h1
    have HV := Lib.hid (show chkE ⟨3, n, f, t, s⟩ = 2 from chkE_form (b := false) (by simp) (by simp [formE, h1]))
    clear h1
    go_enter Try.func39, Try.ntmps39
    go_wp2_with fail
    refine (DO.out _).mono ?_
    rintro e w1 ⟨rfl, rfl⟩
    go_wp2_with fail
    refine (DT.out _).mono ?_
    rintro e w1 ⟨rfl, rfl⟩
    go_wp2_with fail
    refine (DN.out _).mono ?_
    rintro e w1 ⟨rfl, rfl⟩
    go_wp2_with fail
    go_ret
    exact ⟨ret_int HV.out.symm, below_al w _⟩
  have b1 := neF h1
  by_cases h2 : f = 0
  case neg =>
    have b2 := neT h2
    have HV := Lib.hid (show chkE ⟨3, n, f, t, s⟩ = 2 from chkE_form (b := false) (by simp) (by simp [formE, h2]))
    clear h1 h2
    go_enter Try.func39, Try.ntmps39
    go_wp2_with fail
    refine (DO.out _).mono ?_
    rintro e w1 ⟨rfl, rfl⟩
    go_wp2_with fail
    refine (DT.out _).mono ?_
    rintro e w1 ⟨rfl, rfl⟩
    go_wp2_with fail
    refine (DN.out _).mono ?_
    rintro e w1 ⟨rfl, rfl⟩
    go_wp2_with fail
    refine (DS.out _).mono ?_
    rintro e w1 ⟨rfl, rfl⟩
    go_wp2_with fail
    go_ret
    exact ⟨ret_int HV.out.symm, below_al w _⟩
  have b2 := neF h2
  by_cases h3 : t = 0
  case neg =>
    have b3 := neT h3
    have HV := Lib.hid (show chkE ⟨3, n, f, t, s⟩ = 2 from chkE_form (b := false) (by simp) (by simp [formE, h3]))
    clear h1 h2 h3
    go_enter Try.func39, Try.ntmps39
    go_wp2_with fail
    refine (DO.out _).mono ?_
    rintro e w1 ⟨rfl, rfl⟩
    go_wp2_with fail
    refine (DT.out _).mono ?_
    rintro e w1 ⟨rfl, rfl⟩
    go_wp2_with fail
    refine (DN.out _).mono ?_
    rintro e w1 ⟨rfl, rfl⟩
    go_wp2_with fail
    refine (DS.out _).mono ?_
    rintro e w1 ⟨rfl, rfl⟩
    go_wp2_with fail
    go_ret
    exact ⟨ret_int HV.out.symm, below_al w _⟩
  have b3 := neF h3
  have HV0 := Lib.hid (show chkE ⟨3, n, f, t, s⟩ = if nameB s = true then 0 else 8 from (chkE_form (b := true) (by simp) (by simp [formE, h1, h2, h3])).trans (by simp [fieldE]))
  have DB := Lib.hid (fun W => risName_any s W hs)
  clear h1 h2 h3 hs
  generalize nameB s = b at *
  cases b
  all_goals
    have HV := Lib.hid (HV0.out)
    go_enter Try.func39, Try.ntmps39
    go_wp2_with fail
    refine (DO.out _).mono ?_
    rintro e w1 ⟨rfl, rfl⟩
    go_wp2_with fail
    refine (DT.out _).mono ?_
    rintro e w1 ⟨rfl, rfl⟩
    go_wp2_with fail
    refine (DN.out _).mono ?_
    rintro e w1 ⟨rfl, rfl⟩
    go_wp2_with fail
    refine (DS.out _).mono ?_
    rintro e w1 ⟨rfl, rfl⟩
    go_wp2_with fail
    refine (DB.out _).mono ?_
    rintro e w1 ⟨rfl, rfl⟩
    go_wp2_with fail
    go_ret
    exact ⟨ret_int HV.out.symm, below_al w _⟩
set_option maxHeartbeats 4000000 in
theorem rcheck_4 (n f t : Int) (s : ByteArray) (w : World) (hs : s.size ≤ maxLen) : RChk ⟨4, n, f, t, s⟩ w := by
  have DO : Hid (∀ W, Calls Try.prog 31 #[.int .i64 4, .int .i64 1, .int .i64 12] W fun e w' => e = .returned (.bool false) ∧ W = w') := Lib.hid (fun W => rout_any 4 1 12 W)
  have DT : Hid (∀ W, Calls Try.prog 66 #[.int .i64 4] W fun e w' => e = .returned (.bool true) ∧ W = w') := Lib.hid (fun W => rtext_any 4 W)
  have DN : Hid (∀ W, Calls Try.prog 67 #[.int .i64 4] W fun e w' => e = .returned (.bool false) ∧ W = w') := Lib.hid (fun W => rn_any 4 W)
  have DS : Hid (∀ W, Calls Try.prog 68 #[.int .i64 4] W fun e w' => e = .returned (.bool false) ∧ W = w') := Lib.hid (fun W => rspan_any 4 W)
  unfold RChk edV
  by_cases h1 : n = 0
  case neg =>
    have b1 := neT h1
    have HV := Lib.hid (show chkE ⟨4, n, f, t, s⟩ = 2 from chkE_form (b := false) (by simp) (by simp [formE, h1]))
    clear h1
    go_enter Try.func39, Try.ntmps39
    go_wp2_with fail
    refine (DO.out _).mono ?_
    rintro e w1 ⟨rfl, rfl⟩
    go_wp2_with fail
    refine (DT.out _).mono ?_
    rintro e w1 ⟨rfl, rfl⟩
    go_wp2_with fail
    refine (DN.out _).mono ?_
    rintro e w1 ⟨rfl, rfl⟩
    go_wp2_with fail
    go_ret
    exact ⟨ret_int HV.out.symm, below_al w _⟩
  have b1 := neF h1
  by_cases h2 : f = 0
  case neg =>
    have b2 := neT h2
    have HV := Lib.hid (show chkE ⟨4, n, f, t, s⟩ = 2 from chkE_form (b := false) (by simp) (by simp [formE, h2]))
    clear h1 h2
    go_enter Try.func39, Try.ntmps39
    go_wp2_with fail
    refine (DO.out _).mono ?_
    rintro e w1 ⟨rfl, rfl⟩
    go_wp2_with fail
    refine (DT.out _).mono ?_
    rintro e w1 ⟨rfl, rfl⟩
    go_wp2_with fail
    refine (DN.out _).mono ?_
    rintro e w1 ⟨rfl, rfl⟩
    go_wp2_with fail
    refine (DS.out _).mono ?_
    rintro e w1 ⟨rfl, rfl⟩
    go_wp2_with fail
    go_ret
    exact ⟨ret_int HV.out.symm, below_al w _⟩
  have b2 := neF h2
  by_cases h3 : t = 0
  case neg =>
    have b3 := neT h3
    have HV := Lib.hid (show chkE ⟨4, n, f, t, s⟩ = 2 from chkE_form (b := false) (by simp) (by simp [formE, h3]))
    clear h1 h2 h3
    go_enter Try.func39, Try.ntmps39
    go_wp2_with fail
    refine (DO.out _).mono ?_
    rintro e w1 ⟨rfl, rfl⟩
    go_wp2_with fail
    refine (DT.out _).mono ?_
    rintro e w1 ⟨rfl, rfl⟩
    go_wp2_with fail
    refine (DN.out _).mono ?_
    rintro e w1 ⟨rfl, rfl⟩
    go_wp2_with fail
    refine (DS.out _).mono ?_
    rintro e w1 ⟨rfl, rfl⟩
    go_wp2_with fail
    go_ret
    exact ⟨ret_int HV.out.symm, below_al w _⟩
  have b3 := neF h3
  have HV0 := Lib.hid (show chkE ⟨4, n, f, t, s⟩ = if nameB s = true then 0 else 8 from (chkE_form (b := true) (by simp) (by simp [formE, h1, h2, h3])).trans (by simp [fieldE]))
  have DB := Lib.hid (fun W => risName_any s W hs)
  clear h1 h2 h3 hs
  generalize nameB s = b at *
  cases b
  all_goals
    have HV := Lib.hid (HV0.out)
    go_enter Try.func39, Try.ntmps39
    go_wp2_with fail
    refine (DO.out _).mono ?_
    rintro e w1 ⟨rfl, rfl⟩
    go_wp2_with fail
    refine (DT.out _).mono ?_
    rintro e w1 ⟨rfl, rfl⟩
    go_wp2_with fail
    refine (DN.out _).mono ?_
    rintro e w1 ⟨rfl, rfl⟩
    go_wp2_with fail
    refine (DS.out _).mono ?_
    rintro e w1 ⟨rfl, rfl⟩
    go_wp2_with fail
    refine (DB.out _).mono ?_
    rintro e w1 ⟨rfl, rfl⟩
    go_wp2_with fail
    go_ret
    exact ⟨ret_int HV.out.symm, below_al w _⟩
set_option maxHeartbeats 4000000 in
theorem rcheck_8 (n f t : Int) (s : ByteArray) (w : World) (_ : s.size ≤ maxLen) : RChk ⟨8, n, f, t, s⟩ w := by
  have DO : Hid (∀ W, Calls Try.prog 31 #[.int .i64 8, .int .i64 1, .int .i64 12] W fun e w' => e = .returned (.bool false) ∧ W = w') := Lib.hid (fun W => rout_any 8 1 12 W)
  have DT : Hid (∀ W, Calls Try.prog 66 #[.int .i64 8] W fun e w' => e = .returned (.bool false) ∧ W = w') := Lib.hid (fun W => rtext_any 8 W)
  have DN : Hid (∀ W, Calls Try.prog 67 #[.int .i64 8] W fun e w' => e = .returned (.bool false) ∧ W = w') := Lib.hid (fun W => rn_any 8 W)
  have DS : Hid (∀ W, Calls Try.prog 68 #[.int .i64 8] W fun e w' => e = .returned (.bool true) ∧ W = w') := Lib.hid (fun W => rspan_any 8 W)
  unfold RChk edV
  by_cases h0 : s.size = 0
  case neg =>
    have q1 := str_eq1 h0
    have q2 := str_ne1 h0
    have HV := Lib.hid (show chkE ⟨8, n, f, t, s⟩ = 2 from chkE_form (b := false) (by simp) (by simp [formE, h0]))
    clear h0
    go_enter Try.func39, Try.ntmps39
    go_wp2_with fail
    refine (DO.out _).mono ?_
    rintro e w1 ⟨rfl, rfl⟩
    go_wp2_with fail
    refine (DT.out _).mono ?_
    rintro e w1 ⟨rfl, rfl⟩
    go_wp2_with fail
    go_ret
    exact ⟨ret_int HV.out.symm, below_al w _⟩
  have HZ := Lib.hid h0
  have q1 := str_eq0 h0
  have q2 := str_ne0 h0
  by_cases h1 : n = 0
  case neg =>
    have b1 := neT h1
    have HV := Lib.hid (show chkE ⟨8, n, f, t, s⟩ = 2 from chkE_form (b := false) (by simp) (by simp [formE, h1]))
    clear h0 h1
    go_enter Try.func39, Try.ntmps39
    go_wp2_with fail
    refine (DO.out _).mono ?_
    rintro e w1 ⟨rfl, rfl⟩
    go_wp2_with fail
    refine (DT.out _).mono ?_
    rintro e w1 ⟨rfl, rfl⟩
    go_wp2_with fail
    refine (DN.out _).mono ?_
    rintro e w1 ⟨rfl, rfl⟩
    go_wp2_with fail
    go_ret
    exact ⟨ret_int HV.out.symm, below_al w _⟩
  have b1 := neF h1
  have HV0 := Lib.hid (show chkE ⟨8, n, f, t, s⟩ = fieldE ⟨8, n, f, t, s⟩ from (chkE_form (b := true) (by simp) (by simp [formE, h0, h1])))
  clear h1 h0 
  by_cases g0 : f < 0
  case pos =>
    have d0 : decide (f < 0) = true := decide_eq_true g0
    have HV := Lib.hid (show chkE ⟨8, n, f, t, s⟩ = 9 by
      rw [HV0.out]
      unfold fieldE
      rw [if_neg (by simp), if_neg (by simp), if_neg (by simp), if_neg (by simp), if_neg (by simp), if_neg (by simp), if_neg (by simp), if_neg (by simp), if_pos (by simp only; omega)])
    clear g0 HV0
    go_enter Try.func39, Try.ntmps39
    go_wp2_with fail
    refine (DO.out _).mono ?_
    rintro e w1 ⟨rfl, rfl⟩
    go_wp2_with fail
    refine (DT.out _).mono ?_
    rintro e w1 ⟨rfl, rfl⟩
    go_wp2_with fail
    refine (DN.out _).mono ?_
    rintro e w1 ⟨rfl, rfl⟩
    go_wp2_with fail
    refine (DS.out _).mono ?_
    rintro e w1 ⟨rfl, rfl⟩
    go_wp2_with fail
    refine (DS.out _).mono ?_
    rintro e w1 ⟨rfl, rfl⟩
    go_wp2_with fail
    go_ret
    exact ⟨ret_int HV.out.symm, below_al w _⟩
  have d0 : decide (f < 0) = false := decide_eq_false g0
  by_cases g1 : t ≤ f
  case pos =>
    have d1 : decide (t ≤ f) = true := decide_eq_true g1
    have HV := Lib.hid (show chkE ⟨8, n, f, t, s⟩ = 9 by
      rw [HV0.out]
      unfold fieldE
      rw [if_neg (by simp), if_neg (by simp), if_neg (by simp), if_neg (by simp), if_neg (by simp), if_neg (by simp), if_neg (by simp), if_neg (by simp), if_pos (by simp only; omega)])
    clear g0 g1 HV0
    go_enter Try.func39, Try.ntmps39
    go_wp2_with fail
    refine (DO.out _).mono ?_
    rintro e w1 ⟨rfl, rfl⟩
    go_wp2_with fail
    refine (DT.out _).mono ?_
    rintro e w1 ⟨rfl, rfl⟩
    go_wp2_with fail
    refine (DN.out _).mono ?_
    rintro e w1 ⟨rfl, rfl⟩
    go_wp2_with fail
    refine (DS.out _).mono ?_
    rintro e w1 ⟨rfl, rfl⟩
    go_wp2_with fail
    refine (DS.out _).mono ?_
    rintro e w1 ⟨rfl, rfl⟩
    go_wp2_with fail
    go_ret
    exact ⟨ret_int HV.out.symm, below_al w _⟩
  have d1 : decide (t ≤ f) = false := decide_eq_false g1
  by_cases g2 : 1000000 < t
  case pos =>
    have d2 : decide ((1000000 : Int) < t) = true := decide_eq_true g2
    have HV := Lib.hid (show chkE ⟨8, n, f, t, s⟩ = 9 by
      rw [HV0.out]
      unfold fieldE
      rw [if_neg (by simp), if_neg (by simp), if_neg (by simp), if_neg (by simp), if_neg (by simp), if_neg (by simp), if_neg (by simp), if_neg (by simp), if_pos (by simp only; omega)])
    clear g0 g1 g2 HV0
    go_enter Try.func39, Try.ntmps39
    go_wp2_with fail
    refine (DO.out _).mono ?_
    rintro e w1 ⟨rfl, rfl⟩
    go_wp2_with fail
    refine (DT.out _).mono ?_
    rintro e w1 ⟨rfl, rfl⟩
    go_wp2_with fail
    refine (DN.out _).mono ?_
    rintro e w1 ⟨rfl, rfl⟩
    go_wp2_with fail
    refine (DS.out _).mono ?_
    rintro e w1 ⟨rfl, rfl⟩
    go_wp2_with fail
    refine (DS.out _).mono ?_
    rintro e w1 ⟨rfl, rfl⟩
    go_wp2_with fail
    go_ret
    exact ⟨ret_int HV.out.symm, below_al w _⟩
  have d2 : decide ((1000000 : Int) < t) = false := decide_eq_false g2
  have HV1 := Lib.hid (show chkE ⟨8, n, f, t, s⟩ = if titleB s = true then 0 else 8 by
    rw [HV0.out]
    unfold fieldE
    rw [if_neg (by simp), if_neg (by simp), if_neg (by simp), if_neg (by simp), if_neg (by simp), if_neg (by simp), if_neg (by simp), if_neg (by simp), if_neg (by simp only; omega)])
  have HV := Lib.hid (HV1.out.trans (if_pos (show titleB s = true by
    cases s with
    | mk d =>
      have : d = #[] := Array.eq_empty_of_size_eq_zero HZ.out
      rw [this]
      rfl)))
  clear g0 g1 g2 HV0 HV1
  go_enter Try.func39, Try.ntmps39
  go_wp2_with fail
  refine (DO.out _).mono ?_
  rintro e w1 ⟨rfl, rfl⟩
  go_wp2_with fail
  refine (DT.out _).mono ?_
  rintro e w1 ⟨rfl, rfl⟩
  go_wp2_with fail
  refine (DN.out _).mono ?_
  rintro e w1 ⟨rfl, rfl⟩
  go_wp2_with fail
  refine (DS.out _).mono ?_
  rintro e w1 ⟨rfl, rfl⟩
  go_wp2_with fail
  refine (DS.out _).mono ?_
  rintro e w1 ⟨rfl, rfl⟩
  go_wp2_with fail
  go_ret
  exact ⟨ret_int HV.out.symm, below_al w _⟩
set_option maxHeartbeats 4000000 in
theorem rcheck_11 (n f t : Int) (s : ByteArray) (w : World) (hs : s.size ≤ maxLen) : RChk ⟨11, n, f, t, s⟩ w := by
  have DO : Hid (∀ W, Calls Try.prog 31 #[.int .i64 11, .int .i64 1, .int .i64 12] W fun e w' => e = .returned (.bool false) ∧ W = w') := Lib.hid (fun W => rout_any 11 1 12 W)
  have DT : Hid (∀ W, Calls Try.prog 66 #[.int .i64 11] W fun e w' => e = .returned (.bool true) ∧ W = w') := Lib.hid (fun W => rtext_any 11 W)
  have DN : Hid (∀ W, Calls Try.prog 67 #[.int .i64 11] W fun e w' => e = .returned (.bool false) ∧ W = w') := Lib.hid (fun W => rn_any 11 W)
  have DS : Hid (∀ W, Calls Try.prog 68 #[.int .i64 11] W fun e w' => e = .returned (.bool true) ∧ W = w') := Lib.hid (fun W => rspan_any 11 W)
  unfold RChk edV
  by_cases h1 : n = 0
  case neg =>
    have b1 := neT h1
    have HV := Lib.hid (show chkE ⟨11, n, f, t, s⟩ = 2 from chkE_form (b := false) (by simp) (by simp [formE, h1]))
    clear h1
    go_enter Try.func39, Try.ntmps39
    go_wp2_with fail
    refine (DO.out _).mono ?_
    rintro e w1 ⟨rfl, rfl⟩
    go_wp2_with fail
    refine (DT.out _).mono ?_
    rintro e w1 ⟨rfl, rfl⟩
    go_wp2_with fail
    refine (DN.out _).mono ?_
    rintro e w1 ⟨rfl, rfl⟩
    go_wp2_with fail
    go_ret
    exact ⟨ret_int HV.out.symm, below_al w _⟩
  have b1 := neF h1
  have HV0 := Lib.hid (show chkE ⟨11, n, f, t, s⟩ = fieldE ⟨11, n, f, t, s⟩ from (chkE_form (b := true) (by simp) (by simp [formE, h1])))
  clear h1 
  by_cases g0 : f < 0
  case pos =>
    have d0 : decide (f < 0) = true := decide_eq_true g0
    have HV := Lib.hid (show chkE ⟨11, n, f, t, s⟩ = 9 by
      rw [HV0.out]
      unfold fieldE
      rw [if_neg (by simp), if_neg (by simp), if_neg (by simp), if_neg (by simp), if_neg (by simp), if_neg (by simp), if_neg (by simp), if_neg (by simp), if_pos (by simp only; omega)])
    clear g0 HV0
    go_enter Try.func39, Try.ntmps39
    go_wp2_with fail
    refine (DO.out _).mono ?_
    rintro e w1 ⟨rfl, rfl⟩
    go_wp2_with fail
    refine (DT.out _).mono ?_
    rintro e w1 ⟨rfl, rfl⟩
    go_wp2_with fail
    refine (DN.out _).mono ?_
    rintro e w1 ⟨rfl, rfl⟩
    go_wp2_with fail
    refine (DS.out _).mono ?_
    rintro e w1 ⟨rfl, rfl⟩
    go_wp2_with fail
    refine (DS.out _).mono ?_
    rintro e w1 ⟨rfl, rfl⟩
    go_wp2_with fail
    go_ret
    exact ⟨ret_int HV.out.symm, below_al w _⟩
  have d0 : decide (f < 0) = false := decide_eq_false g0
  by_cases g1 : t ≤ f
  case pos =>
    have d1 : decide (t ≤ f) = true := decide_eq_true g1
    have HV := Lib.hid (show chkE ⟨11, n, f, t, s⟩ = 9 by
      rw [HV0.out]
      unfold fieldE
      rw [if_neg (by simp), if_neg (by simp), if_neg (by simp), if_neg (by simp), if_neg (by simp), if_neg (by simp), if_neg (by simp), if_neg (by simp), if_pos (by simp only; omega)])
    clear g0 g1 HV0
    go_enter Try.func39, Try.ntmps39
    go_wp2_with fail
    refine (DO.out _).mono ?_
    rintro e w1 ⟨rfl, rfl⟩
    go_wp2_with fail
    refine (DT.out _).mono ?_
    rintro e w1 ⟨rfl, rfl⟩
    go_wp2_with fail
    refine (DN.out _).mono ?_
    rintro e w1 ⟨rfl, rfl⟩
    go_wp2_with fail
    refine (DS.out _).mono ?_
    rintro e w1 ⟨rfl, rfl⟩
    go_wp2_with fail
    refine (DS.out _).mono ?_
    rintro e w1 ⟨rfl, rfl⟩
    go_wp2_with fail
    go_ret
    exact ⟨ret_int HV.out.symm, below_al w _⟩
  have d1 : decide (t ≤ f) = false := decide_eq_false g1
  by_cases g2 : 1000000 < t
  case pos =>
    have d2 : decide ((1000000 : Int) < t) = true := decide_eq_true g2
    have HV := Lib.hid (show chkE ⟨11, n, f, t, s⟩ = 9 by
      rw [HV0.out]
      unfold fieldE
      rw [if_neg (by simp), if_neg (by simp), if_neg (by simp), if_neg (by simp), if_neg (by simp), if_neg (by simp), if_neg (by simp), if_neg (by simp), if_pos (by simp only; omega)])
    clear g0 g1 g2 HV0
    go_enter Try.func39, Try.ntmps39
    go_wp2_with fail
    refine (DO.out _).mono ?_
    rintro e w1 ⟨rfl, rfl⟩
    go_wp2_with fail
    refine (DT.out _).mono ?_
    rintro e w1 ⟨rfl, rfl⟩
    go_wp2_with fail
    refine (DN.out _).mono ?_
    rintro e w1 ⟨rfl, rfl⟩
    go_wp2_with fail
    refine (DS.out _).mono ?_
    rintro e w1 ⟨rfl, rfl⟩
    go_wp2_with fail
    refine (DS.out _).mono ?_
    rintro e w1 ⟨rfl, rfl⟩
    go_wp2_with fail
    go_ret
    exact ⟨ret_int HV.out.symm, below_al w _⟩
  have d2 : decide ((1000000 : Int) < t) = false := decide_eq_false g2
  have HV1 := Lib.hid (show chkE ⟨11, n, f, t, s⟩ = if titleB s = true then 0 else 8 by
    rw [HV0.out]
    unfold fieldE
    rw [if_neg (by simp), if_neg (by simp), if_neg (by simp), if_neg (by simp), if_neg (by simp), if_neg (by simp), if_neg (by simp), if_neg (by simp), if_neg (by simp only; omega)])
  have DB := Lib.hid (fun W => rlap_any s W hs)
  clear g0 g1 g2 HV0 hs
  generalize titleB s = b at *
  cases b
  all_goals
    have HV := Lib.hid (HV1.out)
    go_enter Try.func39, Try.ntmps39
    go_wp2_with fail
    refine (DO.out _).mono ?_
    rintro e w1 ⟨rfl, rfl⟩
    go_wp2_with fail
    refine (DT.out _).mono ?_
    rintro e w1 ⟨rfl, rfl⟩
    go_wp2_with fail
    refine (DN.out _).mono ?_
    rintro e w1 ⟨rfl, rfl⟩
    go_wp2_with fail
    refine (DS.out _).mono ?_
    rintro e w1 ⟨rfl, rfl⟩
    go_wp2_with fail
    refine (DS.out _).mono ?_
    rintro e w1 ⟨rfl, rfl⟩
    go_wp2_with fail
    refine (DB.out _).mono ?_
    rintro e w1 ⟨rfl, rfl⟩
    go_wp2_with fail
    go_ret
    exact ⟨ret_int HV.out.symm, below_al w _⟩
set_option maxHeartbeats 4000000 in
theorem rcheck_any (x : Ed) (w : World) (hs : x.s.size ≤ maxLen) : RChk x w := by
  obtain ⟨k, n, f, t, s⟩ := x
  rcases kinds k with rfl | rfl | rfl | rfl | rfl | rfl | rfl | rfl | rfl | rfl | rfl | rfl | h | h
  · exact rcheck_1 n f t s w hs
  · exact rcheck_2 n f t s w hs
  · exact rcheck_3 n f t s w hs
  · exact rcheck_4 n f t s w hs
  · exact rcheck_5 n f t s w hs
  · exact rcheck_6 n f t s w hs
  · exact rcheck_7 n f t s w hs
  · exact rcheck_8 n f t s w hs
  · exact rcheck_9 n f t s w hs
  · exact rcheck_10 n f t s w hs
  · exact rcheck_11 n f t s w hs
  · exact rcheck_12 n f t s w hs
  all_goals
    have HV := Lib.hid (show chkE ⟨k, n, f, t, s⟩ = 7 by
      unfold chkE
      rw [if_pos (by simp only; omega)])
    have DO : Hid (∀ W, Calls Try.prog 31 #[.int .i64 k, .int .i64 1, .int .i64 12] W fun e w' => e = .returned (.bool true) ∧ W = w') := Lib.hid (fun W => by
      have := rout_any k 1 12 W
      rwa [show (!inR k 1 12) = true by simp [inR]; omega] at this)
    unfold RChk edV
    clear h hs
    go_enter Try.func39, Try.ntmps39
    go_wp2_with fail
    refine (DO.out _).mono ?_
    rintro e w1 ⟨rfl, rfl⟩
    go_wp2_with fail
    go_ret
    exact ⟨ret_int HV.out.symm, below_al w _⟩
end Go.Proofs.Ytckjdpnmalkpnaa

/- Edits: checkAll and replaced of the reference. -/
namespace Go.Proofs.Ytckjdpnmalkpnaa
open Go.RowKit Go.BigFrame
open Tr (Ed inR)

set_option maxHeartbeats 2000000 in
set_option maxRecDepth 100000 in
theorem rcheckAll_any (a : Option Addr) (l : List Ed) (c : Nat) (w : World) (hr : ERow w a l) (hs : ∀ x, x ∈ l → x.s.size ≤ maxLen) :
    Calls Try.prog 21 #[.slice a l.length c] w fun e w' => e = .returned (.int .i64 (chkEL l)) ∧ Below w.heap.size w w' := by
  have HR := Lib.hid hr
  have DC := Lib.hid (fun (x : Ed) (hx : x ∈ l) (W : World) => show Calls Try.prog 39 #[edV x] W _ from rcheck_any x W (hs x hx))
  obtain ⟨nl, hnl⟩ : ∃ n, l.length = n := ⟨_, rfl⟩
  have HV : Hid (chkEL l = if 200 < nl then 3 else chkEs l) := Lib.hid (by unfold chkEL; rw [hnl])
  have HN := Lib.hid hnl
  rw [hnl]
  clear hr hs hnl
  by_cases hbig : 200 < nl
  · have t1 : decide ((200 : Int) < (nl : Int)) = true := by rw [decide_eq_true_eq]; omega
    have HV2 := Lib.hid (HV.out.trans (if_pos hbig))
    clear hbig HV
    go_enter Try.func21, Try.ntmps21
    go_wp2_with fail
    go_ret
    exact ⟨by rw [HV2.out]; rfl, Below.refl _ _⟩
  · have t1 : decide ((200 : Int) < (nl : Int)) = false := by rw [decide_eq_false_iff_not]; omega
    have HV2 := Lib.hid (HV.out.trans (if_neg hbig))
    clear HV
    go_enter Try.func21, Try.ntmps21
    go_wp2_with fail
    go_loopw [11] (fun iv wr => ∃ (k : Nat), iv = .int .i64 k ∧ k ≤ nl ∧ Hid (chkEs l = chkEs (l.drop k)) ∧ ∃ X : Ext w, wr = X.1) (fun iv _ => nl - (intOf iv).toNat)
    case atStart => exact ⟨0, rfl, by omega, Lib.hid rfl, ⟨w, Below.refl _ _⟩, rfl⟩
    case round =>
      obtain ⟨k, rfl, hk, HE, X, rfl⟩ := hrel
      by_cases hlt : k < nl
      · have t2 : decide ((k : Int) < (nl : Int)) = true := by rw [decide_eq_true_eq]; omega
        have t2' : decide (k < nl) = true := by simpa using hlt
        obtain ⟨x, hx⟩ : ∃ x, l[k]? = some x := ⟨_, List.getElem?_eq_getElem (by rw [HN.out]; exact hlt)⟩
        obtain ⟨b, off, rfl, hb, e0, e1, e2, e3, e4⟩ := (HR.out.below X.2).at hx
        have DX := Lib.hid (DC.out x (List.mem_of_getElem? hx))
        obtain ⟨hn1, hn2⟩ := chkEs_drop hx HE.out
        obtain ⟨r, hr⟩ : ∃ r, chkE x = r := ⟨_, rfl⟩
        rw [hr] at DX hn1 hn2
        obtain ⟨V1, hV1, hvb, hvs, hvl⟩ := alloc_cells X.1 #[.int .i64 x.k, .int .i64 x.n, .int .i64 x.f, .int .i64 x.t, .string x.s] 28
        have u0 := hvl 0 _ rfl
        have u1 := hvl 1 _ rfl
        have u2 := hvl 2 _ rfl
        have u3 := hvl 3 _ rfl
        have u4 := hvl 4 _ rfl
        have HV1 := Lib.hid hV1
        have HB1 := Lib.hid (X.2.trans (hvb.mono X.2.size))
        unfold edV at DX
        clear hx hr hV1 hvb hvs hvl HE
        by_cases h0 : r = 0
        · subst h0
          have HN2 := Lib.hid (hn2 rfl)
          clear hn1 hn2
          go_wp2_with fail
          rw [HV1.out]
          go_wp2_with fail
          refine (DX.out _).mono ?_
          rintro e w1 ⟨rfl, hb2⟩
          obtain ⟨Z, rfl⟩ : ∃ Z : Ext w, w1 = Z.1 := ⟨⟨w1, HB1.out.trans (hb2.mono HB1.out.size)⟩, rfl⟩
          clear hb2
          go_wp2_with fail
          go_roundw
          case rel => exact ⟨k + 1, by go_num, by omega, HN2, Z, rfl⟩
          case measure => simp [intOf]; omega
        · have HN1 := Lib.hid (hn1 h0)
          have hbne : (r != 0) = true := by rw [bne_iff_ne]; exact h0
          clear hn1 hn2 h0
          go_wp2_with fail
          rw [HV1.out]
          go_wp2_with fail
          refine (DX.out _).mono ?_
          rintro e w1 ⟨rfl, hb2⟩
          have HB2 := Lib.hid (HB1.out.trans (hb2.mono HB1.out.size))
          clear hb2
          go_wp2_with fail
          go_ret
          exact ⟨by rw [HV2.out, HN1.out]; rfl, HB2.out⟩
      · have t2 : decide ((k : Int) < (nl : Int)) = false := by rw [decide_eq_false_iff_not]; omega
        have t2' : decide (k < nl) = false := by simpa using hlt
        have HF := Lib.hid (show chkEs l = 0 by
          rw [HE.out, List.drop_eq_nil_of_le (by rw [HN.out]; omega)]
          rfl)
        have HX := Lib.hid X.2
        clear hlt HE
        go_wp2_with fail
        go_ret
        exact ⟨by rw [HV2.out, HF.out]; rfl, HX.out⟩
end Go.Proofs.Ytckjdpnmalkpnaa

/- Tidy of the reference. -/
namespace Go.Proofs.Ytckjdpnmalkpnaa
open Go.RowKit Go.BigFrame
open Tr (Ed)

theorem ERow.uniq {w : World} {a : Option Addr} {l m : List Ed} (h : ERow w a l) (k : ERow w a m) (hn : l.length = m.length) : l = m := by
  apply List.ext_getElem? 
  intro i
  cases hl : l[i]? with
  | none => 
    rw [List.getElem?_eq_none_iff] at hl
    exact (List.getElem?_eq_none (by omega)).symm
  | some x =>
    have hi := (List.getElem?_eq_some_iff.1 hl).1
    obtain ⟨y, hy⟩ : ∃ y, m[i]? = some y := ⟨_, List.getElem?_eq_getElem (by omega)⟩
    rw [hy]
    obtain ⟨b, off, e, _, x0, x1, x2, x3, x4⟩ := h.at hl
    obtain ⟨b', off', e', _, y0, y1, y2, y3, y4⟩ := k.at hy
    rw [e] at e'
    injection e' with e'
    injection e' with e1 e2
    subst e1 e2
    rw [x0] at y0
    rw [x1] at y1
    rw [x2] at y2
    rw [x3] at y3
    rw [x4] at y4
    injection y0 with y0; injection y0 with _ y0
    injection y1 with y1; injection y1 with _ y1
    injection y2 with y2; injection y2 with _ y2
    injection y3 with y3; injection y3 with _ y3
    injection y4 with y4; injection y4 with y4
    rw [Tr.Ed.ext' y0 y1 y2 y3 y4]
theorem eps_row {w : World} {a : Option Addr} {c : Nat} {l : List Ed} (h : ERow w a l) : Classical.epsilon (fun m => ∃ a' c', Value.slice a l.length c = .slice a' m.length c' ∧ ERow w a' m) = l := by
  obtain ⟨a', c', e, h'⟩ := Classical.epsilon_spec (p := fun m => ∃ a' c', Value.slice a l.length c = .slice a' m.length c' ∧ ERow w a' m) ⟨l, a, c, rfl, h⟩
  injection e with e1 e2 e3
  subst e1
  exact h'.uniq h e2.symm
theorem shorter_nil (a : Option Addr) (c : Nat) (w : World) : Calls Try.prog 22 #[.slice a 0 c] w fun e w' => ShR w [] e w' := by
  go_enter Try.func22, Try.ntmps22
  go_wp2_with fail
  go_loopw [12] (fun iv wr => iv = .int .i64 0 ∧ w = wr) (fun _ _ => 0)
  case atStart => exact ⟨rfl, rfl⟩
  case round =>
    obtain ⟨rfl, rfl⟩ := hrel
    go_wp2_with fail
    go_loopw [6] (fun iv wr => iv = .int .i64 0 ∧ w = wr) (fun _ _ => 0)
    case atStart => exact ⟨rfl, rfl⟩
    case round =>
      obtain ⟨rfl, rfl⟩ := hrel
      go_wp2_with fail
      go_loopw [9] (fun iv wr => iv = .int .i64 0 ∧ w = wr) (fun _ _ => 0)
      case atStart => exact ⟨rfl, rfl⟩
      case round =>
        obtain ⟨rfl, rfl⟩ := hrel
        go_wp2_with fail
        go_ret2
        exact ⟨a, false, [], c, rfl, ⟨fun h => by cases h⟩, Nat.zero_le _, Below.refl _ _, rfl, fun _ => rfl⟩
theorem shorter_row (a : Option Addr) (l : List Ed) (c : Nat) (w : World) (hr : ERow w a l) (hnc : l.length ≤ c) (hl : l.length ≤ 200) (hc : ∀ x, x ∈ l → chkE x = 0) :
    Calls Try.prog 22 #[.slice a l.length c] w fun e w' => ShR w l e w' := by
  cases l with
  | nil => exact shorter_nil a c w
  | cons x l =>
    obtain ⟨b, off, rfl, _⟩ := hr.here (by simp)
    exact shorter_any b off (x :: l) c _ w hr rfl hnc hl hc
theorem rtidy_next {l m m' : List Ed} {w wr w3 : World} {a : Option Addr} {c : Nat} {b3 : Bool}
    (h : Below w.heap.size w wr ∧ m.length ≤ 200 ∧ (∀ x, x ∈ m → chkE x = 0) ∧ Tr.tidyL l = Tr.tidyL m ∧ (true = false → Tr.step m = none))
    (k : ERow w3 a m' ∧ m'.length ≤ c ∧ Below wr.heap.size wr w3 ∧ (Tr.step m = if b3 = true then some m' else none) ∧ (b3 = false → m' = m)) :
    (ERow w3 a m' ∧ m'.length ≤ c) ∧ Below w.heap.size w w3 ∧ m'.length ≤ 200 ∧ (∀ x, x ∈ m' → chkE x = 0) ∧ Tr.tidyL l = Tr.tidyL m' ∧ (b3 = false → Tr.step m' = none) := by
  obtain ⟨h2, h3, h4, h5, _⟩ := h
  obtain ⟨k1, kc, k2, k3, k4⟩ := k
  refine ⟨⟨k1, kc⟩, below_step h2 k2, ?_⟩
  cases b3
  · obtain rfl := k4 rfl
    exact ⟨h3, h4, h5, fun _ => k3⟩
  · exact ⟨Nat.le_trans (Tr.step_mu h3 k3).2 h3, Tr.step_all united_ok k3 h4, by rw [h5, Tr.tidyL_step h3 k3], fun h => by cases h⟩
set_option maxHeartbeats 2000000 in
theorem rtidy_any (a : Option Addr) (l : List Ed) (c : Nat) (w : World) (hr : ERow w a l) (hnc : l.length ≤ c) (hs : ∀ x, x ∈ l → x.s.size ≤ maxLen) :
    Calls Try.prog 9 #[.slice a l.length c] w fun e w' => (∃ v, e = .returned (.tuple #[v, .int .i64 (chkEL l)]) ∧ EdOwn w' w.heap.size v (tidyR l)) ∧ Below w.heap.size w w' := by
  have DC := Lib.hid (rcheckAll_any a l c w hr hs)
  have HR := Lib.hid (And.intro hr hnc)
  have HT : Hid (tidyR l = if chkEL l = 0 then Tr.tidyL l else []) := Lib.hid rfl
  have HCK := Lib.hid (fun (h : chkEL l = 0) => show l.length ≤ 200 ∧ ∀ x, x ∈ l → chkE x = 0 from by
    unfold chkEL at h
    split at h
    · cases h
    · exact ⟨by omega, chkEs_zero.1 h⟩)
  obtain ⟨n, hnn⟩ : ∃ n, l.length = n := ⟨_, rfl⟩
  rw [hnn] at DC ⊢
  have HNN := Lib.hid hnn
  generalize chkEL l = r at *
  clear hr hs hnn hnc
  by_cases h0 : r = 0
  · subst h0
    have HT2 := Lib.hid (HT.out.trans (if_pos rfl))
    have HC := Lib.hid (HCK.out rfl)
    clear HT HCK
    go_enter Try.func9, Try.ntmps9
    go_wp2_with fail
    refine DC.out.mono ?_
    rintro e w1 ⟨rfl, hb1⟩
    have HB := Lib.hid hb1
    clear hb1 DC
    go_wp2_with fail
    go_loopw [0, 5] (fun vv bv wr => ∃ (b : Bool) (a : Option Addr) (m : List Ed) (c : Nat), vv = .slice a m.length c ∧ bv = .bool b ∧ Hid ((ERow wr a m ∧ m.length ≤ c) ∧ Below w.heap.size w wr ∧ m.length ≤ 200 ∧ (∀ x, x ∈ m → chkE x = 0) ∧ Tr.tidyL l = Tr.tidyL m ∧ (b = false → Tr.step m = none)))
      (fun vv bv wr => 2 * Tr.mu (Classical.epsilon (fun m => ∃ a' c', vv = .slice a' m.length c' ∧ ERow wr a' m)) + (match bv with | .bool true => 1 | _ => 0))
    case atStart => exact ⟨true, a, l, c, by rw [HNN.out], rfl, Lib.hid ⟨⟨HR.out.1.below HB.out, HR.out.2⟩, HB.out, HC.out.1, HC.out.2, rfl, fun h => by cases h⟩⟩
    case round =>
      obtain ⟨b, a, m, c, rfl, rfl, HH⟩ := hrel
      cases b
      · have HF := Lib.hid (show tidyR l = m by
          obtain ⟨_, _, _, _, h5, h6⟩ := HH.out
          rw [HT2.out, h5, Tr.tidyL_none (h6 rfl)])
        obtain ⟨nm, hnm⟩ : ∃ n, m.length = n := ⟨_, rfl⟩
        have HNM := Lib.hid hnm
        rw [hnm]
        clear hnm
        go_wp2_with (at_builtin; refine append_eds rfl _ _ rfl rfl (EdOwn.nil wr wr.heap.size) rfl HNM.out HH.out.1.1 ?_ (Nat.le_refl _) (fun v1 w3 ho3 hg3 => ?_))
        case refine_1 => have := HH.out.2.2.1; have := HNM.out; simp; omega
        rw [List.nil_append] at ho3
        have HO := Lib.hid (And.intro (ho3.weaken HH.out.2.1.size) (show Below w.heap.size w w3 from HH.out.2.1.grown hg3 HH.out.2.1.size (by intro g hg; cases hg)))
        obtain ⟨a3, c3, rfl, _, _, _⟩ := ho3.row
        clear ho3 hg3
        go_wp2_with fail
        go_ret2
        exact ⟨⟨_, rfl, by rw [HF.out]; exact HO.out.1⟩, HO.out.2⟩
      · have DT := Lib.hid (shorter_row a m c wr HH.out.1.1 HH.out.1.2 HH.out.2.2.1 HH.out.2.2.2.1)
        obtain ⟨nm, hnm⟩ : ∃ n, m.length = n := ⟨_, rfl⟩
        have HNM := Lib.hid hnm
        rw [hnm] at DT ⊢
        clear hnm
        go_wp2_with fail
        refine DT.out.mono ?_
        rintro e w3 ⟨a3, b3, m3, c3, rfl, hr3, hc3, hb3, hst3, hsm3⟩
        have HR3 := Lib.hid (And.intro hr3 (And.intro hc3 (And.intro hb3 (And.intro hst3 hsm3))))
        obtain ⟨n3, hn3⟩ : ∃ n, m3.length = n := ⟨_, rfl⟩
        have HN3 := Lib.hid hn3
        rw [hn3]
        clear hr3 hc3 hb3 hst3 hsm3 hn3
        go_wp2_with fail
        go_roundw
        case rel => exact ⟨b3, a3, m3, c3, by rw [HN3.out], rfl, Lib.hid (rtidy_next HH.out.2 HR3.out)⟩
        case measure =>
          obtain ⟨hr3, _, _, hst3, hsm3⟩ := HR3.out
          rw [← HN3.out, ← HNM.out, eps_row HH.out.1.1, eps_row hr3]
          cases b3
          · rw [hsm3 rfl]
            simp
          · have := (Tr.step_mu HH.out.2.2.1 hst3).1
            simp only
            omega
  · have hne : (r != 0) = true := by rw [bne_iff_ne]; exact h0
    have HT2 := Lib.hid (HT.out.trans (if_neg h0))
    clear HT HCK h0
    go_enter Try.func9, Try.ntmps9
    go_wp2_with fail
    refine DC.out.mono ?_
    rintro e w1 ⟨rfl, hb1⟩
    have HB := Lib.hid hb1
    clear hb1
    go_wp2_with fail
    go_ret2
    exact ⟨⟨_, rfl, by rw [HT2.out]; exact EdOwn.nil _ _⟩, HB.out⟩
end Go.Proofs.Ytckjdpnmalkpnaa

/- TrailTidyMatchesSpec: the walk of the law. -/
namespace Go.Proofs.Ytckjdpnmalkpnaa
open Go.RowKit Go.BigFrame
open Tr (Ed)

theorem united_text (x y : Ed) (m : List Ed) (_ : x.s.size ≤ maxLen) (hy : y.s.size ≤ maxLen) (h : Tr.united x y = some m) : ∀ z, z ∈ m → z.s.size ≤ maxLen := by
  unfold Tr.united at h
  split at h
  · injection h with h; subst h; intro z hz; cases hz
  · split at h
    · cases h
    · split at h
      · injection h with h; subst h
        intro z hz
        rw [List.mem_singleton.1 hz]
        exact hy
      · split at h
        · split at h
          · injection h with h; subst h
            intro z hz
            rw [List.mem_singleton.1 hz]
            exact hy
          · cases h
        · split at h
          · split at h
            · injection h with h; subst h
              intro z hz
              rw [List.mem_singleton.1 hz]
              exact hy
            · cases h
          · cases h
theorem tidyR_facts (l : List Ed) (hs : ∀ x, x ∈ l → x.s.size ≤ maxLen) : chkEL (tidyR l) = 0 ∧ tidyR (tidyR l) = tidyR l ∧ (tidyR l).length ≤ l.length ∧ (tidyR l).length ≤ 200 ∧ ∀ x, x ∈ tidyR l → x.s.size ≤ maxLen := by
  by_cases h : chkEL l = 0
  · have e : tidyR l = Tr.tidyL l := if_pos h
    obtain ⟨h1, h2, h3, h4⟩ := tidy_right h
    rw [e]
    refine ⟨h1, ?_, h3, by omega, Tr.tidyL_all united_text hs⟩
    rw [show tidyR (Tr.tidyL l) = Tr.tidyL (Tr.tidyL l) from if_pos h1, h2]
  · have e : tidyR l = [] := if_neg h
    rw [e]
    exact ⟨rfl, rfl, Nat.zero_le _, Nat.zero_le _, fun x hx => by cases hx⟩
def sx : ByteArray := ⟨#[120]⟩
def toldL : List Ed := [⟨6, 5, 0, 0, noB⟩, ⟨3, 0, 0, 0, sx⟩, ⟨5, 10, 0, 0, noB⟩, ⟨6, -5, 0, 0, noB⟩, ⟨4, 0, 0, 0, sx⟩, ⟨5, 20, 0, 0, noB⟩]
theorem toldL_chk : chkEL toldL = 0 := by kernel_rfl
theorem toldL_tidy : tidyR toldL = [⟨5, 30, 0, 0, noB⟩] := by kernel_rfl
theorem toldL_text : ∀ x, x ∈ toldL → x.s.size ≤ maxLen := by
  intro x hx
  unfold toldL at hx
  simp only [List.mem_cons, List.not_mem_nil, or_false] at hx
  unfold maxLen
  rcases hx with rfl | rfl | rfl | rfl | rfl | rfl
  · show (0 : Nat) ≤ _; omega
  · show (1 : Nat) ≤ _; omega
  · show (0 : Nat) ≤ _; omega
  · show (0 : Nat) ≤ _; omega
  · show (1 : Nat) ≤ _; omega
  · show (0 : Nat) ≤ _; omega
set_option maxHeartbeats 1000000 in
set_option maxRecDepth 100000 in
theorem told_any (w : World) : Calls Try.prog 11 #[] w fun e w' => e = .returned (.bool true) ∧ Below w.heap.size w w' := by
  obtain ⟨V1, hV1, hb1, hs1, hl1⟩ := alloc_cells w #[.int .i64 6, .int .i64 5, .int .i64 0, .int .i64 0, .string noB, .int .i64 3, .int .i64 0, .int .i64 0, .int .i64 0, .string sx, .int .i64 5, .int .i64 10, .int .i64 0, .int .i64 0, .string noB, .int .i64 6, .int .i64 (-5), .int .i64 0, .int .i64 0, .string noB, .int .i64 4, .int .i64 0, .int .i64 0, .int .i64 0, .string sx, .int .i64 5, .int .i64 20, .int .i64 0, .int .i64 0, .string noB] 28
  have hrow : ERow V1 (some ⟨w.heap.size, 0, none⟩) toldL := .mk' (by omega) (fun i v hv => hl1 i v (by
    rw [← hv]
    show _ = (toldL.flatMap edC)[i]?
    rw [show toldL.flatMap edC = (#[.int .i64 6, .int .i64 5, .int .i64 0, .int .i64 0, .string noB, .int .i64 3, .int .i64 0, .int .i64 0, .int .i64 0, .string sx, .int .i64 5, .int .i64 10, .int .i64 0, .int .i64 0, .string noB, .int .i64 6, .int .i64 (-5), .int .i64 0, .int .i64 0, .string noB, .int .i64 4, .int .i64 0, .int .i64 0, .int .i64 0, .string sx, .int .i64 5, .int .i64 20, .int .i64 0, .int .i64 0, .string noB] : Array Value).toList from rfl, Array.getElem?_toList]))
  have DT := Lib.hid (tidy_any (some ⟨w.heap.size, 0, none⟩) toldL 6 V1 hrow toldL_text)
  rw [toldL_tidy, toldL_chk, show toldL.length = 6 from rfl] at DT
  have HV1 := Lib.hid hV1
  have HB1 := Lib.hid hb1
  clear hV1 hb1 hs1 hl1 hrow
  unfold noB sx at *
  go_enter Try.func11, Try.ntmps11
  go_wp2_with fail
  rw [HV1.out]
  refine DT.out.mono ?_
  rintro e w1 ⟨⟨v, rfl, ho⟩, hb⟩
  obtain ⟨a1, c1, rfl, _, hr1, _⟩ := ho.row
  obtain ⟨V2, hV2, hb2, hs2, hl2⟩ := alloc_cells w1 #[.int .i64 5, .int .i64 30, .int .i64 0, .int .i64 0, .string ⟨#[]⟩] 28
  have hrow2 : ERow V2 (some ⟨w1.heap.size, 0, none⟩) [⟨5, 30, 0, 0, ⟨#[]⟩⟩] := .mk' (by omega) (fun i v hv => hl2 i v (by
    rw [← hv]
    show _ = ([⟨5, 30, 0, 0, ⟨#[]⟩⟩].flatMap edC)[i]?
    rw [show [⟨5, 30, 0, 0, ⟨#[]⟩⟩].flatMap edC = (#[.int .i64 5, .int .i64 30, .int .i64 0, .int .i64 0, .string ⟨#[]⟩] : Array Value).toList from rfl, Array.getElem?_toList]))
  have DQ := Lib.hid (equalE_any [⟨5, 30, 0, 0, ⟨#[]⟩⟩] [⟨5, 30, 0, 0, ⟨#[]⟩⟩] a1 (some ⟨w1.heap.size, 0, none⟩) c1 1 V2 (hr1.below hb2) hrow2 (by simp))
  rw [eqEs_self] at DQ
  simp only [List.length_singleton] at DQ
  have HB2 := Lib.hid (below_step (below_step HB1.out hb) hb2)
  have HV2 := Lib.hid hV2
  clear ho hb hr1 hV2 hb2 hs2 hl2 hrow2 DT
  simp only [List.length_singleton]
  go_wp2_with fail
  rw [HV2.out]
  refine DQ.out.mono ?_
  rintro e w3 ⟨rfl, q, rfl⟩
  go_wp2_with fail
  go_ret
  exact ⟨rfl, below_drewN HB2.out q⟩
set_option maxHeartbeats 2000000 in
theorem tidy_law (a : Option Addr) (l : List Ed) (c : Nat) (w : World) (hr : ERow w a l) (hnc : l.length ≤ c) (hs : ∀ x, x ∈ l → x.s.size ≤ maxLen) :
    Calls Try.prog 3 #[.slice a l.length c] w fun e w' => e = .returned (.bool true) ∧ Below w.heap.size w w' := by
  have D1 := Lib.hid (tidy_any a l c w hr hs)
  have D2 := Lib.hid (fun (X : Ext w) => rtidy_any a l c X.1 (hr.below X.2) hnc hs)
  obtain ⟨f1, f2, f3, f4, f5⟩ := tidyR_facts l hs
  have D3 := Lib.hid (fun (b : Option Addr) (d : Nat) (W : World) (h : ERow W b (tidyR l)) => tidy_any b (tidyR l) d W h f5)
  have D4 := Lib.hid (fun (b b' : Option Addr) (d d' : Nat) (W : World) (h : ERow W b (tidyR l)) (h' : ERow W b' (tidyR l)) => equalE_any (tidyR l) (tidyR l) b b' d d' W h h' (by omega))
  simp only [eqEs_self] at D4
  rw [f1, f2] at D3
  generalize tidyR l = A at *
  obtain ⟨n, hn⟩ : ∃ n, l.length = n := ⟨_, rfl⟩
  obtain ⟨m, hm⟩ : ∃ m, A.length = m := ⟨_, rfl⟩
  rw [hn] at D1 D2 f3 ⊢
  rw [hm] at D3 D4 f3
  have HM := Lib.hid hm
  have t1 : decide ((m : Int) ≤ (n : Int)) = true := by rw [decide_eq_true_eq]; omega
  have t1' : decide (m ≤ n) = true := by rw [decide_eq_true_eq]; omega
  generalize chkEL l = er at *
  have be : (er == er) = true := by simp
  clear hr hnc hs f1 f2 f3 f4 f5 hn hm
  have hways : er = 0 ∨ er ≠ 0 := by omega
  rcases hways with h0 | h0
  · have b0 := neF h0
    clear h0
    go_enter Try.func3, Try.ntmps3
    go_wp2_with fail
    refine D1.out.mono ?_
    rintro e w1 ⟨⟨v1, rfl, ho1⟩, hb1⟩
    obtain ⟨a1, c1, rfl, _, hr1, _⟩ := ho1.row
    rw [HM.out]
    obtain ⟨X1, rfl⟩ : ∃ X : Ext w, w1 = X.1 := ⟨⟨w1, hb1⟩, rfl⟩
    have HR1 := Lib.hid hr1
    clear ho1 hb1 hr1 D1
    go_wp2_with fail
    refine (D2.out X1).mono ?_
    rintro e w2 ⟨⟨v2, rfl, ho2⟩, hb2⟩
    obtain ⟨a2, c2, rfl, _, hr2, _⟩ := ho2.row
    rw [HM.out]
    obtain ⟨X2, rfl⟩ : ∃ X : Ext X1.1, w2 = X.1 := ⟨⟨w2, hb2⟩, rfl⟩
    have HR2 := Lib.hid (And.intro (HR1.out.below X2.2) hr2)
    clear ho2 hb2 hr2 D2 HR1
    go_wp2_with fail
    refine (D3.out a1 c1 _ HR2.out.1).mono ?_
    rintro e w3 ⟨⟨v3, rfl, ho3⟩, hb3⟩
    obtain ⟨a3, c3, rfl, _, hr3, _⟩ := ho3.row
    rw [HM.out]
    obtain ⟨X3, rfl⟩ : ∃ X : Ext X2.1, w3 = X.1 := ⟨⟨w3, hb3⟩, rfl⟩
    have HR3 := Lib.hid (And.intro (HR2.out.1.below X3.2) (And.intro (HR2.out.2.below X3.2) hr3))
    have HB3 := Lib.hid (below_step (below_step X1.2 X2.2) X3.2)
    clear ho3 hb3 hr3 D3 HR2
    go_wp2_with fail
    refine (D4.out a1 a2 c1 c2 _ HR3.out.1 HR3.out.2.1).mono ?_
    rintro e w4 ⟨rfl, q, rfl⟩
    obtain ⟨X4, hX4⟩ : ∃ X : Ext X3.1, X3.1.drewN q = X.1 := ⟨⟨X3.1.drewN q, below_drewN (Below.refl _ _) q⟩, rfl⟩
    rw [hX4]
    clear hX4
    go_wp2_with fail
    refine (D4.out a1 a3 c1 c3 _ (HR3.out.1.below X4.2) (HR3.out.2.2.below X4.2)).mono ?_
    rintro e w5 ⟨rfl, q5, rfl⟩
    obtain ⟨X5, hX5⟩ : ∃ X : Ext X3.1, X4.1.drewN q5 = X.1 := ⟨⟨X4.1.drewN q5, below_step X4.2 (below_drewN (Below.refl _ _) q5)⟩, rfl⟩
    rw [hX5]
    clear hX5
    go_wp2_with fail
    refine (told_any _).mono ?_
    rintro e w6 ⟨rfl, hb6⟩
    have HB6 := Lib.hid (below_step (below_step HB3.out X5.2) hb6)
    clear hb6
    go_wp2_with fail
    go_ret
    exact ⟨rfl, HB6.out⟩
  · have b0 := neT h0
    clear h0
    go_enter Try.func3, Try.ntmps3
    go_wp2_with fail
    refine D1.out.mono ?_
    rintro e w1 ⟨⟨v1, rfl, ho1⟩, hb1⟩
    obtain ⟨a1, c1, rfl, _, hr1, _⟩ := ho1.row
    rw [HM.out]
    obtain ⟨X1, rfl⟩ : ∃ X : Ext w, w1 = X.1 := ⟨⟨w1, hb1⟩, rfl⟩
    have HR1 := Lib.hid hr1
    clear ho1 hb1 hr1 D1
    go_wp2_with fail
    refine (D2.out X1).mono ?_
    rintro e w2 ⟨⟨v2, rfl, ho2⟩, hb2⟩
    obtain ⟨a2, c2, rfl, _, hr2, _⟩ := ho2.row
    rw [HM.out]
    obtain ⟨X2, rfl⟩ : ∃ X : Ext X1.1, w2 = X.1 := ⟨⟨w2, hb2⟩, rfl⟩
    have HR2 := Lib.hid (And.intro (HR1.out.below X2.2) hr2)
    clear ho2 hb2 hr2 D2 HR1
    go_wp2_with fail
    refine (D3.out a1 c1 _ HR2.out.1).mono ?_
    rintro e w3 ⟨⟨v3, rfl, ho3⟩, hb3⟩
    obtain ⟨a3, c3, rfl, _, hr3, _⟩ := ho3.row
    rw [HM.out]
    obtain ⟨X3, rfl⟩ : ∃ X : Ext X2.1, w3 = X.1 := ⟨⟨w3, hb3⟩, rfl⟩
    have HR3 := Lib.hid (And.intro (HR2.out.1.below X3.2) (HR2.out.2.below X3.2))
    have HB3 := Lib.hid (below_step (below_step X1.2 X2.2) X3.2)
    clear ho3 hb3 hr3 D3 HR2
    go_wp2_with fail
    refine (D4.out a1 a2 c1 c2 _ HR3.out.1 HR3.out.2).mono ?_
    rintro e w4 ⟨rfl, q, rfl⟩
    obtain ⟨X4, hX4⟩ : ∃ X : Ext X3.1, X3.1.drewN q = X.1 := ⟨⟨X3.1.drewN q, below_drewN (Below.refl _ _) q⟩, rfl⟩
    rw [hX4]
    clear hX4
    go_wp2_with fail
    refine (told_any _).mono ?_
    rintro e w6 ⟨rfl, hb6⟩
    have HB6 := Lib.hid (below_step (below_step HB3.out X4.2) hb6)
    clear hb6
    go_wp2_with fail
    go_ret
    exact ⟨rfl, HB6.out⟩
end Go.Proofs.Ytckjdpnmalkpnaa

/- A list of edits that came in: how it reads. -/
namespace Go.Proofs.Ytckjdpnmalkpnaa
open Go.ChangeShapes Go.WideShapes Go.ChangeAt Go.RowKit Go.Deep
open Tr (Ed)

theorem laidOut : laidOutB Try.prog = true := by kernel_rfl
theorem readEdits : Try.prog.readableRec 22 = true := by kernel_rfl
theorem rowEdits : 22 < Try.prog.types.size := of_decide_eq_true (by kernel_rfl)
def intV : Value → Int
  | .int _ n => n
  | _ => 0
def strV : Value → ByteArray
  | .string s => s
  | _ => ByteArray.empty
theorem RowK.congr {w : World} {a : Option Addr} {len k : Nat} {V V' : Nat → List Value} (h : RowK w a len k V) (he : ∀ i, i < len → V i = V' i) : RowK w a len k V' :=
  ⟨fun h0 => by
    obtain ⟨b, off, e, hb, hc⟩ := h.here h0
    exact ⟨b, off, e, hb, fun i hi j hj => by rw [hc i hi j hj, he i hi]⟩⟩
section
variable {H : Type} {enc : TypeId × Value → H} {P : Program} {w : World} {base : Nat}
theorem field_str {V : List Value} {j : Nat} {t : TypeId} (ht : P.underlying t = some .string) (h : ∃ u n y, V[j]? = some u ∧ DataW.trod enc P w base (fun _ => true) true n t [u] = some y) :
    V[j]? = some (.string (strV (V.getD j (.bool false)))) ∧ (strV (V.getD j (.bool false))).size ≤ maxLen := by
  obtain ⟨u, n, y, hu, hd⟩ := h
  obtain ⟨s, e, _, hs⟩ := DataW.trod_string ht hd
  simp only [List.cons.injEq, and_true] at e
  subst e
  rw [List.getD_eq_getElem?_getD, hu]
  exact ⟨rfl, hs⟩
theorem field_int {V : List Value} {j : Nat} {t : TypeId} (ht : P.underlying t = some (.int .i64)) (h : ∃ u n y, V[j]? = some u ∧ DataW.trod enc P w base (fun _ => true) true n t [u] = some y) :
    V[j]? = some (.int .i64 (intV (V.getD j (.bool false)))) := by
  obtain ⟨u, n, y, hu, hd⟩ := h
  obtain ⟨s, e, _, hs⟩ := DataW.trod_int ht hd
  simp only [List.cons.injEq, and_true] at e
  subst e
  rw [List.getD_eq_getElem?_getD, hu]
  rfl
end
theorem list5 {V : List Value} {a b c d e : Value} (hl : V.length = 5) (h0 : V[0]? = some a) (h1 : V[1]? = some b) (h2 : V[2]? = some c) (h3 : V[3]? = some d) (h4 : V[4]? = some e) : V = [a, b, c, d, e] := by
  match V, hl with
  | [x, y, z, u, v], _ => simp at h0 h1 h2 h3 h4; rw [h0, h1, h2, h3, h4]

theorem slice_one {P : Program} {W : World} {r : Reach} {b0 : Nat} {t e : TypeId} {v : Value} (hu : P.underlying t = some (.slice e)) (hv : Value.okWide P W r b0 t v) : v.cells.toList = [v] := by
  obtain ⟨a, l, c, rfl⟩ := okWide_slice hu hv
  rfl
/-- cells as an edit -/
def edOf (V : List Value) : Ed := ⟨intV (V.getD 0 (.bool false)), intV (V.getD 1 (.bool false)), intV (V.getD 2 (.bool false)), intV (V.getD 3 (.bool false)), strV (V.getD 4 (.bool false))⟩
theorem range_map_get {α : Type} (f : Nat → α) {n i : Nat} {x : α} (h : ((List.range n).map f)[i]? = some x) : i < n ∧ x = f i := by
  rw [List.getElem?_map] at h
  cases hr : (List.range n)[i]? with
  | none => rw [hr] at h; cases h
  | some y =>
    rw [hr] at h
    obtain ⟨h1, h2⟩ := List.getElem?_eq_some_iff.1 hr
    simp only [List.length_range] at h1
    simp only [List.getElem_range] at h2
    subst h2
    simp only [Option.map_some, Option.some.injEq] at h
    exact ⟨h1, h.symm⟩
set_option maxRecDepth 100000 in
theorem open_edits {H : Type} {enc : TypeId × Value → H} {W : World} {r : Reach} {b0 base : Nat} {v : Value} {d : DataW H} {p : List MemPlace}
    (hv : Value.okWide Try.prog W r b0 22 v) (h : DataW.Trod enc Try.prog W base (fun _ => true) true 22 v d p) :
    ∃ (l : List Ed) (a : Option Addr) (c : Nat), v = .slice a l.length c ∧ l.length ≤ c ∧ ERow W a l ∧ ∀ x, x ∈ l → x.s.size ≤ maxLen := by
  obtain ⟨fuel, hf⟩ := h
  rw [slice_one Try.underlying22 hv] at hf
  obtain ⟨a0, n0, c0, V0, rfl, l0, m0, R0, F0⟩ := open_rowK Try.underlying22 Try.underlying28 (by kernel_rfl) (by decide) (hone_of (by kernel_rfl)) hf
  have S := Try.underlying9
  have I := Try.underlying3
  have F : ∀ i, i < n0 → V0 i = edC (edOf (V0 i)) ∧ (edOf (V0 i)).s.size ≤ maxLen := fun i hi =>
    ⟨list5 (F0 i hi).1 (field_int I ((F0 i hi).2 0 _ rfl)) (field_int I ((F0 i hi).2 1 _ rfl)) (field_int I ((F0 i hi).2 2 _ rfl)) (field_int I ((F0 i hi).2 3 _ rfl)) (field_str S ((F0 i hi).2 4 _ rfl)).1, (field_str S ((F0 i hi).2 4 _ rfl)).2⟩
  refine ⟨(List.range n0).map fun i => edOf (V0 i), a0, c0, by rw [List.length_map, List.length_range], by rw [List.length_map, List.length_range]; exact l0, ⟨fun hl => ?_⟩, fun x hx => ?_⟩
  · rw [List.length_map, List.length_range] at hl
    obtain ⟨b, off, e, hb, hc⟩ := R0.here hl
    refine ⟨b, off, e, hb, fun i x hx j u hu => ?_⟩
    obtain ⟨hi, rfl⟩ := range_map_get _ hx
    have hj : j < 5 := (List.getElem?_eq_some_iff.1 hu).1
    rw [← (F i hi).1] at hu
    rw [← hu]
    exact hc i hi j hj
  · obtain ⟨i, hi, rfl⟩ := List.mem_map.1 hx
    exact (F i (List.mem_range.1 hi)).2
end Go.Proofs.Ytckjdpnmalkpnaa
