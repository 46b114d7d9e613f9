/- Several texts of this claim in one. -/
import Derived.Test.YtjnfccphodjfiaaGreatMs8
import Derived.Test.YtjnfccphodjfiaaGreatMs2
import Derived.Test.YtjnfccphodjfiaaGreatMs6
import Derived.Test.YtjnfccphodjfiaaGreatMs4
import Derived.Deep.DeepCutAuto
namespace Go.Proofs.YtjnfccphodjfiaaGreat
set_option maxHeartbeats 8000000
set_option maxRecDepth 100000
open Go.RowKit Go.BigFrame
open Tr (Ed inR)
def RChk (x : Ed) (w : World) : Prop := Calls Tryz.prog 10 #[edV x] w fun e w' => e = .returned (.int .i64 (chkE x)) ∧ Below w.heap.size w w'
theorem str_eq0 {s : ByteArray} (h : s.size = 0) : (s.toList == []) = true := by
 rw [ByteArray.toList_eq, beq_iff_eq]; exact List.length_eq_zero_iff.1 h
theorem str_ne0 {s : ByteArray} (h : s.size = 0) : (s.toList != []) = false := by
 unfold bne; rw [str_eq0 h]
 rfl
theorem str_eq1 {s : ByteArray} (h : s.size ≠ 0) : (s.toList == []) = false := by
 rw [ByteArray.toList_eq, beq_eq_false_iff_ne]; exact fun e => h (List.length_eq_zero_iff.2 e)
theorem str_ne1 {s : ByteArray} (h : s.size ≠ 0) : (s.toList != []) = true := by
 unfold bne; rw [str_eq1 h]
 rfl
theorem neF {n m : Int} (h : n = m) : (n != m) = false := by rw [h]; simp
theorem chkE_form {x : Ed} (hk : 1 ≤ x.k ∧ x.k ≤ 12) {b : Bool} (h : formE x = b) : chkE x = if b = false then 2 else fieldE x := by
 unfold chkE; rw [if_neg (by omega), h]
theorem rcheck_2 (n f t : Int) (s : ByteArray) (w : World) (_ : s.size ≤ maxLen) : RChk ⟨2, n, f, t, s⟩ w := by
 have DO : Hid (∀ W, Calls Tryz.prog 37 #[.int .i64 2, .int .i64 1, .int .i64 12] W fun e w' => e = .returned (.bool false) ∧ W = w') := qH (fun W => rout_any 2 1 12 W); have DT : Hid (∀ W, Calls Tryz.prog 38 #[.int .i64 2] W fun e w' => e = .returned (.bool false) ∧ W = w') := qH (fun W => rtext_any 2 W); have DN : Hid (∀ W, Calls Tryz.prog 39 #[.int .i64 2] W fun e w' => e = .returned (.bool true) ∧ W = w') := qH (fun W => rn_any 2 W); have DS : Hid (∀ W, Calls Tryz.prog 40 #[.int .i64 2] W fun e w' => e = .returned (.bool false) ∧ W = w') := qH (fun W => rspan_any 2 W); unfold RChk edV; by_cases h1 : s.size = 0
 case neg =>
  have q1 := str_eq1 h1; have q2 := str_ne1 h1; have HV := qH (show chkE ⟨2, n, f, t, s⟩ = 2 from chkE_form (b := false) (by simp) (by simp [formE, h1])); clear h1; go_enter Tryz.func10, Tryz.ntmps10; go_wp2_with fail; refine (DO.out _).mono ?_; rintro e w1 ⟨rfl, rfl⟩; go_wp2_with fail; refine (DT.out _).mono ?_; rintro e w1 ⟨rfl, rfl⟩; go_wp2_with fail; go_ret; exact ⟨ret_int HV.out.symm, below_al w _⟩
 have q1 := str_eq0 h1; have q2 := str_ne0 h1; by_cases h2 : f = 0
 case neg =>
  have b2 := neT h2; have HV := qH (show chkE ⟨2, n, f, t, s⟩ = 2 from chkE_form (b := false) (by simp) (by simp [formE, h2])); clear h1 h2; go_enter Tryz.func10, Tryz.ntmps10; go_wp2_with fail; refine (DO.out _).mono ?_; rintro e w1 ⟨rfl, rfl⟩; go_wp2_with fail; refine (DT.out _).mono ?_; rintro e w1 ⟨rfl, rfl⟩; go_wp2_with fail; refine (DN.out _).mono ?_; rintro e w1 ⟨rfl, rfl⟩; go_wp2_with fail; refine (DS.out _).mono ?_; rintro e w1 ⟨rfl, rfl⟩; go_wp2_with fail; go_ret; exact ⟨ret_int HV.out.symm, below_al w _⟩
 have b2 := neF h2; by_cases h3 : t = 0
 case neg =>
  have b3 := neT h3; have HV := qH (show chkE ⟨2, n, f, t, s⟩ = 2 from chkE_form (b := false) (by simp) (by simp [formE, h3])); clear h1 h2 h3; go_enter Tryz.func10, Tryz.ntmps10; go_wp2_with fail; refine (DO.out _).mono ?_; rintro e w1 ⟨rfl, rfl⟩; go_wp2_with fail; refine (DT.out _).mono ?_; rintro e w1 ⟨rfl, rfl⟩; go_wp2_with fail; refine (DN.out _).mono ?_; rintro e w1 ⟨rfl, rfl⟩; go_wp2_with fail; refine (DS.out _).mono ?_; rintro e w1 ⟨rfl, rfl⟩; go_wp2_with fail; go_ret; exact ⟨ret_int HV.out.symm, below_al w _⟩
 have b3 := neF h3; have HV0 := qH (show chkE ⟨2, n, f, t, s⟩ = if inR n 1 5 = true then 0 else 7 from (chkE_form (b := true) (by simp) (by simp [formE, h1, h2, h3])).trans (by simp [fieldE])); have DB := qH (fun W => rout_any n 1 5 W); clear h1 h2 h3; generalize inR n 1 5 = b at *
 cases b
 all_goals
  have HV := qH (HV0.out); go_enter Tryz.func10, Tryz.ntmps10; go_wp2_with fail; refine (DO.out _).mono ?_; rintro e w1 ⟨rfl, rfl⟩; go_wp2_with fail; refine (DT.out _).mono ?_; rintro e w1 ⟨rfl, rfl⟩; go_wp2_with fail; refine (DN.out _).mono ?_; rintro e w1 ⟨rfl, rfl⟩; go_wp2_with fail; refine (DS.out _).mono ?_; rintro e w1 ⟨rfl, rfl⟩; go_wp2_with fail; refine (DB.out _).mono ?_; rintro e w1 ⟨rfl, rfl⟩; go_wp2_with fail; go_ret; exact ⟨ret_int HV.out.symm, below_al w _⟩
theorem rcheck_5 (n f t : Int) (s : ByteArray) (w : World) (_ : s.size ≤ maxLen) : RChk ⟨5, n, f, t, s⟩ w := by
 have DO : Hid (∀ W, Calls Tryz.prog 37 #[.int .i64 5, .int .i64 1, .int .i64 12] W fun e w' => e = .returned (.bool false) ∧ W = w') := qH (fun W => rout_any 5 1 12 W); have DT : Hid (∀ W, Calls Tryz.prog 38 #[.int .i64 5] W fun e w' => e = .returned (.bool false) ∧ W = w') := qH (fun W => rtext_any 5 W); have DN : Hid (∀ W, Calls Tryz.prog 39 #[.int .i64 5] W fun e w' => e = .returned (.bool true) ∧ W = w') := qH (fun W => rn_any 5 W); have DS : Hid (∀ W, Calls Tryz.prog 40 #[.int .i64 5] W fun e w' => e = .returned (.bool false) ∧ W = w') := qH (fun W => rspan_any 5 W); unfold RChk edV; by_cases h1 : s.size = 0
 case neg =>
  have q1 := str_eq1 h1; have q2 := str_ne1 h1; have HV := qH (show chkE ⟨5, n, f, t, s⟩ = 2 from chkE_form (b := false) (by simp) (by simp [formE, h1])); clear h1; go_enter Tryz.func10, Tryz.ntmps10; go_wp2_with fail; refine (DO.out _).mono ?_; rintro e w1 ⟨rfl, rfl⟩; go_wp2_with fail; refine (DT.out _).mono ?_; rintro e w1 ⟨rfl, rfl⟩; go_wp2_with fail; go_ret; exact ⟨ret_int HV.out.symm, below_al w _⟩
 have q1 := str_eq0 h1; have q2 := str_ne0 h1; by_cases h2 : f = 0
 case neg =>
  have b2 := neT h2; have HV := qH (show chkE ⟨5, n, f, t, s⟩ = 2 from chkE_form (b := false) (by simp) (by simp [formE, h2])); clear h1 h2; go_enter Tryz.func10, Tryz.ntmps10; go_wp2_with fail; refine (DO.out _).mono ?_; rintro e w1 ⟨rfl, rfl⟩; go_wp2_with fail; refine (DT.out _).mono ?_; rintro e w1 ⟨rfl, rfl⟩; go_wp2_with fail; refine (DN.out _).mono ?_; rintro e w1 ⟨rfl, rfl⟩; go_wp2_with fail; refine (DS.out _).mono ?_; rintro e w1 ⟨rfl, rfl⟩; go_wp2_with fail; go_ret; exact ⟨ret_int HV.out.symm, below_al w _⟩
 have b2 := neF h2; by_cases h3 : t = 0
 case neg =>
  have b3 := neT h3; have HV := qH (show chkE ⟨5, n, f, t, s⟩ = 2 from chkE_form (b := false) (by simp) (by simp [formE, h3])); clear h1 h2 h3; go_enter Tryz.func10, Tryz.ntmps10; go_wp2_with fail; refine (DO.out _).mono ?_; rintro e w1 ⟨rfl, rfl⟩; go_wp2_with fail; refine (DT.out _).mono ?_; rintro e w1 ⟨rfl, rfl⟩; go_wp2_with fail; refine (DN.out _).mono ?_; rintro e w1 ⟨rfl, rfl⟩; go_wp2_with fail; refine (DS.out _).mono ?_; rintro e w1 ⟨rfl, rfl⟩; go_wp2_with fail; go_ret; exact ⟨ret_int HV.out.symm, below_al w _⟩
 have b3 := neF h3; have HV0 := qH (show chkE ⟨5, n, f, t, s⟩ = if inR n (loE 5) (hiE 5) = true then 0 else 9 from (chkE_form (b := true) (by simp) (by simp [formE, h1, h2, h3])).trans (by simp [fieldE, rngE, loE, hiE])); have DB := qH (fun W => rout_any n (loE 5) (hiE 5) W); have DL := qH (fun W => rbounds_any 5 W); clear h1 h2 h3; generalize inR n (loE 5) (hiE 5) = b at *; generalize loE 5 = lo at *; generalize hiE 5 = hi at *
 cases b
 all_goals
  have HV := qH (HV0.out); go_enter Tryz.func10, Tryz.ntmps10; go_wp2_with fail; refine (DO.out _).mono ?_; rintro e w1 ⟨rfl, rfl⟩; go_wp2_with fail; refine (DT.out _).mono ?_; rintro e w1 ⟨rfl, rfl⟩; go_wp2_with fail; refine (DN.out _).mono ?_; rintro e w1 ⟨rfl, rfl⟩; go_wp2_with fail; refine (DS.out _).mono ?_; rintro e w1 ⟨rfl, rfl⟩; go_wp2_with fail; refine (DS.out _).mono ?_; rintro e w1 ⟨rfl, rfl⟩; go_wp2_with fail; refine (DL.out _).mono ?_; rintro e w1 ⟨rfl, rfl⟩; go_wp2_with fail; refine (DB.out _).mono ?_; rintro e w1 ⟨rfl, rfl⟩; go_wp2_with fail; go_ret; exact ⟨ret_int HV.out.symm, below_al w _⟩
theorem rcheck_6 (n f t : Int) (s : ByteArray) (w : World) (_ : s.size ≤ maxLen) : RChk ⟨6, n, f, t, s⟩ w := by
 have DO : Hid (∀ W, Calls Tryz.prog 37 #[.int .i64 6, .int .i64 1, .int .i64 12] W fun e w' => e = .returned (.bool false) ∧ W = w') := qH (fun W => rout_any 6 1 12 W); have DT : Hid (∀ W, Calls Tryz.prog 38 #[.int .i64 6] W fun e w' => e = .returned (.bool false) ∧ W = w') := qH (fun W => rtext_any 6 W); have DN : Hid (∀ W, Calls Tryz.prog 39 #[.int .i64 6] W fun e w' => e = .returned (.bool true) ∧ W = w') := qH (fun W => rn_any 6 W); have DS : Hid (∀ W, Calls Tryz.prog 40 #[.int .i64 6] W fun e w' => e = .returned (.bool false) ∧ W = w') := qH (fun W => rspan_any 6 W); unfold RChk edV; by_cases h1 : s.size = 0
 case neg =>
  have q1 := str_eq1 h1; have q2 := str_ne1 h1; have HV := qH (show chkE ⟨6, n, f, t, s⟩ = 2 from chkE_form (b := false) (by simp) (by simp [formE, h1])); clear h1; go_enter Tryz.func10, Tryz.ntmps10; go_wp2_with fail; refine (DO.out _).mono ?_; rintro e w1 ⟨rfl, rfl⟩; go_wp2_with fail; refine (DT.out _).mono ?_; rintro e w1 ⟨rfl, rfl⟩; go_wp2_with fail; go_ret; exact ⟨ret_int HV.out.symm, below_al w _⟩
 have q1 := str_eq0 h1; have q2 := str_ne0 h1; by_cases h2 : f = 0
 case neg =>
  have b2 := neT h2; have HV := qH (show chkE ⟨6, n, f, t, s⟩ = 2 from chkE_form (b := false) (by simp) (by simp [formE, h2])); clear h1 h2; go_enter Tryz.func10, Tryz.ntmps10; go_wp2_with fail; refine (DO.out _).mono ?_; rintro e w1 ⟨rfl, rfl⟩; go_wp2_with fail; refine (DT.out _).mono ?_; rintro e w1 ⟨rfl, rfl⟩; go_wp2_with fail; refine (DN.out _).mono ?_; rintro e w1 ⟨rfl, rfl⟩; go_wp2_with fail; refine (DS.out _).mono ?_; rintro e w1 ⟨rfl, rfl⟩; go_wp2_with fail; go_ret; exact ⟨ret_int HV.out.symm, below_al w _⟩
 have b2 := neF h2; by_cases h3 : t = 0
 case neg =>
  have b3 := neT h3; have HV := qH (show chkE ⟨6, n, f, t, s⟩ = 2 from chkE_form (b := false) (by simp) (by simp [formE, h3])); clear h1 h2 h3; go_enter Tryz.func10, Tryz.ntmps10; go_wp2_with fail; refine (DO.out _).mono ?_; rintro e w1 ⟨rfl, rfl⟩; go_wp2_with fail; refine (DT.out _).mono ?_; rintro e w1 ⟨rfl, rfl⟩; go_wp2_with fail; refine (DN.out _).mono ?_; rintro e w1 ⟨rfl, rfl⟩; go_wp2_with fail; refine (DS.out _).mono ?_; rintro e w1 ⟨rfl, rfl⟩; go_wp2_with fail; go_ret; exact ⟨ret_int HV.out.symm, below_al w _⟩
 have b3 := neF h3; have HV0 := qH (show chkE ⟨6, n, f, t, s⟩ = if inR n (loE 6) (hiE 6) = true then 0 else 9 from (chkE_form (b := true) (by simp) (by simp [formE, h1, h2, h3])).trans (by simp [fieldE, rngE, loE, hiE])); have DB := qH (fun W => rout_any n (loE 6) (hiE 6) W); have DL := qH (fun W => rbounds_any 6 W); clear h1 h2 h3; generalize inR n (loE 6) (hiE 6) = b at *; generalize loE 6 = lo at *; generalize hiE 6 = hi at *
 cases b
 all_goals
  have HV := qH (HV0.out); go_enter Tryz.func10, Tryz.ntmps10; go_wp2_with fail; refine (DO.out _).mono ?_; rintro e w1 ⟨rfl, rfl⟩; go_wp2_with fail; refine (DT.out _).mono ?_; rintro e w1 ⟨rfl, rfl⟩; go_wp2_with fail; refine (DN.out _).mono ?_; rintro e w1 ⟨rfl, rfl⟩; go_wp2_with fail; refine (DS.out _).mono ?_; rintro e w1 ⟨rfl, rfl⟩; go_wp2_with fail; refine (DS.out _).mono ?_; rintro e w1 ⟨rfl, rfl⟩; go_wp2_with fail; refine (DL.out _).mono ?_; rintro e w1 ⟨rfl, rfl⟩; go_wp2_with fail; refine (DB.out _).mono ?_; rintro e w1 ⟨rfl, rfl⟩; go_wp2_with fail; go_ret; exact ⟨ret_int HV.out.symm, below_al w _⟩
theorem rcheck_7 (n f t : Int) (s : ByteArray) (w : World) (_ : s.size ≤ maxLen) : RChk ⟨7, n, f, t, s⟩ w := by
 have DO : Hid (∀ W, Calls Tryz.prog 37 #[.int .i64 7, .int .i64 1, .int .i64 12] W fun e w' => e = .returned (.bool false) ∧ W = w') := qH (fun W => rout_any 7 1 12 W); have DT : Hid (∀ W, Calls Tryz.prog 38 #[.int .i64 7] W fun e w' => e = .returned (.bool false) ∧ W = w') := qH (fun W => rtext_any 7 W); have DN : Hid (∀ W, Calls Tryz.prog 39 #[.int .i64 7] W fun e w' => e = .returned (.bool true) ∧ W = w') := qH (fun W => rn_any 7 W); have DS : Hid (∀ W, Calls Tryz.prog 40 #[.int .i64 7] W fun e w' => e = .returned (.bool false) ∧ W = w') := qH (fun W => rspan_any 7 W); unfold RChk edV; by_cases h1 : s.size = 0
 case neg =>
  have q1 := str_eq1 h1; have q2 := str_ne1 h1; have HV := qH (show chkE ⟨7, n, f, t, s⟩ = 2 from chkE_form (b := false) (by simp) (by simp [formE, h1])); clear h1; go_enter Tryz.func10, Tryz.ntmps10; go_wp2_with fail; refine (DO.out _).mono ?_; rintro e w1 ⟨rfl, rfl⟩; go_wp2_with fail; refine (DT.out _).mono ?_; rintro e w1 ⟨rfl, rfl⟩; go_wp2_with fail; go_ret; exact ⟨ret_int HV.out.symm, below_al w _⟩
 have q1 := str_eq0 h1; have q2 := str_ne0 h1; by_cases h2 : f = 0
 case neg =>
  have b2 := neT h2; have HV := qH (show chkE ⟨7, n, f, t, s⟩ = 2 from chkE_form (b := false) (by simp) (by simp [formE, h2])); clear h1 h2; go_enter Tryz.func10, Tryz.ntmps10; go_wp2_with fail; refine (DO.out _).mono ?_; rintro e w1 ⟨rfl, rfl⟩; go_wp2_with fail; refine (DT.out _).mono ?_; rintro e w1 ⟨rfl, rfl⟩; go_wp2_with fail; refine (DN.out _).mono ?_; rintro e w1 ⟨rfl, rfl⟩; go_wp2_with fail; refine (DS.out _).mono ?_; rintro e w1 ⟨rfl, rfl⟩; go_wp2_with fail; go_ret; exact ⟨ret_int HV.out.symm, below_al w _⟩
 have b2 := neF h2; by_cases h3 : t = 0
 case neg =>
  have b3 := neT h3; have HV := qH (show chkE ⟨7, n, f, t, s⟩ = 2 from chkE_form (b := false) (by simp) (by simp [formE, h3])); clear h1 h2 h3; go_enter Tryz.func10, Tryz.ntmps10; go_wp2_with fail; refine (DO.out _).mono ?_; rintro e w1 ⟨rfl, rfl⟩; go_wp2_with fail; refine (DT.out _).mono ?_; rintro e w1 ⟨rfl, rfl⟩; go_wp2_with fail; refine (DN.out _).mono ?_; rintro e w1 ⟨rfl, rfl⟩; go_wp2_with fail; refine (DS.out _).mono ?_; rintro e w1 ⟨rfl, rfl⟩; go_wp2_with fail; go_ret; exact ⟨ret_int HV.out.symm, below_al w _⟩
 have b3 := neF h3; have HV0 := qH (show chkE ⟨7, n, f, t, s⟩ = if inR n (loE 7) (hiE 7) = true then 0 else 9 from (chkE_form (b := true) (by simp) (by simp [formE, h1, h2, h3])).trans (by simp [fieldE, rngE, loE, hiE])); have DB := qH (fun W => rout_any n (loE 7) (hiE 7) W); have DL := qH (fun W => rbounds_any 7 W); clear h1 h2 h3; generalize inR n (loE 7) (hiE 7) = b at *; generalize loE 7 = lo at *; generalize hiE 7 = hi at *
 cases b
 all_goals
  have HV := qH (HV0.out); go_enter Tryz.func10, Tryz.ntmps10; go_wp2_with fail; refine (DO.out _).mono ?_; rintro e w1 ⟨rfl, rfl⟩; go_wp2_with fail; refine (DT.out _).mono ?_; rintro e w1 ⟨rfl, rfl⟩; go_wp2_with fail; refine (DN.out _).mono ?_; rintro e w1 ⟨rfl, rfl⟩; go_wp2_with fail; refine (DS.out _).mono ?_; rintro e w1 ⟨rfl, rfl⟩; go_wp2_with fail; refine (DS.out _).mono ?_; rintro e w1 ⟨rfl, rfl⟩; go_wp2_with fail; refine (DL.out _).mono ?_; rintro e w1 ⟨rfl, rfl⟩; go_wp2_with fail; refine (DB.out _).mono ?_; rintro e w1 ⟨rfl, rfl⟩; go_wp2_with fail; go_ret; exact ⟨ret_int HV.out.symm, below_al w _⟩
theorem rcheck_9 (n f t : Int) (s : ByteArray) (w : World) (_ : s.size ≤ maxLen) : RChk ⟨9, n, f, t, s⟩ w := by
 have DO : Hid (∀ W, Calls Tryz.prog 37 #[.int .i64 9, .int .i64 1, .int .i64 12] W fun e w' => e = .returned (.bool false) ∧ W = w') := qH (fun W => rout_any 9 1 12 W); have DT : Hid (∀ W, Calls Tryz.prog 38 #[.int .i64 9] W fun e w' => e = .returned (.bool false) ∧ W = w') := qH (fun W => rtext_any 9 W); have DN : Hid (∀ W, Calls Tryz.prog 39 #[.int .i64 9] W fun e w' => e = .returned (.bool true) ∧ W = w') := qH (fun W => rn_any 9 W); have DS : Hid (∀ W, Calls Tryz.prog 40 #[.int .i64 9] W fun e w' => e = .returned (.bool false) ∧ W = w') := qH (fun W => rspan_any 9 W); unfold RChk edV; by_cases h1 : s.size = 0
 case neg =>
  have q1 := str_eq1 h1; have q2 := str_ne1 h1; have HV := qH (show chkE ⟨9, n, f, t, s⟩ = 2 from chkE_form (b := false) (by simp) (by simp [formE, h1])); clear h1; go_enter Tryz.func10, Tryz.ntmps10; go_wp2_with fail; refine (DO.out _).mono ?_; rintro e w1 ⟨rfl, rfl⟩; go_wp2_with fail; refine (DT.out _).mono ?_; rintro e w1 ⟨rfl, rfl⟩; go_wp2_with fail; go_ret; exact ⟨ret_int HV.out.symm, below_al w _⟩
 have q1 := str_eq0 h1; have q2 := str_ne0 h1; by_cases h2 : f = 0
 case neg =>
  have b2 := neT h2; have HV := qH (show chkE ⟨9, n, f, t, s⟩ = 2 from chkE_form (b := false) (by simp) (by simp [formE, h2])); clear h1 h2; go_enter Tryz.func10, Tryz.ntmps10; go_wp2_with fail; refine (DO.out _).mono ?_; rintro e w1 ⟨rfl, rfl⟩; go_wp2_with fail; refine (DT.out _).mono ?_; rintro e w1 ⟨rfl, rfl⟩; go_wp2_with fail; refine (DN.out _).mono ?_; rintro e w1 ⟨rfl, rfl⟩; go_wp2_with fail; refine (DS.out _).mono ?_; rintro e w1 ⟨rfl, rfl⟩; go_wp2_with fail; go_ret; exact ⟨ret_int HV.out.symm, below_al w _⟩
 have b2 := neF h2; by_cases h3 : t = 0
 case neg =>
  have b3 := neT h3; have HV := qH (show chkE ⟨9, n, f, t, s⟩ = 2 from chkE_form (b := false) (by simp) (by simp [formE, h3])); clear h1 h2 h3; go_enter Tryz.func10, Tryz.ntmps10; go_wp2_with fail; refine (DO.out _).mono ?_; rintro e w1 ⟨rfl, rfl⟩; go_wp2_with fail; refine (DT.out _).mono ?_; rintro e w1 ⟨rfl, rfl⟩; go_wp2_with fail; refine (DN.out _).mono ?_; rintro e w1 ⟨rfl, rfl⟩; go_wp2_with fail; refine (DS.out _).mono ?_; rintro e w1 ⟨rfl, rfl⟩; go_wp2_with fail; go_ret; exact ⟨ret_int HV.out.symm, below_al w _⟩
 have b3 := neF h3; have HV0 := qH (show chkE ⟨9, n, f, t, s⟩ = if inR n (loE 9) (hiE 9) = true then 0 else 9 from (chkE_form (b := true) (by simp) (by simp [formE, h1, h2, h3])).trans (by simp [fieldE, rngE, loE, hiE])); have DB := qH (fun W => rout_any n (loE 9) (hiE 9) W); have DL := qH (fun W => rbounds_any 9 W); clear h1 h2 h3; generalize inR n (loE 9) (hiE 9) = b at *; generalize loE 9 = lo at *; generalize hiE 9 = hi at *
 cases b
 all_goals
  have HV := qH (HV0.out); go_enter Tryz.func10, Tryz.ntmps10; go_wp2_with fail; refine (DO.out _).mono ?_; rintro e w1 ⟨rfl, rfl⟩; go_wp2_with fail; refine (DT.out _).mono ?_; rintro e w1 ⟨rfl, rfl⟩; go_wp2_with fail; refine (DN.out _).mono ?_; rintro e w1 ⟨rfl, rfl⟩; go_wp2_with fail; refine (DS.out _).mono ?_; rintro e w1 ⟨rfl, rfl⟩; go_wp2_with fail; refine (DS.out _).mono ?_; rintro e w1 ⟨rfl, rfl⟩; go_wp2_with fail; refine (DL.out _).mono ?_; rintro e w1 ⟨rfl, rfl⟩; go_wp2_with fail; refine (DB.out _).mono ?_; rintro e w1 ⟨rfl, rfl⟩; go_wp2_with fail; go_ret; exact ⟨ret_int HV.out.symm, below_al w _⟩
theorem rcheck_10 (n f t : Int) (s : ByteArray) (w : World) (_ : s.size ≤ maxLen) : RChk ⟨10, n, f, t, s⟩ w := by
 have DO : Hid (∀ W, Calls Tryz.prog 37 #[.int .i64 10, .int .i64 1, .int .i64 12] W fun e w' => e = .returned (.bool false) ∧ W = w') := qH (fun W => rout_any 10 1 12 W); have DT : Hid (∀ W, Calls Tryz.prog 38 #[.int .i64 10] W fun e w' => e = .returned (.bool false) ∧ W = w') := qH (fun W => rtext_any 10 W); have DN : Hid (∀ W, Calls Tryz.prog 39 #[.int .i64 10] W fun e w' => e = .returned (.bool true) ∧ W = w') := qH (fun W => rn_any 10 W); have DS : Hid (∀ W, Calls Tryz.prog 40 #[.int .i64 10] W fun e w' => e = .returned (.bool false) ∧ W = w') := qH (fun W => rspan_any 10 W); unfold RChk edV; by_cases h1 : s.size = 0
 case neg =>
  have q1 := str_eq1 h1; have q2 := str_ne1 h1; have HV := qH (show chkE ⟨10, n, f, t, s⟩ = 2 from chkE_form (b := false) (by simp) (by simp [formE, h1])); clear h1; go_enter Tryz.func10, Tryz.ntmps10; go_wp2_with fail; refine (DO.out _).mono ?_; rintro e w1 ⟨rfl, rfl⟩; go_wp2_with fail; refine (DT.out _).mono ?_; rintro e w1 ⟨rfl, rfl⟩; go_wp2_with fail; go_ret; exact ⟨ret_int HV.out.symm, below_al w _⟩
 have q1 := str_eq0 h1; have q2 := str_ne0 h1; by_cases h2 : f = 0
 case neg =>
  have b2 := neT h2; have HV := qH (show chkE ⟨10, n, f, t, s⟩ = 2 from chkE_form (b := false) (by simp) (by simp [formE, h2])); clear h1 h2; go_enter Tryz.func10, Tryz.ntmps10; go_wp2_with fail; refine (DO.out _).mono ?_; rintro e w1 ⟨rfl, rfl⟩; go_wp2_with fail; refine (DT.out _).mono ?_; rintro e w1 ⟨rfl, rfl⟩; go_wp2_with fail; refine (DN.out _).mono ?_; rintro e w1 ⟨rfl, rfl⟩; go_wp2_with fail; refine (DS.out _).mono ?_; rintro e w1 ⟨rfl, rfl⟩; go_wp2_with fail; go_ret; exact ⟨ret_int HV.out.symm, below_al w _⟩
 have b2 := neF h2; by_cases h3 : t = 0
 case neg =>
  have b3 := neT h3; have HV := qH (show chkE ⟨10, n, f, t, s⟩ = 2 from chkE_form (b := false) (by simp) (by simp [formE, h3])); clear h1 h2 h3; go_enter Tryz.func10, Tryz.ntmps10; go_wp2_with fail; refine (DO.out _).mono ?_; rintro e w1 ⟨rfl, rfl⟩; go_wp2_with fail; refine (DT.out _).mono ?_; rintro e w1 ⟨rfl, rfl⟩; go_wp2_with fail; refine (DN.out _).mono ?_; rintro e w1 ⟨rfl, rfl⟩; go_wp2_with fail; refine (DS.out _).mono ?_; rintro e w1 ⟨rfl, rfl⟩; go_wp2_with fail; go_ret; exact ⟨ret_int HV.out.symm, below_al w _⟩
 have b3 := neF h3; have HV0 := qH (show chkE ⟨10, n, f, t, s⟩ = if inR n (loE 10) (hiE 10) = true then 0 else 9 from (chkE_form (b := true) (by simp) (by simp [formE, h1, h2, h3])).trans (by simp [fieldE, rngE, loE, hiE])); have DB := qH (fun W => rout_any n (loE 10) (hiE 10) W); have DL := qH (fun W => rbounds_any 10 W); clear h1 h2 h3; generalize inR n (loE 10) (hiE 10) = b at *; generalize loE 10 = lo at *; generalize hiE 10 = hi at *
 cases b
 all_goals
  have HV := qH (HV0.out); go_enter Tryz.func10, Tryz.ntmps10; go_wp2_with fail; refine (DO.out _).mono ?_; rintro e w1 ⟨rfl, rfl⟩; go_wp2_with fail; refine (DT.out _).mono ?_; rintro e w1 ⟨rfl, rfl⟩; go_wp2_with fail; refine (DN.out _).mono ?_; rintro e w1 ⟨rfl, rfl⟩; go_wp2_with fail; refine (DS.out _).mono ?_; rintro e w1 ⟨rfl, rfl⟩; go_wp2_with fail; refine (DS.out _).mono ?_; rintro e w1 ⟨rfl, rfl⟩; go_wp2_with fail; refine (DL.out _).mono ?_; rintro e w1 ⟨rfl, rfl⟩; go_wp2_with fail; refine (DB.out _).mono ?_; rintro e w1 ⟨rfl, rfl⟩; go_wp2_with fail; go_ret; exact ⟨ret_int HV.out.symm, below_al w _⟩
theorem rcheck_12 (n f t : Int) (s : ByteArray) (w : World) (_ : s.size ≤ maxLen) : RChk ⟨12, n, f, t, s⟩ w := by
 have DO : Hid (∀ W, Calls Tryz.prog 37 #[.int .i64 12, .int .i64 1, .int .i64 12] W fun e w' => e = .returned (.bool false) ∧ W = w') := qH (fun W => rout_any 12 1 12 W); have DT : Hid (∀ W, Calls Tryz.prog 38 #[.int .i64 12] W fun e w' => e = .returned (.bool false) ∧ W = w') := qH (fun W => rtext_any 12 W); have DN : Hid (∀ W, Calls Tryz.prog 39 #[.int .i64 12] W fun e w' => e = .returned (.bool true) ∧ W = w') := qH (fun W => rn_any 12 W); have DS : Hid (∀ W, Calls Tryz.prog 40 #[.int .i64 12] W fun e w' => e = .returned (.bool false) ∧ W = w') := qH (fun W => rspan_any 12 W); unfold RChk edV; by_cases h1 : s.size = 0
 case neg =>
  have q1 := str_eq1 h1; have q2 := str_ne1 h1; have HV := qH (show chkE ⟨12, n, f, t, s⟩ = 2 from chkE_form (b := false) (by simp) (by simp [formE, h1])); clear h1; go_enter Tryz.func10, Tryz.ntmps10; go_wp2_with fail; refine (DO.out _).mono ?_; rintro e w1 ⟨rfl, rfl⟩; go_wp2_with fail; refine (DT.out _).mono ?_; rintro e w1 ⟨rfl, rfl⟩; go_wp2_with fail; go_ret; exact ⟨ret_int HV.out.symm, below_al w _⟩
 have q1 := str_eq0 h1; have q2 := str_ne0 h1; by_cases h2 : f = 0
 case neg =>
  have b2 := neT h2; have HV := qH (show chkE ⟨12, n, f, t, s⟩ = 2 from chkE_form (b := false) (by simp) (by simp [formE, h2])); clear h1 h2; go_enter Tryz.func10, Tryz.ntmps10; go_wp2_with fail; refine (DO.out _).mono ?_; rintro e w1 ⟨rfl, rfl⟩; go_wp2_with fail; refine (DT.out _).mono ?_; rintro e w1 ⟨rfl, rfl⟩; go_wp2_with fail; refine (DN.out _).mono ?_; rintro e w1 ⟨rfl, rfl⟩; go_wp2_with fail; refine (DS.out _).mono ?_; rintro e w1 ⟨rfl, rfl⟩; go_wp2_with fail; go_ret; exact ⟨ret_int HV.out.symm, below_al w _⟩
 have b2 := neF h2; by_cases h3 : t = 0
 case neg =>
  have b3 := neT h3; have HV := qH (show chkE ⟨12, n, f, t, s⟩ = 2 from chkE_form (b := false) (by simp) (by simp [formE, h3])); clear h1 h2 h3; go_enter Tryz.func10, Tryz.ntmps10; go_wp2_with fail; refine (DO.out _).mono ?_; rintro e w1 ⟨rfl, rfl⟩; go_wp2_with fail; refine (DT.out _).mono ?_; rintro e w1 ⟨rfl, rfl⟩; go_wp2_with fail; refine (DN.out _).mono ?_; rintro e w1 ⟨rfl, rfl⟩; go_wp2_with fail; refine (DS.out _).mono ?_; rintro e w1 ⟨rfl, rfl⟩; go_wp2_with fail; go_ret; exact ⟨ret_int HV.out.symm, below_al w _⟩
 have b3 := neF h3; have HV0 := qH (show chkE ⟨12, n, f, t, s⟩ = if inR n (loE 12) (hiE 12) = true then 0 else 9 from (chkE_form (b := true) (by simp) (by simp [formE, h1, h2, h3])).trans (by simp [fieldE, rngE, loE, hiE])); have DB := qH (fun W => rout_any n (loE 12) (hiE 12) W); have DL := qH (fun W => rbounds_any 12 W); clear h1 h2 h3; generalize inR n (loE 12) (hiE 12) = b at *; generalize loE 12 = lo at *; generalize hiE 12 = hi at *
 cases b
 all_goals
  have HV := qH (HV0.out); go_enter Tryz.func10, Tryz.ntmps10; go_wp2_with fail; refine (DO.out _).mono ?_; rintro e w1 ⟨rfl, rfl⟩; go_wp2_with fail; refine (DT.out _).mono ?_; rintro e w1 ⟨rfl, rfl⟩; go_wp2_with fail; refine (DN.out _).mono ?_; rintro e w1 ⟨rfl, rfl⟩; go_wp2_with fail; refine (DS.out _).mono ?_; rintro e w1 ⟨rfl, rfl⟩; go_wp2_with fail; refine (DS.out _).mono ?_; rintro e w1 ⟨rfl, rfl⟩; go_wp2_with fail; refine (DL.out _).mono ?_; rintro e w1 ⟨rfl, rfl⟩; go_wp2_with fail; refine (DB.out _).mono ?_; rintro e w1 ⟨rfl, rfl⟩; go_wp2_with fail; go_ret; exact ⟨ret_int HV.out.symm, below_al w _⟩
theorem rcheck_1 (n f t : Int) (s : ByteArray) (w : World) (hs : s.size ≤ maxLen) : RChk ⟨1, n, f, t, s⟩ w := by
 have DO : Hid (∀ W, Calls Tryz.prog 37 #[.int .i64 1, .int .i64 1, .int .i64 12] W fun e w' => e = .returned (.bool false) ∧ W = w') := qH (fun W => rout_any 1 1 12 W); have DT : Hid (∀ W, Calls Tryz.prog 38 #[.int .i64 1] W fun e w' => e = .returned (.bool true) ∧ W = w') := qH (fun W => rtext_any 1 W); have DN : Hid (∀ W, Calls Tryz.prog 39 #[.int .i64 1] W fun e w' => e = .returned (.bool false) ∧ W = w') := qH (fun W => rn_any 1 W); have DS : Hid (∀ W, Calls Tryz.prog 40 #[.int .i64 1] W fun e w' => e = .returned (.bool false) ∧ W = w') := qH (fun W => rspan_any 1 W); unfold RChk edV; by_cases h1 : n = 0
 case neg =>
  have b1 := neT h1; have HV := qH (show chkE ⟨1, n, f, t, s⟩ = 2 from chkE_form (b := false) (by simp) (by simp [formE, h1])); clear h1; go_enter Tryz.func10, Tryz.ntmps10; go_wp2_with fail; refine (DO.out _).mono ?_; rintro e w1 ⟨rfl, rfl⟩; go_wp2_with fail; refine (DT.out _).mono ?_; rintro e w1 ⟨rfl, rfl⟩; go_wp2_with fail; refine (DN.out _).mono ?_; rintro e w1 ⟨rfl, rfl⟩; go_wp2_with fail; go_ret; exact ⟨ret_int HV.out.symm, below_al w _⟩
 have b1 := neF h1; by_cases h2 : f = 0
 case neg =>
  have b2 := neT h2; have HV := qH (show chkE ⟨1, n, f, t, s⟩ = 2 from chkE_form (b := false) (by simp) (by simp [formE, h2])); clear h1 h2; go_enter Tryz.func10, Tryz.ntmps10; go_wp2_with fail; refine (DO.out _).mono ?_; rintro e w1 ⟨rfl, rfl⟩; go_wp2_with fail; refine (DT.out _).mono ?_; rintro e w1 ⟨rfl, rfl⟩; go_wp2_with fail; refine (DN.out _).mono ?_; rintro e w1 ⟨rfl, rfl⟩; go_wp2_with fail; refine (DS.out _).mono ?_; rintro e w1 ⟨rfl, rfl⟩; go_wp2_with fail; go_ret; exact ⟨ret_int HV.out.symm, below_al w _⟩
 have b2 := neF h2; by_cases h3 : t = 0
 case neg =>
  have b3 := neT h3; have HV := qH (show chkE ⟨1, n, f, t, s⟩ = 2 from chkE_form (b := false) (by simp) (by simp [formE, h3])); clear h1 h2 h3; go_enter Tryz.func10, Tryz.ntmps10; go_wp2_with fail; refine (DO.out _).mono ?_; rintro e w1 ⟨rfl, rfl⟩; go_wp2_with fail; refine (DT.out _).mono ?_; rintro e w1 ⟨rfl, rfl⟩; go_wp2_with fail; refine (DN.out _).mono ?_; rintro e w1 ⟨rfl, rfl⟩; go_wp2_with fail; refine (DS.out _).mono ?_; rintro e w1 ⟨rfl, rfl⟩; go_wp2_with fail; go_ret; exact ⟨ret_int HV.out.symm, below_al w _⟩
 have b3 := neF h3; have HV0 := qH (show chkE ⟨1, n, f, t, s⟩ = if nameB s = true then 0 else 8 from (chkE_form (b := true) (by simp) (by simp [formE, h1, h2, h3])).trans (by simp [fieldE])); have DB := qH (fun W => risName_any s W hs); clear h1 h2 h3 hs; generalize nameB s = b at *
 cases b
 all_goals
  have HV := qH (HV0.out); go_enter Tryz.func10, Tryz.ntmps10; go_wp2_with fail; refine (DO.out _).mono ?_; rintro e w1 ⟨rfl, rfl⟩; go_wp2_with fail; refine (DT.out _).mono ?_; rintro e w1 ⟨rfl, rfl⟩; go_wp2_with fail; refine (DN.out _).mono ?_; rintro e w1 ⟨rfl, rfl⟩; go_wp2_with fail; refine (DS.out _).mono ?_; rintro e w1 ⟨rfl, rfl⟩; go_wp2_with fail; refine (DB.out _).mono ?_; rintro e w1 ⟨rfl, rfl⟩; go_wp2_with fail; go_ret; exact ⟨ret_int HV.out.symm, below_al w _⟩
theorem rcheck_3 (n f t : Int) (s : ByteArray) (w : World) (hs : s.size ≤ maxLen) : RChk ⟨3, n, f, t, s⟩ w := by
 have DO : Hid (∀ W, Calls Tryz.prog 37 #[.int .i64 3, .int .i64 1, .int .i64 12] W fun e w' => e = .returned (.bool false) ∧ W = w') := qH (fun W => rout_any 3 1 12 W); have DT : Hid (∀ W, Calls Tryz.prog 38 #[.int .i64 3] W fun e w' => e = .returned (.bool true) ∧ W = w') := qH (fun W => rtext_any 3 W); have DN : Hid (∀ W, Calls Tryz.prog 39 #[.int .i64 3] W fun e w' => e = .returned (.bool false) ∧ W = w') := qH (fun W => rn_any 3 W); have DS : Hid (∀ W, Calls Tryz.prog 40 #[.int .i64 3] W fun e w' => e = .returned (.bool false) ∧ W = w') := qH (fun W => rspan_any 3 W); unfold RChk edV; by_cases h1 : n = 0
 case neg =>
  have b1 := neT h1; have HV := qH (show chkE ⟨3, n, f, t, s⟩ = 2 from chkE_form (b := false) (by simp) (by simp [formE, h1])); clear h1; go_enter Tryz.func10, Tryz.ntmps10; go_wp2_with fail; refine (DO.out _).mono ?_; rintro e w1 ⟨rfl, rfl⟩; go_wp2_with fail; refine (DT.out _).mono ?_; rintro e w1 ⟨rfl, rfl⟩; go_wp2_with fail; refine (DN.out _).mono ?_; rintro e w1 ⟨rfl, rfl⟩; go_wp2_with fail; go_ret; exact ⟨ret_int HV.out.symm, below_al w _⟩
 have b1 := neF h1; by_cases h2 : f = 0
 case neg =>
  have b2 := neT h2; have HV := qH (show chkE ⟨3, n, f, t, s⟩ = 2 from chkE_form (b := false) (by simp) (by simp [formE, h2])); clear h1 h2; go_enter Tryz.func10, Tryz.ntmps10; go_wp2_with fail; refine (DO.out _).mono ?_; rintro e w1 ⟨rfl, rfl⟩; go_wp2_with fail; refine (DT.out _).mono ?_; rintro e w1 ⟨rfl, rfl⟩; go_wp2_with fail; refine (DN.out _).mono ?_; rintro e w1 ⟨rfl, rfl⟩; go_wp2_with fail; refine (DS.out _).mono ?_; rintro e w1 ⟨rfl, rfl⟩; go_wp2_with fail; go_ret; exact ⟨ret_int HV.out.symm, below_al w _⟩
 have b2 := neF h2; by_cases h3 : t = 0
 case neg =>
  have b3 := neT h3; have HV := qH (show chkE ⟨3, n, f, t, s⟩ = 2 from chkE_form (b := false) (by simp) (by simp [formE, h3])); clear h1 h2 h3; go_enter Tryz.func10, Tryz.ntmps10; go_wp2_with fail; refine (DO.out _).mono ?_; rintro e w1 ⟨rfl, rfl⟩; go_wp2_with fail; refine (DT.out _).mono ?_; rintro e w1 ⟨rfl, rfl⟩; go_wp2_with fail; refine (DN.out _).mono ?_; rintro e w1 ⟨rfl, rfl⟩; go_wp2_with fail; refine (DS.out _).mono ?_; rintro e w1 ⟨rfl, rfl⟩; go_wp2_with fail; go_ret; exact ⟨ret_int HV.out.symm, below_al w _⟩
 have b3 := neF h3; have HV0 := qH (show chkE ⟨3, n, f, t, s⟩ = if nameB s = true then 0 else 8 from (chkE_form (b := true) (by simp) (by simp [formE, h1, h2, h3])).trans (by simp [fieldE])); have DB := qH (fun W => risName_any s W hs); clear h1 h2 h3 hs; generalize nameB s = b at *
 cases b
 all_goals
  have HV := qH (HV0.out); go_enter Tryz.func10, Tryz.ntmps10; go_wp2_with fail; refine (DO.out _).mono ?_; rintro e w1 ⟨rfl, rfl⟩; go_wp2_with fail; refine (DT.out _).mono ?_; rintro e w1 ⟨rfl, rfl⟩; go_wp2_with fail; refine (DN.out _).mono ?_; rintro e w1 ⟨rfl, rfl⟩; go_wp2_with fail; refine (DS.out _).mono ?_; rintro e w1 ⟨rfl, rfl⟩; go_wp2_with fail; refine (DB.out _).mono ?_; rintro e w1 ⟨rfl, rfl⟩; go_wp2_with fail; go_ret; exact ⟨ret_int HV.out.symm, below_al w _⟩
theorem rcheck_4 (n f t : Int) (s : ByteArray) (w : World) (hs : s.size ≤ maxLen) : RChk ⟨4, n, f, t, s⟩ w := by
 have DO : Hid (∀ W, Calls Tryz.prog 37 #[.int .i64 4, .int .i64 1, .int .i64 12] W fun e w' => e = .returned (.bool false) ∧ W = w') := qH (fun W => rout_any 4 1 12 W); have DT : Hid (∀ W, Calls Tryz.prog 38 #[.int .i64 4] W fun e w' => e = .returned (.bool true) ∧ W = w') := qH (fun W => rtext_any 4 W); have DN : Hid (∀ W, Calls Tryz.prog 39 #[.int .i64 4] W fun e w' => e = .returned (.bool false) ∧ W = w') := qH (fun W => rn_any 4 W); have DS : Hid (∀ W, Calls Tryz.prog 40 #[.int .i64 4] W fun e w' => e = .returned (.bool false) ∧ W = w') := qH (fun W => rspan_any 4 W); unfold RChk edV; by_cases h1 : n = 0
 case neg =>
  have b1 := neT h1; have HV := qH (show chkE ⟨4, n, f, t, s⟩ = 2 from chkE_form (b := false) (by simp) (by simp [formE, h1])); clear h1; go_enter Tryz.func10, Tryz.ntmps10; go_wp2_with fail; refine (DO.out _).mono ?_; rintro e w1 ⟨rfl, rfl⟩; go_wp2_with fail; refine (DT.out _).mono ?_; rintro e w1 ⟨rfl, rfl⟩; go_wp2_with fail; refine (DN.out _).mono ?_; rintro e w1 ⟨rfl, rfl⟩; go_wp2_with fail; go_ret; exact ⟨ret_int HV.out.symm, below_al w _⟩
 have b1 := neF h1; by_cases h2 : f = 0
 case neg =>
  have b2 := neT h2; have HV := qH (show chkE ⟨4, n, f, t, s⟩ = 2 from chkE_form (b := false) (by simp) (by simp [formE, h2])); clear h1 h2; go_enter Tryz.func10, Tryz.ntmps10; go_wp2_with fail; refine (DO.out _).mono ?_; rintro e w1 ⟨rfl, rfl⟩; go_wp2_with fail; refine (DT.out _).mono ?_; rintro e w1 ⟨rfl, rfl⟩; go_wp2_with fail; refine (DN.out _).mono ?_; rintro e w1 ⟨rfl, rfl⟩; go_wp2_with fail; refine (DS.out _).mono ?_; rintro e w1 ⟨rfl, rfl⟩; go_wp2_with fail; go_ret; exact ⟨ret_int HV.out.symm, below_al w _⟩
 have b2 := neF h2; by_cases h3 : t = 0
 case neg =>
  have b3 := neT h3; have HV := qH (show chkE ⟨4, n, f, t, s⟩ = 2 from chkE_form (b := false) (by simp) (by simp [formE, h3])); clear h1 h2 h3; go_enter Tryz.func10, Tryz.ntmps10; go_wp2_with fail; refine (DO.out _).mono ?_; rintro e w1 ⟨rfl, rfl⟩; go_wp2_with fail; refine (DT.out _).mono ?_; rintro e w1 ⟨rfl, rfl⟩; go_wp2_with fail; refine (DN.out _).mono ?_; rintro e w1 ⟨rfl, rfl⟩; go_wp2_with fail; refine (DS.out _).mono ?_; rintro e w1 ⟨rfl, rfl⟩; go_wp2_with fail; go_ret; exact ⟨ret_int HV.out.symm, below_al w _⟩
 have b3 := neF h3; have HV0 := qH (show chkE ⟨4, n, f, t, s⟩ = if nameB s = true then 0 else 8 from (chkE_form (b := true) (by simp) (by simp [formE, h1, h2, h3])).trans (by simp [fieldE])); have DB := qH (fun W => risName_any s W hs); clear h1 h2 h3 hs; generalize nameB s = b at *
 cases b
 all_goals
  have HV := qH (HV0.out); go_enter Tryz.func10, Tryz.ntmps10; go_wp2_with fail; refine (DO.out _).mono ?_; rintro e w1 ⟨rfl, rfl⟩; go_wp2_with fail; refine (DT.out _).mono ?_; rintro e w1 ⟨rfl, rfl⟩; go_wp2_with fail; refine (DN.out _).mono ?_; rintro e w1 ⟨rfl, rfl⟩; go_wp2_with fail; refine (DS.out _).mono ?_; rintro e w1 ⟨rfl, rfl⟩; go_wp2_with fail; refine (DB.out _).mono ?_; rintro e w1 ⟨rfl, rfl⟩; go_wp2_with fail; go_ret; exact ⟨ret_int HV.out.symm, below_al w _⟩
theorem rcheck_8 (n f t : Int) (s : ByteArray) (w : World) (_ : s.size ≤ maxLen) : RChk ⟨8, n, f, t, s⟩ w := by
 have DO : Hid (∀ W, Calls Tryz.prog 37 #[.int .i64 8, .int .i64 1, .int .i64 12] W fun e w' => e = .returned (.bool false) ∧ W = w') := qH (fun W => rout_any 8 1 12 W); have DT : Hid (∀ W, Calls Tryz.prog 38 #[.int .i64 8] W fun e w' => e = .returned (.bool false) ∧ W = w') := qH (fun W => rtext_any 8 W); have DN : Hid (∀ W, Calls Tryz.prog 39 #[.int .i64 8] W fun e w' => e = .returned (.bool false) ∧ W = w') := qH (fun W => rn_any 8 W); have DS : Hid (∀ W, Calls Tryz.prog 40 #[.int .i64 8] W fun e w' => e = .returned (.bool true) ∧ W = w') := qH (fun W => rspan_any 8 W); unfold RChk edV; by_cases h0 : s.size = 0
 case neg =>
  have q1 := str_eq1 h0; have q2 := str_ne1 h0; have HV := qH (show chkE ⟨8, n, f, t, s⟩ = 2 from chkE_form (b := false) (by simp) (by simp [formE, h0])); clear h0; go_enter Tryz.func10, Tryz.ntmps10; go_wp2_with fail; refine (DO.out _).mono ?_; rintro e w1 ⟨rfl, rfl⟩; go_wp2_with fail; refine (DT.out _).mono ?_; rintro e w1 ⟨rfl, rfl⟩; go_wp2_with fail; go_ret; exact ⟨ret_int HV.out.symm, below_al w _⟩
 have HZ := qH h0; have q1 := str_eq0 h0; have q2 := str_ne0 h0; by_cases h1 : n = 0
 case neg =>
  have b1 := neT h1; have HV := qH (show chkE ⟨8, n, f, t, s⟩ = 2 from chkE_form (b := false) (by simp) (by simp [formE, h1])); clear h0 h1; go_enter Tryz.func10, Tryz.ntmps10; go_wp2_with fail; refine (DO.out _).mono ?_; rintro e w1 ⟨rfl, rfl⟩; go_wp2_with fail; refine (DT.out _).mono ?_; rintro e w1 ⟨rfl, rfl⟩; go_wp2_with fail; refine (DN.out _).mono ?_; rintro e w1 ⟨rfl, rfl⟩; go_wp2_with fail; go_ret; exact ⟨ret_int HV.out.symm, below_al w _⟩
 have b1 := neF h1; have HV0 := qH (show chkE ⟨8, n, f, t, s⟩ = fieldE ⟨8, n, f, t, s⟩ from (chkE_form (b := true) (by simp) (by simp [formE, h0, h1]))); clear h1 h0 ; by_cases g0 : f < 0
 case pos =>
  have d0 : decide (f < 0) = true := decide_eq_true g0; have HV := qH (show chkE ⟨8, n, f, t, s⟩ = 9 by
   rw [HV0.out]; unfold fieldE; rw [if_neg (by simp), if_neg (by simp), if_neg (by simp), if_neg (by simp), if_neg (by simp), if_neg (by simp), if_neg (by simp), if_neg (by simp), if_pos (by simp only; omega)])
  clear g0 HV0; go_enter Tryz.func10, Tryz.ntmps10; go_wp2_with fail; refine (DO.out _).mono ?_; rintro e w1 ⟨rfl, rfl⟩; go_wp2_with fail; refine (DT.out _).mono ?_; rintro e w1 ⟨rfl, rfl⟩; go_wp2_with fail; refine (DN.out _).mono ?_; rintro e w1 ⟨rfl, rfl⟩; go_wp2_with fail; refine (DS.out _).mono ?_; rintro e w1 ⟨rfl, rfl⟩; go_wp2_with fail; refine (DS.out _).mono ?_; rintro e w1 ⟨rfl, rfl⟩; go_wp2_with fail; go_ret; exact ⟨ret_int HV.out.symm, below_al w _⟩
 have d0 : decide (f < 0) = false := decide_eq_false g0; by_cases g1 : t ≤ f
 case pos =>
  have d1 : decide (t ≤ f) = true := decide_eq_true g1; have HV := qH (show chkE ⟨8, n, f, t, s⟩ = 9 by
   rw [HV0.out]; unfold fieldE; rw [if_neg (by simp), if_neg (by simp), if_neg (by simp), if_neg (by simp), if_neg (by simp), if_neg (by simp), if_neg (by simp), if_neg (by simp), if_pos (by simp only; omega)])
  clear g0 g1 HV0; go_enter Tryz.func10, Tryz.ntmps10; go_wp2_with fail; refine (DO.out _).mono ?_; rintro e w1 ⟨rfl, rfl⟩; go_wp2_with fail; refine (DT.out _).mono ?_; rintro e w1 ⟨rfl, rfl⟩; go_wp2_with fail; refine (DN.out _).mono ?_; rintro e w1 ⟨rfl, rfl⟩; go_wp2_with fail; refine (DS.out _).mono ?_; rintro e w1 ⟨rfl, rfl⟩; go_wp2_with fail; refine (DS.out _).mono ?_; rintro e w1 ⟨rfl, rfl⟩; go_wp2_with fail; go_ret; exact ⟨ret_int HV.out.symm, below_al w _⟩
 have d1 : decide (t ≤ f) = false := decide_eq_false g1; by_cases g2 : 1000000 < t
 case pos =>
  have d2 : decide ((1000000 : Int) < t) = true := decide_eq_true g2; have HV := qH (show chkE ⟨8, n, f, t, s⟩ = 9 by
   rw [HV0.out]; unfold fieldE; rw [if_neg (by simp), if_neg (by simp), if_neg (by simp), if_neg (by simp), if_neg (by simp), if_neg (by simp), if_neg (by simp), if_neg (by simp), if_pos (by simp only; omega)])
  clear g0 g1 g2 HV0; go_enter Tryz.func10, Tryz.ntmps10; go_wp2_with fail; refine (DO.out _).mono ?_; rintro e w1 ⟨rfl, rfl⟩; go_wp2_with fail; refine (DT.out _).mono ?_; rintro e w1 ⟨rfl, rfl⟩; go_wp2_with fail; refine (DN.out _).mono ?_; rintro e w1 ⟨rfl, rfl⟩; go_wp2_with fail; refine (DS.out _).mono ?_; rintro e w1 ⟨rfl, rfl⟩; go_wp2_with fail; refine (DS.out _).mono ?_; rintro e w1 ⟨rfl, rfl⟩; go_wp2_with fail; go_ret; exact ⟨ret_int HV.out.symm, below_al w _⟩
 have d2 : decide ((1000000 : Int) < t) = false := decide_eq_false g2; have HV1 := qH (show chkE ⟨8, n, f, t, s⟩ = if titleB s = true then 0 else 8 by
  rw [HV0.out]; unfold fieldE; rw [if_neg (by simp), if_neg (by simp), if_neg (by simp), if_neg (by simp), if_neg (by simp), if_neg (by simp), if_neg (by simp), if_neg (by simp), if_neg (by simp only; omega)])
 have HV := qH (HV1.out.trans (if_pos (show titleB s = true by
  cases s with
  | mk d =>
   have : d = #[] := Array.eq_empty_of_size_eq_zero HZ.out; rw [this]
   rfl)))
 clear g0 g1 g2 HV0 HV1; go_enter Tryz.func10, Tryz.ntmps10; go_wp2_with fail; refine (DO.out _).mono ?_; rintro e w1 ⟨rfl, rfl⟩; go_wp2_with fail; refine (DT.out _).mono ?_; rintro e w1 ⟨rfl, rfl⟩; go_wp2_with fail; refine (DN.out _).mono ?_; rintro e w1 ⟨rfl, rfl⟩; go_wp2_with fail; refine (DS.out _).mono ?_; rintro e w1 ⟨rfl, rfl⟩; go_wp2_with fail; refine (DS.out _).mono ?_; rintro e w1 ⟨rfl, rfl⟩; go_wp2_with fail; go_ret; exact ⟨ret_int HV.out.symm, below_al w _⟩
theorem rcheck_11 (n f t : Int) (s : ByteArray) (w : World) (hs : s.size ≤ maxLen) : RChk ⟨11, n, f, t, s⟩ w := by
 have DO : Hid (∀ W, Calls Tryz.prog 37 #[.int .i64 11, .int .i64 1, .int .i64 12] W fun e w' => e = .returned (.bool false) ∧ W = w') := qH (fun W => rout_any 11 1 12 W); have DT : Hid (∀ W, Calls Tryz.prog 38 #[.int .i64 11] W fun e w' => e = .returned (.bool true) ∧ W = w') := qH (fun W => rtext_any 11 W); have DN : Hid (∀ W, Calls Tryz.prog 39 #[.int .i64 11] W fun e w' => e = .returned (.bool false) ∧ W = w') := qH (fun W => rn_any 11 W); have DS : Hid (∀ W, Calls Tryz.prog 40 #[.int .i64 11] W fun e w' => e = .returned (.bool true) ∧ W = w') := qH (fun W => rspan_any 11 W); unfold RChk edV; by_cases h1 : n = 0
 case neg =>
  have b1 := neT h1; have HV := qH (show chkE ⟨11, n, f, t, s⟩ = 2 from chkE_form (b := false) (by simp) (by simp [formE, h1])); clear h1; go_enter Tryz.func10, Tryz.ntmps10; go_wp2_with fail; refine (DO.out _).mono ?_; rintro e w1 ⟨rfl, rfl⟩; go_wp2_with fail; refine (DT.out _).mono ?_; rintro e w1 ⟨rfl, rfl⟩; go_wp2_with fail; refine (DN.out _).mono ?_; rintro e w1 ⟨rfl, rfl⟩; go_wp2_with fail; go_ret; exact ⟨ret_int HV.out.symm, below_al w _⟩
 have b1 := neF h1; have HV0 := qH (show chkE ⟨11, n, f, t, s⟩ = fieldE ⟨11, n, f, t, s⟩ from (chkE_form (b := true) (by simp) (by simp [formE, h1]))); clear h1 ; by_cases g0 : f < 0
 case pos =>
  have d0 : decide (f < 0) = true := decide_eq_true g0; have HV := qH (show chkE ⟨11, n, f, t, s⟩ = 9 by
   rw [HV0.out]; unfold fieldE; rw [if_neg (by simp), if_neg (by simp), if_neg (by simp), if_neg (by simp), if_neg (by simp), if_neg (by simp), if_neg (by simp), if_neg (by simp), if_pos (by simp only; omega)])
  clear g0 HV0; go_enter Tryz.func10, Tryz.ntmps10; go_wp2_with fail; refine (DO.out _).mono ?_; rintro e w1 ⟨rfl, rfl⟩; go_wp2_with fail; refine (DT.out _).mono ?_; rintro e w1 ⟨rfl, rfl⟩; go_wp2_with fail; refine (DN.out _).mono ?_; rintro e w1 ⟨rfl, rfl⟩; go_wp2_with fail; refine (DS.out _).mono ?_; rintro e w1 ⟨rfl, rfl⟩; go_wp2_with fail; refine (DS.out _).mono ?_; rintro e w1 ⟨rfl, rfl⟩; go_wp2_with fail; go_ret; exact ⟨ret_int HV.out.symm, below_al w _⟩
 have d0 : decide (f < 0) = false := decide_eq_false g0; by_cases g1 : t ≤ f
 case pos =>
  have d1 : decide (t ≤ f) = true := decide_eq_true g1; have HV := qH (show chkE ⟨11, n, f, t, s⟩ = 9 by
   rw [HV0.out]; unfold fieldE; rw [if_neg (by simp), if_neg (by simp), if_neg (by simp), if_neg (by simp), if_neg (by simp), if_neg (by simp), if_neg (by simp), if_neg (by simp), if_pos (by simp only; omega)])
  clear g0 g1 HV0; go_enter Tryz.func10, Tryz.ntmps10; go_wp2_with fail; refine (DO.out _).mono ?_; rintro e w1 ⟨rfl, rfl⟩; go_wp2_with fail; refine (DT.out _).mono ?_; rintro e w1 ⟨rfl, rfl⟩; go_wp2_with fail; refine (DN.out _).mono ?_; rintro e w1 ⟨rfl, rfl⟩; go_wp2_with fail; refine (DS.out _).mono ?_; rintro e w1 ⟨rfl, rfl⟩; go_wp2_with fail; refine (DS.out _).mono ?_; rintro e w1 ⟨rfl, rfl⟩; go_wp2_with fail; go_ret; exact ⟨ret_int HV.out.symm, below_al w _⟩
 have d1 : decide (t ≤ f) = false := decide_eq_false g1; by_cases g2 : 1000000 < t
 case pos =>
  have d2 : decide ((1000000 : Int) < t) = true := decide_eq_true g2; have HV := qH (show chkE ⟨11, n, f, t, s⟩ = 9 by
   rw [HV0.out]; unfold fieldE; rw [if_neg (by simp), if_neg (by simp), if_neg (by simp), if_neg (by simp), if_neg (by simp), if_neg (by simp), if_neg (by simp), if_neg (by simp), if_pos (by simp only; omega)])
  clear g0 g1 g2 HV0; go_enter Tryz.func10, Tryz.ntmps10; go_wp2_with fail; refine (DO.out _).mono ?_; rintro e w1 ⟨rfl, rfl⟩; go_wp2_with fail; refine (DT.out _).mono ?_; rintro e w1 ⟨rfl, rfl⟩; go_wp2_with fail; refine (DN.out _).mono ?_; rintro e w1 ⟨rfl, rfl⟩; go_wp2_with fail; refine (DS.out _).mono ?_; rintro e w1 ⟨rfl, rfl⟩; go_wp2_with fail; refine (DS.out _).mono ?_; rintro e w1 ⟨rfl, rfl⟩; go_wp2_with fail; go_ret; exact ⟨ret_int HV.out.symm, below_al w _⟩
 have d2 : decide ((1000000 : Int) < t) = false := decide_eq_false g2; have HV1 := qH (show chkE ⟨11, n, f, t, s⟩ = if titleB s = true then 0 else 8 by
  rw [HV0.out]; unfold fieldE; rw [if_neg (by simp), if_neg (by simp), if_neg (by simp), if_neg (by simp), if_neg (by simp), if_neg (by simp), if_neg (by simp), if_neg (by simp), if_neg (by simp only; omega)])
 have DB := qH (fun W => rlap_any s W hs); clear g0 g1 g2 HV0 hs; generalize titleB s = b at *
 cases b
 all_goals
  have HV := qH (HV1.out); go_enter Tryz.func10, Tryz.ntmps10; go_wp2_with fail; refine (DO.out _).mono ?_; rintro e w1 ⟨rfl, rfl⟩; go_wp2_with fail; refine (DT.out _).mono ?_; rintro e w1 ⟨rfl, rfl⟩; go_wp2_with fail; refine (DN.out _).mono ?_; rintro e w1 ⟨rfl, rfl⟩; go_wp2_with fail; refine (DS.out _).mono ?_; rintro e w1 ⟨rfl, rfl⟩; go_wp2_with fail; refine (DS.out _).mono ?_; rintro e w1 ⟨rfl, rfl⟩; go_wp2_with fail; refine (DB.out _).mono ?_; rintro e w1 ⟨rfl, rfl⟩; go_wp2_with fail; go_ret; exact ⟨ret_int HV.out.symm, below_al w _⟩
theorem rcheck_any (x : Ed) (w : World) (hs : x.s.size ≤ maxLen) : RChk x w := by
 obtain ⟨k, n, f, t, s⟩ := x; rcases kinds k with rfl | rfl | rfl | rfl | rfl | rfl | rfl | rfl | rfl | rfl | rfl | rfl | h | h
 · exact rcheck_1 n f t s w hs
 · exact rcheck_2 n f t s w hs
 · exact rcheck_3 n f t s w hs
 · exact rcheck_4 n f t s w hs
 · exact rcheck_5 n f t s w hs
 · exact rcheck_6 n f t s w hs
 · exact rcheck_7 n f t s w hs
 · exact rcheck_8 n f t s w hs
 · exact rcheck_9 n f t s w hs
 · exact rcheck_10 n f t s w hs
 · exact rcheck_11 n f t s w hs
 · exact rcheck_12 n f t s w hs
 all_goals
  have HV := qH (show chkE ⟨k, n, f, t, s⟩ = 7 by
   unfold chkE; rw [if_pos (by simp only; omega)])
  have DO : Hid (∀ W, Calls Tryz.prog 37 #[.int .i64 k, .int .i64 1, .int .i64 12] W fun e w' => e = .returned (.bool true) ∧ W = w') := qH (fun W => by
   have := rout_any k 1 12 W
   rwa [show (!inR k 1 12) = true by simp [inR]; omega] at this)
  unfold RChk edV; clear h hs; go_enter Tryz.func10, Tryz.ntmps10; go_wp2_with fail; refine (DO.out _).mono ?_; rintro e w1 ⟨rfl, rfl⟩; go_wp2_with fail; go_ret; exact ⟨ret_int HV.out.symm, below_al w _⟩
open Tr (inR Ed)
def GenR (Z : Acv) (er : Int) (lo : Nat) (w : World) (e : Ending) (w' : World) : Prop :=
 Below w.heap.size w w' ∧ ∃ (nm : ByteArray) (sp st : Int) (ma mb mc : Option Addr) (na nb nc mca mcb mcc : Nat), e = .returned (.tuple #[.agg #[.string nm, .int .i64 sp, .int .i64 st, .slice ma na mca, .slice mb nb mcb, .slice mc nc mcc], .int .i64 er]) ∧
  ∃ Y : Acv, actV Y ma mb mc mca mcb mcc = .agg #[.string nm, .int .i64 sp, .int .i64 st, .slice ma na mca, .slice mb nb mcb, .slice mc nc mcc] ∧ (er = 0 → Y = Z ∧ ActIn w' Y ma mb mc ∧ ∀ q, (ma = some q ∨ mb = some q ∨ mc = some q) → lo ≤ q.block)
theorem LvRet.gen {Z : Acv} {w : World} {e : Ending} {w' : World} {lo : Nat} (h : LvRet Z w e w') (hl : lo ≤ w.heap.size) : GenR Z 0 lo w e w' := by
 obtain ⟨hb, a, b, c, ca, cb, cc, rfl, hi, hf⟩ := h; exact ⟨hb, _, _, _, a, b, c, _, _, _, ca, cb, cc, rfl, Z, rfl, fun _ => ⟨rfl, hi, fun q hq => by have := hf q hq; omega⟩⟩
theorem CutRet.gen {A : Acv} {f t : Int} {w : World} {e : Ending} {w' : World} {lo : Nat} (h : CutRet A f t w e w') (hl : lo ≤ w.heap.size) : GenR (partA A (cutL A.sm f t) f) (cutE A f t) lo w e w' := by
 rcases h with ⟨hok, hb, er, her, h⟩ | ⟨_, hne, rfl, hb⟩
 · rw [(cutE_ok hok).trans her]
   rcases h with ⟨hne, rfl⟩ | ⟨rfl, ma, mb, mc, mca, mcb, mcc, rfl, hin, hfr⟩
   · exact ⟨hb, _, _, _, none, none, none, _, _, _, _, _, _, rfl, Az, rfl, fun h => absurd h hne⟩
   · exact ⟨hb, _, _, _, ma, mb, mc, _, _, _, mca, mcb, mcc, rfl, _, rfl, fun _ => ⟨rfl, hin, fun q hq => by have := hfr q hq; omega⟩⟩
 · exact ⟨hb, _, _, _, none, none, none, _, _, _, _, _, _, rfl, Az, rfl, fun h => absurd h hne⟩
theorem done_8 (n f t : Int) (s : ByteArray) (A : Acv) (a b c : Option Addr) (ca cb cc : Nat) (w : World) (hI : ActIn w A a b c) (oA : AcOk A) :
 Calls Tryz.prog 36 #[actV A a b c ca cb cc, edV ⟨8, n, f, t, s⟩] w fun e w' => DoR A ⟨8, n, f, t, s⟩ w.heap.size w e w' := by
 obtain ⟨V0, hV0, hb0, hs0, ha0⟩ := alloc_aA w A a b c ca cb cc; obtain ⟨V1, hV1, hb1, hs1, hl1⟩ := alloc_cells V0 #[.int .i64 8, .int .i64 n, .int .i64 f, .int .i64 t, .string s] 28; obtain ⟨V2, hV2, hb2, hs2, ha2⟩ := alloc_a0 V1; have hs11 : V1.heap.size = w.heap.size + 2 := by omega
 rw [hs0] at hl1; rw [hs11] at ha2; have hA0 := (ha0.below hb1).below hb2; have HB := qH (bStp (bStp hb0 hb1) hb2); have HSZ := qH (show V2.heap.size = w.heap.size + 3 from by omega); have HIA := qH (hI.below HB.out); have HA0 := qH hA0; have HA2 := qH ha2; have HOA := qH oA; have HTX := qH hI.text; have x0 := bCel hb2 (hl1 0 _ rfl); have x1 := bCel hb2 (hl1 1 _ rfl); have x2 := bCel hb2 (hl1 2 _ rfl); have x3 := bCel hb2 (hl1 3 _ rfl); have x4 := bCel hb2 (hl1 4 _ rfl); obtain ⟨z0, z1, z2, z3, z4, z5⟩ := hA0.cell; have fr := hA0.free; have DL := qH ((rcut_any A a b c ca cb cc f t V2 HIA.out oA).mono fun e w' h => h.gen (lo := w.heap.size + 3) (by omega)); have HEQ := qH (show appE A ⟨8, n, f, t, s⟩ = cutE A f t ∧ appZ A ⟨8, n, f, t, s⟩ = partA A (cutL A.sm f t) f from ⟨appE_8 rfl, appZ_8 rfl⟩); rw [← HEQ.out.2] at DL; clear hI oA hb0 hb1 hb2 ha0 ha2 hl1 hA0 hs1 hs2; unfold actV at DL; unfold DoR; unfold actV; unfold edV; go_enter Tryz.func36, Tryz.ntmps36; go_upto_region 1 with (fail); clear hV0 hV1 hV2 hs0 hs11; go_upto_region 3 with (fail); go_wp2_with fail; refine (DL.out).mono ?_; rintro e w6 ⟨hb6, nm, sp', st', ma, mb, mc, na, nb, nc, mca, mcb, mcc, rfl, Y, hy, hgd⟩; have HB6 := qH hb6; have HY := qH (show (.agg #[.string Y.name, .int .i64 Y.sport, .int .i64 Y.start, .slice ma Y.sm.length mca, .slice mb Y.lp.length mcb, .slice mc Y.tg.length mcc] : Value) = .agg #[.string nm, .int .i64 sp', .int .i64 st', .slice ma na mca, .slice mb nb mcb, .slice mc nc mcc] from hy); have HGD := qH (show appE A _ = 0 → _ from fun h0 => hgd (HEQ.out.1.symm.trans h0)); obtain ⟨er, her⟩ : ∃ z, cutE A f t = z := ⟨_, rfl⟩; have HER := qH (HEQ.out.1.trans her); rw [her]; clear hb6 hy hgd DL x0 x1 x2 x3 x4 z0 z1 z2 z3 z4 z5 fr; have hR := HA2.out.below (HB6.out); obtain ⟨r0, r1, r2, r3, r4, r5⟩ := hR.cell; have fr2 := hR.free; obtain ⟨WF, hWF, haF, hkF⟩ := hR.store nm sp' st' (.slice ma na mca) (.slice mb nb mcb) (.slice mc nc mcc); have HAF := qH haF; have HKF := qH (hkF (fun q => q = w.heap.size + 2) rfl); have HBF := qH (show Below w.heap.size w WF from by
  have h1 := bStp HB.out HB6.out; exact Kept.below h1 HKF.out h1.size (fun k hk e => by omega))
 clear haF hkF hR; go_wp2_with fail; have q := HAF.out.cell; refine bodyPost_ret (v := .tuple #[.agg #[.string nm, .int .i64 sp', .int .i64 st', .slice ma na mca, .slice mb nb mcb, .slice mc nc mcc], .int .i64 er]) (by simp [results, Tryz.results36, go_sem, q]) rfl ⟨HBF.out, Y, ma, mb, mc, mca, mcb, mcc, by rw [HER.out, HY.out], fun h0 => ?_⟩; obtain ⟨e1, e2, e3⟩ := HGD.out (h0); exact ⟨e1, e2.kept HKF.out (fun g hg e => by have := e3 g hg; omega), fun g hg => by have := e3 g hg; omega⟩
theorem done_9 (n f t : Int) (s : ByteArray) (A : Acv) (a b c : Option Addr) (ca cb cc : Nat) (w : World) (hI : ActIn w A a b c) (oA : AcOk A) (hn : 0 ≤ n ∧ n ≤ 50) :
 Calls Tryz.prog 36 #[actV A a b c ca cb cc, edV ⟨9, n, f, t, s⟩] w fun e w' => DoR A ⟨9, n, f, t, s⟩ w.heap.size w e w' := by
 obtain ⟨V0, hV0, hb0, hs0, ha0⟩ := alloc_aA w A a b c ca cb cc; obtain ⟨V1, hV1, hb1, hs1, hl1⟩ := alloc_cells V0 #[.int .i64 9, .int .i64 n, .int .i64 f, .int .i64 t, .string s] 28; obtain ⟨V2, hV2, hb2, hs2, ha2⟩ := alloc_a0 V1; have hs11 : V1.heap.size = w.heap.size + 2 := by omega
 rw [hs0] at hl1; rw [hs11] at ha2; have hA0 := (ha0.below hb1).below hb2; have HB := qH (bStp (bStp hb0 hb1) hb2); have HSZ := qH (show V2.heap.size = w.heap.size + 3 from by omega); have HIA := qH (hI.below HB.out); have HA0 := qH hA0; have HA2 := qH ha2; have HOA := qH oA; have HTX := qH hI.text; have x0 := bCel hb2 (hl1 0 _ rfl); have x1 := bCel hb2 (hl1 1 _ rfl); have x2 := bCel hb2 (hl1 2 _ rfl); have x3 := bCel hb2 (hl1 3 _ rfl); have x4 := bCel hb2 (hl1 4 _ rfl); obtain ⟨z0, z1, z2, z3, z4, z5⟩ := hA0.cell; have fr := hA0.free; obtain ⟨nn, rfl⟩ : ∃ nn : Nat, n = (nn : Int) := ⟨n.toNat, by omega⟩; have DL := qH ((rlevel_any A a b c ca cb cc nn V2 HIA.out oA (by omega)).mono fun e w' h => h.gen (lo := w.heap.size + 3) (by omega)); have HEQ := qH (show appE A ⟨9, (nn : Int), f, t, s⟩ = 0 ∧ appZ A ⟨9, (nn : Int), f, t, s⟩ = { A with sm := levelS A.sm nn } from ⟨appE_9 rfl, by rw [appZ_9 rfl]; rfl⟩); rw [← HEQ.out.2] at DL; clear hI oA hb0 hb1 hb2 ha0 ha2 hl1 hA0 hs1 hs2; unfold actV at DL; unfold DoR; unfold actV; unfold edV; go_enter Tryz.func36, Tryz.ntmps36; go_upto_region 1 with (fail); clear hV0 hV1 hV2 hs0 hs11; go_upto_region 5 with (fail); go_wp2_with fail; refine (DL.out).mono ?_; rintro e w6 ⟨hb6, nm, sp', st', ma, mb, mc, na, nb, nc, mca, mcb, mcc, rfl, Y, hy, hgd⟩; have HB6 := qH hb6; have HY := qH (show (.agg #[.string Y.name, .int .i64 Y.sport, .int .i64 Y.start, .slice ma Y.sm.length mca, .slice mb Y.lp.length mcb, .slice mc Y.tg.length mcc] : Value) = .agg #[.string nm, .int .i64 sp', .int .i64 st', .slice ma na mca, .slice mb nb mcb, .slice mc nc mcc] from hy); have HGD := qH (show appE A _ = 0 → _ from fun h0 => hgd (HEQ.out.1.symm.trans h0)); obtain ⟨er, her⟩ : ∃ z, (0 : Int) = z := ⟨_, rfl⟩; have HER := qH (HEQ.out.1.trans her); subst her; clear hb6 hy hgd DL x0 x1 x2 x3 x4 z0 z1 z2 z3 z4 z5 fr; have hR := HA2.out.below (HB6.out); obtain ⟨r0, r1, r2, r3, r4, r5⟩ := hR.cell; have fr2 := hR.free; obtain ⟨WF, hWF, haF, hkF⟩ := hR.store nm sp' st' (.slice ma na mca) (.slice mb nb mcb) (.slice mc nc mcc); have HAF := qH haF; have HKF := qH (hkF (fun q => q = w.heap.size + 2) rfl); have HBF := qH (show Below w.heap.size w WF from by
  have h1 := bStp HB.out HB6.out; exact Kept.below h1 HKF.out h1.size (fun k hk e => by omega))
 clear haF hkF hR; go_wp2_with fail; have q := HAF.out.cell; refine bodyPost_ret (v := .tuple #[.agg #[.string nm, .int .i64 sp', .int .i64 st', .slice ma na mca, .slice mb nb mcb, .slice mc nc mcc], .int .i64 0]) (by simp [results, Tryz.results36, go_sem, q]) rfl ⟨HBF.out, Y, ma, mb, mc, mca, mcb, mcc, by rw [HER.out, HY.out], fun h0 => ?_⟩; obtain ⟨e1, e2, e3⟩ := HGD.out (h0); exact ⟨e1, e2.kept HKF.out (fun g hg e => by have := e3 g hg; omega), fun g hg => by have := e3 g hg; omega⟩
theorem done_10 (n f t : Int) (s : ByteArray) (A : Acv) (a b c : Option Addr) (ca cb cc : Nat) (w : World) (hI : ActIn w A a b c) (oA : AcOk A) (hn : 0 ≤ n ∧ n ≤ 1000000) :
 Calls Tryz.prog 36 #[actV A a b c ca cb cc, edV ⟨10, n, f, t, s⟩] w fun e w' => DoR A ⟨10, n, f, t, s⟩ w.heap.size w e w' := by
 obtain ⟨V0, hV0, hb0, hs0, ha0⟩ := alloc_aA w A a b c ca cb cc; obtain ⟨V1, hV1, hb1, hs1, hl1⟩ := alloc_cells V0 #[.int .i64 10, .int .i64 n, .int .i64 f, .int .i64 t, .string s] 28; obtain ⟨V2, hV2, hb2, hs2, ha2⟩ := alloc_a0 V1; have hs11 : V1.heap.size = w.heap.size + 2 := by omega
 rw [hs0] at hl1; rw [hs11] at ha2; have hA0 := (ha0.below hb1).below hb2; have HB := qH (bStp (bStp hb0 hb1) hb2); have HSZ := qH (show V2.heap.size = w.heap.size + 3 from by omega); have HIA := qH (hI.below HB.out); have HA0 := qH hA0; have HA2 := qH ha2; have HOA := qH oA; have HTX := qH hI.text; have x0 := bCel hb2 (hl1 0 _ rfl); have x1 := bCel hb2 (hl1 1 _ rfl); have x2 := bCel hb2 (hl1 2 _ rfl); have x3 := bCel hb2 (hl1 3 _ rfl); have x4 := bCel hb2 (hl1 4 _ rfl); obtain ⟨z0, z1, z2, z3, z4, z5⟩ := hA0.cell; have fr := hA0.free; have DL := qH ((rfill_any A a b c ca cb cc n V2 HIA.out oA hn).mono fun e w' h => h.gen (lo := w.heap.size + 3) (by omega)); have HEQ := qH (show appE A ⟨10, n, f, t, s⟩ = 0 ∧ appZ A ⟨10, n, f, t, s⟩ = { A with sm := fillA n A.sm } from ⟨appE_10 rfl, appZ_10 rfl⟩); rw [← HEQ.out.2] at DL; clear hI oA hb0 hb1 hb2 ha0 ha2 hl1 hA0 hs1 hs2; unfold actV at DL; unfold DoR; unfold actV; unfold edV; go_enter Tryz.func36, Tryz.ntmps36; go_upto_region 1 with (fail); clear hV0 hV1 hV2 hs0 hs11; go_upto_region 7 with (fail); go_wp2_with fail; refine (DL.out).mono ?_; rintro e w6 ⟨hb6, nm, sp', st', ma, mb, mc, na, nb, nc, mca, mcb, mcc, rfl, Y, hy, hgd⟩; have HB6 := qH hb6; have HY := qH (show (.agg #[.string Y.name, .int .i64 Y.sport, .int .i64 Y.start, .slice ma Y.sm.length mca, .slice mb Y.lp.length mcb, .slice mc Y.tg.length mcc] : Value) = .agg #[.string nm, .int .i64 sp', .int .i64 st', .slice ma na mca, .slice mb nb mcb, .slice mc nc mcc] from hy); have HGD := qH (show appE A _ = 0 → _ from fun h0 => hgd (HEQ.out.1.symm.trans h0)); obtain ⟨er, her⟩ : ∃ z, (0 : Int) = z := ⟨_, rfl⟩; have HER := qH (HEQ.out.1.trans her); subst her; clear hb6 hy hgd DL x0 x1 x2 x3 x4 z0 z1 z2 z3 z4 z5 fr; have hR := HA2.out.below (HB6.out); obtain ⟨r0, r1, r2, r3, r4, r5⟩ := hR.cell; have fr2 := hR.free; obtain ⟨WF, hWF, haF, hkF⟩ := hR.store nm sp' st' (.slice ma na mca) (.slice mb nb mcb) (.slice mc nc mcc); have HAF := qH haF; have HKF := qH (hkF (fun q => q = w.heap.size + 2) rfl); have HBF := qH (show Below w.heap.size w WF from by
  have h1 := bStp HB.out HB6.out; exact Kept.below h1 HKF.out h1.size (fun k hk e => by omega))
 clear haF hkF hR; go_wp2_with fail; have q := HAF.out.cell; refine bodyPost_ret (v := .tuple #[.agg #[.string nm, .int .i64 sp', .int .i64 st', .slice ma na mca, .slice mb nb mcb, .slice mc nc mcc], .int .i64 0]) (by simp [results, Tryz.results36, go_sem, q]) rfl ⟨HBF.out, Y, ma, mb, mc, mca, mcb, mcc, by rw [HER.out, HY.out], fun h0 => ?_⟩; obtain ⟨e1, e2, e3⟩ := HGD.out (h0); exact ⟨e1, e2.kept HKF.out (fun g hg e => by have := e3 g hg; omega), fun g hg => by have := e3 g hg; omega⟩
theorem done_small (k n f t : Int) (s : ByteArray) (A : Acv) (a b c : Option Addr) (ca cb cc : Nat) (w : World) (hI : ActIn w A a b c) (oA : AcOk A) (h8 : k ≠ 8) (h9 : k ≠ 9) (h10 : k ≠ 10)
 (hsm : ∀ (a b c : Option Addr) (ca cb cc base : Nat) (w : World), Own3 w base A (.slice a A.sm.length ca) (.slice b A.lp.length cb) (.slice c A.tg.length cc) → base ≤ w.heap.size → Calls Tryz.prog 74 #[actV A a b c ca cb cc, edV ⟨k, n, f, t, s⟩] w fun e w' => DoR A ⟨k, n, f, t, s⟩ base w e w') :
 Calls Tryz.prog 36 #[actV A a b c ca cb cc, edV ⟨k, n, f, t, s⟩] w fun e w' => DoR A ⟨k, n, f, t, s⟩ w.heap.size w e w' := by
 obtain ⟨V0, hV0, hb0, hs0, ha0⟩ := alloc_aA w A a b c ca cb cc; obtain ⟨V1, hV1, hb1, hs1, hl1⟩ := alloc_cells V0 #[.int .i64 k, .int .i64 n, .int .i64 f, .int .i64 t, .string s] 28; obtain ⟨V2, hV2, hb2, hs2, ha2⟩ := alloc_a0 V1; have hs11 : V1.heap.size = w.heap.size + 2 := by omega
 rw [hs0] at hl1; rw [hs11] at ha2; have hA0 := (ha0.below hb1).below hb2; have HB := qH (bStp (bStp hb0 hb1) hb2); have HSZ := qH (show V2.heap.size = w.heap.size + 3 from by omega); have HIA := qH (hI.below HB.out); have HA0 := qH hA0; have HA2 := qH ha2; have HOA := qH oA; have HTX := qH hI.text; have x0 := bCel hb2 (hl1 0 _ rfl); have x1 := bCel hb2 (hl1 1 _ rfl); have x2 := bCel hb2 (hl1 2 _ rfl); have x3 := bCel hb2 (hl1 3 _ rfl); have x4 := bCel hb2 (hl1 4 _ rfl); obtain ⟨z0, z1, z2, z3, z4, z5⟩ := hA0.cell; have fr := hA0.free; have k8 : (k == 8) = false := bFf h8; have k9 : (k == 9) = false := bFf h9; have k10 : (k == 10) = false := bFf h10; have DSM := qH hsm; have DCP := qH (fun X : Ext V2 => show Calls Tryz.prog 48 #[.agg #[.string A.name, .int .i64 A.sport, .int .i64 A.start, .slice a A.sm.length ca, .slice b A.lp.length cb, .slice c A.tg.length cc]] X.1 fun e w' => CloneRet A X.1 e w' from by
  have h := rcopied_any A a b c ca cb cc X.1 (HIA.out.below X.2) oA.nsm (by have := oA.nlp; omega) (by have := oA.ntg; omega); unfold actV at h; exact h)
 have A0 := Ext.ex z0; have A1 := Ext.ex z1; have A2 := Ext.ex z2; have A3 := Ext.ex z3; have A4 := Ext.ex z4; have A5 := Ext.ex z5; have X0 := Ext.ex x0; have X1 := Ext.ex x1; have X2 := Ext.ex x2; have X3 := Ext.ex x3; have X4 := Ext.ex x4; clear hI oA hb0 hb1 hb2 ha0 ha2 hl1 hA0 hs1 hs2 hsm h8 h9 h10; unfold DoR at DSM; unfold actV at DSM ⊢; unfold edV at DSM; unfold edV; go_enter Tryz.func36, Tryz.ntmps36; go_upto_region 1 with (fail); clear hV0 hV1 hV2 hs0 hs11; go_upto_region 8 with (fail); clear x0 x1 x2 x3 x4 z0 z1 z2 z3 z4 z5 fr; refine late_start (s := 6) (C := fun w' => ∃ Y : Ext V2, w' = Y.1) (by kernel_rfl) ?_; obtain ⟨Q0, hQ0⟩ : ∃ Y : Ext V2, ({ V2 with drawn := V2.drawn + 1 } : World) = Y.1 := ⟨⟨{ V2 with drawn := V2.drawn + 1 }, ⟨rfl, rfl, rfl, Nat.le_refl _, fun _ _ => rfl⟩⟩, rfl⟩; rw [hQ0]; clear hQ0; refine late_quiet (by kernel_rfl) (fun _ _ d _ _ h => by cases d <;> exact h) ⟨Q0, rfl⟩ [0, 2] 6 _ _ (by kernel_rfl) (by kernel_rfl) ?_; change wpQuiet _ _ _ _ (_ :: _ :: []) _
 repeat go_big_quiet_step (fail)
 refine wpQuiet_nil ?_; refine late_do (i := 1) _ rfl (by kernel_rfl) rfl (fun K hK => ?_); go_simp; refine (DCP.out Q0).mono ?_; unfold CloneRet; rintro e w4 ⟨⟨a1, b1, c1, ca1, cb1, cc1, rfl, ho3⟩, hb4⟩; unfold actV; obtain ⟨Q4, rfl⟩ : ∃ Z : Ext V2, w4 = Z.1 := ⟨⟨w4, bStp Q0.2 hb4⟩, rfl⟩; have DS := qH (DSM.out a1 b1 c1 ca1 cb1 cc1 Q0.1.heap.size Q4.1 ho3 hb4.size); have HQ := qH hb4; refine hK _ _ (fun _ => ⟨Q4, rfl⟩) ?_; clear hK K hb4 ho3
 try simp only [pS]
 refine late_do (i := 3) _ rfl (by kernel_rfl) rfl (fun K hK => ?_); go_simp; refine (DS.out).mono ?_; rintro e w6 ⟨hb6, Z, ma, mb, mc, mca, mcb, mcc, rfl, hgd⟩; have hbq : Below V2.heap.size V2 w6 := by
  have h1 := Q0.2.size; have h2 := HQ.out; exact ⟨hb6.os.trans Q4.2.os, hb6.tape.trans Q4.2.tape, hb6.output.trans Q4.2.output, Nat.le_trans Q4.2.size hb6.size, fun q hq => (hb6.block q (by omega)).trans (Q4.2.block q hq)⟩
 obtain ⟨Q6, rfl⟩ : ∃ Z : Ext V2, w6 = Z.1 := ⟨⟨w6, hbq⟩, rfl⟩; have HB6 := qH hbq; have HGD := qH hgd; obtain ⟨er, her⟩ : ∃ z, appE A ⟨k, n, f, t, s⟩ = z := ⟨_, rfl⟩; have HER := qH her; rw [her]; obtain ⟨nm, hnm⟩ : ∃ z, Z.name = z := ⟨_, rfl⟩; refine hK _ _ (fun _ => ⟨Q6, rfl⟩) ?_; clear hK K hb6 hgd hbq her hnm nm
 try simp only [pS]
 refine late_quiet (by kernel_rfl) (fun _ _ d _ _ h => by cases d <;> exact h) ⟨Q6, rfl⟩ [4] 3 _ _ (by kernel_rfl) (by kernel_rfl) ?_; change wpQuiet _ _ _ _ (_ :: []) _
 repeat go_big_quiet_step (fail)
 refine wpQuiet_nil ?_; refine late_quiet (by kernel_rfl) (fun _ _ d _ _ h => by cases d <;> exact h) ⟨Q6, rfl⟩ [5] 2 _ _ (by kernel_rfl) (by kernel_rfl) ?_; change wpQuiet _ _ _ _ (_ :: []) _
 repeat go_big_quiet_step (fail)
 refine wpQuiet_nil ?_; have hR := HA2.out.below (HB6.out); obtain ⟨r0, r1, r2, r3, r4, r5⟩ := hR.cell; have fr2 := hR.free; obtain ⟨WF, hWF, haF, hkF⟩ := hR.store Z.name Z.sport Z.start (.slice ma Z.sm.length mca) (.slice mb Z.lp.length mcb) (.slice mc Z.tg.length mcc); have HAF := qH haF; have HKF := qH (hkF (fun q => q = w.heap.size + 2) rfl); have HBF := qH (show Below w.heap.size w WF from by
  have h1 := bStp HB.out HB6.out; exact Kept.below h1 HKF.out h1.size (fun k hk e => by omega))
 clear haF hkF hR; refine late_do (i := 6) _ rfl (by kernel_rfl) rfl (fun K hK => ?_); go_simp; refine hK _ _ (nOo rfl) ?_; clear hK K
 try simp only [pS]
 refine late_do (i := 7) _ rfl (by kernel_rfl) rfl (fun K hK => ?_); go_simp; refine hK _ _ (nOo rfl) ?_; clear hK K
 try simp only [pS]
 refine late_done (by kernel_rfl) ?_ _; clear hWF r0 r1 r2 r3 r4 r5 fr2 A0 A1 A2 A3 A4 A5 X0 X1 X2 X3 X4; go_wp2_with fail; have q := HAF.out.cell; refine bodyPost_ret (v := .tuple #[.agg #[.string Z.name, .int .i64 Z.sport, .int .i64 Z.start, .slice ma Z.sm.length mca, .slice mb Z.lp.length mcb, .slice mc Z.tg.length mcc], .int .i64 er]) (by simp [results, Tryz.results36, go_sem, q]) rfl ⟨HBF.out, Z, ma, mb, mc, mca, mcb, mcc, by rw [HER.out]; rfl, fun h0 => ?_⟩; obtain ⟨e1, e2, e3⟩ := HGD.out h0; have hq0 := Q0.2.size; have hsz := HSZ.out; exact ⟨e1, e2.kept HKF.out (fun g hg e => by have := e3 g hg; omega), fun g hg => by have := e3 g hg; omega⟩
theorem rdone_any (x : Ed) (A : Acv) (a b c : Option Addr) (ca cb cc : Nat) (w : World) (hI : ActIn w A a b c) (oA : AcOk A) (hs : x.s.size ≤ maxLen) (hk : chkE x = 0) :
 Calls Tryz.prog 36 #[actV A a b c ca cb cc, edV x] w fun e w' => DoR A x w.heap.size w e w' := by
 have ht := hI.text; obtain ⟨k, n, f, t, s⟩ := x; rcases kind_ways _ hk with h | h | h | h | h | h | h | h | h | h | h | h
 · obtain rfl : k = 1 := h
   exact done_small 1 n f t s A a b c ca cb cc w hI oA (by decide) (by decide) (by decide) (fun a b c ca cb cc base w ho hb => sm_1 n f t s A a b c ca cb cc base w ho hb ht oA hs hk)
 · obtain rfl : k = 2 := h
   exact done_small 2 n f t s A a b c ca cb cc w hI oA (by decide) (by decide) (by decide) (fun a b c ca cb cc base w ho hb => sm_2 n f t s A a b c ca cb cc base w ho hb ht oA hs hk)
 · obtain rfl : k = 3 := h
   exact done_small 3 n f t s A a b c ca cb cc w hI oA (by decide) (by decide) (by decide) (fun a b c ca cb cc base w ho hb => sm_3 n f t s A a b c ca cb cc base w ho hb ht oA hs hk)
 · obtain rfl : k = 4 := h
   exact done_small 4 n f t s A a b c ca cb cc w hI oA (by decide) (by decide) (by decide) (fun a b c ca cb cc base w ho hb => sm_4 n f t s A a b c ca cb cc base w ho hb ht oA hs hk)
 · obtain rfl : k = 5 := h
   exact done_small 5 n f t s A a b c ca cb cc w hI oA (by decide) (by decide) (by decide) (fun a b c ca cb cc base w ho hb => sm_5 n f t s A a b c ca cb cc base w ho hb ht oA hs hk)
 · obtain rfl : k = 6 := h
   exact done_small 6 n f t s A a b c ca cb cc w hI oA (by decide) (by decide) (by decide) (fun a b c ca cb cc base w ho hb => sm_6 n f t s A a b c ca cb cc base w ho hb ht oA hs hk)
 · obtain rfl : k = 7 := h
   have hr := chk_rng (lo := 1) (hi := 3) (show ¬ ((7 : Int) < 1 ∨ 12 < (7 : Int)) by decide) rfl hk; simp only at hr; have h3 : n = 1 ∨ n = 2 ∨ n = 3 := by omega
   rcases h3 with rfl | rfl | rfl
   · exact done_small 7 1 f t s A a b c ca cb cc w hI oA (by decide) (by decide) (by decide) (fun a b c ca cb cc base w ho hb => sm_7_1 f t s A a b c ca cb cc base w ho hb ht oA hs hk)
   · exact done_small 7 2 f t s A a b c ca cb cc w hI oA (by decide) (by decide) (by decide) (fun a b c ca cb cc base w ho hb => sm_7_2 f t s A a b c ca cb cc base w ho hb ht oA hs hk)
   · exact done_small 7 3 f t s A a b c ca cb cc w hI oA (by decide) (by decide) (by decide) (fun a b c ca cb cc base w ho hb => sm_7_3 f t s A a b c ca cb cc base w ho hb ht oA hs hk)
 · obtain rfl : k = 8 := h
   exact done_8 n f t s A a b c ca cb cc w hI oA
 · obtain rfl : k = 9 := h
   have hr := chk_rng (lo := 0) (hi := 50) (show ¬ ((9 : Int) < 1 ∨ 12 < (9 : Int)) by decide) rfl hk; exact done_9 n f t s A a b c ca cb cc w hI oA hr
 · obtain rfl : k = 10 := h
   have hr := chk_rng (lo := 0) (hi := 1000000) (show ¬ ((10 : Int) < 1 ∨ 12 < (10 : Int)) by decide) rfl hk; exact done_10 n f t s A a b c ca cb cc w hI oA hr
 · obtain rfl : k = 11 := h
   exact done_small 11 n f t s A a b c ca cb cc w hI oA (by decide) (by decide) (by decide) (fun a b c ca cb cc base w ho hb => sm_11 n f t s A a b c ca cb cc base w ho hb ht oA hs hk)
 · obtain rfl : k = 12 := h
   exact done_small 12 n f t s A a b c ca cb cc w hI oA (by decide) (by decide) (by decide) (fun a b c ca cb cc base w ho hb => sm_12 n f t s A a b c ca cb cc base w ho hb ht oA hs hk)
theorem rapply_f (x : Ed) (A : Acv) (a b c : Option Addr) (ca cb cc : Nat) (w : World) (hI : ActIn w A a b c) (hs : x.s.size ≤ maxLen) :
 Calls Tryz.prog 8 #[actV A a b c ca cb cc, edV x] w fun e w' => ActResF (apZ A x) (apE A x) w e w' := by
 have HBAD := qH (fun h : apA A x ≠ 0 => apE_bad h); have HOKE := qH (fun h : apA A x = 0 => apE_ok h); have HAP := qH (show apA A x = if chkA A ≠ 0 then chkA A else chkE x from rfl); have HDO := qH (fun (h1 : chkA A = 0) (h2 : chkE x = 0) (X : World) (hX : ActIn X A a b c) => rdone_any x A a b c ca cb cc X hX (chkA_zero.1 h1) hs h2); have HRC := qH (fun X => rcheck_any x X hs); have HZD := qH (show apZ A x = if apE A x = 0 then appZ A x else Az from rfl); obtain ⟨Zr, hZr⟩ : ∃ z, apZ A x = z := ⟨_, rfl⟩; obtain ⟨er, her⟩ : ∃ z, apE A x = z := ⟨_, rfl⟩; obtain ⟨eP, heP⟩ : ∃ z, appE A x = z := ⟨_, rfl⟩; obtain ⟨Zp, hZp⟩ : ∃ z, appZ A x = z := ⟨_, rfl⟩; obtain ⟨eB, heB⟩ : ∃ z, chkE x = z := ⟨_, rfl⟩; obtain ⟨eA, heA⟩ : ∃ z, chkA A = z := ⟨_, rfl⟩; obtain ⟨eI, heI⟩ : ∃ z, apA A x = z := ⟨_, rfl⟩; unfold DoR at HDO; unfold RChk at HRC; rw [heP, hZp, heA, heB] at HDO; rw [heB] at HRC; rw [heI, her, hZr] at HBAD; rw [heI, her, heP, hZp] at HOKE; rw [heI, heA, heB] at HAP; rw [hZr, her, hZp] at HZD; rw [hZr, her]; clear hZr her heP hZp heB heI; obtain ⟨k, n, f, t, s⟩ := x; obtain ⟨V0, hV0, hb0, hs0, ha0⟩ := alloc_aA w A a b c ca cb cc; obtain ⟨V1, hV1, hb1, hs1, hl1⟩ := alloc_cells V0 #[.int .i64 k, .int .i64 n, .int .i64 f, .int .i64 t, .string s] 28; obtain ⟨V2, hV2, hb2, hs2, ha2⟩ := alloc_a0 V1; have hs11 : V1.heap.size = w.heap.size + 2 := by omega
 rw [hs0] at hl1; rw [hs11] at ha2; have hA0 := (ha0.below hb1).below hb2; have HB := qH (bStp (bStp hb0 hb1) hb2); have HSZ := qH (show V2.heap.size = w.heap.size + 3 from by omega); have HIA := qH (hI.below HB.out); have HA0 := qH hA0; have HA2 := qH ha2; have x0 := bCel hb2 (hl1 0 _ rfl); have x1 := bCel hb2 (hl1 1 _ rfl); have x2 := bCel hb2 (hl1 2 _ rfl); have x3 := bCel hb2 (hl1 3 _ rfl); have x4 := bCel hb2 (hl1 4 _ rfl); obtain ⟨z0, z1, z2, z3, z4, z5⟩ := hA0.cell; have fr := hA0.free; have DC := qH (show Calls Tryz.prog 35 #[.agg #[.string A.name, .int .i64 A.sport, .int .i64 A.start, .slice a A.sm.length ca, .slice b A.lp.length cb, .slice c A.tg.length cc]] V2 fun e w'' => e = .returned (.int .i64 eA) ∧ Below V2.heap.size V2 w'' from by
  have h := rcheck2_any A a b c ca cb cc V2 HIA.out; unfold actV at h; rw [heA] at h; exact h)
 clear hI hs hb0 hb1 hb2 ha0 ha2 hl1 hA0 hs1 hs2 heA; unfold actV at HDO ⊢; unfold edV at HDO HRC ⊢; go_enter Tryz.func8, Tryz.ntmps8; go_upto_region 1 with (fail); clear hV0 hV1 hV2 hs0 hs11; go_wp2_with fail; refine (DC.out).mono ?_; rintro e w3 ⟨rfl, hb3⟩; have HB3 := qH hb3; have x0' := bCel hb3 x0; have x1' := bCel hb3 x1; have x2' := bCel hb3 x2; have x3' := bCel hb3 x3; have x4' := bCel hb3 x4; obtain ⟨z0', z1', z2', z3', z4', z5'⟩ := (HA0.out.below hb3).cell; clear z0 z1 z2 z3 z4 z5 x0 x1 x2 x3 x4 fr hb3 DC; by_cases hA : eA = 0
 case neg =>
  have u1 : (eA != 0) = true := bTt hA; have HE := qH (show er = eA ∧ Zr = Az from by
   have h1 := HAP.out; rw [if_pos hA] at h1; have h2 := HBAD.out (by rw [h1]; exact hA); exact ⟨h2.1.trans h1, h2.2⟩)
  clear hA; have hR := HA2.out.below HB3.out; obtain ⟨r0, r1, r2, r3, r4, r5⟩ := hR.cell; have fr2 := hR.free; obtain ⟨WF, hWF, haF, hkF⟩ := hR.store0; have HAF := qH haF; have HKF := qH (hkF (fun q => q = w.heap.size + 2) rfl); have HBF := qH (show Below w.heap.size w WF from by
   have h1 := bStp HB.out HB3.out; exact Kept.below h1 HKF.out h1.size (fun k hk e => by omega))
  clear haF hkF hR; go_wp2_with fail; have q := HAF.out.cell; exact bodyPost_ret (v := .tuple #[ac0, .int .i64 eA]) (by simp [results, Tryz.results8, go_sem, q, ac0]) rfl (by rw [HE.out.1, HE.out.2]; exact ActResF.bad HBF.out)
 subst hA; have DR := qH (HRC.out w3); go_wp2_with fail; refine (DR.out).mono ?_; rintro e w4 ⟨rfl, hb4⟩; have HB4 := qH (bStp HB3.out hb4); have v0 := bCel hb4 x0'; have v1 := bCel hb4 x1'; have v2 := bCel hb4 x2'; have v3 := bCel hb4 x3'; have v4 := bCel hb4 x4'; obtain ⟨z0, z1, z2, z3, z4, z5⟩ := (HA0.out.below HB4.out).cell; clear z0' z1' z2' z3' z4' z5' x0' x1' x2' x3' x4' hb4 DR HRC; by_cases hB : eB = 0
 case neg =>
  have u1 : (eB != 0) = true := bTt hB; have HE := qH (show er = eB ∧ Zr = Az from by
   have h1 := HAP.out; rw [if_neg (by simp)] at h1; have h2 := HBAD.out (by rw [h1]; exact hB); exact ⟨h2.1.trans h1, h2.2⟩)
  clear hB; have hR := HA2.out.below HB4.out; obtain ⟨r0, r1, r2, r3, r4, r5⟩ := hR.cell; have fr2 := hR.free; obtain ⟨WF, hWF, haF, hkF⟩ := hR.store0; have HAF := qH haF; have HKF := qH (hkF (fun q => q = w.heap.size + 2) rfl); have HBF := qH (show Below w.heap.size w WF from by
   have h1 := bStp HB.out HB4.out; exact Kept.below h1 HKF.out h1.size (fun k hk e => by omega))
  clear haF hkF hR; go_wp2_with fail; have q := HAF.out.cell; exact bodyPost_ret (v := .tuple #[ac0, .int .i64 eB]) (by simp [results, Tryz.results8, go_sem, q, ac0]) rfl (by rw [HE.out.1, HE.out.2]; exact ActResF.bad HBF.out)
 subst hB; have hI0 : eI = 0 := by have h1 := HAP.out; rw [if_neg (by simp)] at h1; exact h1
 have HEE := qH (HOKE.out hI0); have DD := qH (HDO.out (by first | rfl | trivial) (by first | rfl | trivial) w4 (HIA.out.below HB4.out)); clear HDO HOKE HBAD HAP hI0; go_wp2_with fail; refine (DD.out).mono ?_; rintro e w6 ⟨hb6, Z, ma, mb, mc, mca, mcb, mcc, rfl, hgd⟩; have HB6 := qH (bStp HB4.out hb6); have HGD := qH hgd; have HW4 := qH HB4.out.size; obtain ⟨W7, hW7, hb7, hs7, ha7⟩ := alloc_ac w6 Z.name Z.sport Z.start (.slice ma Z.sm.length mca) (.slice mb Z.lp.length mcb) (.slice mc Z.tg.length mcc); obtain ⟨T, hT⟩ : ∃ T, w6.heap.size = T := ⟨_, rfl⟩; rw [hT] at ha7; have HA7 := qH ha7; have HB7 := qH (bStp HB6.out hb7); have hT2 : w6.heap.size = T := hT; by_cases hP : eP = 0
 case neg =>
  have u1 : (eP == 0) = false := bFf hP; have u2 : (eP != 0) = true := bTt hP; have HE := qH (show er = eP ∧ Zr = Az from by
   have h1 := HEE.out; rw [if_pos hP] at h1; exact ⟨h1, by rw [HZD.out, h1, if_neg hP]⟩)
  clear hP hb6 hgd hb7 hs7 ha7 hT hT2 DD; go_upto_region 8 with (fail); clear hW7 z0 z1 z2 z3 z4 z5 v0 v1 v2 v3 v4; have hR := HA2.out.below HB7.out; obtain ⟨r0, r1, r2, r3, r4, r5⟩ := hR.cell; have fr2 := hR.free; obtain ⟨WF, hWF, haF, hkF⟩ := hR.store0; have HAF := qH haF; have HKF := qH (hkF (fun q => q = w.heap.size + 2) rfl); have HBF := qH (show Below w.heap.size w WF from by
   have h1 := bStp HB.out HB7.out; exact Kept.below h1 HKF.out h1.size (fun k hk e => by omega))
  clear haF hkF hR; go_wp2_with fail; have q := HAF.out.cell; exact bodyPost_ret (v := .tuple #[ac0, .int .i64 eP]) (by simp [results, Tryz.results8, go_sem, q, ac0]) rfl (by rw [HE.out.1, HE.out.2]; exact ActResF.bad HBF.out)
 obtain ⟨eZ, e2, e3⟩ := hgd hP; subst hP; subst eZ; have HI7 := qH (e2.below hb7); have HF7 := qH e3; obtain ⟨eC, heC⟩ : ∃ z, chkA Z = z := ⟨_, rfl⟩; have DK := qH (show Calls Tryz.prog 35 #[.agg #[.string Z.name, .int .i64 Z.sport, .int .i64 Z.start, .slice ma Z.sm.length mca, .slice mb Z.lp.length mcb, .slice mc Z.tg.length mcc]] W7 fun e w'' => e = .returned (.int .i64 eC) ∧ Below W7.heap.size W7 w'' from by
  have h := rcheck2_any Z ma mb mc mca mcb mcc W7 HI7.out; unfold actV at h; rw [heC] at h; exact h)
 have HE := qH (show er = eC ∧ (eC = 0 → Zr = Z) ∧ (eC ≠ 0 → Zr = Az) from by
  have h1 := HEE.out; rw [if_neg (by simp), heC] at h1; exact ⟨h1, fun h => by rw [HZD.out, h1, if_pos h], fun h => by rw [HZD.out, h1, if_neg h]⟩)
 obtain ⟨y0, y1, y2, y3, y4, y5⟩ := HA7.out.cell; clear hb6 hgd hb7 hs7 ha7 hT e2 e3 heC DD HGD HEE HZD; go_upto_region 8 with (fail); clear hW7 z0 z1 z2 z3 z4 z5 v0 v1 v2 v3 v4 hT2; go_wp2_with fail; refine (DK.out).mono ?_; rintro e w8 ⟨rfl, hb8⟩; have HB8 := qH (bStp HB7.out hb8); have HI8 := qH (HI7.out.below hb8); obtain ⟨p0, p1, p2, p3, p4, p5⟩ := (HA7.out.below hb8).cell; clear y0 y1 y2 y3 y4 y5 hb8 DK; by_cases hC : eC = 0
 case neg =>
  have u2 : (eC != 0) = true := bTt hC; have HE2 := qH (HE.out.2.2 hC); clear hC; have hR := HA2.out.below HB8.out; obtain ⟨r0, r1, r2, r3, r4, r5⟩ := hR.cell; have fr2 := hR.free; obtain ⟨WF, hWF, haF, hkF⟩ := hR.store0; have HAF := qH haF; have HKF := qH (hkF (fun q => q = w.heap.size + 2) rfl); have HBF := qH (show Below w.heap.size w WF from by
   have h1 := bStp HB.out HB8.out; exact Kept.below h1 HKF.out h1.size (fun k hk e => by omega))
  clear haF hkF hR; go_wp2_with fail; have q := HAF.out.cell; exact bodyPost_ret (v := .tuple #[ac0, .int .i64 eC]) (by simp [results, Tryz.results8, go_sem, q, ac0]) rfl (by rw [HE.out.1, HE2.out]; exact ActResF.bad HBF.out)
 have HE2 := qH (show er = 0 ∧ Zr = Z from ⟨HE.out.1.trans hC, HE.out.2.1 hC⟩); clear HE; subst hC; have hR := HA2.out.below HB8.out; obtain ⟨r0, r1, r2, r3, r4, r5⟩ := hR.cell; have fr2 := hR.free; obtain ⟨WF, hWF, haF, hkF⟩ := hR.store Z.name Z.sport Z.start (.slice ma Z.sm.length mca) (.slice mb Z.lp.length mcb) (.slice mc Z.tg.length mcc); have HAF := qH haF; have HKF := qH (hkF (fun q => q = w.heap.size + 2) rfl); have HBF := qH (show Below w.heap.size w WF from by
  have h1 := bStp HB.out HB8.out; exact Kept.below h1 HKF.out h1.size (fun k hk e => by omega))
 have HIF := qH (show ActIn WF Z ma mb mc from HI8.out.kept HKF.out (fun g hg e => by have := HF7.out g hg; have := HW4.out; have := HSZ.out; omega)); clear haF hkF hR; go_wp2_with fail; have q := HAF.out.cell; exact bodyPost_ret (v := .tuple #[.agg #[.string Z.name, .int .i64 Z.sport, .int .i64 Z.start, .slice ma Z.sm.length mca, .slice mb Z.lp.length mcb, .slice mc Z.tg.length mcc], .int .i64 0]) (by simp [results, Tryz.results8, go_sem, q]) rfl (by rw [HE2.out.1, HE2.out.2]; exact ⟨HBF.out, ma, mb, mc, mca, mcb, mcc, rfl, HIF.out, fun g hg => by have := HF7.out g hg; have := HB4.out.size; have := HSZ.out; omega⟩)
def allR : Acv → List Ed → Nat → Acv × Int × Int
 | A, [], _ => (A, 0, 0)
 | A, x :: l, i => if apE A x = 0 then allR (apZ A x) l (i + 1) else (Az, (i : Int), apE A x)
def allQ (A : Acv) (l : List Ed) : Acv × Int × Int := if 200 < l.length then (Az, 0, 3) else if chkA A = 0 then allR A l 0 else (Az, 0, chkA A)
theorem allR_step {A : Acv} {l : List Ed} {k : Nat} {x : Ed} (hx : l[k]? = some x) : allR A (l.drop k) k = if apE A x = 0 then allR (apZ A x) (l.drop (k + 1)) (k + 1) else (Az, (k : Int), apE A x) := by
 obtain ⟨h1, e1⟩ := List.getElem?_eq_some_iff.1 hx; rw [List.drop_eq_getElem_cons h1, e1, allR]
theorem allR_end {A : Acv} {l : List Ed} {k : Nat} (h : l.length ≤ k) : allR A (l.drop k) k = (A, 0, 0) := by
 rw [List.drop_eq_nil_of_le h, allR]
def AllRes (q : Acv × Int × Int) (w : World) (e : Ending) (w' : World) : Prop :=
 Below w.heap.size w w' ∧ ∃ a b c ca cb cc, e = .returned (.tuple #[actV q.1 a b c ca cb cc, .int .i64 q.2.1, .int .i64 q.2.2]) ∧ ActIn w' q.1 a b c ∧ ∀ p, (a = some p ∨ b = some p ∨ c = some p) → w.heap.size ≤ p.block
theorem AllRes.bad {w : World} {i er : Int} {w' : World} (hb : Below w.heap.size w w') : AllRes (Az, i, er) w (.returned (.tuple #[ac0, .int .i64 i, .int .i64 er])) w' := ⟨hb, none, none, none, 0, 0, 0, by rw [actV_z], actIn_z w', fun q hq => by rcases hq with h | h | h <;> cases h⟩
theorem ERow.kept {O : Nat → Prop} {w w' : World} {a : Option Addr} {l : List Ed} (h : ERow w a l) (hk : Kept O w w') (ho : ∀ b, b < w.heap.size → ¬ O b) : ERow w' a l :=
 ⟨fun hl => by
  obtain ⟨b, off, e, hbl, hc⟩ := h.here hl; exact ⟨b, off, e, Nat.lt_of_lt_of_le hbl hk.size, fun i x hx j v hv => hk.cell (ho b hbl) (hc i x hx j v hv)⟩⟩
theorem Own3.lt {w : World} {base : Nat} {A : Acv} {a b c : Option Addr} {ca cb cc : Nat} (h : Own3 w base A (.slice a A.sm.length ca) (.slice b A.lp.length cb) (.slice c A.tg.length cc)) :
 ∀ q, (a = some q ∨ b = some q ∨ c = some q) → q.block < w.heap.size := by
 obtain ⟨B1, B2, hB1, hB2, h1, _, h2, _, h3⟩ := h.ex; intro q hq; rcases hq with rfl | rfl | rfl
 · exact (h1.lt q.block rfl).2
 · exact (h2.lt q.block rfl).2
 · exact (h3.lt q.block rfl).2
theorem Below.of_kept {O : Nat → Prop} {w V X : World} (hb : Below w.heap.size w V) (hk : Kept O V X) (hO : ∀ k, k < w.heap.size → ¬ O k) : Below w.heap.size w X := Kept.below hb hk hb.size hO
theorem all_any (A : Acv) (a b c : Option Addr) (ca cb cc : Nat) (l : List Ed) (al : Option Addr) (cl : Nat) (w : World) (hA : ActIn w A a b c) (hr : ERow w al l) (hs : ∀ x, x ∈ l → x.s.size ≤ maxLen) :
 Calls Tryz.prog 13 #[actV A a b c ca cb cc, .slice al l.length cl] w fun e w' => AllRes (allQ A l) w e w' := by
 obtain ⟨n, hn⟩ : ∃ n, l.length = n := ⟨_, rfl⟩; have HN := qH hn; have HS := qH hs; have HTX := qH hA.text; have HR := qH hr; obtain ⟨Q, hQ⟩ : ∃ Q, allQ A l = Q := ⟨_, rfl⟩; obtain ⟨eA, heA⟩ : ∃ e, chkA A = e := ⟨_, rfl⟩; have HEA := qH heA; have HQ := qH (show Q = if 200 < n then (Az, 0, 3) else if eA = 0 then allR A l 0 else (Az, 0, eA) by rw [← hQ, ← hn, ← heA]; rfl); rw [hQ, hn]; obtain ⟨V0, hV0, hb0, hs0, ha0⟩ := alloc_aA w A a b c ca cb cc; obtain ⟨V1, hV1, hb1, hs1, ha1⟩ := alloc_a0 V0; rw [hs0] at ha1; have hA0 := ha0.below hb1; have HB := qH (bStp hb0 hb1); have HSZ := qH (show V1.heap.size = w.heap.size + 2 from by omega); have HIA := qH (hA.below HB.out); have HA1 := qH ha1; have DA := qH (show Calls Tryz.prog 32 #[.agg #[.string A.name, .int .i64 A.sport, .int .i64 A.start, .slice a A.sm.length ca, .slice b A.lp.length cb, .slice c A.tg.length cc]] V1 fun e w'' => e = .returned (.int .i64 eA) ∧ Below V1.heap.size V1 w'' from by
  have h := check_any A a b c ca cb cc V1 HIA.out; unfold ChkG actV at h; rw [heA] at h; exact h)
 obtain ⟨z0, z1, z2, z3, z4, z5⟩ := hA0.cell; clear hA hr hs hn hQ hb0 hb1 hs1 ha0 ha1 hA0 heA; unfold actV; by_cases hbig : 200 < n
 · have t1 : decide ((200 : Int) < (n : Int)) = true := dTt (by omega)
   have HQ1 := qH (HQ.out.trans (if_pos hbig)); clear hbig HQ; go_enter Tryz.func13, Tryz.ntmps13; go_upto_region 1 with (fail); clear hV0 hV1 hs0; have hR := HA1.out; obtain ⟨r0, r1, r2, r3, r4, r5⟩ := hR.cell; have fr := hR.free; obtain ⟨WF, hWF, haF, hkF⟩ := hR.store0; have HAF := qH haF; have HKF := qH (hkF (fun q => q = w.heap.size + 1) rfl); have HBF := qH (show Below w.heap.size w WF from Below.of_kept HB.out HKF.out (fun k hk e => by omega)); clear haF hkF hR; go_wp2_with fail; have q := HAF.out.cell; exact bodyPost_ret (v := .tuple #[ac0, .int .i64 0, .int .i64 3]) (by simp [results, Tryz.results13, go_sem, q, ac0]) rfl (by rw [HQ1.out]; exact AllRes.bad HBF.out)
 have t1 : decide ((200 : Int) < (n : Int)) = false := dFf (by omega); have HQ1 := qH (HQ.out.trans (if_neg hbig)); have HNB := qH (show n ≤ 200 from by omega); clear hbig HQ; go_enter Tryz.func13, Tryz.ntmps13; go_upto_region 1 with (fail); clear hV0 hV1 hs0; go_wp2_with fail; refine (DA.out).mono ?_; rintro e w3 ⟨rfl, hb3⟩; have HB3 := qH hb3; have HBW := qH (bStp HB.out hb3); have y0 := bCel hb3 z0; have y1 := bCel hb3 z1; have y2 := bCel hb3 z2; have y3 := bCel hb3 z3; have y4 := bCel hb3 z4; have y5 := bCel hb3 z5; clear z0 z1 z2 z3 z4 z5 hb3 DA; by_cases hA : eA = 0
 case neg =>
  have u1 : (eA != 0) = true := bTt hA; have HQ2 := qH (HQ1.out.trans (if_neg hA)); clear hA HQ1; have hR := HA1.out.below HB3.out; obtain ⟨r0, r1, r2, r3, r4, r5⟩ := hR.cell; have fr := hR.free; obtain ⟨WF, hWF, haF, hkF⟩ := hR.store0; have HAF := qH haF; have HKF := qH (hkF (fun q => q = w.heap.size + 1) rfl); have HBF := qH (show Below w.heap.size w WF from Below.of_kept HBW.out HKF.out (fun k hk e => by omega)); clear haF hkF hR; go_wp2_with fail; have q := HAF.out.cell; exact bodyPost_ret (v := .tuple #[ac0, .int .i64 0, .int .i64 eA]) (by simp [results, Tryz.results13, go_sem, q, ac0]) rfl (by rw [HQ2.out]; exact AllRes.bad HBF.out)
 have HQ2 := qH (HQ1.out.trans (if_pos hA)); clear HQ1; subst hA; have HOA := qH (chkA_zero.1 HEA.out); have DCL := qH (show Calls Tryz.prog 33 #[.agg #[.string A.name, .int .i64 A.sport, .int .i64 A.start, .slice a A.sm.length ca, .slice b A.lp.length cb, .slice c A.tg.length cc]] w3 fun e w'' => CloneRet A w3 e w'' from by
  have h := cloneA_any A a b c ca cb cc w3 (HIA.out.below HB3.out) (by have := HOA.out.nsm; omega) (by have := HOA.out.nlp; omega) (by have := HOA.out.ntg; omega); unfold actV at h; exact h)
 go_wp2_with fail; refine (DCL.out).mono ?_; unfold CloneRet; rintro e w4 ⟨⟨a1, b1, c1, ca1, cb1, cc1, rfl, ho4⟩, hb4⟩; unfold actV; obtain ⟨hI4, _, _, _, hq4⟩ := ho4.actIn HTX.out HOA.out; have hR := (HA1.out.below HB3.out).below hb4; obtain ⟨r0, r1, r2, r3, r4, r5⟩ := hR.cell; have fr := hR.free; obtain ⟨W5, hW5, ha5, hk5⟩ := hR.store A.name A.sport A.start (.slice a1 A.sm.length ca1) (.slice b1 A.lp.length cb1) (.slice c1 A.tg.length cc1); have HA5 := qH ha5; have hk5' := hk5 (fun q => q = w.heap.size + 1) rfl; have HK5 := qH (show Kept (fun q => q = w.heap.size + 1) V1 W5 from (Kept.of_below (bStp HB3.out hb4)).trans hk5'); have HI5 := qH (show ActIn W5 A a1 b1 c1 ∧ ∀ q, (a1 = some q ∨ b1 = some q ∨ c1 = some q) → w.heap.size + 2 ≤ q.block from by
  have h2 := HSZ.out; have h3 := HB3.out.size; exact ⟨hI4.kept hk5' (fun q hq e => by have := hq4 q hq; omega), fun q hq => by have := hq4 q hq; omega⟩)
 have HRX := qH (fun X : ExtO (fun b => b = w.heap.size + 1) V1 => show ERow X.1 al l from HR.out.kept ((Kept.of_below HB.out).trans X.2) (fun b hb e => by omega)); have HBX := qH (fun X : ExtO (fun b => b = w.heap.size + 1) V1 => show Below w.heap.size w X.1 from Below.of_kept HB.out X.2 (fun k hk e => by omega)); clear hI4 hq4 ho4 hb4 hR ha5 hk5 hk5' DCL y0 y1 y2 y3 y4 y5; go_wp2_with fail; clear hW5 r0 r1 r2 r3 r4 r5 fr; have hnb := HNB.out
 go_loopw [24] (fun iv wr => ∃ k : Nat, iv = .int .i64 k ∧ k ≤ n ∧ Hid (∃ B xa xb xc xca xcb xcc, AcB wr (w.heap.size + 1) B.name B.sport B.start (.slice xa B.sm.length xca) (.slice xb B.lp.length xcb) (.slice xc B.tg.length xcc) ∧ ActIn wr B xa xb xc ∧ (∀ q, (xa = some q ∨ xb = some q ∨ xc = some q) → w.heap.size + 2 ≤ q.block) ∧ Q = allR B (l.drop k) k) ∧ ∃ X : ExtO (fun b => b = w.heap.size + 1) V1, wr = X.1) (fun iv _ => n - (intOf iv).toNat)
 case atStart => exact ⟨0, rfl, by omega, qH ⟨A, a1, b1, c1, ca1, cb1, cc1, HA5.out, HI5.out.1, HI5.out.2, HQ2.out⟩, ⟨W5, HK5.out⟩, rfl⟩
 case round =>
  obtain ⟨k, rfl, hk, HST, X, rfl⟩ := hrel; obtain ⟨B, xa, xb, xc, xca, xcb, xcc, hac, hin, hqs, heq⟩ := HST.out; by_cases hlt : k < n
  · have t2 : decide ((k : Int) < (n : Int)) = true := dTt (by omega)
    have t2' : decide (k < n) = true := by simpa using hlt
    obtain ⟨x, hx⟩ : ∃ x, l[k]? = some x := ⟨_, List.getElem?_eq_getElem (by rw [HN.out]; exact hlt)⟩; obtain ⟨bb, off, rfl, hbl, e0, e1, e2, e3, e4⟩ := (HRX.out X).at hx; have hxs := HS.out x (List.mem_of_getElem? hx); have hst := heq.trans (allR_step hx); obtain ⟨V6, hV6, hb6, hs6, hl6⟩ := alloc_cells X.1 #[.int .i64 x.k, .int .i64 x.n, .int .i64 x.f, .int .i64 x.t, .string x.s] 28; have u0 := hl6 0 _ rfl; have u1 := hl6 1 _ rfl; have u2 := hl6 2 _ rfl; have u3 := hl6 3 _ rfl; have u4 := hl6 4 _ rfl; have HA6 := qH (hac.below hb6); have HI6 := qH (hin.below hb6); have HB6 := qH hb6; obtain ⟨p0, p1, p2, p3, p4, p5⟩ := HA6.out.cell; have DAP := qH (show Calls Tryz.prog 7 #[.agg #[.string B.name, .int .i64 B.sport, .int .i64 B.start, .slice xa B.sm.length xca, .slice xb B.lp.length xcb, .slice xc B.tg.length xcc], .agg #[.int .i64 x.k, .int .i64 x.n, .int .i64 x.f, .int .i64 x.t, .string x.s]] V6 fun e w' => ActResF (apZ B x) (apE B x) V6 e w' from by
     have h := apply_f x B xa xb xc xca xcb xcc V6 HI6.out hxs; unfold actV edV at h; exact h)
    obtain ⟨Z, hZ⟩ : ∃ z, apZ B x = z := ⟨_, rfl⟩; obtain ⟨er, her⟩ : ∃ z, apE B x = z := ⟨_, rfl⟩; rw [hZ, her] at DAP hst; have HSTEP := qH hst; have HS6 := qH (show V6.heap.size = X.1.heap.size + 1 from hs6); clear hx hxs hst hl6 hac hin hqs heq HST hb6 hs6 hZ her hbl; go_upto_region 10 with (fail); clear hV6 e0 e1 e2 e3 e4; go_wp2_with fail; refine (DAP.out).mono ?_; rintro e w7 ⟨hb7, ya, yb, yc, yca, ycb, ycc, rfl, hy7, hyq⟩; unfold actV; have hR := HA6.out.below hb7; obtain ⟨r0, r1, r2, r3, r4, r5⟩ := hR.cell; have fr := hR.free; obtain ⟨W8, hW8, ha8, hk8⟩ := hR.store Z.name Z.sport Z.start (.slice ya Z.sm.length yca) (.slice yb Z.lp.length ycb) (.slice yc Z.tg.length ycc); have hk8' := hk8 (fun q => q = w.heap.size + 1) rfl; obtain ⟨X8, rfl⟩ : ∃ Y : ExtO (fun b => b = w.heap.size + 1) V1, W8 = Y.1 := ⟨⟨W8, X.2.trans ((Kept.of_below (bStp HB6.out hb7)).trans hk8')⟩, rfl⟩; have HA8 := qH ha8; have HI8 := qH (show ActIn X8.1 Z ya yb yc ∧ ∀ q, (ya = some q ∨ yb = some q ∨ yc = some q) → w.heap.size + 2 ≤ q.block from by
     have h2 := HSZ.out; have h3 := X.2.size; have h4 := HS6.out; exact ⟨hy7.kept hk8' (fun q hq e => by have := hyq q hq; omega), fun q hq => by have := hyq q hq; omega⟩)
    clear hR ha8 hk8 hk8' hb7 hy7 hyq DAP p0 p1 p2 p3 p4 p5; go_upto_region 11 with (fail); clear hW8 r0 r1 r2 r3 r4 r5 fr u0 u1 u2 u3 u4; by_cases h0 : er = 0
    · have HS2 := qH (HSTEP.out.trans (if_pos h0))
      subst h0; clear HSTEP; go_wp2_with fail
      go_roundw
      case rel => exact ⟨k + 1, by go_num, by omega, qH ⟨Z, ya, yb, yc, yca, ycb, ycc, HA8.out, HI8.out.1, HI8.out.2, HS2.out⟩, X8, rfl⟩
      case measure => simp [intOf]; omega
    · have HS2 := qH (HSTEP.out.trans (if_neg h0))
      have v1 : (er != 0) = true := bTt h0; have HB8 := qH (HBX.out X8); clear h0 HSTEP; have hR := HA8.out; obtain ⟨r0, r1, r2, r3, r4, r5⟩ := hR.cell; have fr := hR.free; obtain ⟨WF, hWF, haF, hkF⟩ := hR.store0; have HAF := qH haF; have HKF := qH (hkF (fun q => q = w.heap.size + 1) rfl); have HBF := qH (show Below w.heap.size w WF from Below.of_kept HB8.out HKF.out (fun k hk e => by omega)); clear haF hkF hR; go_wp2_with fail; have q := HAF.out.cell; exact bodyPost_ret (v := .tuple #[ac0, .int .i64 k, .int .i64 er]) (by simp [results, Tryz.results13, go_sem, q, ac0]) rfl (by rw [HS2.out]; exact AllRes.bad HBF.out)
  · have t2 : decide ((k : Int) < (n : Int)) = false := dFf (by omega)
    have t2' : decide (k < n) = false := by simpa using hlt
    have HQ3 := qH (heq.trans (allR_end (by rw [HN.out]; omega))); have HB8 := qH (HBX.out X); obtain ⟨r0, r1, r2, r3, r4, r5⟩ := hac.cell; have fr := hac.free; obtain ⟨WF, hWF, haF, hkF⟩ := hac.store B.name B.sport B.start (.slice xa B.sm.length xca) (.slice xb B.lp.length xcb) (.slice xc B.tg.length xcc); have HAF := qH haF; have hkF' := hkF (fun q => q = w.heap.size + 1) rfl; have HBF := qH (show Below w.heap.size w WF from Below.of_kept HB8.out hkF' (fun k hk e => by omega)); have HIF := qH (show ActIn WF B xa xb xc ∧ ∀ q, (xa = some q ∨ xb = some q ∨ xc = some q) → w.heap.size ≤ q.block from
     ⟨hin.kept hkF' (fun q hq e => by have := hqs q hq; omega), fun q hq => by have := hqs q hq; omega⟩)
    clear haF hkF hkF' hac hin hqs heq HST; go_wp2_with fail; have q := HAF.out.cell; exact bodyPost_ret (v := .tuple #[.agg #[.string B.name, .int .i64 B.sport, .int .i64 B.start, .slice xa B.sm.length xca, .slice xb B.lp.length xcb, .slice xc B.tg.length xcc], .int .i64 0, .int .i64 0]) (by simp [results, Tryz.results13, go_sem, q]) rfl (by rw [HQ3.out]; exact ⟨HBF.out, xa, xb, xc, xca, xcb, xcc, rfl, HIF.out.1, HIF.out.2⟩)
theorem apZ_len (A : Acv) (x : Ed) : (apZ A x).sm.length ≤ 20000 ∧ (apZ A x).lp.length ≤ 200 ∧ (apZ A x).tg.length ≤ 20 := by
 unfold apZ; by_cases h : apE A x = 0
 · rw [if_pos h]
   have h2 : chkA (appZ A x) = 0 := by
    by_cases h0 : apA A x = 0
    · rw [apE_ok h0] at h
      by_cases h1 : appE A x = 0
      · rw [if_neg (by simpa using h1)] at h
        exact h
      · rw [if_pos h1] at h
        exact absurd h h1
    · rw [(apE_bad h0).1] at h
      exact absurd h h0
   have := chkA_zero.1 h2; exact ⟨this.nsm, this.nlp, this.ntg⟩
 · rw [if_neg h]
   exact ⟨Nat.zero_le _, Nat.zero_le _, Nat.zero_le _⟩
theorem allR_len : ∀ (l : List Ed) (A : Acv) (i : Nat), (A.sm.length ≤ 20000 ∧ A.lp.length ≤ 200 ∧ A.tg.length ≤ 20) → ((allR A l i).1.sm.length ≤ 20000 ∧ (allR A l i).1.lp.length ≤ 200 ∧ (allR A l i).1.tg.length ≤ 20)
 | [], A, i, h => h
 | x :: l, A, i, h => by
  rw [allR]
  split
  · exact allR_len l _ _ (apZ_len A x)
  · exact ⟨Nat.zero_le _, Nat.zero_le _, Nat.zero_le _⟩
def nowA (A : Acv) (L : List Ed) : Acv := L.foldl apZ A
theorem nowA_snoc (A : Acv) (L : List Ed) (x : Ed) : nowA A (L ++ [x]) = apZ (nowA A L) x := by unfold nowA; rw [List.foldl_append]; rfl
theorem chkA_z : chkA Az = 8 := by
 unfold chkA; rw [if_pos (show nameB Az.name = false from rfl)]
theorem apZ_z (x : Ed) : apZ Az x = Az := by
 have h : apE Az x = 8 := by
  unfold apE; rw [chkA_z, if_pos (by decide)]
 unfold apZ; rw [h, if_neg (by decide)]
theorem nowA_z : ∀ L : List Ed, nowA Az L = Az
 | [] => rfl
 | x :: L => by
  show nowA (apZ Az x) L = Az; rw [apZ_z]; exact nowA_z L
theorem allR_now : ∀ (L : List Ed) (A : Acv) (i : Nat), (allR A L i).1 = nowA A L
 | [], A, i => rfl
 | x :: L, A, i => by
  rw [allR]; show _ = nowA (apZ A x) L; by_cases h : apE A x = 0
  · rw [if_pos h]
    exact allR_now L _ _
  · rw [if_neg h]
    have : apZ A x = Az := by unfold apZ; rw [if_neg h]
    rw [this, nowA_z]
theorem allQ_now {A : Acv} {L : List Ed} (h0 : chkA A = 0) (hl : L.length ≤ 200) : (allQ A L).1 = nowA A L := by
 unfold allQ; rw [if_neg (by omega), if_pos h0]; exact allR_now L A 0
theorem nowA_len {A : Acv} (h0 : chkA A = 0) (L : List Ed) : (nowA A L).sm.length ≤ 20000 ∧ (nowA A L).lp.length ≤ 200 ∧ (nowA A L).tg.length ≤ 20 := by
 have := chkA_zero.1 h0; rw [← allR_now L A 0]; exact allR_len L A 0 ⟨this.nsm, this.nlp, this.ntg⟩
structure StOk (A : Acv) (L U : List Ed) : Prop where
 chk : chkA A = 0
 len : L.length + U.length ≤ 200
 tl : ∀ x, x ∈ L → x.s.size ≤ maxLen
 tu : ∀ x, x ∈ U → x.s.size ≤ maxLen
theorem StOk.start {A : Acv} (h : chkA A = 0) : StOk A [] [] := ⟨h, Nat.zero_le _, fun x hx => (by cases hx), fun x hx => (by cases hx)⟩
def RowOf (A : Acv) (a b c : Option Addr) (g : Nat) : Prop := (0 < A.sm.length ∧ ∃ q, a = some q ∧ q.block = g) ∨ (0 < A.lp.length ∧ ∃ q, b = some q ∧ q.block = g) ∨ (0 < A.tg.length ∧ ∃ q, c = some q ∧ q.block = g)
theorem Rw.keptN {α : Type} {C : α → List Value} {k : Nat} {O : Nat → Prop} {w w' : World} {a : Option Addr} {l : List α} (h : Rw C k w a l) (hk : Kept O w w') (ho : ∀ q, 0 < l.length → a = some q → ¬ O q.block) : Rw C k w' a l :=
 ⟨fun hl => by
  obtain ⟨b, off, e, hbl, hc⟩ := h.here hl; exact ⟨b, off, e, Nat.lt_of_lt_of_le hbl hk.size, fun i x hx j v hv => hk.cell (ho ⟨b, off, none⟩ hl e) (hc i x hx j v hv)⟩⟩
theorem Rw.ltN {α : Type} {C : α → List Value} {k : Nat} {w : World} {a : Option Addr} {l : List α} (h : Rw C k w a l) {q : Addr} (hl : 0 < l.length) (hq : a = some q) : q.block < w.heap.size := by
 obtain ⟨b, off, e, hbl, _⟩ := h.here hl; rw [hq] at e; injection e with e; rw [e]; exact hbl
theorem ActIn.keptN {O : Nat → Prop} {w w' : World} {A : Acv} {a b c : Option Addr} (h : ActIn w A a b c) (hk : Kept O w w') (ho : ∀ g, RowOf A a b c g → ¬ O g) : ActIn w' A a b c :=
 ⟨h.sm.keptN hk (fun q hl e => ho _ (Or.inl ⟨hl, q, e, rfl⟩)), h.lp.keptN hk (fun q hl e => ho _ (Or.inr (Or.inl ⟨hl, q, e, rfl⟩))), h.tg.keptN hk (fun q hl e => ho _ (Or.inr (Or.inr ⟨hl, q, e, rfl⟩))), h.name, h.titles, h.tags, h.nsm, h.nlp, h.ntg⟩
theorem ActIn.ltN {w : World} {A : Acv} {a b c : Option Addr} (h : ActIn w A a b c) {g : Nat} (hg : RowOf A a b c g) : g < w.heap.size := by
 rcases hg with ⟨hl, q, e, rfl⟩ | ⟨hl, q, e, rfl⟩ | ⟨hl, q, e, rfl⟩
 · exact h.sm.ltN hl e
 · exact h.lp.ltN hl e
 · exact h.tg.ltN hl e
theorem RowOf.of {A : Acv} {a b c : Option Addr} {g : Nat} (h : RowOf A a b c g) {O : Nat → Prop} (ho : ∀ q, (a = some q ∨ b = some q ∨ c = some q) → O q.block) : O g := by
 rcases h with ⟨_, q, e, rfl⟩ | ⟨_, q, e, rfl⟩ | ⟨_, q, e, rfl⟩
 · exact ho q (Or.inl e)
 · exact ho q (Or.inr (Or.inl e))
 · exact ho q (Or.inr (Or.inr e))
theorem EdOwn.keptO {O : Nat → Prop} {w w' : World} {base : Nat} {v : Value} {l : List Ed} (h : EdOwn w base v l) (hk : Kept O w w') (ho : ∀ g, v.ownBlock = some g → ¬ O g) : EdOwn w' base v l := by
 refine ⟨h.1, ?_⟩; rcases h.2 with e | ⟨g, cap, cur, h1, h2, h3, h4⟩
 · exact Or.inl e
 · exact Or.inr ⟨g, cap, cur, h1, h2, (hk.block g (lt_of_block h3) (ho g (by rw [h1]; rfl))).trans h3, h4⟩
theorem EdOwn.cutLast {w : World} {base : Nat} {v : Value} {L : List Ed} {x : Ed} (h : EdOwn w base v (L ++ [x])) :
 ∃ g cap, v = .slice (some ⟨g, 0, none⟩) (L.length + 1) cap ∧ EdOwn w base (.slice (some ⟨g, 0, none⟩) L.length cap) L ∧ L.length + 1 ≤ cap ∧ cap ≤ maxLen := by
 rcases h.2 with ⟨_, h0⟩ | ⟨g, cap, cur, h1, h2, h3, h4, h5, h6, h7⟩
 · rw [List.length_append, List.length_singleton] at h0
   omega
 · rw [List.length_append, List.length_singleton] at h1 h4 h7
   refine ⟨g, cap, h1, ⟨flatEd_len L, Or.inr ⟨g, cap, cur, rfl, h2, h3, by omega, h5, h6, ?_⟩⟩, h4, h5⟩; have e : (cur.toList.take ((L.length + 1) * 5)).take (L.length * 5) = ((L ++ [x]).flatMap edC).take (L.length * 5) := by rw [h7]
   rw [List.take_take, Nat.min_eq_left (by omega)] at e; rw [e, List.flatMap_append, List.take_append_of_le_length (by rw [flatEd_len]; omega), List.take_of_length_le (by rw [flatEd_len]; omega)]
theorem append_where {P : Program} {w w' : World} {base : Nat} {t ty e : TypeId} {i : TypeInfo} {z : Value} {size bytes : Nat} (ht : P.underlying t = some (.slice e)) (hi : P.info? e = some i) (hz : i.zero = some z)
 (hsize : i.size = size) (hby : i.bytes = bytes) (hzs : z.cells.size = size) (hsz : 0 < size) {v v' : Value} {n : Nat} {xs : List Value} (hown : w.ownsRow base e size v n xs)
 {a : Addr} {m c : Nat} {news : List Value} (hl : news.length = m * size) (hnews : ∀ j u, news[j]? = some u → w.cell? (a.add j) = some u) (h1 : ∀ u ∈ news, u.oneCell' = true)
 (h63 : n + m ≤ maxLen) (hbytes : (n + m) * bytes ≤ 140737488355328) (hrun : (Builtin.append_ #[t, t] ty #[v, .slice (some a) m c]).run P w = .ok v' w') :
 ∀ g, v'.ownBlock = some g → v.ownBlock = some g ∨ w.heap.size ≤ g := by
 have hsmall : n + m ≤ 9223372036854775807 := by simp only [maxLen] at h63; omega
 rcases hown.2 with ⟨rfl, rfl⟩ | ⟨b, cap, cur, rfl, hbg, hg, hnc, hcm, hcs, htake⟩
 · have hx : xs = [] := List.eq_nil_of_length_eq_zero (by simpa using hown.1)
   subst hx; obtain ⟨v2, w2, hr, h2, _⟩ := run_append_own (P := P) w w.heap.size t ty e i z size bytes ht hi hz hsize hby hzs hsz _ 0 [] (World.ownsRow_nil w _ e size) a m c news hl hnews h1 h63 hbytes (Nat.le_refl _); rw [hrun] at hr; injection hr with e1 e2; subst e1 e2; exact fun g hg => Or.inr (h2.lt g hg |>.1)
 · subst hsize
   subst hby; by_cases hroom : n + m ≤ cap
   · have hfit : n * i.size + news.length ≤ cur.size := by rw [hl, hcs, ← Nat.add_mul]; exact Nat.mul_le_mul_right _ hroom
     have hr := run_append_room (P := P) w t ty e i ht hi b n cap cur hg a m c news hl hnews h1 hroom hfit; rw [hrun] at hr; injection hr with e1 e2; subst e1; exact fun g hg => Or.inl hg
   · have holds : ∀ j u, xs[j]? = some u → w.cell? ((⟨b, 0, none⟩ : Addr).add j) = some u := hown.cells (g := b) rfl
     have hr := run_append_grow (P := P) w t ty e i z ht hi hz ⟨b, 0, none⟩ n cap xs hown.1 holds a m c news hl hnews (by omega) (by omega) (growslice_fits (by omega) hbytes); rw [hrun] at hr; injection hr with e1 e2; subst e1; intro g hg; injection hg with hg; exact Or.inr (Nat.le_of_eq hg)
theorem wp_append_ed {o : Oper} {a : Act} {K : Act → World → Prop} {Q : Exit → Act → World → Prop} {w : World} (s x : Operand)
 (ho : o.op = .call { callee := .builtin .append, args := #[s, x], argTypes := #[36, 36] }) {v : Value} {l : List Ed} (hs : a.eval s = v) (hown : EdOwn w 0 v l)
 {g k : Nat} {y : Ed} (hx : a.eval x = .slice (some ⟨g, 0, none⟩) 1 k) (hr : ∀ j u, (edC y)[j]? = some u → w.cell? ⟨g, j, none⟩ = some u) (hn : l.length + 1 ≤ 1000000)
 (h : ∀ a' n' c' w', EdOwn w' 0 (.slice a' n' c') (l ++ [y]) → n' = l.length + 1 → w.grownBy w' v.ownBlock → (∀ b, (Value.slice a' n' c').ownBlock = some b → v.ownBlock = some b ∨ w.heap.size ≤ b) → K (a.put o.dst (.slice a' n' c')) w') : o.wp Tryz.prog a w K Q := by
 obtain ⟨i0, hi0, hy0, hy1, hy2⟩ := info_parts (show (Tryz.prog.info? 28).map (fun i => (i.zero, i.size, i.bytes)) = some (some (.agg #[.int .i64 0, .int .i64 0, .int .i64 0, .int .i64 0, .string ⟨#[]⟩]), 5, 48) by kernel_rfl); have hnews : ∀ j u, (edC y)[j]? = some u → w.cell? ((⟨g, 0, none⟩ : Addr).add j) = some u := fun j u hj => by
  rw [addr_plus, Nat.zero_add]; exact hr j u hj
 have h63 : l.length + 1 ≤ maxLen := by unfold maxLen; omega
 have hby : (l.length + 1) * 48 ≤ 140737488355328 := by omega
 obtain ⟨v', w', hrun, h2, h3, h4⟩ := run_append_own (P := Tryz.prog) w 0 36 o.type 28 i0 _ 5 48 Tryz.underlying36 hi0 hy0 hy1 hy2 rfl (by decide) v l.length (l.flatMap edC) hown ⟨g, 0, none⟩ 1 k (edC y) (by rfl) hnews (edC_one y) h63 hby (Nat.zero_le _); have h5 := append_where (P := Tryz.prog) Tryz.underlying36 hi0 hy0 hy1 hy2 rfl (by decide) hown (by rfl) hnews (edC_one y) h63 hby hrun; have hE : EdOwn w' 0 v' (l ++ [y]) := EdOwn.snoc h2; obtain ⟨av, cv, rfl, _⟩ := hE.row; unfold Oper.wp execOp; simp only [ho, resolve, invoke, builtin, Sem.run_bind, Sem.run_pure, Result.andThen_ok, List.map_toArray, List.map_cons, List.map_nil, hs, hx, hrun]; exact h _ _ _ w' hE (by rw [List.length_append]; rfl) h3 h5
def spC (A Z : Acv) (a b c a' b' c' : Option Addr) (ca cb cc ca' cb' cc' : Nat) (ve vu : Value) : Array Value :=
 #[.string A.name, .int .i64 A.sport, .int .i64 A.start, .slice a A.sm.length ca, .slice b A.lp.length cb, .slice c A.tg.length cc,
  .string Z.name, .int .i64 Z.sport, .int .i64 Z.start, .slice a' Z.sm.length ca', .slice b' Z.lp.length cb', .slice c' Z.tg.length cc', ve, vu]
structure StS (P : Nat → Prop) (s : Nat) (ve vu : Value) (R : Nat → Prop) : Prop where
 st : P s
 eb : ∀ g, ve.ownBlock = some g → P g ∧ g ≠ s ∧ vu.ownBlock ≠ some g
 ub : ∀ g, vu.ownBlock = some g → P g ∧ g ≠ s
 rows : ∀ g, R g → P g ∧ g ≠ s ∧ ve.ownBlock ≠ some g ∧ vu.ownBlock ≠ some g
structure StP (w : World) (P : Nat → Prop) (s : Nat) (A : Acv) (L U : List Ed) : Prop where
 ok : StOk A L U
 ex : ∃ a b c a' b' c' ca cb cc ca' cb' cc' ve vu, w.heap[s]? = some (.cells (spC A (nowA A L) a b c a' b' c' ca cb cc ca' cb' cc' ve vu) 89 (0, 0)) ∧
  ActIn w A a b c ∧ ActIn w (nowA A L) a' b' c' ∧ EdOwn w 0 ve L ∧ EdOwn w 0 vu U ∧ StS P s ve vu (fun g => RowOf A a b c g ∨ RowOf (nowA A L) a' b' c' g)
theorem StP.kept {O P : Nat → Prop} {w w' : World} {s : Nat} {A : Acv} {L U : List Ed} (h : StP w P s A L U) (hk : Kept O w w') (hO : ∀ g, P g → ¬ O g) : StP w' P s A L U := by
 obtain ⟨h0, a, b, c, a', b', c', ca, cb, cc, ca', cb', cc', ve, vu, h1, h2, h3, h4, h5, h6⟩ := h; exact ⟨h0, a, b, c, a', b', c', ca, cb, cc, ca', cb', cc', ve, vu, (hk.block s (lt_of_block h1) (hO _ h6.st)).trans h1, h2.keptN hk (fun g hg => hO g (h6.rows g (Or.inl hg)).1), h3.keptN hk (fun g hg => hO g (h6.rows g (Or.inr hg)).1),
  h4.keptO hk (fun g hg => hO g (h6.eb g hg).1), h5.keptO hk (fun g hg => hO g (h6.ub g hg).1), h6⟩
def srC (A : Acv) (a b c : Option Addr) (ca cb cc : Nat) (ve vu : Value) : Array Value :=
 #[.string A.name, .int .i64 A.sport, .int .i64 A.start, .slice a A.sm.length ca, .slice b A.lp.length cb, .slice c A.tg.length cc, ve, vu]
structure StR (w : World) (P : Nat → Prop) (s : Nat) (A : Acv) (L U : List Ed) : Prop where
 ok : StOk A L U
 ex : ∃ a b c ca cb cc ve vu, w.heap[s]? = some (.cells (srC A a b c ca cb cc ve vu) 91 (0, 0)) ∧
  ActIn w A a b c ∧ EdOwn w 0 ve L ∧ EdOwn w 0 vu U ∧ StS P s ve vu (fun g => RowOf A a b c g)
theorem StR.kept {O P : Nat → Prop} {w w' : World} {s : Nat} {A : Acv} {L U : List Ed} (h : StR w P s A L U) (hk : Kept O w w') (hO : ∀ g, P g → ¬ O g) : StR w' P s A L U := by
 obtain ⟨h0, a, b, c, ca, cb, cc, ve, vu, h1, h2, h4, h5, h6⟩ := h; exact ⟨h0, a, b, c, ca, cb, cc, ve, vu, (hk.block s (lt_of_block h1) (hO _ h6.st)).trans h1, h2.keptN hk (fun g hg => hO g (h6.rows g hg).1),
  h4.keptO hk (fun g hg => hO g (h6.eb g hg).1), h5.keptO hk (fun g hg => hO g (h6.ub g hg).1), h6⟩
def Wider (P : Nat → Prop) (w w' : World) (g : Nat) : Prop := P g ∨ (w.heap.size ≤ g ∧ g < w'.heap.size)
def NewRet (S : World → (Nat → Prop) → Nat → Acv → List Ed → List Ed → Prop) (A : Acv) (er : Int) (w : World) (e : Ending) (w' : World) : Prop :=
 Below w.heap.size w w' ∧ ((er ≠ 0 ∧ e = .returned (.tuple #[.pointer none, .int .i64 er])) ∨ (er = 0 ∧ ∃ s, e = .returned (.tuple #[.pointer (some ⟨s, 0, none⟩), .int .i64 0]) ∧ S w' (fun g => w.heap.size ≤ g ∧ g < w'.heap.size) s A [] []))
theorem alloc_st (w : World) (cs : Array Value) (T : TypeId) : ∃ W, w.alloc (.cells cs T) = W ∧ Below w.heap.size w W ∧ W.heap.size = w.heap.size + 1 ∧ W.heap[w.heap.size]? = some (.cells cs T (0, 0)) :=
 ⟨_, rfl, below_al _ _, by simp, heap_alloc_new w _⟩
theorem newP_any (A : Acv) (a b c : Option Addr) (ca cb cc : Nat) (w : World) (hA : ActIn w A a b c) :
 Calls Tryz.prog 17 #[actV A a b c ca cb cc] w fun e w' => NewRet StP A (chkA A) w e w' := by
 obtain ⟨eA, heA⟩ : ∃ e, chkA A = e := ⟨_, rfl⟩; have HEA := qH heA; rw [heA]; have HTX := qH hA.text; obtain ⟨V1, hV1, hb1, hs1, ha1⟩ := alloc_aA w A a b c ca cb cc; have HB := qH hb1; have HSZ := qH hs1; have HIA := qH (hA.below hb1); have HA1 := qH ha1; have DA := qH (show Calls Tryz.prog 32 #[.agg #[.string A.name, .int .i64 A.sport, .int .i64 A.start, .slice a A.sm.length ca, .slice b A.lp.length cb, .slice c A.tg.length cc]] V1 fun e w'' => e = .returned (.int .i64 eA) ∧ Below V1.heap.size V1 w'' from by
  have h := check_any A a b c ca cb cc V1 HIA.out; unfold ChkG actV at h; rw [heA] at h; exact h)
 obtain ⟨z0, z1, z2, z3, z4, z5⟩ := ha1.cell; clear hA hb1 hs1 ha1 heA; unfold actV; go_enter Tryz.func17, Tryz.ntmps17; go_upto_region 1 with (fail); clear hV1; go_wp2_with fail; refine (DA.out).mono ?_; rintro e w3 ⟨rfl, hb3⟩; have HB3 := qH hb3; have HBW := qH (bStp HB.out hb3); obtain ⟨y0, y1, y2, y3, y4, y5⟩ := (HA1.out.below hb3).cell; clear z0 z1 z2 z3 z4 z5 hb3 DA; by_cases hA : eA = 0
 case neg =>
  have u1 : (eA != 0) = true := bTt hA; have HNE := qH hA; clear hA; go_wp2_with fail; go_ret2; unfold NewRet; exact ⟨HBW.out, Or.inl ⟨HNE.out, rfl⟩⟩
 subst hA; have HOA := qH (chkA_zero.1 HEA.out); have DCL := qH (fun Z : Ext w3 => show Calls Tryz.prog 33 #[.agg #[.string A.name, .int .i64 A.sport, .int .i64 A.start, .slice a A.sm.length ca, .slice b A.lp.length cb, .slice c A.tg.length cc]] Z.1 fun e w'' => CloneRet A Z.1 e w'' from by
  have h := cloneA_any A a b c ca cb cc Z.1 ((HIA.out.below HB3.out).below Z.2) (by have := HOA.out.nsm; omega) (by have := HOA.out.nlp; omega) (by have := HOA.out.ntg; omega); unfold actV at h; exact h)
 have Y0 := Ext.ex y0; have Y1 := Ext.ex y1; have Y2 := Ext.ex y2; have Y3 := Ext.ex y3; have Y4 := Ext.ex y4; have Y5 := Ext.ex y5; clear y0 y1 y2 y3 y4 y5; go_upto_region 4 with (fail); refine held_start (C := fun w' => ∃ Z : Ext w3, w' = Z.1) (by kernel_rfl) ?_; obtain ⟨Z0, hZ0⟩ : ∃ Z : Ext w3, ({ w3 with drawn := w3.drawn + 1 } : World) = Z.1 := ⟨⟨{ w3 with drawn := w3.drawn + 1 }, ⟨rfl, rfl, rfl, Nat.le_refl _, fun _ _ => rfl⟩⟩, rfl⟩; rw [hZ0]; clear hZ0; refine held_quiet (by kernel_rfl) (fun _ _ d _ _ h => by cases d <;> exact h) ⟨Z0, rfl⟩ [0, 2] 6 _ _ (by kernel_rfl) ?_; change wpQuiet _ _ _ _ (_ :: _ :: []) _
 repeat go_big_quiet_step (fail)
 refine wpQuiet_nil ?_; refine held_do (i := 1) _ rfl (by kernel_rfl) rfl (fun K hK => ?_); go_simp; refine (DCL.out Z0).mono ?_; unfold CloneRet; rintro e w4 ⟨⟨a1, b1, c1, ca1, cb1, cc1, rfl, ho4⟩, hb4⟩; obtain ⟨Z1, rfl⟩ : ∃ Z : Ext w3, w4 = Z.1 := ⟨⟨w4, bStp Z0.2 hb4⟩, rfl⟩; obtain ⟨hI4, _, _, _, hq4⟩ := ho4.actIn HTX.out HOA.out; have HI4 := qH hI4; have HQ4 := qH (fun q hq => Nat.le_trans Z0.2.size (hq4 q hq)); unfold actV; refine hK _ _ ⟨Z1, rfl⟩ ?_; clear hK K ho4 hb4 hI4 hq4
 try simp only [pS]
 refine held_do (i := 3) _ rfl (by kernel_rfl) rfl (fun K hK => ?_); go_simp; refine (DCL.out Z1).mono ?_; unfold CloneRet; rintro e w5 ⟨⟨a2, b2, c2, ca2, cb2, cc2, rfl, ho5⟩, hb5⟩; have HI5 := qH (HI4.out.below hb5); obtain ⟨Z2, rfl⟩ : ∃ Z : Ext w3, w5 = Z.1 := ⟨⟨w5, bStp Z1.2 hb5⟩, rfl⟩; obtain ⟨hI6, _, _, _, hq6⟩ := ho5.actIn HTX.out HOA.out; have HI6 := qH hI6; have HQ6 := qH (fun q hq => Nat.le_trans Z1.2.size (hq6 q hq)); unfold actV; refine hK _ _ ⟨Z2, rfl⟩ ?_; clear hK K ho5 hb5 hI6 hq6 HI4
 try simp only [pS]
 refine held_quiet (by kernel_rfl) (fun _ _ d _ _ h => by cases d <;> exact h) ⟨Z2, rfl⟩ [4] 3 _ _ (by kernel_rfl) ?_; change wpQuiet _ _ _ _ (_ :: []) _
 repeat go_big_quiet_step (fail)
 refine wpQuiet_nil ?_; refine held_do (i := 5) _ rfl (by kernel_rfl) rfl (fun K hK => ?_); go_simp; obtain ⟨Wb, hWb, hwb1, hwb2, hwq⟩ := alloc_st Z2.1 (spC A A a1 b1 c1 a2 b2 c2 ca1 cb1 cc1 ca2 cb2 cc2 (.slice none 0 0) (.slice none 0 0)) 89; unfold spC at hWb; rw [hWb]; have HI7 := qH (And.intro (HI5.out.below hwb1) (HI6.out.below hwb1)); obtain ⟨Z3, rfl⟩ : ∃ Z : Ext w3, Wb = Z.1 := ⟨⟨Wb, bStp Z2.2 hwb1⟩, rfl⟩; have HST := qH hwq; have HS2 := qH hwb2; refine hK _ _ ⟨Z3, rfl⟩ ?_; clear hK K hWb hwb1 hwb2 hwq
 try simp only [pS]
 refine held_quiet (by kernel_rfl) (fun _ _ d _ _ h => by cases d <;> exact h) ⟨Z3, rfl⟩ [6, 7] 0 _ _ (by kernel_rfl) ?_; change wpQuiet _ _ _ _ (_ :: _ :: []) _
 repeat go_big_quiet_step (fail)
 refine wpQuiet_nil ?_; refine wpAnyH_done (by kernel_rfl) ?_ _; go_wp2_with fail; go_ret2; unfold NewRet; have hlo := HBW.out.size; have hZ2 := Z2.2.size; have hS3 := HS2.out; refine ⟨bStp HBW.out Z3.2, Or.inr ⟨rfl, _, rfl, StOk.start HEA.out, a1, b1, c1, a2, b2, c2, ca1, cb1, cc1, ca2, cb2, cc2, .slice none 0 0, .slice none 0 0, HST.out, HI7.out.1, HI7.out.2, EdOwn.nil _ _, EdOwn.nil _ _, ?_⟩⟩; refine ⟨⟨by omega, by omega⟩, fun g e => (by cases e), fun g e => (by cases e), fun g hg => ?_⟩; have hlt : g < Z2.1.heap.size := by
  rcases hg with hg | hg
  · exact HI5.out.ltN hg
  · exact HI6.out.ltN hg
 have hge : w3.heap.size ≤ g := by
  rcases hg with hg | hg
  · exact hg.of (O := fun k => w3.heap.size ≤ k) HQ4.out
  · exact hg.of (O := fun k => w3.heap.size ≤ k) HQ6.out
 exact ⟨⟨by omega, by omega⟩, by omega, fun e => (by cases e), fun e => (by cases e)⟩
theorem newR_any (A : Acv) (a b c : Option Addr) (ca cb cc : Nat) (w : World) (hA : ActIn w A a b c) :
 Calls Tryz.prog 18 #[actV A a b c ca cb cc] w fun e w' => NewRet StR A (chkA A) w e w' := by
 obtain ⟨eA, heA⟩ : ∃ e, chkA A = e := ⟨_, rfl⟩; have HEA := qH heA; rw [heA]; have HTX := qH hA.text; obtain ⟨V1, hV1, hb1, hs1, ha1⟩ := alloc_aA w A a b c ca cb cc; have HB := qH hb1; have HSZ := qH hs1; have HIA := qH (hA.below hb1); have HA1 := qH ha1; have DA := qH (show Calls Tryz.prog 35 #[.agg #[.string A.name, .int .i64 A.sport, .int .i64 A.start, .slice a A.sm.length ca, .slice b A.lp.length cb, .slice c A.tg.length cc]] V1 fun e w'' => e = .returned (.int .i64 eA) ∧ Below V1.heap.size V1 w'' from by
  have h := rcheck2_any A a b c ca cb cc V1 HIA.out; unfold actV at h; rw [heA] at h; exact h)
 obtain ⟨z0, z1, z2, z3, z4, z5⟩ := ha1.cell; clear hA hb1 hs1 ha1 heA; unfold actV; go_enter Tryz.func18, Tryz.ntmps18; go_upto_region 1 with (fail); clear hV1; go_wp2_with fail; refine (DA.out).mono ?_; rintro e w3 ⟨rfl, hb3⟩; have HB3 := qH hb3; have HBW := qH (bStp HB.out hb3); obtain ⟨y0, y1, y2, y3, y4, y5⟩ := (HA1.out.below hb3).cell; clear z0 z1 z2 z3 z4 z5 hb3 DA; by_cases hA : eA = 0
 case neg =>
  have u1 : (eA != 0) = true := bTt hA; have HNE := qH hA; clear hA; go_wp2_with fail; go_ret2; unfold NewRet; exact ⟨HBW.out, Or.inl ⟨HNE.out, rfl⟩⟩
 subst hA; have HOA := qH (chkA_zero.1 HEA.out); have DCL := qH (show Calls Tryz.prog 48 #[.agg #[.string A.name, .int .i64 A.sport, .int .i64 A.start, .slice a A.sm.length ca, .slice b A.lp.length cb, .slice c A.tg.length cc]] w3 fun e w'' => CloneRet A w3 e w'' from by
  have h := rcopied_any A a b c ca cb cc w3 (HIA.out.below HB3.out) (by have := HOA.out.nsm; omega) (by have := HOA.out.nlp; omega) (by have := HOA.out.ntg; omega); unfold actV at h; exact h)
 go_wp2_with fail; refine (DCL.out).mono ?_; unfold CloneRet; rintro e w4 ⟨⟨a1, b1, c1, ca1, cb1, cc1, rfl, ho4⟩, hb4⟩; unfold actV; obtain ⟨hI4, _, _, _, hq4⟩ := ho4.actIn HTX.out HOA.out; obtain ⟨W5, hW5, hwb1, hwb2, hwq⟩ := alloc_st w4 (srC A a1 b1 c1 ca1 cb1 cc1 (.slice none 0 0) (.slice none 0 0)) 91; unfold srC at hW5; have HI5 := qH (And.intro hI4 (hI4.below hwb1)); have HQ4 := qH hq4; have HST := qH hwq; have HS2 := qH hwb2; have HB5 := qH (bStp HBW.out (bStp hb4 hwb1)); have HB4 := qH hb4.size; clear ho4 hb4 hI4 hq4 hwb1 hwb2 hwq DCL y0 y1 y2 y3 y4 y5; go_wp2_with fail; go_ret2; unfold NewRet; have hlo := HBW.out.size; have hZ2 := HB4.out; have hS3 := HS2.out; refine ⟨HB5.out, Or.inr ⟨rfl, _, rfl, StOk.start HEA.out, a1, b1, c1, ca1, cb1, cc1, .slice none 0 0, .slice none 0 0, HST.out, HI5.out.2, EdOwn.nil _ _, EdOwn.nil _ _, ?_⟩⟩; refine ⟨⟨by omega, by omega⟩, fun g e => (by cases e), fun g e => (by cases e), fun g hg => ?_⟩; have hlt : g < w4.heap.size := HI5.out.1.ltN hg; have hge : w3.heap.size ≤ g := hg.of (O := fun k => w3.heap.size ≤ k) HQ4.out; exact ⟨⟨by omega, by omega⟩, by omega, fun e => (by cases e), fun e => (by cases e)⟩
section
variable {P : Program} {ops : Array Oper} {Q : Exit → Act → World → Prop} {C : World → Prop} {s : Nat}
theorem wpAnyS_free {i : Nat} {oi : Oper} {v : Value} (hi : ops[i]? = some oi) (hsel : ∀ (j : Nat) (o : Oper) cs b, ops[j]? = some o → o.op ≠ .select cs b) (his : i ≠ s)
 (hQ : ∀ c a w, Q (.panic c) (a.put oi.dst v) w → Q (.panic c) a w) :
 ∀ (fuel : Nat) (listed : Array Bool) (a : Act) (w : World),
  (∀ j oj, ops[j]? = some oj → j ≠ i → listed.getD j true = false → (∀ e ∈ oj.after, Region.binds .any e = true → e.on ≠ i) → oi.apart ops oj = true) →
  i ∈ Region.ready .any ops listed → YieldsIf P ops (fun _ => True) oi v a → (listed.getD s true = false → C w) →
  wpAnyS P ops Q s C fuel (listed.setIfInBounds i true) (a.put oi.dst v) w → wpAnyS P ops Q s C (fuel + 1) listed a w := by
 intro fuel
 induction fuel with
 | zero =>
  intro listed a w _ hr hy hS H; refine ⟨fun h => (by rw [h] at hr; cases hr), fun j hj => ?_⟩; by_cases hji : j = i
  · subst hji
    exact hy.wpOp hi trivial ⟨fun h => hS (by rw [getD_set_ne true his] at h; exact h), H⟩
  · have := ready_mono hj hji
    rw [H.1] at this
    cases this
 | succ fuel ih =>
  intro listed a w hfree hr hy hS H; refine ⟨fun h => (by rw [h] at hr; cases hr), fun j hj => ?_⟩; by_cases hji : j = i
  · subst hji
    exact hy.wpOp hi trivial ⟨fun h => hS (by rw [getD_set_ne true his] at h; exact h), H⟩
  · have h1 := H.2 j (ready_mono hj hji)
    obtain ⟨hjun, oj, hoj, hall⟩ := mem_ready.1 hj; have hnot : ∀ e ∈ oj.after, Region.binds .any e = true → e.on ≠ i := fun e he hb heq => by
     have h1 := hall e he hb; have h0 := (mem_ready.1 hr).1; rw [heq] at h1; rcases Nat.lt_or_ge i listed.size with h' | h'
     · simp [h'] at h0 h1; rw [h0] at h1; cases h1
     · simp [Array.getElem?_eq_none h'] at h1
    have h2 := wpOp_putIf hoj (hfree j oj hoj hji hjun hnot) (fun cs b => hsel i oi cs b hi) (fun cs b => hsel j oj cs b hoj) hQ hy h1; have hfree' : ∀ k ok, ops[k]? = some ok → k ≠ i → (listed.setIfInBounds j true).getD k true = false →
     (∀ e ∈ ok.after, Region.binds .any e = true → e.on ≠ i) → oi.apart ops ok = true := fun k ok hk hki hun hno => by
     refine hfree k ok hk hki ?_ hno; by_cases hjk : j = k
     · subst hjk; exact hjun
     · rw [getD_set_ne true hjk] at hun; exact hun
    refine wpOp_mono (fun a' w' h3 => ?_) h2; have hS' : (listed.setIfInBounds j true).getD s true = false → C w' := fun hs => h3.2.1 (by rw [Array.setIfInBounds_comm _ _ (Ne.symm hji), getD_set_ne true his]; exact hs)
    refine ⟨hS', ih (listed.setIfInBounds j true) a' w' hfree' (ready_mono hr (Ne.symm hji)) h3.1 hS' ?_⟩; rw [Array.setIfInBounds_comm _ _ hji]; exact h3.2.2
def calmF (ops : Array Oper) (s : Nat) : List Nat → Array Bool → Bool
 | [], _ => true
 | i :: is, listed => (((ops[i]?).map fun o => isCalm4 o.op).getD false && Region.free .any ops listed i && (Region.ready .any ops listed).contains i && (i != s)) && calmF ops s is (listed.setIfInBounds i true)
theorem held_calmF (hsel : Region.noSelect ops = true) (hQ : ∀ c a d v w, Q (.panic c) (Act.put a d v) w → Q (.panic c) a w) {w : World} : ∀ (is : List Nat) (fuel : Nat) (listed : Array Bool) (a : Act), (listed.getD s true = false → C w) →
 calmF ops s is listed = true → wpQuiet P ops (fun _ => True) (fun a' => wpAnyS P ops Q s C fuel (listAll is listed) a' w) (is.filterMap fun i => ops[i]?) a → wpAnyS P ops Q s C (fuel + is.length) listed a w
 | [], _, _, _, _, _, h => h
 | i :: is, fuel, listed, a, hS, hB, h => by
  simp only [calmF, Bool.and_eq_true] at hB; obtain ⟨⟨⟨⟨h1, h2⟩, h3⟩, h5⟩, h4⟩ := hB; have hr : i ∈ Region.ready .any ops listed := by simpa using h3
  have his : i ≠ s := by simpa using h5
  have hS' : (listed.setIfInBounds i true).getD s true = false → C w := fun hs => hS (by rw [getD_set_ne true his] at hs; exact hs)
  cases ho : ops[i]? with
  | none => rw [ho] at h1; simp at h1
  | some o =>
   rw [ho] at h1; simp only [Option.map_some, Option.getD_some] at h1; rw [List.filterMap_cons, ho] at h; simp only [wpQuiet] at h; have e : fuel + (i :: is).length = (fuel + is.length) + 1 := by simp; omega
   rw [e]; by_cases hw : Region.wanted o (yielded ops a.tmps) = true
   · rw [if_pos hw] at h
     obtain ⟨v, hv, hn⟩ := h; exact wpAnyS_free ho (Region.noSelect_spec hsel) his (fun c a w => hQ c a _ _ w) _ _ _ _ (Region.free_spec ho h2) hr (yieldsIf_of_quiet4 h1 hw hv) hS (held_calmF hsel hQ is fuel _ _ hS' h4 hn)
   · rw [if_neg hw] at h
     exact wpAnyS_free ho (Region.noSelect_spec hsel) his (fun c a w => hQ c a _ _ w) _ _ _ _ (Region.free_spec ho h2) hr (Or.inr ⟨by simpa using hw, rfl⟩) hS (held_calmF hsel hQ is fuel _ _ hS' h4 h)
theorem late_free {l : List Oper} (hsel : Region.noSelect l.toArray = true) (hQ : ∀ c a d v w, Q (.panic c) (Act.put a d v) w → Q (.panic c) a w) {w : World} {listed : Array Bool} (hS : listed.getD s true = true ∨ C w) (is : List Nat) (fuel : Nat) (a : Act)
 (_hcl : clB l.toArray s listed = true) (hB : calmF l.toArray s is listed = true) (h : wpQuiet P l.toArray (fun _ => True) (fun a' => wpAnyS P l.toArray Q s C fuel (listAll is listed) a' w) (is.filterMap (nth l)) a) : wpAnyS P l.toArray Q s C (fuel + is.length) listed a w :=
 held_calmF hsel hQ is fuel listed a (fun h => hS.elim (fun e => by rw [h] at e; cases e) id) hB (by rw [show (fun i => l.toArray[i]?) = nth l from funext fun i => (nth_eq l i).symm]; exact h)
def calmB5 (ops : Array Oper) : List Nat → Array Bool → Bool
 | [], _ => true
 | i :: is, listed => ((ops[i]?).map fun o => isCalm4 o.op).getD false && Region.free .any ops listed i && (Region.ready .any ops listed).contains i && calmB5 ops is (listed.setIfInBounds i true)
theorem held_calm5 (hsel : Region.noSelect ops = true) (hQ : ∀ c a d v w, Q (.panic c) (Act.put a d v) w → Q (.panic c) a w) {w : World} (hC : C w) : ∀ (is : List Nat) (fuel : Nat) (listed : Array Bool) (a : Act),
 calmB5 ops is listed = true → wpQuiet P ops C (fun a' => wpAnyH P .any ops Q C fuel (listAll is listed) a' w) (is.filterMap fun i => ops[i]?) a → wpAnyH P .any ops Q C (fuel + is.length) listed a w
 | [], _, _, _, _, h => h
 | i :: is, fuel, listed, a, hB, h => by
  simp only [calmB5, Bool.and_eq_true] at hB; obtain ⟨⟨⟨h1, h2⟩, h3⟩, h4⟩ := hB
  cases ho : ops[i]? with
  | none => rw [ho] at h1; simp at h1
  | some o =>
   rw [ho] at h1; simp only [Option.map_some, Option.getD_some] at h1; rw [List.filterMap_cons, ho] at h; simp only [wpQuiet] at h; have e : fuel + (i :: is).length = (fuel + is.length) + 1 := by simp; omega
   rw [e]; by_cases hw : Region.wanted o (yielded ops a.tmps) = true
   · rw [if_pos hw] at h
     obtain ⟨v, hv, hn⟩ := h; exact wpAnyH_take ho hsel h2 h3 (fun c a w => hQ c a _ _ w) (yieldsIf_of_quiet4 h1 hw hv) hC (held_calm5 hsel hQ hC is fuel _ _ h4 hn)
   · rw [if_neg hw] at h
     exact wpAnyH_take ho hsel h2 h3 (fun c a w => hQ c a _ _ w) (Or.inr ⟨by simpa using hw, rfl⟩) hC (held_calm5 hsel hQ hC is fuel _ _ h4 h)
theorem held_quiet5 {l : List Oper} (hsel : Region.noSelect l.toArray = true) (hQ : ∀ c a d v w, Q (.panic c) (Act.put a d v) w → Q (.panic c) a w) {w : World} (hC : C w) (is : List Nat) (fuel : Nat) (listed : Array Bool) (a : Act)
 (hB : calmB5 l.toArray is listed = true) (h : wpQuiet P l.toArray C (fun a' => wpAnyH P .any l.toArray Q C fuel (listAll is listed) a' w) (is.filterMap (nth l)) a) : wpAnyH P .any l.toArray Q C (fuel + is.length) listed a w :=
 held_calm5 hsel hQ hC is fuel listed a hB (by rw [show (fun i => l.toArray[i]?) = nth l from funext fun i => (nth_eq l i).symm]; exact h)
end
def doE (A : Acv) (L : List Ed) (x : Ed) : Int := if apE (nowA A L) x ≠ 0 then apE (nowA A L) x else if 200 ≤ L.length then 3 else 0
def DoRet (S : World → (Nat → Prop) → Nat → Acv → List Ed → List Ed → Prop) (P : Nat → Prop) (s : Nat) (A : Acv) (L U : List Ed) (x : Ed) (w : World) (e : Ending) (w' : World) : Prop :=
 Kept P w w' ∧ e = .returned (.int .i64 (doE A L x)) ∧ ((doE A L x ≠ 0 ∧ S w' P s A L U) ∨ (doE A L x = 0 ∧ S w' (Wider P w w') s A (L ++ [x]) []))
theorem doE_bad {A : Acv} {L : List Ed} {x : Ed} {er : Int} (h : apE (nowA A L) x = er) (h0 : er ≠ 0) : doE A L x = er := by unfold doE; rw [h, if_pos h0]
theorem doE_full {A : Acv} {L : List Ed} {x : Ed} (h : apE (nowA A L) x = 0) (hl : 200 ≤ L.length) : doE A L x = 3 := by unfold doE; rw [h, if_neg (by simp), if_pos hl]
theorem doE_ok {A : Acv} {L : List Ed} {x : Ed} (h : apE (nowA A L) x = 0) (hl : ¬ 200 ≤ L.length) : doE A L x = 0 := by unfold doE; rw [h, if_neg (by simp), if_neg hl]
theorem StOk.more {A : Acv} {L U : List Ed} {x : Ed} (h : StOk A L U) (hl : ¬ 200 ≤ L.length) (hx : x.s.size ≤ maxLen) : StOk A (L ++ [x]) [] :=
 ⟨h.chk, by rw [List.length_append]; show L.length + 1 + 0 ≤ _; omega, fun y hy => by
  rcases List.mem_append.1 hy with hy | hy
  · exact h.tl y hy
  · rw [List.mem_singleton.1 hy]; exact hx, fun y hy => by cases hy⟩
theorem ExtO.cell {O : Nat → Prop} {W : World} {p : Addr} {v : Value} (ho : ¬ O p.block) (h : W.cell? p = some v) (X : ExtO O W) : X.1.cell? p = some v := X.2.cell ho h
theorem st_cell {w : World} {s : Nat} {cs : Array Value} {T : TypeId} {f : Nat × Nat} (h : w.heap[s]? = some (.cells cs T f)) {i : Nat} {v : Value} (hv : cs[i]? = some v) : w.cell? ⟨s, i, none⟩ = some v := by
 simp [World.cell?, h, hv]
theorem st_free {w : World} {s : Nat} {cs : Array Value} {T : TypeId} (h : w.heap[s]? = some (.cells cs T (0, 0))) (i : Nat) : w.frozen? ⟨s, i, none⟩ = false := by
 simp [World.frozen?, h]
theorem keepS {s : Nat} (V : World) (i : Nat) (v : Value) : Kept (fun b => b = s) V (V.setCell ⟨s, i, none⟩ v) := keep_set (O := fun b => b = s) rfl
theorem st_now {w : World} {s : Nat} {A Z : Acv} {a b c a' b' c' : Option Addr} {ca cb cc ca' cb' cc' : Nat} {ve vu : Value} (h : w.heap[s]? = some (.cells (spC A Z a b c a' b' c' ca cb cc ca' cb' cc' ve vu) 89 (0, 0))) (Y : Acv) (ya yb yc : Option Addr) (yca ycb ycc : Nat) :
 ∃ W, (((((w.setCell ⟨s, 6, none⟩ (.string Y.name)).setCell ⟨s, 7, none⟩ (.int .i64 Y.sport)).setCell ⟨s, 8, none⟩ (.int .i64 Y.start)).setCell ⟨s, 9, none⟩ (.slice ya Y.sm.length yca)).setCell ⟨s, 10, none⟩ (.slice yb Y.lp.length ycb)).setCell ⟨s, 11, none⟩ (.slice yc Y.tg.length ycc) = W ∧
  W.heap[s]? = some (.cells (spC A Y a b c ya yb yc ca cb cc yca ycb ycc ve vu) 89 (0, 0)) ∧ Kept (fun b => b = s) w W := by
 unfold spC at h ⊢; exact ⟨_, rfl, set_cells (set_cells (set_cells (set_cells (set_cells (set_cells h))))), (keepS _ _ _).trans ((keepS _ _ _).trans ((keepS _ _ _).trans ((keepS _ _ _).trans ((keepS _ _ _).trans (keepS _ _ _)))))⟩
theorem st_ve {w : World} {s : Nat} {A Z : Acv} {a b c a' b' c' : Option Addr} {ca cb cc ca' cb' cc' : Nat} {ve vu : Value} (h : w.heap[s]? = some (.cells (spC A Z a b c a' b' c' ca cb cc ca' cb' cc' ve vu) 89 (0, 0))) (v : Value) :
 ∃ W, w.setCell ⟨s, 12, none⟩ v = W ∧ W.heap[s]? = some (.cells (spC A Z a b c a' b' c' ca cb cc ca' cb' cc' v vu) 89 (0, 0)) ∧ Kept (fun b => b = s) w W := by
 unfold spC at h ⊢; exact ⟨_, rfl, set_cells h, keepS _ _ _⟩
theorem st_vu {w : World} {s : Nat} {A Z : Acv} {a b c a' b' c' : Option Addr} {ca cb cc ca' cb' cc' : Nat} {ve vu : Value} (h : w.heap[s]? = some (.cells (spC A Z a b c a' b' c' ca cb cc ca' cb' cc' ve vu) 89 (0, 0))) (v : Value) :
 ∃ W, w.setCell ⟨s, 13, none⟩ v = W ∧ W.heap[s]? = some (.cells (spC A Z a b c a' b' c' ca cb cc ca' cb' cc' ve v) 89 (0, 0)) ∧ Kept (fun b => b = s) w W := by
 unfold spC at h ⊢; exact ⟨_, rfl, set_cells h, keepS _ _ _⟩
theorem sr_ve {w : World} {s : Nat} {A : Acv} {a b c : Option Addr} {ca cb cc : Nat} {ve vu : Value} (h : w.heap[s]? = some (.cells (srC A a b c ca cb cc ve vu) 91 (0, 0))) (v : Value) :
 ∃ W, w.setCell ⟨s, 6, none⟩ v = W ∧ W.heap[s]? = some (.cells (srC A a b c ca cb cc v vu) 91 (0, 0)) ∧ Kept (fun b => b = s) w W := by
 unfold srC at h ⊢; exact ⟨_, rfl, set_cells h, keepS _ _ _⟩
theorem sr_vu {w : World} {s : Nat} {A : Acv} {a b c : Option Addr} {ca cb cc : Nat} {ve vu : Value} (h : w.heap[s]? = some (.cells (srC A a b c ca cb cc ve vu) 91 (0, 0))) (v : Value) :
 ∃ W, w.setCell ⟨s, 7, none⟩ v = W ∧ W.heap[s]? = some (.cells (srC A a b c ca cb cc ve v) 91 (0, 0)) ∧ Kept (fun b => b = s) w W := by
 unfold srC at h ⊢; exact ⟨_, rfl, set_cells h, keepS _ _ _⟩
theorem doP_any (P : Nat → Prop) (s : Nat) (A : Acv) (L U : List Ed) (x : Ed) (w : World) (h : StP w P s A L U) (hs : x.s.size ≤ maxLen) (hP : ∀ g, P g → g < w.heap.size) :
 Calls Tryz.prog 19 #[.pointer (some ⟨s, 0, none⟩), edV x] w fun e w' => DoRet StP P s A L U x w e w' := by
 unfold DoRet; obtain ⟨hok, a, b, c, a', b', c', ca, cb, cc, ca', cb', cc', ve, vu, hst, hIA, hIZ, hOE, hOU, hS⟩ := id h; have HST0 := qH h; have HOK := qH hok; have HP := qH hP; obtain ⟨n1, hn1⟩ : ∃ n, L.length = n := ⟨_, rfl⟩; have HN := qH hn1; obtain ⟨av, cv, rfl, hcv, _, _⟩ := id hOE.row; rw [hn1] at hst hOE hS; obtain ⟨Z, hZ⟩ : ∃ Z, nowA A L = Z := ⟨_, rfl⟩; have HZ := qH hZ; rw [hZ] at hst hIZ hS; obtain ⟨er, her⟩ : ∃ e, apE Z x = e := ⟨_, rfl⟩; have HER := qH her; obtain ⟨Y, hY⟩ : ∃ Y, apZ Z x = Y := ⟨_, rfl⟩; have HNX := qH (show nowA A (L ++ [x]) = Y by rw [nowA_snoc, hZ, hY]); have HDB := qH (fun h0 => doE_bad (show apE (nowA A L) x = er by rw [hZ]; exact her) h0); have HDF := qH (fun (h0 : er = 0) => And.intro (fun h => doE_full (L := L) (A := A) (x := x) (by rw [hZ, her]; exact h0) h) (fun h => doE_ok (L := L) (A := A) (x := x) (by rw [hZ, her]; exact h0) h)); have HMO := qH (fun hl => hok.more (x := x) hl hs); obtain ⟨dE, hdE⟩ : ∃ d, doE A L x = d := ⟨_, rfl⟩; rw [hdE] at HDB HDF ⊢; have HAP := qH (fun (X : World) (hX : ActIn X Z a' b' c') => apply_f x Z a' b' c' ca' cb' cc' X hX hs); rw [hY, her] at HAP; have HXC := qH (show edC x = edC x from rfl); obtain ⟨L1, hL1⟩ : ∃ M, L ++ [x] = M := ⟨_, rfl⟩; have HL1 := qH hL1; rw [hL1] at HNX HMO ⊢; obtain ⟨k, n, f, t, sx⟩ := x; clear hdE hZ her hY hok hP hs hn1 h hL1; obtain ⟨V1, hV1, hb1, hs1, hl1⟩ := alloc_cells w #[.int .i64 k, .int .i64 n, .int .i64 f, .int .i64 t, .string sx] 28; have HB1 := qH hb1; have HS1 := qH hs1; have x0 : V1.cell? ⟨w.heap.size, 0, none⟩ = some (.int .i64 k) := hl1 0 _ rfl; have x1 : V1.cell? ⟨w.heap.size, 1, none⟩ = some (.int .i64 n) := hl1 1 _ rfl; have x2 : V1.cell? ⟨w.heap.size, 2, none⟩ = some (.int .i64 f) := hl1 2 _ rfl; have x3 : V1.cell? ⟨w.heap.size, 3, none⟩ = some (.int .i64 t) := hl1 3 _ rfl; have x4 : V1.cell? ⟨w.heap.size, 4, none⟩ = some (.string sx) := hl1 4 _ rfl; have HST := qH ((hb1.block s (lt_of_block hst)).trans hst); have HSL := qH (lt_of_block hst); have HIA := qH (hIA.below hb1); have HIZ := qH (hIZ.below hb1); have HIA0 := qH hIA; have HOE := qH (hOE.below hb1); have HOE0 := qH hOE; have HS := qH hS; have HXA := qH (And.intro x0 (And.intro x1 (And.intro x2 (And.intro x3 x4)))); have DAP := qH (fun X : Ext V1 => HAP.out X.1 (HIZ.out.below X.2)); unfold actV edV at DAP; have hst' := HST.out; unfold spC at hst'; have z6 := Ext.ex (st_cell hst' (i := 6) rfl); have z7 := Ext.ex (st_cell hst' (i := 7) rfl); have z8 := Ext.ex (st_cell hst' (i := 8) rfl); have z9 := Ext.ex (st_cell hst' (i := 9) rfl); have z10 := Ext.ex (st_cell hst' (i := 10) rfl); have z11 := Ext.ex (st_cell hst' (i := 11) rfl); have z12 := Ext.ex (st_cell hst' (i := 12) rfl); have X0 := Ext.ex x0; have X1 := Ext.ex x1; have X2 := Ext.ex x2; have X3 := Ext.ex x3; have X4 := Ext.ex x4; clear hst hst' hIA hIZ hOE hOU hS hb1 hs1 hl1 x0 x1 x2 x3 x4 HAP; unfold edV; go_enter Tryz.func19, Tryz.ntmps19; go_upto_region 1 with (fail); clear hV1
 go_cut [5, 6] (fun p q wx => ∃ T : Nat, p = .pointer (some ⟨T, 0, none⟩) ∧ q = .int .i64 er ∧ Hid (∃ ya yb yc yca ycb ycc, AcB wx T Y.name Y.sport Y.start (.slice ya Y.sm.length yca) (.slice yb Y.lp.length ycb) (.slice yc Y.tg.length ycc) ∧ ActIn wx Y ya yb yc ∧ (∀ g, RowOf Y ya yb yc g → V1.heap.size ≤ g ∧ g ≠ T) ∧ V1.heap.size ≤ T) ∧ ∃ X : Ext V1, wx = X.1)
 case first =>
  refine held_start (C := fun w' => ∃ Z : Ext V1, w' = Z.1) (by kernel_rfl) ?_; obtain ⟨Z0, hZ0⟩ : ∃ Z : Ext V1, ({ V1 with drawn := V1.drawn + 1 } : World) = Z.1 := ⟨⟨{ V1 with drawn := V1.drawn + 1 }, ⟨rfl, rfl, rfl, Nat.le_refl _, fun _ _ => rfl⟩⟩, rfl⟩; rw [hZ0]; clear hZ0; refine held_quiet5 (by kernel_rfl) (fun _ _ d _ _ h => by cases d <;> exact h) ⟨Z0, rfl⟩ [0, 4, 1, 2, 3] 7 _ _ (by kernel_rfl) ?_; change wpQuiet _ _ _ _ (_ :: _ :: _ :: _ :: _ :: []) _
  repeat go_big_quiet_step (fail)
  refine wpQuiet_nil ?_; refine held_two (i := 5) (j := 9) _ _ rfl rfl (by kernel_rfl) rfl rfl (fun K hK => ?_) (fun K hK => ?_)
  · go_simp
    refine (DAP.out Z0).mono ?_; rintro e w2 ⟨hb2, ya, yb, yc, yca, ycb, ycc, rfl, hy2, hyq⟩; obtain ⟨Z1, rfl⟩ : ∃ Z : Ext V1, w2 = Z.1 := ⟨⟨w2, bStp Z0.2 hb2⟩, rfl⟩; have HY2 := qH hy2; have HYQ := qH (fun q hq => Nat.le_trans Z0.2.size (hyq q hq)); unfold actV; refine hK _ _ ⟨Z1, rfl⟩ ?_; clear hK K hb2 hy2 hyq
    try simp only [pS]
    refine held_quiet5 (by kernel_rfl) (fun _ _ d _ _ h => by cases d <;> exact h) ⟨Z1, rfl⟩ [6, 7, 8] 3 _ _ (by kernel_rfl) ?_; change wpQuiet _ _ _ _ (_ :: _ :: _ :: []) _
    repeat go_big_quiet_step (fail)
    refine wpQuiet_nil ?_; refine held_do (i := 9) _ rfl (by kernel_rfl) rfl (fun K hK => ?_); go_simp; obtain ⟨W3, hW3, hwb3, hws3, hac3⟩ := alloc_ac Z1.1 ⟨#[]⟩ 0 0 (.slice none 0 0) (.slice none 0 0) (.slice none 0 0); rw [hW3]; have HY3 := qH (HY2.out.below hwb3); have HLT := qH (fun g hg => HY2.out.ltN (g := g) hg); obtain ⟨Z2, rfl⟩ : ∃ Z : Ext V1, W3 = Z.1 := ⟨⟨W3, bStp Z1.2 hwb3⟩, rfl⟩; obtain ⟨T, hT⟩ : ∃ T, Z1.1.heap.size = T := ⟨_, rfl⟩; have HT := qH hT; rw [hT] at hac3 HLT ⊢; have HAC := qH hac3; have hZ1 := Z1.2.size; rw [hT] at hZ1; have HZ1 := qH hZ1; clear hW3 hwb3 hws3 hac3 hT hZ1; refine hK _ _ ⟨Z2, rfl⟩ ?_; clear hK K
    try simp only [pS]
    obtain ⟨r0, r1, r2, r3, r4, r5⟩ := HAC.out.cell; have fr := HAC.out.free; obtain ⟨WF, hWF, haF, hkF⟩ := HAC.out.store Y.name Y.sport Y.start (.slice ya Y.sm.length yca) (.slice yb Y.lp.length ycb) (.slice yc Y.tg.length ycc); have HAF := qH haF; have hkF' := hkF (fun q => q = T) rfl; have hbF : Below V1.heap.size V1 WF := Kept.below Z2.2 hkF' Z2.2.size (fun k hk e => by have := HZ1.out; omega); have HIF := qH (HY3.out.keptN hkF' (fun g hg e => by have := HLT.out g hg; omega)); obtain ⟨Z3, rfl⟩ : ∃ Z : Ext V1, WF = Z.1 := ⟨⟨WF, hbF⟩, rfl⟩; clear haF hkF hkF' hbF; refine held_do (i := 10) _ rfl (by kernel_rfl) rfl (fun K hK => ?_); go_simp; refine hK _ _ ⟨Z3, rfl⟩ ?_; clear hK K
    try simp only [pS]
    clear hWF r0 r1 r2 r3 r4 r5 fr; refine held_quiet5 (by kernel_rfl) (fun _ _ d _ _ h => by cases d <;> exact h) ⟨Z3, rfl⟩ [11] 0 _ _ (by kernel_rfl) ?_; change wpQuiet _ _ _ _ (_ :: []) _
    repeat go_big_quiet_step (fail)
    refine wpQuiet_nil ?_; refine wpAnyH_done (by kernel_rfl) ?_ _; go_wp2_with fail
    go_meet
    exact ⟨_, rfl, rfl, qH ⟨ya, yb, yc, yca, ycb, ycc, HAF.out, HIF.out, fun g hg => ⟨hg.of (O := fun k => V1.heap.size ≤ k) HYQ.out, by have := HLT.out g hg; omega⟩, HZ1.out⟩, Z3, rfl⟩
  · go_simp
    obtain ⟨W3, hW3, hwb3, hws3, hac3⟩ := alloc_ac Z0.1 ⟨#[]⟩ 0 0 (.slice none 0 0) (.slice none 0 0) (.slice none 0 0); rw [hW3]; obtain ⟨Z1, rfl⟩ : ∃ Z : Ext V1, W3 = Z.1 := ⟨⟨W3, bStp Z0.2 hwb3⟩, rfl⟩; obtain ⟨T, hT⟩ : ∃ T, Z0.1.heap.size = T := ⟨_, rfl⟩; rw [hT] at hac3 hws3 ⊢; have HAC1 := qH hac3; have HS3 := qH hws3; have hZ1 := Z0.2.size; rw [hT] at hZ1; have HZ1 := qH hZ1; refine hK _ _ ⟨Z1, rfl⟩ ?_; clear hK K hW3 hwb3 hws3 hac3 hT hZ1
    try simp only [pS]
    refine held_do (i := 5) _ rfl (by kernel_rfl) rfl (fun K hK => ?_); go_simp; refine (DAP.out Z1).mono ?_; rintro e w2 ⟨hb2, ya, yb, yc, yca, ycb, ycc, rfl, hy2, hyq⟩; have HAC := qH (HAC1.out.below hb2); obtain ⟨Z2, rfl⟩ : ∃ Z : Ext V1, w2 = Z.1 := ⟨⟨w2, bStp Z1.2 hb2⟩, rfl⟩; have HY2 := qH hy2; have HYQ := qH (fun q (hq : ya = some q ∨ yb = some q ∨ yc = some q) => show T + 1 ≤ q.block from by have := hyq q hq; have := HS3.out; omega); clear hb2 hy2 hyq; unfold actV; refine hK _ _ ⟨Z2, rfl⟩ ?_; clear hK K
    try simp only [pS]
    refine held_quiet5 (by kernel_rfl) (fun _ _ d _ _ h => by cases d <;> exact h) ⟨Z2, rfl⟩ [6, 7, 8] 2 _ _ (by kernel_rfl) ?_; change wpQuiet _ _ _ _ (_ :: _ :: _ :: []) _
    repeat go_big_quiet_step (fail)
    refine wpQuiet_nil ?_; obtain ⟨r0, r1, r2, r3, r4, r5⟩ := HAC.out.cell; have fr := HAC.out.free; obtain ⟨WF, hWF, haF, hkF⟩ := HAC.out.store Y.name Y.sport Y.start (.slice ya Y.sm.length yca) (.slice yb Y.lp.length ycb) (.slice yc Y.tg.length ycc); have HAF := qH haF; have hkF' := hkF (fun q => q = T) rfl; have hbF : Below V1.heap.size V1 WF := Kept.below Z2.2 hkF' Z2.2.size (fun k hk e => by have := HZ1.out; omega); have HIF := qH (HY2.out.kept hkF' (fun q hq e => by have := HYQ.out q hq; omega)); obtain ⟨Z3, rfl⟩ : ∃ Z : Ext V1, WF = Z.1 := ⟨⟨WF, hbF⟩, rfl⟩; clear haF hkF hkF' hbF; refine held_do (i := 10) _ rfl (by kernel_rfl) rfl (fun K hK => ?_); go_simp; refine hK _ _ ⟨Z3, rfl⟩ ?_; clear hK K
    try simp only [pS]
    clear hWF r0 r1 r2 r3 r4 r5 fr; refine held_quiet5 (by kernel_rfl) (fun _ _ d _ _ h => by cases d <;> exact h) ⟨Z3, rfl⟩ [11] 0 _ _ (by kernel_rfl) ?_; change wpQuiet _ _ _ _ (_ :: []) _
    repeat go_big_quiet_step (fail)
    refine wpQuiet_nil ?_; refine wpAnyH_done (by kernel_rfl) ?_ _; go_wp2_with fail
    go_meet
    exact ⟨_, rfl, rfl, qH ⟨ya, yb, yc, yca, ycb, ycc, HAF.out, HIF.out, fun g hg => by
     have h1 := hg.of (O := fun k => T + 1 ≤ k) HYQ.out; have h2 := HZ1.out; exact ⟨by omega, by omega⟩, HZ1.out⟩, Z3, rfl⟩
 case rest =>
  obtain ⟨T, rfl, rfl, HC, X, rfl⟩ := hcut; obtain ⟨ya, yb, yc, yca, ycb, ycc, hac, hin, hrow, hT⟩ := HC.out; clear DAP HC; by_cases h0 : er = 0
  case neg =>
   have u1 : (er != 0) = true := bTt h0; have HNE := qH h0; have HXX := qH (bStp HB1.out X.2); clear h0 hac hin hrow; go_wp2_with fail; go_ret; exact ⟨Kept.of_below HXX.out, by rw [HDB.out HNE.out]; rfl, Or.inl ⟨by rw [HDB.out HNE.out]; exact HNE.out, HST0.out.kept (O := fun _ => False) (Kept.of_below HXX.out) (fun _ _ e => e)⟩⟩
  have HD2 := qH (HDF.out h0); subst h0; clear HDF HDB; have z12x := z12 X; by_cases hl : 200 ≤ n1
  · have t1 : decide ((200 : Int) ≤ (n1 : Int)) = true := dTt (by omega)
    have t1' : decide (200 ≤ n1) = true := by simpa using hl
    have HD3 := qH (HD2.out.1 (by rw [HN.out]; exact hl)); have HXX := qH (bStp HB1.out X.2); clear hl hac hin hrow HD2; go_wp2_with fail; go_ret; exact ⟨Kept.of_below HXX.out, by rw [HD3.out]; rfl, Or.inl ⟨by rw [HD3.out]; decide, HST0.out.kept (O := fun _ => False) (Kept.of_below HXX.out) (fun _ _ e => e)⟩⟩
  have t1 : decide ((200 : Int) ≤ (n1 : Int)) = false := dFf (by omega); have t1' : decide (200 ≤ n1) = false := by simpa using hl
  have HL := qH (show n1 < 200 from by omega); have HD3 := qH (HD2.out.2 (by rw [HN.out]; exact hl)); have HM2 := qH (HMO.out (by rw [HN.out]; exact hl)); have HAC := qH hac; have HIN := qH hin; have HROW := qH hrow; have HT := qH hT; have hne : ∀ p : Nat, (Value.slice av n1 cv).ownBlock = some p → p < w.heap.size ∧ p ≠ s := fun p hp => ⟨(HOE0.out.lt p hp).2, (HS.out.eb p hp).2.1⟩
  have HNE := qH hne; have hV1 := HS1.out; have hSL := HSL.out; obtain ⟨r0, r1, r2, r3, r4, r5⟩ := hac.cell; have R0 := ExtO.cell (O := fun b => (Value.slice av n1 cv).ownBlock = some b) (fun e => by have := (hne _ e).1; have hh : V1.heap.size ≤ T := hT; simp only at this; omega) r0; have R1 := ExtO.cell (O := fun b => (Value.slice av n1 cv).ownBlock = some b) (fun e => by have := (hne _ e).1; have hh : V1.heap.size ≤ T := hT; simp only at this; omega) r1; have R2 := ExtO.cell (O := fun b => (Value.slice av n1 cv).ownBlock = some b) (fun e => by have := (hne _ e).1; have hh : V1.heap.size ≤ T := hT; simp only at this; omega) r2; have R3 := ExtO.cell (O := fun b => (Value.slice av n1 cv).ownBlock = some b) (fun e => by have := (hne _ e).1; have hh : V1.heap.size ≤ T := hT; simp only at this; omega) r3; have R4 := ExtO.cell (O := fun b => (Value.slice av n1 cv).ownBlock = some b) (fun e => by have := (hne _ e).1; have hh : V1.heap.size ≤ T := hT; simp only at this; omega) r4; have R5 := ExtO.cell (O := fun b => (Value.slice av n1 cv).ownBlock = some b) (fun e => by have := (hne _ e).1; have hh : V1.heap.size ≤ T := hT; simp only at this; omega) r5; have E0 := ExtO.cell (O := fun b => (Value.slice av n1 cv).ownBlock = some b) (fun e => by have := (hne _ e).1; simp only at this; omega) (X0 X); have E1 := ExtO.cell (O := fun b => (Value.slice av n1 cv).ownBlock = some b) (fun e => by have := (hne _ e).1; simp only at this; omega) (X1 X); have E2 := ExtO.cell (O := fun b => (Value.slice av n1 cv).ownBlock = some b) (fun e => by have := (hne _ e).1; simp only at this; omega) (X2 X); have E3 := ExtO.cell (O := fun b => (Value.slice av n1 cv).ownBlock = some b) (fun e => by have := (hne _ e).1; simp only at this; omega) (X3 X); have E4 := ExtO.cell (O := fun b => (Value.slice av n1 cv).ownBlock = some b) (fun e => by have := (hne _ e).1; simp only at this; omega) (X4 X); have E12 := ExtO.cell (O := fun b => (Value.slice av n1 cv).ownBlock = some b) (fun e => (hne _ e).2 rfl) z12x; clear r0 r1 r2 r3 r4 r5 X0 X1 X2 X3 X4 z6 z7 z8 z9 z10 z11 z12 hac hin hrow hl hT hne hV1 hSL HD2 HMO; go_upto_region 6 with (fail); clear z12x; refine late_start (s := 13) (C := fun w' => ∃ Z : ExtO (fun b => (Value.slice av n1 cv).ownBlock = some b) X.1, w' = Z.1) (by kernel_rfl) ?_; obtain ⟨Z0, hZ0⟩ : ∃ Z : ExtO (fun b => (Value.slice av n1 cv).ownBlock = some b) X.1, ({ X.1 with drawn := X.1.drawn + 1 } : World) = Z.1 := ⟨⟨{ X.1 with drawn := X.1.drawn + 1 }, ⟨rfl, rfl, rfl, Nat.le_refl _, fun _ _ _ => rfl⟩⟩, rfl⟩; rw [hZ0]; have HO0 := qH (show EdOwn Z0.1 0 (.slice av n1 cv) L from hZ0 ▸ (show EdOwn { X.1 with drawn := X.1.drawn + 1 } 0 (.slice av n1 cv) L from (show EdOwn X.1 0 (.slice av n1 cv) L from HOE.out.below X.2))); clear hZ0; refine late_free (by kernel_rfl) (fun _ _ d _ _ h => by cases d <;> exact h) (Or.inr ⟨Z0, rfl⟩) [1, 2] 18 _ (by kernel_rfl) (by kernel_rfl) ?_; change wpQuiet _ _ _ _ (_ :: _ :: []) _
  repeat go_big_quiet_step (fail)
  refine wpQuiet_nil ?_; refine late_quiet (by kernel_rfl) (fun _ _ d _ _ h => by cases d <;> exact h) ⟨Z0, rfl⟩ [0, 3, 4, 5, 6, 7, 8] 11 _ _ (by kernel_rfl) (by kernel_rfl) ?_; change wpQuiet _ _ _ _ (_ :: _ :: _ :: _ :: _ :: _ :: _ :: []) _
  repeat go_big_quiet_step (fail)
  refine wpQuiet_nil ?_; refine late_do (i := 9) _ rfl (by kernel_rfl) rfl (fun K hK => ?_); go_simp; obtain ⟨W9, hW9, hwb9, hws9, hwl9⟩ := alloc_cells Z0.1 #[.int .i64 k, .int .i64 n, .int .i64 f, .int .i64 t, .string sx] 28; rw [hW9]; have HO1 := qH (HO0.out.below hwb9); have HZ0 := qH Z0.2.size; obtain ⟨Z1, rfl⟩ : ∃ Z : ExtO (fun b => (Value.slice av n1 cv).ownBlock = some b) X.1, W9 = Z.1 := ⟨⟨W9, Z0.2.trans (Kept.of_below hwb9)⟩, rfl⟩; have HWL := qH (fun j u (hj : (edC ⟨k, n, f, t, sx⟩)[j]? = some u) => show Z1.1.cell? ⟨Z0.1.heap.size, j, none⟩ = some u from hwl9 j u (by rw [← hj]; unfold edC; simp)); have HZS := qH hws9; clear hW9 hwb9 hws9 hwl9; refine hK _ _ (fun _ => ⟨Z1, rfl⟩) ?_; clear hK K
  try simp only [pS]
  refine late_do (i := 10) _ rfl (by kernel_rfl) rfl (fun K hK => ?_); refine wp_append_ed (.tmp 34) (.tmp 36) rfl rfl HO1.out rfl HWL.out (by have := HL.out; rw [HN.out]; omega) (fun a3 n3 c3 w3 ho3 hn3 hg3 hb3 => ?_); obtain ⟨Z2, rfl⟩ : ∃ Z : ExtO (fun b => (Value.slice av n1 cv).ownBlock = some b) X.1, w3 = Z.1 := ⟨⟨w3, Z1.2.trans (Kept.of_grown hg3 (fun g e _ => e))⟩, rfl⟩; rw [HL1.out] at ho3; have HO3 := qH ho3; have HB3 := qH hb3; have HZ12 := qH hg3.size; refine hK _ _ (fun _ => ⟨Z2, rfl⟩) ?_; clear hK K ho3 hg3 hb3 hn3 HO0 HO1
  try simp only [pS]
  refine late_quiet (by kernel_rfl) (fun _ _ d _ _ h => by cases d <;> exact h) ⟨Z2, rfl⟩ [11, 12] 7 _ _ (by kernel_rfl) (by kernel_rfl) ?_; change wpQuiet _ _ _ _ (_ :: _ :: []) _
  repeat go_big_quiet_step (fail)
  refine wpQuiet_nil ?_; have hs2 : Z2.1.heap[s]? = some (.cells (spC A Z a b c a' b' c' ca cb cc ca' cb' cc' (.slice av n1 cv) vu) 89 (0, 0)) := (Z2.2.block s (by have := HSL.out; have := X.2.size; have := HS1.out; omega) (fun e => (HNE.out _ e).2 rfl)).trans ((X.2.block s (by have := HSL.out; have := HS1.out; omega)).trans HST.out); obtain ⟨W4, hW4, hs4, hk4⟩ := st_now hs2 Y ya yb yc yca ycb ycc; have HS4 := qH hs4; have HK4 := qH hk4; have fr4 := st_free hs2; have m6 := st_cell (i := 6) hs2 rfl; have m7 := st_cell (i := 7) hs2 rfl; have m8 := st_cell (i := 8) hs2 rfl; have m9 := st_cell (i := 9) hs2 rfl; have m10 := st_cell (i := 10) hs2 rfl; have m11 := st_cell (i := 11) hs2 rfl; clear hs2 hs4 hk4; refine late_do (i := 13) _ rfl (by kernel_rfl) rfl (fun K hK => ?_); go_simp; refine hK _ _ (nOo rfl) ?_; clear hK K
  try simp only [pS]
  clear hW4 fr4 m6 m7 m8 m9 m10 m11; refine late_free (by kernel_rfl) (fun _ _ d _ _ h => by cases d <;> exact h) (Or.inl (by kernel_rfl)) [14, 15] 4 _ (by kernel_rfl) (by kernel_rfl) ?_; change wpQuiet _ _ _ _ (_ :: _ :: []) _
  repeat go_big_quiet_step (fail)
  refine wpQuiet_nil ?_; obtain ⟨W5, hW5, hs5, hk5⟩ := st_ve HS4.out (.slice a3 n3 c3); have HS5 := qH hs5; have HK5 := qH hk5; have fr5 := st_free HS4.out; have m12 := st_cell (i := 12) HS4.out rfl; clear hs5 hk5; refine late_do (i := 16) _ rfl (by kernel_rfl) rfl (fun K hK => ?_); go_simp; refine hK _ _ (nOo rfl) ?_; clear hK K
  try simp only [pS]
  clear hW5 fr5 m12; refine late_free (by kernel_rfl) (fun _ _ d _ _ h => by cases d <;> exact h) (Or.inl (by kernel_rfl)) [17, 18] 1 _ (by kernel_rfl) (by kernel_rfl) ?_; change wpQuiet _ _ _ _ (_ :: _ :: []) _
  repeat go_big_quiet_step (fail)
  refine wpQuiet_nil ?_; obtain ⟨W6, hW6, hs6, hk6⟩ := st_vu HS5.out (.slice none 0 0); have HS6 := qH hs6; have HK6 := qH hk6; have fr6 := st_free HS5.out; have m13 := st_cell (i := 13) HS5.out rfl; clear hs6 hk6; refine late_do (i := 19) _ rfl (by kernel_rfl) rfl (fun K hK => ?_); go_simp; refine hK _ _ (nOo rfl) ?_; clear hK K
  try simp only [pS]
  clear hW6 fr6 m13; refine late_done (by kernel_rfl) ?_ _; go_wp2_with fail; go_ret; have hsz1 := HS1.out; have hxs := X.2.size; have hz0 := HZ0.out; have hz12 := HZ12.out; have hzs := HZS.out; have hsl := HSL.out; have hK3 : Kept (fun b => b = s) Z2.1 W6 := HK4.out.trans (HK5.out.trans HK6.out); have hK2 : Kept (fun b => (Value.slice av n1 cv).ownBlock = some b) X.1 Z2.1 := Z2.2; have hsz3 := hK3.size; have hE : EdOwn W6 0 (.slice a3 n3 c3) L1 := HO3.out.keptO hK3 (fun g hg e => by
   rcases HB3.out g hg with h | h
   · exact (HNE.out g h).2 e
   · omega)
  have hlt3 := HO3.out.lt; have hOld : ∀ g, g < w.heap.size → (Value.slice av n1 cv).ownBlock ≠ some g → (Value.slice a3 n3 c3).ownBlock ≠ some g := fun g hg hne e => by
   rcases HB3.out g e with h | h
   · exact hne h
   · omega
  have hIA : ActIn W6 A a b c := ((HIA.out.below X.2).keptN hK2 (fun g hg e => (HS.out.rows g (Or.inl hg)).2.2.1 e)).keptN hK3 (fun g hg e => (HS.out.rows g (Or.inl hg)).2.1 e); have hIY : ActIn W6 Y ya yb yc := (HIN.out.keptN hK2 (fun g hg e => by have := (HNE.out g e).1; have := (HROW.out g hg).1; omega)).keptN hK3 (fun g hg e => by have := (HROW.out g hg).1; omega); refine ⟨?_, by rw [HD3.out]; rfl, Or.inr ⟨HD3.out, HM2.out, a, b, c, ya, yb, yc, ca, cb, cc, yca, ycb, ycc, .slice a3 n3 c3, .slice none 0 0, by rw [HNX.out]; exact HS6.out, hIA, by rw [HNX.out]; exact hIY, hE, EdOwn.nil _ _, ?_⟩⟩
  · refine (Kept.of_below (bStp HB1.out X.2)).trans ((hK2.wide (fun g hg => (HS.out.eb g hg).1)).trans (hK3.wide (fun g hg => by subst hg; exact HS.out.st)))
  · rw [HNX.out]
    refine ⟨Or.inl HS.out.st, fun g hg => ?_, fun g hg => (by cases hg), fun g hg => ?_⟩
    · have hl := (hlt3 g hg).2
      rcases HB3.out g hg with h | h
      · exact ⟨Or.inl (HS.out.eb g h).1, (HNE.out g h).2, fun e => (by cases e)⟩
      · exact ⟨Or.inr ⟨by omega, by omega⟩, by omega, fun e => (by cases e)⟩
    · rcases hg with hg | hg
      · obtain ⟨q1, q2, q3, _⟩ := HS.out.rows g (Or.inl hg)
        exact ⟨Or.inl q1, q2, hOld g (HP.out g q1) q3, fun e => (by cases e)⟩
      · have h1 := (HROW.out g hg).1
        have h2 := HIN.out.ltN hg; refine ⟨Or.inr ⟨by omega, by omega⟩, by omega, fun e => ?_, fun e => (by cases e)⟩; rcases HB3.out g e with h | h
        · have := (HNE.out g h).1
          omega
        · omega
end Go.Proofs.YtjnfccphodjfiaaGreat
