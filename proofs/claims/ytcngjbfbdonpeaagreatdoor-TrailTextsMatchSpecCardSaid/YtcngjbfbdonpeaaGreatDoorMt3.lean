/- Several texts of this claim in one. -/
import Derived.Test.YtcngjbfbdonpeaaGreatDoorMt2
import Derived.Deep.RegionWith
import Derived.Test.YtcngjbfbdonpeaaGreatDoorShelf
import Derived.Lib.Bytealg
import Derived.Test.YtcngjbfbdonpeaaGreatDoorMt1
import Derived.Laws.OwnMore
import Derived.Laws.IdiomCopy
import Derived.Lib.SliceRun
import Derived.Deep.RegionLaw
import Derived.Laws.CopyOwn
import Derived.BigQuiet
/- A text of this claim. -/
namespace Go.Proofs.YtcngjbfbdonpeaaGreatDoor
open Go.RowKit Go.BigFrame
open Tr (Ed inR)
theorem chkEs_drop {l : List Ed} {k : Nat} {x : Ed} (hx : l[k]? = some x) (h : chkEs l = chkEs (l.drop k)) : (chkE x ≠ 0 → chkEs l = chkE x) ∧ (chkE x = 0 → chkEs l = chkEs (l.drop (k + 1))) := by
 obtain ⟨h1, e1⟩ := List.getElem?_eq_some_iff.1 hx
 rw [List.drop_eq_getElem_cons h1, e1, chkEs] at h
 exact ⟨fun h0 => by rw [h, if_neg h0], fun h0 => by rw [h, if_pos h0]⟩
set_option maxHeartbeats 2000000 in
set_option maxRecDepth 100000 in
theorem checkEdits_any (a : Option Addr) (l : List Ed) (c : Nat) (w : World) (hr : ERow w a l) (hs : ∀ x, x ∈ l → x.s.size ≤ maxLen) :
 Calls Tryz.prog 10 #[.slice a l.length c] w fun e w' => e = .returned (.int .i64 (chkEL l)) ∧ Below w.heap.size w w' := by
 have HR := Lib.hid hr
 have HS := Lib.hid hs
 have DC := Lib.hid (fun (x : Ed) (hx : x ∈ l) (W : World) => checkEdit_any x W (hs x hx))
 obtain ⟨nl, hnl⟩ : ∃ n, l.length = n := ⟨_, rfl⟩
 have HV : Hid (chkEL l = if 200 < nl then 3 else chkEs l) := Lib.hid (by unfold chkEL; rw [hnl])
 have HN := Lib.hid hnl
 rw [hnl]
 clear hr hs hnl
 by_cases hbig : 200 < nl
 · have t1 : decide ((200 : Int) < (nl : Int)) = true := by rw [decide_eq_true_eq]; omega
   have HV2 := Lib.hid (HV.out.trans (if_pos hbig))
   clear hbig HV
   go_enter Tryz.func10, Tryz.ntmps10
   go_wp2_with fail
   go_ret
   exact ⟨by rw [HV2.out]; rfl, Below.refl _ _⟩
 · have t1 : decide ((200 : Int) < (nl : Int)) = false := by rw [decide_eq_false_iff_not]; omega
   have HV2 := Lib.hid (HV.out.trans (if_neg hbig))
   clear HV
   go_enter Tryz.func10, Tryz.ntmps10
   go_wp2_with fail
   go_loopw [11] (fun iv wr => ∃ (k : Nat), iv = .int .i64 k ∧ k ≤ nl ∧ Hid (chkEs l = chkEs (l.drop k)) ∧ ∃ X : Ext w, wr = X.1) (fun iv _ => nl - (intOf iv).toNat)
   case atStart => exact ⟨0, rfl, by omega, Lib.hid rfl, ⟨w, Below.refl _ _⟩, rfl⟩
   case round =>
    obtain ⟨k, rfl, hk, HE, X, rfl⟩ := hrel
    by_cases hlt : k < nl
    · have t2 : decide ((k : Int) < (nl : Int)) = true := by rw [decide_eq_true_eq]; omega
      have t2' : decide (k < nl) = true := by simpa using hlt
      obtain ⟨x, hx⟩ : ∃ x, l[k]? = some x := ⟨_, List.getElem?_eq_getElem (by rw [HN.out]; exact hlt)⟩
      obtain ⟨b, off, rfl, hb, e0, e1, e2, e3, e4⟩ := (HR.out.below X.2).at hx
      have DX := Lib.hid (DC.out x (List.mem_of_getElem? hx))
      obtain ⟨hn1, hn2⟩ := chkEs_drop hx HE.out
      obtain ⟨r, hr⟩ : ∃ r, chkE x = r := ⟨_, rfl⟩
      rw [hr] at DX hn1 hn2
      obtain ⟨V1, hV1, hvb, hvs, hvl⟩ := alloc_cells X.1 #[.int .i64 x.k, .int .i64 x.n, .int .i64 x.f, .int .i64 x.t, .string x.s] 30
      have u0 := hvl 0 _ rfl
      have u1 := hvl 1 _ rfl
      have u2 := hvl 2 _ rfl
      have u3 := hvl 3 _ rfl
      have u4 := hvl 4 _ rfl
      have HV1 := Lib.hid hV1
      have HB1 := Lib.hid (X.2.trans (hvb.mono X.2.size))
      unfold edV at DX
      clear hx hr hV1 hvb hvs hvl HE
      by_cases h0 : r = 0
      · subst h0
        have HN2 := Lib.hid (hn2 rfl)
        clear hn1 hn2
        go_wp2_with fail
        rw [HV1.out]
        go_wp2_with fail
        refine (DX.out _).mono ?_
        rintro e w1 ⟨rfl, hb2⟩
        obtain ⟨Z, rfl⟩ : ∃ Z : Ext w, w1 = Z.1 := ⟨⟨w1, HB1.out.trans (hb2.mono HB1.out.size)⟩, rfl⟩
        clear hb2
        go_wp2_with fail
        go_roundw
        case rel => exact ⟨k + 1, by go_num, by omega, HN2, Z, rfl⟩
        case measure => simp [intOf]; omega
      · have HN1 := Lib.hid (hn1 h0)
        have hbne : (r != 0) = true := by rw [bne_iff_ne]; exact h0
        clear hn1 hn2 h0
        go_wp2_with fail
        rw [HV1.out]
        go_wp2_with fail
        refine (DX.out _).mono ?_
        rintro e w1 ⟨rfl, hb2⟩
        have HB2 := Lib.hid (HB1.out.trans (hb2.mono HB1.out.size))
        clear hb2
        go_wp2_with fail
        go_ret
        exact ⟨by rw [HV2.out, HN1.out]; rfl, HB2.out⟩
    · have t2 : decide ((k : Int) < (nl : Int)) = false := by rw [decide_eq_false_iff_not]; omega
      have t2' : decide (k < nl) = false := by simpa using hlt
      have HF := Lib.hid (show chkEs l = 0 by
       rw [HE.out, List.drop_eq_nil_of_le (by rw [HN.out]; omega)]
       rfl)
      have HX := Lib.hid X.2
      clear hlt HE
      go_wp2_with fail
      go_ret
      exact ⟨by rw [HV2.out, HF.out]; rfl, HX.out⟩
end Go.Proofs.YtcngjbfbdonpeaaGreatDoor

/- A text of this claim. -/
namespace Go.Proofs.YtcngjbfbdonpeaaGreatDoor
open Go.RowKit Go.BigFrame
open Tr (Ed inR isZero united)
theorem beqF {n m : Int} (h : n ≠ m) : (n == m) = false := beq_eq_false_iff_ne.2 h
theorem beqT {n m : Int} (h : n = m) : (n == m) = true := beq_iff_eq.2 h
set_option maxHeartbeats 1000000 in
theorem isZero_any (x : Ed) (w : World) : Calls Tryz.prog 52 #[edV x] w fun e w' => e = .returned (.bool (isZero x)) ∧ Below w.heap.size w w' := by
 obtain ⟨k, n, f, t, s⟩ := x
 unfold edV
 have walk : ∀ b, isZero ⟨k, n, f, t, s⟩ = b → Hid (isZero ⟨k, n, f, t, s⟩ = b) := fun _ h => Lib.hid h
 by_cases hn : n = 0
 · have b0 := beqT hn
   by_cases h5 : k = 5
   · have HV := walk true (by subst hn h5; rfl)
     have b5 := beqT h5
     clear h5 hn
     clear walk
     go_enter Tryz.func52, Tryz.ntmps52
     go_wp2_with fail
     go_ret
     exact ⟨ret_bool HV.out.symm, below_al w _⟩
   · have b5 := beqF h5
     by_cases h6 : k = 6
     · have HV := walk true (by subst hn h6; rfl)
       have b6 := beqT h6
       clear h6 hn
       clear walk
       go_enter Tryz.func52, Tryz.ntmps52
       go_wp2_with fail
       go_ret
       exact ⟨ret_bool HV.out.symm, below_al w _⟩
     · have b6 := beqF h6
       by_cases h9 : k = 9
       · have HV := walk true (by subst hn h9; rfl)
         have b9 := beqT h9
         clear h9 hn
         clear walk
         go_enter Tryz.func52, Tryz.ntmps52
         go_wp2_with fail
         go_ret
         exact ⟨ret_bool HV.out.symm, below_al w _⟩
       · have b9 := beqF h9
         have HV := walk false (by simp [isZero, h5, h6, h9])
         clear h5 h6 h9 hn
         clear walk
         go_enter Tryz.func52, Tryz.ntmps52
         go_wp2_with fail
         go_ret
         exact ⟨ret_bool HV.out.symm, below_al w _⟩
 · have b0 := beqF hn
   have HV := walk false (by simp [isZero, hn])
   clear hn
   clear walk
   go_enter Tryz.func52, Tryz.ntmps52
   go_wp2_with fail
   go_ret
   exact ⟨ret_bool HV.out.symm, below_al w _⟩
theorem size_al2 (w : World) (A B : Obj) : w.heap.size ≤ ((w.alloc A).alloc B).heap.size := by simp; omega
theorem below_al3 (w : World) (A B C : Obj) : Below w.heap.size w (((w.alloc A).alloc B).alloc C) := ((below_al w _).alloc (by simp) _).alloc (size_al2 w _ _) _
def UniR (x y : Ed) (w : World) (e : Ending) (w' : World) : Prop :=
 (∃ v, e = .returned (.tuple #[v, .bool (united x y).isSome]) ∧ ∀ m, united x y = some m → EdOwn w' w.heap.size v m) ∧ Below w.heap.size w w'
theorem UniR.none {x y : Ed} {w w' : World} {v : Value} {b : Bool} (h : united x y = none) (hb : Below w.heap.size w w') (hv : b = false) : UniR x y w (.returned (.tuple #[v, .bool b])) w' :=
 ⟨⟨v, by rw [h, hv]; rfl, fun m hm => by rw [h] at hm; cases hm⟩, hb⟩
theorem UniR.some {x y : Ed} {w w' : World} {v : Value} {m : List Ed} {b : Bool} (h : united x y = some m) (hb : Below w.heap.size w w') (ho : EdOwn w' w.heap.size v m) (hv : b = true) : UniR x y w (.returned (.tuple #[v, .bool b])) w' :=
 ⟨⟨v, by rw [h, hv]; rfl, fun m' hm => by rw [h] at hm; injection hm with hm; subst hm; exact ho⟩, hb⟩
theorem UniR.of {x y : Ed} {w w' : World} {v : Value} {m : List Ed} {b : Bool} (h : united x y = if b = true then Option.some m else Option.none) (hb : Below w.heap.size w w') (ho : EdOwn w' w.heap.size v m) : UniR x y w (.returned (.tuple #[v, .bool b])) w' := by
 cases b
 · exact .none h hb rfl
 · exact .some h hb ho rfl
theorem EdOwn.one (x : Ed) {w W : World} (hb : w.heap.size ≤ W.heap.size) {g : Nat} (hg : W.heap.size = g) : EdOwn (W.alloc (.cells #[.int .i64 x.k, .int .i64 x.n, .int .i64 x.f, .int .i64 x.t, .string x.s] 30)) w.heap.size (.slice (some ⟨g, 0, none⟩) 1 1) [x] := by
 subst hg
 exact ⟨rfl, .inr ⟨W.heap.size, 1, _, rfl, hb, heap_alloc_new W _, Nat.le_refl _, by unfold maxLen; omega, rfl, rfl⟩⟩
set_option maxHeartbeats 1000000 in
theorem united_tags (x y : Ed) (w : World) (h : x.k = 3 ∧ y.k = 4 ∨ x.k = 4 ∧ y.k = 3) : Calls Tryz.prog 54 #[edV x, edV y] w fun e w' => UniR x y w e w' := by
 obtain ⟨k, n, f, t, s⟩ := x
 obtain ⟨k', n', f', t', s'⟩ := y
 have hs := strEq s s'
 unfold edV
 simp only at h
 by_cases he : s = s'
 · rw [decide_eq_true he] at hs
   have HV := Lib.hid (show united ⟨k, n, f, t, s⟩ ⟨k', n', f', t', s'⟩ = Option.some [] by unfold united; rw [if_pos ⟨he, by omega⟩])
   clear he
   rcases h with ⟨rfl, rfl⟩ | ⟨rfl, rfl⟩
   all_goals
    go_enter Tryz.func54, Tryz.ntmps54
    go_wp2_with fail
    go_ret2
    exact .some HV.out ((below_al w _).alloc (by simp) _) (EdOwn.nil _ _) rfl
 · rw [decide_eq_false he] at hs
   have HV := Lib.hid (show united ⟨k, n, f, t, s⟩ ⟨k', n', f', t', s'⟩ = Option.none by
    unfold united
    rw [if_neg (fun h => he h.1), if_pos (by simp only; omega)])
   clear he
   rcases h with ⟨rfl, rfl⟩ | ⟨rfl, rfl⟩
   all_goals
    go_enter Tryz.func54, Tryz.ntmps54
    go_wp2_with fail
    go_ret2
    exact .none HV.out ((below_al w _).alloc (by simp) _) rfl
set_option maxHeartbeats 1000000 in
theorem united_diff (x y : Ed) (w : World) (hx : 1 ≤ x.k ∧ x.k ≤ 12) (hy : 1 ≤ y.k ∧ y.k ≤ 12) (hne : x.k ≠ y.k) (h : ¬ (x.k = 3 ∧ y.k = 4 ∨ x.k = 4 ∧ y.k = 3)) : Calls Tryz.prog 54 #[edV x, edV y] w fun e w' => UniR x y w e w' := by
 have HV := Lib.hid (show united x y = Option.none by
  unfold united
  rw [if_neg (fun g => h g.2), if_pos hne])
 obtain ⟨k, n, f, t, s⟩ := x
 obtain ⟨k', n', f', t', s'⟩ := y
 unfold edV
 simp only at h hx hy hne
 obtain ⟨hx1, hx2⟩ := hx
 obtain ⟨hy1, hy2⟩ := hy
 have hb : (k != k') = true := by rw [bne_iff_ne]; exact hne
 by_cases h7 : k + k' = 7
 · have b7 := beqT h7
   have b3 : (k == 3) = false := beqF (by omega)
   have b4 : (k == 4) = false := beqF (by omega)
   clear h7 h hne
   go_enter Tryz.func54, Tryz.ntmps54
   go_wp2_with fail
   go_ret2
   exact .none HV.out ((below_al w _).alloc (by simp) _) rfl
 · have b7 := beqF h7
   clear h7 h hne
   go_enter Tryz.func54, Tryz.ntmps54
   go_wp2_with fail
   go_ret2
   exact .none HV.out ((below_al w _).alloc (by simp) _) rfl
set_option maxHeartbeats 1000000 in
theorem united_3 (n f t n' f' t' : Int) (s s' : ByteArray) (w : World) : Calls Tryz.prog 54 #[edV ⟨3, n, f, t, s⟩, edV ⟨3, n', f', t', s'⟩] w fun e w' => UniR ⟨3, n, f, t, s⟩ ⟨3, n', f', t', s'⟩ w e w' := by
 have HV := Lib.hid (show united ⟨3, n, f, t, s⟩ ⟨3, n', f', t', s'⟩ = Option.none by
  unfold united
  rw [if_neg (by simp), if_neg (by simp), if_neg (by simp), if_neg (by simp), if_neg (by simp)])
 unfold edV
 go_enter Tryz.func54, Tryz.ntmps54
 go_wp2_with fail
 go_ret2
 exact .none HV.out ((below_al w _).alloc (by simp) _) rfl
set_option maxHeartbeats 1000000 in
theorem united_4 (n f t n' f' t' : Int) (s s' : ByteArray) (w : World) : Calls Tryz.prog 54 #[edV ⟨4, n, f, t, s⟩, edV ⟨4, n', f', t', s'⟩] w fun e w' => UniR ⟨4, n, f, t, s⟩ ⟨4, n', f', t', s'⟩ w e w' := by
 have HV := Lib.hid (show united ⟨4, n, f, t, s⟩ ⟨4, n', f', t', s'⟩ = Option.none by
  unfold united
  rw [if_neg (by simp), if_neg (by simp), if_neg (by simp), if_neg (by simp), if_neg (by simp)])
 unfold edV
 go_enter Tryz.func54, Tryz.ntmps54
 go_wp2_with fail
 go_ret2
 exact .none HV.out ((below_al w _).alloc (by simp) _) rfl
set_option maxHeartbeats 1000000 in
theorem united_8 (n f t n' f' t' : Int) (s s' : ByteArray) (w : World) : Calls Tryz.prog 54 #[edV ⟨8, n, f, t, s⟩, edV ⟨8, n', f', t', s'⟩] w fun e w' => UniR ⟨8, n, f, t, s⟩ ⟨8, n', f', t', s'⟩ w e w' := by
 have HV := Lib.hid (show united ⟨8, n, f, t, s⟩ ⟨8, n', f', t', s'⟩ = Option.none by
  unfold united
  rw [if_neg (by simp), if_neg (by simp), if_neg (by simp), if_neg (by simp), if_neg (by simp)])
 unfold edV
 go_enter Tryz.func54, Tryz.ntmps54
 go_wp2_with fail
 go_ret2
 exact .none HV.out ((below_al w _).alloc (by simp) _) rfl
set_option maxHeartbeats 1000000 in
theorem united_9 (n f t n' f' t' : Int) (s s' : ByteArray) (w : World) : Calls Tryz.prog 54 #[edV ⟨9, n, f, t, s⟩, edV ⟨9, n', f', t', s'⟩] w fun e w' => UniR ⟨9, n, f, t, s⟩ ⟨9, n', f', t', s'⟩ w e w' := by
 have HV := Lib.hid (show united ⟨9, n, f, t, s⟩ ⟨9, n', f', t', s'⟩ = Option.none by
  unfold united
  rw [if_neg (by simp), if_neg (by simp), if_neg (by simp), if_neg (by simp), if_neg (by simp)])
 unfold edV
 go_enter Tryz.func54, Tryz.ntmps54
 go_wp2_with fail
 go_ret2
 exact .none HV.out ((below_al w _).alloc (by simp) _) rfl
set_option maxHeartbeats 1000000 in
theorem united_10 (n f t n' f' t' : Int) (s s' : ByteArray) (w : World) : Calls Tryz.prog 54 #[edV ⟨10, n, f, t, s⟩, edV ⟨10, n', f', t', s'⟩] w fun e w' => UniR ⟨10, n, f, t, s⟩ ⟨10, n', f', t', s'⟩ w e w' := by
 have HV := Lib.hid (show united ⟨10, n, f, t, s⟩ ⟨10, n', f', t', s'⟩ = Option.none by
  unfold united
  rw [if_neg (by simp), if_neg (by simp), if_neg (by simp), if_neg (by simp), if_neg (by simp)])
 unfold edV
 go_enter Tryz.func54, Tryz.ntmps54
 go_wp2_with fail
 go_ret2
 exact .none HV.out ((below_al w _).alloc (by simp) _) rfl
set_option maxHeartbeats 1000000 in
theorem united_11 (n f t n' f' t' : Int) (s s' : ByteArray) (w : World) : Calls Tryz.prog 54 #[edV ⟨11, n, f, t, s⟩, edV ⟨11, n', f', t', s'⟩] w fun e w' => UniR ⟨11, n, f, t, s⟩ ⟨11, n', f', t', s'⟩ w e w' := by
 have HV := Lib.hid (show united ⟨11, n, f, t, s⟩ ⟨11, n', f', t', s'⟩ = Option.none by
  unfold united
  rw [if_neg (by simp), if_neg (by simp), if_neg (by simp), if_neg (by simp), if_neg (by simp)])
 unfold edV
 go_enter Tryz.func54, Tryz.ntmps54
 go_wp2_with fail
 go_ret2
 exact .none HV.out ((below_al w _).alloc (by simp) _) rfl
set_option maxHeartbeats 1000000 in
theorem united_12 (n f t n' f' t' : Int) (s s' : ByteArray) (w : World) : Calls Tryz.prog 54 #[edV ⟨12, n, f, t, s⟩, edV ⟨12, n', f', t', s'⟩] w fun e w' => UniR ⟨12, n, f, t, s⟩ ⟨12, n', f', t', s'⟩ w e w' := by
 have HV := Lib.hid (show united ⟨12, n, f, t, s⟩ ⟨12, n', f', t', s'⟩ = Option.none by
  unfold united
  rw [if_neg (by simp), if_neg (by simp), if_neg (by simp), if_neg (by simp), if_neg (by simp)])
 unfold edV
 go_enter Tryz.func54, Tryz.ntmps54
 go_wp2_with fail
 go_ret2
 exact .none HV.out ((below_al w _).alloc (by simp) _) rfl
set_option maxHeartbeats 1000000 in
theorem united_1 (n f t n' f' t' : Int) (s s' : ByteArray) (w : World) : Calls Tryz.prog 54 #[edV ⟨1, n, f, t, s⟩, edV ⟨1, n', f', t', s'⟩] w fun e w' => UniR ⟨1, n, f, t, s⟩ ⟨1, n', f', t', s'⟩ w e w' := by
 have HV := Lib.hid (show united ⟨1, n, f, t, s⟩ ⟨1, n', f', t', s'⟩ = Option.some [⟨1, n', f', t', s'⟩] by
  unfold united
  rw [if_neg (by simp), if_neg (by simp), if_pos (by simp)])
 unfold edV
 go_enter Tryz.func54, Tryz.ntmps54
 go_wp2_with fail
 go_ret2
 exact .some HV.out (below_al3 w _ _ _) (EdOwn.one ⟨1, n', f', t', s'⟩ (size_al2 w _ _) (by simp)) rfl
set_option maxHeartbeats 1000000 in
theorem united_2 (n f t n' f' t' : Int) (s s' : ByteArray) (w : World) : Calls Tryz.prog 54 #[edV ⟨2, n, f, t, s⟩, edV ⟨2, n', f', t', s'⟩] w fun e w' => UniR ⟨2, n, f, t, s⟩ ⟨2, n', f', t', s'⟩ w e w' := by
 have HV := Lib.hid (show united ⟨2, n, f, t, s⟩ ⟨2, n', f', t', s'⟩ = Option.some [⟨2, n', f', t', s'⟩] by
  unfold united
  rw [if_neg (by simp), if_neg (by simp), if_pos (by simp)])
 unfold edV
 go_enter Tryz.func54, Tryz.ntmps54
 go_wp2_with fail
 go_ret2
 exact .some HV.out (below_al3 w _ _ _) (EdOwn.one ⟨2, n', f', t', s'⟩ (size_al2 w _ _) (by simp)) rfl
set_option maxHeartbeats 2000000 in
theorem united_7 (n f t n' f' t' : Int) (s s' : ByteArray) (w : World) : Calls Tryz.prog 54 #[edV ⟨7, n, f, t, s⟩, edV ⟨7, n', f', t', s'⟩] w fun e w' => UniR ⟨7, n, f, t, s⟩ ⟨7, n', f', t', s'⟩ w e w' := by
 have HV : Hid (united ⟨7, n, f, t, s⟩ ⟨7, n', f', t', s'⟩ = if n = n' then Option.some [⟨7, n', f', t', s'⟩] else Option.none) := Lib.hid (by
  unfold united
  rw [if_neg (by simp), if_neg (by simp), if_neg (by simp), if_pos (by simp)])
 unfold edV
 by_cases hn : n = n'
 · have bn := beqT hn
   have HV2 := Lib.hid (HV.out.trans (if_pos hn))
   clear hn HV
   go_enter Tryz.func54, Tryz.ntmps54
   go_wp2_with fail
   go_region
   go_wp2_with fail
   go_ret2
   exact .some HV2.out (below_al3 w _ _ _).drew ((EdOwn.one ⟨7, n', f', t', s'⟩ (size_al2 w _ _) (by simp)).below (Below.refl _ _).drew) rfl
 · have bn := beqF hn
   have HV2 := Lib.hid (HV.out.trans (if_neg hn))
   clear hn HV
   go_enter Tryz.func54, Tryz.ntmps54
   go_wp2_with fail
   go_region
   go_wp2_with fail
   go_ret2
   exact .none HV2.out (below_al3 w _ _ _).drew rfl
set_option maxHeartbeats 2000000 in
theorem united_5 (n f t n' f' t' : Int) (s s' : ByteArray) (w : World) (hn : -1000000000000 ≤ n ∧ n ≤ 1000000000000) (hn' : -1000000000000 ≤ n' ∧ n' ≤ 1000000000000) : Calls Tryz.prog 54 #[edV ⟨5, n, f, t, s⟩, edV ⟨5, n', f', t', s'⟩] w fun e w' => UniR ⟨5, n, f, t, s⟩ ⟨5, n', f', t', s'⟩ w e w' := by
 have HV : Hid (united ⟨5, n, f, t, s⟩ ⟨5, n', f', t', s'⟩ = if inR (n' + n) (-86399999999) 86399999999 = true then Option.some [⟨5, n' + n, f', t', s'⟩] else Option.none) := Lib.hid (by
  unfold united
  rw [if_neg (by simp), if_neg (by simp), if_neg (by simp), if_neg (by simp), if_pos (by simp)]
  rfl)
 have D := Lib.hid (tin_any (n' + n) (-86399999999) 86399999999)
 obtain ⟨hn1, hn2⟩ := hn
 obtain ⟨hn3, hn4⟩ := hn'
 unfold edV
 generalize inR (n' + n) (-86399999999) 86399999999 = b at D HV
 go_enter Tryz.func54, Tryz.ntmps54
 go_wp2_with fail
 go_region_with ((go_at_call 72; refine (D.out _).mono ?_; rintro e w1 ⟨rfl, rfl⟩))
 all_goals
  go_wp2_with fail
  go_ret2
  exact .of HV.out (below_al3 w _ _ _).drew ((EdOwn.one ⟨5, n' + n, f', t', s'⟩ (size_al2 w _ _) (by simp)).below (Below.refl _ _).drew)
set_option maxHeartbeats 2000000 in
theorem united_6 (n f t n' f' t' : Int) (s s' : ByteArray) (w : World) (hn : -1000000000000 ≤ n ∧ n ≤ 1000000000000) (hn' : -1000000000000 ≤ n' ∧ n' ≤ 1000000000000) : Calls Tryz.prog 54 #[edV ⟨6, n, f, t, s⟩, edV ⟨6, n', f', t', s'⟩] w fun e w' => UniR ⟨6, n, f, t, s⟩ ⟨6, n', f', t', s'⟩ w e w' := by
 have HV : Hid (united ⟨6, n, f, t, s⟩ ⟨6, n', f', t', s'⟩ = if inR (n' + n) (-200000) 200000 = true then Option.some [⟨6, n' + n, f', t', s'⟩] else Option.none) := Lib.hid (by
  unfold united
  rw [if_neg (by simp), if_neg (by simp), if_neg (by simp), if_neg (by simp), if_pos (by simp)]
  rfl)
 have D := Lib.hid (tin_any (n' + n) (-200000) 200000)
 obtain ⟨hn1, hn2⟩ := hn
 obtain ⟨hn3, hn4⟩ := hn'
 unfold edV
 generalize inR (n' + n) (-200000) 200000 = b at D HV
 go_enter Tryz.func54, Tryz.ntmps54
 go_wp2_with fail
 go_region_with ((go_at_call 72; refine (D.out _).mono ?_; rintro e w1 ⟨rfl, rfl⟩))
 all_goals
  go_wp2_with fail
  go_ret2
  exact .of HV.out (below_al3 w _ _ _).drew ((EdOwn.one ⟨6, n' + n, f', t', s'⟩ (size_al2 w _ _) (by simp)).below (Below.refl _ _).drew)
end Go.Proofs.YtcngjbfbdonpeaaGreatDoor

/- A text of this claim. -/
namespace Go.Proofs.YtcngjbfbdonpeaaGreatDoor
open Go.RowKit Go.BigFrame
open Tr (Ed inR isZero united rank numOf)
theorem chkE_kind {x : Ed} (h : chkE x = 0) : 1 ≤ x.k ∧ x.k ≤ 12 := by
 unfold chkE at h
 split at h
 · cases h
 · omega
theorem rngE_zero {n lo hi : Int} (h : rngE n lo hi = 0) : lo ≤ n ∧ n ≤ hi := by
 unfold rngE at h
 split at h
 · rename_i hi
   unfold inR at hi
   simpa using hi
 · cases h
theorem chkE_num {x : Ed} (h : chkE x = 0) (hk : x.k = 5 ∨ x.k = 6) : -1000000000000 ≤ x.n ∧ x.n ≤ 1000000000000 := by
 unfold chkE at h
 rw [if_neg (by omega)] at h
 split at h
 · cases h
 · unfold fieldE at h
   rcases hk with hk | hk
   · rw [if_neg (by omega), if_neg (by omega), if_pos hk] at h
     have := rngE_zero h
     omega
   · rw [if_neg (by omega), if_neg (by omega), if_neg (by omega), if_pos hk] at h
     have := rngE_zero h
     omega
theorem united_any (x y : Ed) (w : World) (hx : chkE x = 0) (hy : chkE y = 0) : Calls Tryz.prog 54 #[edV x, edV y] w fun e w' => UniR x y w e w' := by
 have kx := chkE_kind hx
 have ky := chkE_kind hy
 by_cases ht : x.k = 3 ∧ y.k = 4 ∨ x.k = 4 ∧ y.k = 3
 · exact united_tags x y w ht
 · by_cases hne : x.k = y.k
   · have nx := chkE_num hx
     have ny := chkE_num hy
     obtain ⟨k, n, f, t, s⟩ := x
     obtain ⟨k', n', f', t', s'⟩ := y
     simp only at hne kx ky nx ny
     subst hne
     clear ht hx hy
     rcases kinds k with rfl | rfl | rfl | rfl | rfl | rfl | rfl | rfl | rfl | rfl | rfl | rfl | h | h
     · exact united_1 n f t n' f' t' s s' w
     · exact united_2 n f t n' f' t' s s' w
     · exact united_3 n f t n' f' t' s s' w
     · exact united_4 n f t n' f' t' s s' w
     · exact united_5 n f t n' f' t' s s' w (nx (by omega)) (ny (by omega))
     · exact united_6 n f t n' f' t' s s' w (nx (by omega)) (ny (by omega))
     · exact united_7 n f t n' f' t' s s' w
     · exact united_8 n f t n' f' t' s s' w
     · exact united_9 n f t n' f' t' s s' w
     · exact united_10 n f t n' f' t' s s' w
     · exact united_11 n f t n' f' t' s s' w
     · exact united_12 n f t n' f' t' s s' w
     · omega
     · omega
   · exact united_diff x y w kx ky hne ht
theorem ta_texted_texted (v : Value) (W : World) : (Instr.typeAssert (.iface 58 v) 56 58 true).run Tryz.prog W = .ok (.tuple #[v, .bool true]) W := by kernel_rfl
theorem ta_texted_counted (v : Value) (W : World) : (Instr.typeAssert (.iface 58 v) 56 77 true).run Tryz.prog W = .ok (.tuple #[.agg #[.int .i64 0, .int .i64 0, .int .i64 0, .int .i64 0, .string ⟨#[]⟩], .bool false]) W := by kernel_rfl
theorem ta_counted_texted (v : Value) (W : World) : (Instr.typeAssert (.iface 77 v) 56 58 true).run Tryz.prog W = .ok (.tuple #[.agg #[.int .i64 0, .int .i64 0, .int .i64 0, .int .i64 0, .string ⟨#[]⟩], .bool false]) W := by kernel_rfl
theorem ta_counted_counted (v : Value) (W : World) : (Instr.typeAssert (.iface 77 v) 56 77 true).run Tryz.prog W = .ok (.tuple #[v, .bool true]) W := by kernel_rfl
theorem ta_tracked_texted (v : Value) (W : World) : (Instr.typeAssert (.iface 78 v) 56 58 true).run Tryz.prog W = .ok (.tuple #[.agg #[.int .i64 0, .int .i64 0, .int .i64 0, .int .i64 0, .string ⟨#[]⟩], .bool false]) W := by kernel_rfl
theorem ta_tracked_counted (v : Value) (W : World) : (Instr.typeAssert (.iface 78 v) 56 77 true).run Tryz.prog W = .ok (.tuple #[.agg #[.int .i64 0, .int .i64 0, .int .i64 0, .int .i64 0, .string ⟨#[]⟩], .bool false]) W := by kernel_rfl
theorem ta_parted_texted (v : Value) (W : World) : (Instr.typeAssert (.iface 59 v) 56 58 true).run Tryz.prog W = .ok (.tuple #[.agg #[.int .i64 0, .int .i64 0, .int .i64 0, .int .i64 0, .string ⟨#[]⟩], .bool false]) W := by kernel_rfl
theorem ta_parted_counted (v : Value) (W : World) : (Instr.typeAssert (.iface 59 v) 56 77 true).run Tryz.prog W = .ok (.tuple #[.agg #[.int .i64 0, .int .i64 0, .int .i64 0, .int .i64 0, .string ⟨#[]⟩], .bool false]) W := by kernel_rfl
def txtB (x : Ed) : ByteArray := if x.k = 3 ∨ x.k = 4 then x.s else noB
theorem txtB_list (x : Ed) : (txtB x).data.toList = Tr.txtOf x := by
 unfold txtB Tr.txtOf
 split
 · rfl
 · rfl
set_option maxHeartbeats 2000000 in
theorem place_any (x : Ed) (w : World) (hk : 1 ≤ x.k ∧ x.k ≤ 12) : Calls Tryz.prog 77 #[edV x] w fun e w' => e = .returned (.tuple #[.int .i64 (rank x.k), .int .i64 (numOf x), .string (txtB x)]) ∧ Below w.heap.size w w' := by
 have DE := Lib.hid (fun W => editOf_any x W)
 obtain ⟨k, n, f, t, s⟩ := x
 obtain ⟨hk1, hk2⟩ := hk
 rcases kinds k with rfl | rfl | rfl | rfl | rfl | rfl | rfl | rfl | rfl | rfl | rfl | rfl | h | h
 · have HE : Hid (edI ⟨1, n, f, t, s⟩ = .iface 58 (edV ⟨1, n, f, t, s⟩)) := Lib.hid rfl
   rw [HE.out] at DE
   have ta1 := fun v W => ta_texted_texted v W
   have ta2 := fun v W => ta_texted_counted v W
   unfold edV at *
   simp only at *
   clear HE hk1 hk2
   go_enter Tryz.func77, Tryz.ntmps77
   go_wp2_with fail
   refine (DE.out _).mono ?_
   rintro e w1 ⟨rfl, hb⟩
   obtain ⟨Y, rfl⟩ : ∃ Y : Ext w, w1 = Y.1 := ⟨⟨w1, (below_al w _).trans (hb.mono (by simp))⟩, rfl⟩
   clear hb DE
   go_wp2_with fail
   exact bodyPost_ret (v := .tuple #[.int .i64 1, .int .i64 0, .string noB]) (by simp [results, Tryz.results77, go_sem]) rfl ⟨rfl, by first | exact Y.2 | exact Y.2.alloc Y.2.size _ | exact below_drewN (Y.2.alloc Y.2.size _) _⟩
 · have HE : Hid (edI ⟨2, n, f, t, s⟩ = .iface 77 (edV ⟨2, n, f, t, s⟩)) := Lib.hid rfl
   rw [HE.out] at DE
   have ta1 := fun v W => ta_counted_texted v W
   have ta2 := fun v W => ta_counted_counted v W
   unfold edV at *
   simp only at *
   clear HE hk1 hk2
   go_enter Tryz.func77, Tryz.ntmps77
   go_wp2_with fail
   refine (DE.out _).mono ?_
   rintro e w1 ⟨rfl, hb⟩
   obtain ⟨Y, rfl⟩ : ∃ Y : Ext w, w1 = Y.1 := ⟨⟨w1, (below_al w _).trans (hb.mono (by simp))⟩, rfl⟩
   clear hb DE
   go_wp2_with fail
   exact bodyPost_ret (v := .tuple #[.int .i64 2, .int .i64 0, .string noB]) (by simp [results, Tryz.results77, go_sem]) rfl ⟨rfl, by first | exact Y.2 | exact Y.2.alloc Y.2.size _ | exact below_drewN (Y.2.alloc Y.2.size _) _⟩
 · have HE : Hid (edI ⟨3, n, f, t, s⟩ = .iface 58 (edV ⟨3, n, f, t, s⟩)) := Lib.hid rfl
   rw [HE.out] at DE
   have ta1 := fun v W => ta_texted_texted v W
   have ta2 := fun v W => ta_texted_counted v W
   unfold edV at *
   simp only at *
   clear HE hk1 hk2
   go_enter Tryz.func77, Tryz.ntmps77
   go_wp2_with fail
   refine (DE.out _).mono ?_
   rintro e w1 ⟨rfl, hb⟩
   obtain ⟨Y, rfl⟩ : ∃ Y : Ext w, w1 = Y.1 := ⟨⟨w1, (below_al w _).trans (hb.mono (by simp))⟩, rfl⟩
   clear hb DE
   go_wp2_with fail
   go_quiet (fail)
   go_wp2_with fail
   exact bodyPost_ret (v := .tuple #[.int .i64 3, .int .i64 0, .string s]) (by simp [results, Tryz.results77, go_sem]) rfl ⟨rfl, by first | exact Y.2 | exact Y.2.alloc Y.2.size _ | exact below_drewN (Y.2.alloc Y.2.size _) _⟩
 · have HE : Hid (edI ⟨4, n, f, t, s⟩ = .iface 58 (edV ⟨4, n, f, t, s⟩)) := Lib.hid rfl
   rw [HE.out] at DE
   have ta1 := fun v W => ta_texted_texted v W
   have ta2 := fun v W => ta_texted_counted v W
   unfold edV at *
   simp only at *
   clear HE hk1 hk2
   go_enter Tryz.func77, Tryz.ntmps77
   go_wp2_with fail
   refine (DE.out _).mono ?_
   rintro e w1 ⟨rfl, hb⟩
   obtain ⟨Y, rfl⟩ : ∃ Y : Ext w, w1 = Y.1 := ⟨⟨w1, (below_al w _).trans (hb.mono (by simp))⟩, rfl⟩
   clear hb DE
   go_wp2_with fail
   go_quiet (fail)
   go_wp2_with fail
   exact bodyPost_ret (v := .tuple #[.int .i64 3, .int .i64 0, .string s]) (by simp [results, Tryz.results77, go_sem]) rfl ⟨rfl, by first | exact Y.2 | exact Y.2.alloc Y.2.size _ | exact below_drewN (Y.2.alloc Y.2.size _) _⟩
 · have HE : Hid (edI ⟨5, n, f, t, s⟩ = .iface 77 (edV ⟨5, n, f, t, s⟩)) := Lib.hid rfl
   rw [HE.out] at DE
   have ta1 := fun v W => ta_counted_texted v W
   have ta2 := fun v W => ta_counted_counted v W
   unfold edV at *
   simp only at *
   clear HE hk1 hk2
   go_enter Tryz.func77, Tryz.ntmps77
   go_wp2_with fail
   refine (DE.out _).mono ?_
   rintro e w1 ⟨rfl, hb⟩
   obtain ⟨Y, rfl⟩ : ∃ Y : Ext w, w1 = Y.1 := ⟨⟨w1, (below_al w _).trans (hb.mono (by simp))⟩, rfl⟩
   clear hb DE
   go_wp2_with fail
   exact bodyPost_ret (v := .tuple #[.int .i64 4, .int .i64 0, .string noB]) (by simp [results, Tryz.results77, go_sem]) rfl ⟨rfl, by first | exact Y.2 | exact Y.2.alloc Y.2.size _ | exact below_drewN (Y.2.alloc Y.2.size _) _⟩
 · have HE : Hid (edI ⟨6, n, f, t, s⟩ = .iface 77 (edV ⟨6, n, f, t, s⟩)) := Lib.hid rfl
   rw [HE.out] at DE
   have ta1 := fun v W => ta_counted_texted v W
   have ta2 := fun v W => ta_counted_counted v W
   unfold edV at *
   simp only at *
   clear HE hk1 hk2
   go_enter Tryz.func77, Tryz.ntmps77
   go_wp2_with fail
   refine (DE.out _).mono ?_
   rintro e w1 ⟨rfl, hb⟩
   obtain ⟨Y, rfl⟩ : ∃ Y : Ext w, w1 = Y.1 := ⟨⟨w1, (below_al w _).trans (hb.mono (by simp))⟩, rfl⟩
   clear hb DE
   go_wp2_with fail
   exact bodyPost_ret (v := .tuple #[.int .i64 5, .int .i64 0, .string noB]) (by simp [results, Tryz.results77, go_sem]) rfl ⟨rfl, by first | exact Y.2 | exact Y.2.alloc Y.2.size _ | exact below_drewN (Y.2.alloc Y.2.size _) _⟩
 · have HE : Hid (edI ⟨7, n, f, t, s⟩ = .iface 77 (edV ⟨7, n, f, t, s⟩)) := Lib.hid rfl
   rw [HE.out] at DE
   have ta1 := fun v W => ta_counted_texted v W
   have ta2 := fun v W => ta_counted_counted v W
   unfold edV at *
   simp only at *
   clear HE hk1 hk2
   go_enter Tryz.func77, Tryz.ntmps77
   go_wp2_with fail
   refine (DE.out _).mono ?_
   rintro e w1 ⟨rfl, hb⟩
   obtain ⟨Y, rfl⟩ : ∃ Y : Ext w, w1 = Y.1 := ⟨⟨w1, (below_al w _).trans (hb.mono (by simp))⟩, rfl⟩
   clear hb DE
   go_wp2_with fail
   go_quiet (fail)
   go_wp2_with fail
   exact bodyPost_ret (v := .tuple #[.int .i64 6, .int .i64 n, .string noB]) (by simp [results, Tryz.results77, go_sem]) rfl ⟨rfl, by first | exact Y.2 | exact Y.2.alloc Y.2.size _ | exact below_drewN (Y.2.alloc Y.2.size _) _⟩
 · have HE : Hid (edI ⟨8, n, f, t, s⟩ = .iface 59 (edV ⟨8, n, f, t, s⟩)) := Lib.hid rfl
   rw [HE.out] at DE
   have ta1 := fun v W => ta_parted_texted v W
   have ta2 := fun v W => ta_parted_counted v W
   unfold edV at *
   simp only at *
   clear HE hk1 hk2
   go_enter Tryz.func77, Tryz.ntmps77
   go_wp2_with fail
   refine (DE.out _).mono ?_
   rintro e w1 ⟨rfl, hb⟩
   obtain ⟨Y, rfl⟩ : ∃ Y : Ext w, w1 = Y.1 := ⟨⟨w1, (below_al w _).trans (hb.mono (by simp))⟩, rfl⟩
   clear hb DE
   go_wp2_with fail
   exact bodyPost_ret (v := .tuple #[.int .i64 7, .int .i64 0, .string noB]) (by simp [results, Tryz.results77, go_sem]) rfl ⟨rfl, by first | exact Y.2 | exact Y.2.alloc Y.2.size _ | exact below_drewN (Y.2.alloc Y.2.size _) _⟩
 · have HE : Hid (edI ⟨9, n, f, t, s⟩ = .iface 78 (edV ⟨9, n, f, t, s⟩)) := Lib.hid rfl
   rw [HE.out] at DE
   have ta1 := fun v W => ta_tracked_texted v W
   have ta2 := fun v W => ta_tracked_counted v W
   unfold edV at *
   simp only at *
   clear HE hk1 hk2
   go_enter Tryz.func77, Tryz.ntmps77
   go_wp2_with fail
   refine (DE.out _).mono ?_
   rintro e w1 ⟨rfl, hb⟩
   obtain ⟨Y, rfl⟩ : ∃ Y : Ext w, w1 = Y.1 := ⟨⟨w1, (below_al w _).trans (hb.mono (by simp))⟩, rfl⟩
   clear hb DE
   go_wp2_with fail
   exact bodyPost_ret (v := .tuple #[.int .i64 7, .int .i64 0, .string noB]) (by simp [results, Tryz.results77, go_sem]) rfl ⟨rfl, by first | exact Y.2 | exact Y.2.alloc Y.2.size _ | exact below_drewN (Y.2.alloc Y.2.size _) _⟩
 · have HE : Hid (edI ⟨10, n, f, t, s⟩ = .iface 78 (edV ⟨10, n, f, t, s⟩)) := Lib.hid rfl
   rw [HE.out] at DE
   have ta1 := fun v W => ta_tracked_texted v W
   have ta2 := fun v W => ta_tracked_counted v W
   unfold edV at *
   simp only at *
   clear HE hk1 hk2
   go_enter Tryz.func77, Tryz.ntmps77
   go_wp2_with fail
   refine (DE.out _).mono ?_
   rintro e w1 ⟨rfl, hb⟩
   obtain ⟨Y, rfl⟩ : ∃ Y : Ext w, w1 = Y.1 := ⟨⟨w1, (below_al w _).trans (hb.mono (by simp))⟩, rfl⟩
   clear hb DE
   go_wp2_with fail
   exact bodyPost_ret (v := .tuple #[.int .i64 7, .int .i64 0, .string noB]) (by simp [results, Tryz.results77, go_sem]) rfl ⟨rfl, by first | exact Y.2 | exact Y.2.alloc Y.2.size _ | exact below_drewN (Y.2.alloc Y.2.size _) _⟩
 · have HE : Hid (edI ⟨11, n, f, t, s⟩ = .iface 59 (edV ⟨11, n, f, t, s⟩)) := Lib.hid rfl
   rw [HE.out] at DE
   have ta1 := fun v W => ta_parted_texted v W
   have ta2 := fun v W => ta_parted_counted v W
   unfold edV at *
   simp only at *
   clear HE hk1 hk2
   go_enter Tryz.func77, Tryz.ntmps77
   go_wp2_with fail
   refine (DE.out _).mono ?_
   rintro e w1 ⟨rfl, hb⟩
   obtain ⟨Y, rfl⟩ : ∃ Y : Ext w, w1 = Y.1 := ⟨⟨w1, (below_al w _).trans (hb.mono (by simp))⟩, rfl⟩
   clear hb DE
   go_wp2_with fail
   exact bodyPost_ret (v := .tuple #[.int .i64 7, .int .i64 0, .string noB]) (by simp [results, Tryz.results77, go_sem]) rfl ⟨rfl, by first | exact Y.2 | exact Y.2.alloc Y.2.size _ | exact below_drewN (Y.2.alloc Y.2.size _) _⟩
 · have HE : Hid (edI ⟨12, n, f, t, s⟩ = .iface 59 (edV ⟨12, n, f, t, s⟩)) := Lib.hid rfl
   rw [HE.out] at DE
   have ta1 := fun v W => ta_parted_texted v W
   have ta2 := fun v W => ta_parted_counted v W
   unfold edV at *
   simp only at *
   clear HE hk1 hk2
   go_enter Tryz.func77, Tryz.ntmps77
   go_wp2_with fail
   refine (DE.out _).mono ?_
   rintro e w1 ⟨rfl, hb⟩
   obtain ⟨Y, rfl⟩ : ∃ Y : Ext w, w1 = Y.1 := ⟨⟨w1, (below_al w _).trans (hb.mono (by simp))⟩, rfl⟩
   clear hb DE
   go_wp2_with fail
   exact bodyPost_ret (v := .tuple #[.int .i64 7, .int .i64 0, .string noB]) (by simp [results, Tryz.results77, go_sem]) rfl ⟨rfl, by first | exact Y.2 | exact Y.2.alloc Y.2.size _ | exact below_drewN (Y.2.alloc Y.2.size _) _⟩
 · simp only at hk1
   omega
 · simp only at hk2
   omega
end Go.Proofs.YtcngjbfbdonpeaaGreatDoor

/- A text of this claim. -/
namespace Go.Proofs.YtcngjbfbdonpeaaGreatDoor
open Go.RowKit Go.BigFrame
open Tr (Ed inR isZero united rank numOf bef)
def orL : List Int → Int
 | [] => 0
 | x :: l => if x = 0 then orL l else x
theorem orL_drop {l : List Int} {k : Nat} {x : Int} (hx : l[k]? = some x) (h : orL l = orL (l.drop k)) : (x ≠ 0 → orL l = x) ∧ (x = 0 → orL l = orL (l.drop (k + 1))) := by
 obtain ⟨h1, e1⟩ := List.getElem?_eq_some_iff.1 hx
 rw [List.drop_eq_getElem_cons h1, e1, orL] at h
 exact ⟨fun h0 => by rw [h, if_neg h0], fun h0 => by rw [h, if_pos h0]⟩
set_option maxHeartbeats 1000000 in
theorem orInt_any (l : List Int) (g c : Nat) (w : World) (hl : l.length ≤ 1000) (hc : ∀ i v, l[i]? = some v → w.cell? ⟨g, i, none⟩ = some (.int .i64 v)) :
 Calls Tryz.prog 78 #[.slice (some ⟨g, 0, none⟩) l.length c] w fun e w' => e = .returned (.int .i64 (orL l)) ∧ w = w' := by
 obtain ⟨n, hn⟩ : ∃ n, l.length = n := ⟨_, rfl⟩
 have HN := Lib.hid hn
 have HC := Lib.hid hc
 rw [hn] at hl ⊢
 clear hn hc
 go_enter Tryz.func78, Tryz.ntmps78
 go_wp2_with fail
 go_loop [8] (fun iv => ∃ (k : Nat), iv = .int .i64 k ∧ k ≤ n ∧ Hid (orL l = orL (l.drop k))) (fun iv => n - (intOf iv).toNat)
 case atStart => exact ⟨0, rfl, by omega, Lib.hid rfl⟩
 case round =>
  obtain ⟨k, rfl, hk, HE⟩ := hrel
  by_cases hlt : k < n
  · have t1 : decide ((k : Int) < (n : Int)) = true := by rw [decide_eq_true_eq]; omega
    have t1' : decide (k < n) = true := by simpa using hlt
    obtain ⟨x, hx⟩ : ∃ x, l[k]? = some x := ⟨_, List.getElem?_eq_getElem (by rw [HN.out]; exact hlt)⟩
    have hcx := HC.out k x hx
    obtain ⟨h1, h2⟩ := orL_drop hx HE.out
    clear hx HE
    by_cases h0 : x = 0
    · subst h0
      have HE := Lib.hid (h2 rfl)
      clear h1 h2
      go_wp2_with fail
      go_round
      case rel => exact ⟨k + 1, by go_num, by omega, HE⟩
      case measure => simp [intOf]; omega
    · have HE := Lib.hid (h1 h0)
      have hb : (x != 0) = true := by rw [bne_iff_ne]; exact h0
      clear h1 h2 h0
      go_wp2_with fail
      go_ret
      exact ⟨by rw [HE.out]; rfl, rfl⟩
  · have t1 : decide ((k : Int) < (n : Int)) = false := by rw [decide_eq_false_iff_not]; omega
    have t1' : decide (k < n) = false := by simpa using hlt
    have HF := Lib.hid (show orL l = 0 by rw [HE.out, List.drop_eq_nil_of_le (by rw [HN.out]; omega)]; rfl)
    clear hlt HE
    go_wp2_with fail
    go_ret
    exact ⟨by rw [HF.out]; rfl, rfl⟩
theorem cmpB_neg : ∀ a b : List UInt8, decide (Lib.compareBytes a b < 0) = Tr.ltB a b
 | [], [] => rfl
 | [], _ :: _ => rfl
 | _ :: _, [] => rfl
 | x :: a, y :: b => by
  rw [Lib.compareBytes, Tr.ltB]
  split
  · rfl
  · split
    · rfl
    · exact cmpB_neg a b
theorem cmpI_neg (a b : Int) : decide (Lib.compareInt a b < 0) = decide (a < b) := by
 unfold Lib.compareInt
 split
 · rename_i h
   rw [decide_eq_true h]
   rfl
 · rename_i h
   rw [decide_eq_false h]
   split <;> rfl
theorem cmpI_zero (a b : Int) : Lib.compareInt a b = 0 ↔ a = b := by
 unfold Lib.compareInt
 split
 · constructor
   · intro h; cases h
   · omega
 · split
   · constructor
     · intro h; cases h
     · omega
   · constructor
     · omega
     · intro; rfl
def ordV (x y : Ed) : Int := orL [Lib.compareInt (rank x.k) (rank y.k), Lib.compareInt (numOf x) (numOf y), Lib.compareBytes (txtB x).data.toList (txtB y).data.toList]
theorem ordV_neg (x y : Ed) : decide (ordV x y < 0) = bef x y := by
 unfold ordV bef
 rw [orL, orL, orL, orL]
 by_cases h1 : rank x.k = rank y.k
 · rw [if_pos ((cmpI_zero _ _).2 h1), if_pos h1]
   by_cases h2 : numOf x = numOf y
   · rw [if_pos ((cmpI_zero _ _).2 h2), if_pos h2, txtB_list, txtB_list, ← cmpB_neg]
     split
     · rename_i h
       rw [h]
     · rfl
   · rw [if_neg (fun h => h2 ((cmpI_zero _ _).1 h)), if_neg h2, cmpI_neg]
 · rw [if_neg (fun h => h1 ((cmpI_zero _ _).1 h)), if_neg h1, cmpI_neg]
set_option maxHeartbeats 2000000 in
theorem order_any (x y : Ed) (w : World) (hx : 1 ≤ x.k ∧ x.k ≤ 12) (hy : 1 ≤ y.k ∧ y.k ≤ 12) : Calls Tryz.prog 56 #[edV x, edV y] w fun e w' => e = .returned (.int .i64 (ordV x y)) ∧ Below w.heap.size w w' := by
 obtain ⟨W0, hW0, hb0, hs0, hl0⟩ := alloc_cells w #[.int .i64 x.k, .int .i64 x.n, .int .i64 x.f, .int .i64 x.t, .string x.s] 30
 obtain ⟨W1, hW1, hb1, hs1, hl1⟩ := alloc_cells W0 #[.int .i64 y.k, .int .i64 y.n, .int .i64 y.f, .int .i64 y.t, .string y.s] 30
 rw [hs0] at hl1
 have G0 := Ext.ex (below_cell hb1 (hl0 0 _ rfl))
 have G1 := Ext.ex (below_cell hb1 (hl0 1 _ rfl))
 have G2 := Ext.ex (below_cell hb1 (hl0 2 _ rfl))
 have G3 := Ext.ex (below_cell hb1 (hl0 3 _ rfl))
 have G4 := Ext.ex (below_cell hb1 (hl0 4 _ rfl))
 have K0 := Ext.ex (hl1 0 _ rfl)
 have K1 := Ext.ex (hl1 1 _ rfl)
 have K2 := Ext.ex (hl1 2 _ rfl)
 have K3 := Ext.ex (hl1 3 _ rfl)
 have K4 := Ext.ex (hl1 4 _ rfl)
 have HW0 := Lib.hid hW0
 have HW1 := Lib.hid hW1
 have HB := Lib.hid (show Below w.heap.size w W1 from hb0.trans (hb1.mono (by omega)))
 have hsz : w.heap.size ≤ W1.heap.size := by omega
 have DX := Lib.hid (fun Y : Ext W1 => Y.calls (place_any x Y.1 hx))
 have DY := Lib.hid (fun Y : Ext W1 => Y.calls (place_any y Y.1 hy))
 have HV : Hid (ordV x y = orL [Lib.compareInt (rank x.k) (rank y.k), Lib.compareInt (numOf x) (numOf y), Lib.compareBytes (txtB x).data.toList (txtB y).data.toList]) := Lib.hid rfl
 have C1 := Lib.hid (fun W => Tryz.cmp_Compare_int (rank x.k) (rank y.k) W)
 have C2 := Lib.hid (fun W => Tryz.cmp_Compare_int (numOf x) (numOf y) W)
 have C3 := Lib.hid (fun W => Tryz.strings_Compare (txtB x) (txtB y) W)
 generalize Lib.compareInt (rank x.k) (rank y.k) = c1 at *
 generalize Lib.compareInt (numOf x) (numOf y) = c2 at *
 generalize Lib.compareBytes (txtB x).data.toList (txtB y).data.toList = c3 at *
 generalize rank x.k = r1 at *
 generalize rank y.k = r2 at *
 generalize numOf x = n1 at *
 generalize numOf y = n2 at *
 generalize txtB x = z1 at *
 generalize txtB y = z2 at *
 unfold edV at *
 clear hW0 hb0 hs0 hl0 hW1 hb1 hs1 hl1 hx hy
 go_enter Tryz.func56, Tryz.ntmps56
 go_upto_region 1 with (fail)
 rw [HW0.out, HW1.out]
 refine ext_wp fun X => ?_
 go_wp2_with fail
 refine (DX.out _).mono ?_
 rintro e w1 ⟨rfl, Y, rfl⟩
 clear DX
 go_wp2_with fail
 refine (DY.out _).mono ?_
 rintro e w1 ⟨rfl, Z, rfl⟩
 clear DY
 go_wp2_with fail
 refine (C1.out _).mono ?_
 rintro e w1 ⟨rfl, rfl⟩
 go_wp2_with fail
 refine (C2.out _).mono ?_
 rintro e w1 ⟨rfl, rfl⟩
 go_wp2_with fail
 refine (C3.out _).mono ?_
 rintro e w1 ⟨rfl, rfl⟩
 go_wp2_with fail
 refine (orInt_any [c1, c2, c3] _ _ _ (by simp) ?_).mono ?_
 · intro i v h
   rw [World.cell?_alloc_at _ _ _ _ rfl]
   match i, h with
   | 0, h => injection h with h; subst h; rfl
   | 1, h => injection h with h; subst h; rfl
   | 2, h => injection h with h; subst h; rfl
   | n + 3, h => simp at h
 rintro e w1 ⟨rfl, rfl⟩
 go_wp2_with fail
 go_ret
 exact ⟨by rw [HV.out]; rfl, (Z.down HB.out hsz).alloc (Z.down HB.out hsz).size _⟩
end Go.Proofs.YtcngjbfbdonpeaaGreatDoor

/- A text of this claim. -/
namespace Go.Proofs.YtcngjbfbdonpeaaGreatDoor
open Go.RowKit Go.BigFrame
open Tr (Ed inR isZero united rank numOf bef fstIdx)
theorem fstIdx_drop {l : List Ed} {k : Nat} {x : Ed} (hx : l[k]? = some x) (h : fstIdx isZero l 0 = fstIdx isZero (l.drop k) k) : (isZero x = true → fstIdx isZero l 0 = k) ∧ (isZero x = false → fstIdx isZero l 0 = fstIdx isZero (l.drop (k + 1)) (k + 1)) := by
 obtain ⟨h1, e1⟩ := List.getElem?_eq_some_iff.1 hx
 rw [List.drop_eq_getElem_cons h1, e1, fstIdx] at h
 exact ⟨fun h0 => by rw [h, if_pos h0], fun h0 => by rw [h, if_neg (by rw [h0]; simp)]⟩
set_option maxHeartbeats 2000000 in
set_option maxRecDepth 100000 in
theorem indexE_any (a : Option Addr) (l : List Ed) (c : Nat) (w : World) (hr : ERow w a l) (hl : l.length ≤ 1000000) :
 Calls Tryz.prog 51 #[.slice a l.length c, .func (.func 52) #[] #[]] w fun e w' => e = .returned (.int .i64 (fstIdx isZero l 0)) ∧ Below w.heap.size w w' := by
 have HR := Lib.hid hr
 have DZ := Lib.hid (fun (x : Ed) (W : World) => isZero_any x W)
 obtain ⟨nl, hnl⟩ : ∃ n, l.length = n := ⟨_, rfl⟩
 have HN := Lib.hid hnl
 rw [hnl] at hl ⊢
 clear hr hnl
 go_enter Tryz.func51, Tryz.ntmps51
 go_wp2_with fail
 go_loopw [8] (fun iv wr => ∃ (k : Nat), iv = .int .i64 k ∧ k ≤ nl ∧ Hid (fstIdx isZero l 0 = fstIdx isZero (l.drop k) k) ∧ ∃ X : Ext w, wr = X.1) (fun iv _ => nl - (intOf iv).toNat)
 case atStart => exact ⟨0, rfl, by omega, Lib.hid rfl, ⟨w, Below.refl _ _⟩, rfl⟩
 case round =>
  obtain ⟨k, rfl, hk, HE, X, rfl⟩ := hrel
  by_cases hlt : k < nl
  · have t1 : decide ((k : Int) < (nl : Int)) = true := by rw [decide_eq_true_eq]; omega
    have t1' : decide (k < nl) = true := by simpa using hlt
    obtain ⟨x, hx⟩ : ∃ x, l[k]? = some x := ⟨_, List.getElem?_eq_getElem (by rw [HN.out]; exact hlt)⟩
    obtain ⟨b, off, rfl, hb, e0, e1, e2, e3, e4⟩ := (HR.out.below X.2).at hx
    have D := Lib.hid (DZ.out x X.1)
    obtain ⟨h1, h2⟩ := fstIdx_drop hx HE.out
    unfold edV at D
    clear hx HE
    cases hz : isZero x
    · rw [hz] at D
      have HE := Lib.hid (h2 hz)
      clear h1 h2 hz
      go_wp2_with fail
      refine D.out.mono ?_
      rintro e w1 ⟨rfl, hb2⟩
      obtain ⟨Z, rfl⟩ : ∃ Z : Ext w, w1 = Z.1 := ⟨⟨w1, X.2.trans (hb2.mono X.2.size)⟩, rfl⟩
      clear hb2
      go_wp2_with fail
      go_roundw
      case rel => exact ⟨k + 1, by go_num, by omega, HE, Z, rfl⟩
      case measure => simp [intOf]; omega
    · rw [hz] at D
      have HE := Lib.hid (h1 hz)
      clear h1 h2 hz
      go_wp2_with fail
      refine D.out.mono ?_
      rintro e w1 ⟨rfl, hb2⟩
      have HB := Lib.hid (X.2.trans (hb2.mono X.2.size))
      clear hb2
      go_wp2_with fail
      go_ret
      exact ⟨ret_int HE.out.symm, HB.out⟩
  · have t1 : decide ((k : Int) < (nl : Int)) = false := by rw [decide_eq_false_iff_not]; omega
    have t1' : decide (k < nl) = false := by simpa using hlt
    have HF := Lib.hid (show fstIdx isZero l 0 = -1 by rw [HE.out, List.drop_eq_nil_of_le (by rw [HN.out]; omega)]; rfl)
    have HX := Lib.hid X.2
    clear hlt HE
    go_wp2_with fail
    go_ret
    exact ⟨ret_int HF.out.symm, HX.out⟩
theorem own_lay {base e k n cap q : Nat} : ∀ (vs : List Value) (o : Nat) {w : World} {xs : List Value}, w.ownsRow base e k (.slice (some ⟨q, 0, none⟩) n cap) n xs → o + vs.length ≤ xs.length →
 (w.setCells q o vs).ownsRow base e k (.slice (some ⟨q, 0, none⟩) n cap) n (xs.take o ++ vs ++ xs.drop (o + vs.length))
 | [], o, w, xs, h, _ => by simpa [World.setCells] using h
 | v :: vs, o, w, xs, h, hl => by
  have h1 := own_lay vs (o + 1) (h.stored o v).1 (by simp at hl ⊢; omega)
  have e : (xs.set o v).take (o + 1) ++ vs ++ (xs.set o v).drop (o + 1 + vs.length) = xs.take o ++ (v :: vs) ++ xs.drop (o + (v :: vs).length) := by
   have ho : o < xs.length := by simp at hl; omega
   rw [List.take_succ_eq_append_getElem (by simpa using ho), List.take_set_of_le (Nat.le_refl _), List.drop_set_of_lt (by omega)]
   simp [Nat.add_assoc, Nat.add_comm 1]
  rw [e] at h1
  exact h1
theorem flatEd_take (l : List Ed) (i : Nat) : (l.flatMap edC).take (i * 5) = (l.take i).flatMap edC := by
 induction i generalizing l with
 | zero => simp
 | succ i ih =>
  cases l with
  | nil => simp
  | cons a l =>
   rw [List.take_succ_cons, List.flatMap_cons, List.flatMap_cons, ← ih, show (i + 1) * 5 = i * 5 + 1 + 1 + 1 + 1 + 1 by omega]
   simp [edC]
theorem flatEd_drop (l : List Ed) (i : Nat) : (l.flatMap edC).drop (i * 5) = (l.drop i).flatMap edC := by
 induction i generalizing l with
 | zero => simp
 | succ i ih =>
  cases l with
  | nil => simp
  | cons a l =>
   rw [List.drop_succ_cons, List.flatMap_cons, ← ih, show (i + 1) * 5 = i * 5 + 1 + 1 + 1 + 1 + 1 by omega]
   simp [edC]
theorem EdOwn.lay {w : World} {base q n cap : Nat} {l : List Ed} (h : EdOwn w base (.slice (some ⟨q, 0, none⟩) n cap) l) (m : List Ed) (o : Nat) (ho : o + m.length ≤ l.length) :
 EdOwn (w.setCells q (o * 5) (m.flatMap edC)) base (.slice (some ⟨q, 0, none⟩) n cap) (l.take o ++ m ++ l.drop (o + m.length)) := by
 obtain ⟨a, c, e, _, _, _⟩ := h.row
 injection e with _ e2 _
 subst e2
 unfold EdOwn at h ⊢
 have hlen : (l.take o ++ m ++ l.drop (o + m.length)).length = l.length := by simp; omega
 rw [hlen]
 have h1 := own_lay (m.flatMap edC) (o * 5) h (by rw [flatEd_len, flatEd_len]; omega)
 rw [flatEd_len, ← Nat.add_mul, flatEd_take, flatEd_drop, ← List.flatMap_append, ← List.flatMap_append] at h1
 exact h1
theorem EdOwn.less {w : World} {base q n cap : Nat} {l : List Ed} (h : EdOwn w base (.slice (some ⟨q, 0, none⟩) n cap) l) (i : Nat) (hi : i ≤ l.length) : EdOwn w base (.slice (some ⟨q, 0, none⟩) i cap) (l.take i) := by
 obtain ⟨a, c, e, _, _, _⟩ := h.row
 injection e with _ e2 _
 subst e2
 have hl : (l.take i).length = i := by simp; omega
 unfold EdOwn at h ⊢
 rw [hl, ← flatEd_take]
 have hm : i * 5 ≤ l.length * 5 := Nat.mul_le_mul_right _ hi
 refine ⟨by rw [List.length_take, h.1]; omega, ?_⟩
 rcases h.2 with ⟨h0, _⟩ | ⟨g', cap', cur, hv, hg, hb, h1, h2, h3, h4⟩
 · cases h0
 · injection hv with e1 e2 e3
   injection e1 with e1
   injection e1 with e1
   subst e1
   subst e3
   exact Or.inr ⟨q, cap, cur, rfl, hg, hb, Nat.le_trans hi h1, h2, h3, by rw [← h4, List.take_take, Nat.min_eq_left hm]⟩
theorem EdOwn.cleared {w : World} {base q n cap : Nat} {l : List Ed} (h : EdOwn w base (.slice (some ⟨q, 0, none⟩) n cap) l) (vs : List Value) (o : Nat) (ho : l.length * 5 ≤ o) : EdOwn (w.setCells q o vs) base (.slice (some ⟨q, 0, none⟩) n cap) l := by
 obtain ⟨a, c, e, _, _, _⟩ := h.row
 injection e with _ e2 _
 subst e2
 unfold EdOwn at h ⊢
 have go : ∀ (vs : List Value) (o : Nat) (w : World) (xs : List Value), w.ownsRow base 30 5 (.slice (some ⟨q, 0, none⟩) l.length cap) l.length xs → xs.length ≤ o → (w.setCells q o vs).ownsRow base 30 5 (.slice (some ⟨q, 0, none⟩) l.length cap) l.length xs := fun vs => by
  induction vs with
  | nil => intro o w xs h _; exact h
  | cons v vs ih =>
   intro o w xs h ho
   have h1 := (h.stored o v).1
   rw [List.set_eq_of_length_le ho] at h1
   exact ih (o + 1) _ _ h1 (by omega)
 exact go vs o w _ h (by rw [flatEd_len]; exact ho)
end Go.Proofs.YtcngjbfbdonpeaaGreatDoor

/- A text of this claim. -/
namespace Go.Proofs.YtcngjbfbdonpeaaGreatDoor
open Go.RowKit Go.BigFrame
open Tr (Ed)
theorem kept_setE {a b : World} {q : Nat} {p : Addr} {v : Value} (h : Kept (fun k => k = q) a b) (hp : p.block = q) : Kept (fun k => k = q) a (b.setCell p v) := by
 refine h.trans ⟨rfl, rfl, rfl, by simp [World.setCell], fun k hk hne => ?_⟩
 simp only [World.setCell]
 rw [Array.getElem?_modify, if_neg (fun e => hne (by rw [← hp, e]))]
theorem kept_lay (q : Nat) : ∀ (vs : List Value) (o : Nat) (w : World), Kept (fun k => k = q) w (w.setCells q o vs)
 | [], _, _ => Kept.refl _ _
 | v :: vs, o, w => (kept_setE (p := ⟨q, o, none⟩) (v := v) (Kept.refl _ w) rfl).trans (kept_lay q vs (o + 1) _)
section
variable {w : World} {base q n cap : Nat} {l : List Ed}
theorem EdOwn.cellE (h : EdOwn w base (.slice (some ⟨q, 0, none⟩) n cap) l) {i : Nat} (hi : i < cap * 5) : (w.cell? ⟨q, i, none⟩).isSome = true ∧ w.frozen? ⟨q, i, none⟩ = false := by
 rcases h.2 with ⟨h0, _⟩ | ⟨g', cap', cur, hv, hg, hb, h1, h2, h3, h4⟩
 · cases h0
 · injection hv with e1 e2 e3
   injection e1 with e1
   injection e1 with e1
   subst e1
   subst e3
   have : i < cur.size := by rw [h3]; exact hi
   constructor
   · simp [World.cell?, hb, this]
   · simp [World.frozen?, hb]
theorem EdOwn.facts (h : EdOwn w base (.slice (some ⟨q, 0, none⟩) n cap) l) : n = l.length ∧ n ≤ cap ∧ cap ≤ maxLen ∧ base ≤ q := by
 rcases h.2 with ⟨h0, _⟩ | ⟨g', cap', cur, hv, hg, hb, h1, h2, h3, h4⟩
 · cases h0
 · injection hv with e1 e2 e3
   injection e1 with e1
   injection e1 with e1
   subst e1
   subst e3
   exact ⟨e2, by omega, h2, hg⟩
theorem EdOwn.at (h : EdOwn w base (.slice (some ⟨q, 0, none⟩) n cap) l) {i : Nat} {v : Value} (hv : (l.flatMap edC)[i]? = some v) : w.cell? ⟨q, i, none⟩ = some v := by
 obtain ⟨e, _⟩ := h.facts
 subst e
 rw [h.cellAt i (by have := (List.getElem?_eq_some_iff.1 hv).1; rw [flatEd_len] at this; exact this)]
 exact hv
end
theorem step_append_roomE {P : Program} {ops : Array Oper} {o : Oper} {a : Act} {w : World} {K : Act → World → Prop} {Q : Exit → Act → World → Prop} {E : Prop}
 (hg : o.guard = none) (s x : Operand) (t : TypeId) (hop : o.op = Op.call { callee := Callee.builtin Builtin.append, args := #[s, x], argTypes := #[t, t] })
 (e : TypeId) (i : TypeInfo) (h1 : P.underlying t = some (.slice e)) (h2 : P.info? e = some i) (h4 : i.size = 5)
 (b n cap : Nat) (hs : a.eval s = .slice (some ⟨b, 0, none⟩) n cap)
 (ad : Addr) (m c : Nat) (hx : a.eval x = .slice (some ad) m c) (news : List Value) (hn : news.length = m * 5) (hc : ∀ j u, news[j]? = some u → w.cell? (ad.add j) = some u) (h1c : ∀ u ∈ news, u.oneCell' = true)
 (r : Nat) (hr : n + m = r) (hroom : r ≤ cap) (hspare : ∀ j, j < cap * 5 → (w.cell? ⟨b, j, none⟩).isSome = true ∧ w.frozen? ⟨b, j, none⟩ = false)
 (hK : K (a.put o.dst (.slice (some ⟨b, 0, none⟩) r cap)) (w.setCells b (n * 5) news)) :
 if Region.wanted o (yielded ops a.tmps) = true then Oper.wp P o a w K Q else E := by
 subst hr
 refine step_append_room hg s x t hop e i 5 h1 h2 h4 b 0 n cap hs ad m c news hx hn hc h1c hroom (fun j hj => ?_) ?_
 · rw [Nat.zero_add]
   exact hspare _ (by omega)
 · rw [Nat.zero_add]
   exact hK
theorem run_clear_rowE {P : Program} (w : World) (t e ty : TypeId) (z : Value) (ht : P.underlying t = some (.slice e)) (hv : ∀ w, (zeroValue e).run P w = .ok z w) (h1 : ∀ v ∈ z.cells.toList, v.oneCell' = true) (b o n c : Nat) (hn : 0 < n)
 (hc : ∀ j, j < n * z.cells.size → (w.cell? ⟨b, o + j, none⟩).isSome = true) (hf : ∀ j, j < n * z.cells.size → w.frozen? ⟨b, o + j, none⟩ = false) :
 ∃ vs : List Value, (Builtin.clear_ #[t] ty #[.slice (some ⟨b, o, none⟩) n c]).run P w = .ok (.tuple #[]) (w.setCells b o vs) := by
 have hlen : (Builtin.zeroCells z.cells n).toList.length = n * z.cells.size := by simp [Builtin.zeroCells]
 have hone : ∀ v ∈ (Builtin.zeroCells z.cells n).toList, v.oneCell' = true := by
  intro v hv
  simp [Builtin.zeroCells] at hv
  obtain ⟨i, hi, rfl⟩ := hv
  have : 0 < z.cells.size := by
   rcases Nat.eq_zero_or_pos z.cells.size with h | h
   · rw [h] at hi; simp at hi
   · exact h
  have hm := Nat.mod_lt i this
  refine h1 _ ?_
  simp [hm]
 have hst := run_storeCells_cells (P := P) b o (Builtin.zeroCells z.cells n).toList 0 w (by rw [hlen]; simpa using hc) (by rw [hlen]; simpa using hf) hone
 simp only [Nat.add_zero] at hst
 obtain ⟨m, rfl⟩ : ∃ m, n = m + 1 := ⟨n - 1, by omega⟩
 exact ⟨(Builtin.zeroCells z.cells (m + 1)).toList, by simp [Builtin.clear_, run_underlying ht, hv, hst]⟩
set_option maxHeartbeats 4000000 in
set_option maxRecDepth 100000 in
theorem deleteE_any (l : List Ed) (base q cap j p n n1 : Nat) (w : World) (hown : EdOwn w base (.slice (some ⟨q, 0, none⟩) n cap) l) (hn : l.length ≤ 200) (hj : j < n) (hp : p = j + 1) (h1 : n = n1 + 1) :
 Calls Tryz.prog 53 #[.slice (some ⟨q, 0, none⟩) n cap, .int .i64 j, .int .i64 p] w fun e w' =>
  e = .returned (.slice (some ⟨q, 0, none⟩) n1 cap) ∧ EdOwn w' base (.slice (some ⟨q, 0, none⟩) n1 cap) (l.take j ++ l.drop (j + 1)) ∧ Kept (fun b => b = q) w w' := by
 obtain ⟨hln, hnc, hcm, hbq⟩ := hown.facts
 unfold maxLen at hcm
 obtain ⟨m, hm⟩ : ∃ m, n = p + m := ⟨n - p, by omega⟩
 have hel : Tryz.prog.elem 22 = 30 := by kernel_rfl
 have hso := Tryz.sizeOf30
 have U := Tryz.underlying22
 have hne : ((j : Int) == (p : Int)) = false := by rw [beq_eq_false_iff_ne]; omega
 obtain ⟨ad, had⟩ : ∃ ad : Addr, ad = if cap = p then ⟨q, 0, none⟩ else ⟨q, p * 5, none⟩ := ⟨_, rfl⟩
 have s1 : ∀ W : World, (Instr.slice 22 (.slice (some ⟨q, 0, none⟩) n cap) (some (.int .i64 (j : Int))) (some (.int .i64 (p : Int))) (some (.int .i64 (n : Int)))).run Tryz.prog W = .ok (.slice (some ⟨q, j * 5, none⟩) 1 (n - j)) W := fun W => by
  rw [run_slice_lhm (w := W) 22 _ n cap U .i64 .i64 .i64 (j : Int) (p : Int) (n : Int) (by omega) (by omega) (by omega) (by omega), hel, hso]
  have : ¬ n = j := by omega
  have h2 : p - j = 1 := by omega
  simp [sliced, Result.andThen, this, addr_plus, h2]
 have s2 : ∀ W : World, (Instr.slice 22 (.slice (some ⟨q, 0, none⟩) n cap) none (some (.int .i64 (j : Int))) none).run Tryz.prog W = .ok (.slice (some ⟨q, 0, none⟩) j cap) W := fun W => by
  rw [run_slice_h (w := W) 22 _ n cap U .i64 (j : Int) (by omega) (by omega), hel, hso]
  have : ¬ cap = 0 := by omega
  simp [sliced, Result.andThen, this, addr_plus]
 have s3 : ∀ W : World, (Instr.slice 22 (.slice (some ⟨q, 0, none⟩) n cap) (some (.int .i64 (p : Int))) none none).run Tryz.prog W = .ok (.slice (some ad) m (cap - p)) W := fun W => by
  rw [run_slice_l (w := W) 22 _ n cap U .i64 (p : Int) (by omega) (by omega), hel, hso, had]
  have h2 : n - p = m := by omega
  by_cases h : cap = p
  · simp [sliced, Result.andThen, h, h2]
  · simp [sliced, Result.andThen, h, addr_plus, h2]
 have s4 : ∀ W : World, (Instr.slice 22 (.slice (some ⟨q, 0, none⟩) n1 cap) (some (.int .i64 (n1 : Int))) (some (.int .i64 (n : Int))) none).run Tryz.prog W = .ok (.slice (some ⟨q, n1 * 5, none⟩) 1 (cap - n1)) W := fun W => by
  rw [run_slice_lh (w := W) 22 _ n1 cap U .i64 .i64 (n1 : Int) (n : Int) (by omega) (by omega) (by omega), hel, hso]
  have : ¬ cap = n1 := by omega
  have h2 : n - n1 = 1 := by omega
  simp [sliced, Result.andThen, this, addr_plus, h2]
 obtain ⟨news, hnews⟩ : ∃ news, news = (l.drop p).flatMap edC := ⟨_, rfl⟩
 have hnl : news.length = m * 5 := by rw [hnews, flatEd_len, List.length_drop]; omega
 have hone : ∀ u ∈ news, u.oneCell' = true := by rw [hnews]; exact flatEd_one _
 have hcc : ∀ i u, news[i]? = some u → w.cell? (ad.add i) = some u := fun i u hi => by
  have hi2 := (List.getElem?_eq_some_iff.1 hi).1
  rw [hnl] at hi2
  rw [had, if_neg (by omega), addr_plus]
  refine hown.at ?_
  rw [hnews, ← flatEd_drop, List.getElem?_drop] at hi
  exact hi
 have hsp := fun (i : Nat) (hi : i < cap * 5) => hown.cellE hi
 obtain ⟨W1, hW1⟩ : ∃ W, w.drew.setCells q (j * 5) news = W := ⟨_, rfl⟩
 have hro : EdOwn W1 base (.slice (some ⟨q, 0, none⟩) n cap) (l.take j ++ l.drop p ++ l.drop (j + (l.drop p).length)) := by
  rw [← hW1, hnews]
  exact (hown.below (Below.refl _ w).drew).lay (l.drop p) j (by rw [List.length_drop]; omega)
 have hk1 : Kept (fun b => b = q) w W1 := by
  rw [← hW1]
  exact (Kept.of_below (Below.refl _ w).drew).trans (kept_lay q news (j * 5) _)
 have hz : ∀ w, (zeroValue 30).run Tryz.prog w = .ok (.agg #[.int .i64 0, .int .i64 0, .int .i64 0, .int .i64 0, .string ⟨#[]⟩]) w := fun w => by kernel_rfl
 obtain ⟨vs, hvs⟩ := run_clear_rowE (P := Tryz.prog) W1 22 30 0 (.agg #[.int .i64 0, .int .i64 0, .int .i64 0, .int .i64 0, .string ⟨#[]⟩]) U hz (by decide) q (n1 * 5) 1 (cap - n1) (by omega)
  (fun i (hi : i < 1 * 5) => (hro.cellE (i := n1 * 5 + i) (by omega)).1) (fun i (hi : i < 1 * 5) => (hro.cellE (i := n1 * 5 + i) (by omega)).2)
 obtain ⟨W2, hW2⟩ : ∃ W, W1.setCells q (n1 * 5) vs = W := ⟨_, rfl⟩
 have hr2 : EdOwn W2 base (.slice (some ⟨q, 0, none⟩) n1 cap) (l.take j ++ l.drop (j + 1)) := by
  have h3 := hro.less n1 (by simp; omega)
  have e : (l.take j ++ l.drop p ++ l.drop (j + (l.drop p).length)).take n1 = l.take j ++ l.drop (j + 1) := by
   rw [List.take_append_of_le_length (by simp; omega), List.take_of_length_le (by simp; omega), hp]
  rw [e] at h3
  rw [← hW2]
  exact h3.cleared vs (n1 * 5) (by simp; omega)
 have hk2 : Kept (fun b => b = q) w W2 := by
  rw [← hW2]
  exact hk1.trans (kept_lay q vs (n1 * 5) _)
 rw [hW2] at hvs
 obtain ⟨i0, hi0, hz0, hz1, hz2⟩ := info_parts (show (Tryz.prog.info? 30).map (fun i => (i.zero, i.size, i.bytes)) = some (some (.agg #[.int .i64 0, .int .i64 0, .int .i64 0, .int .i64 0, .string ⟨#[]⟩]), 5, 48) by kernel_rfl)
 have hjm : j + m = n1 := by omega
 have HI := Lib.hid (And.intro hi0 hz1)
 have HN := Lib.hid (And.intro hnl (And.intro hcc hone))
 have HS := Lib.hid hsp
 have HW1 := Lib.hid hW1
 have HR := Lib.hid (And.intro hr2 hk2)
 have HJ := Lib.hid hjm
 have hn1c : n1 ≤ cap := by omega
 clear hown hnl hcc hone hsp hW1 hro hk1 hz hr2 hk2 hi0 hz0 hz1 hz2 hnews hjm hW2 had hn hln hbq hp h1 hm
 go_enter Tryz.func53, Tryz.ntmps53
 go_wp2_with fail
 go_region_law (refine step_append_roomE rfl (.tmp 22) (.tmp 25) 22 rfl 30 i0 U HI.out.1 HI.out.2 q j cap rfl ad m (cap - p) rfl news HN.out.1 HN.out.2.1 HN.out.2.2 n1 HJ.out hn1c HS.out ?_)
 all_goals
  rw [HW1.out]
  go_wp2_with fail
  go_ret
  exact ⟨rfl, HR.out.1, HR.out.2⟩
end Go.Proofs.YtcngjbfbdonpeaaGreatDoor

/- A text of this claim. -/
namespace Go.Proofs.YtcngjbfbdonpeaaGreatDoor
open Go.RowKit Go.BigFrame
open Tr (Ed)
theorem run_copyE {P : Program} (w : World) (dT sT ty elem : TypeId) (i : TypeInfo) (b o dLen dCap : Nat) (a : Option Addr) (sLen sCap k : Nat) (cs : List Value)
 (hu : P.underlying dT = some (.slice elem)) (hi : P.info? elem = some i) (hk : k = Nat.min sLen dLen) (hn : cs.length = k * i.size)
 (hsrc : 0 < k → ∃ ad, a = some ad ∧ ∀ j v, cs[j]? = some v → w.cell? (ad.add j) = some v) (h1 : ∀ v ∈ cs, v.oneCell' = true)
 (hc : ∀ j, j < cs.length → (w.cell? ⟨b, o + j, none⟩).isSome = true) (hf : ∀ j, j < cs.length → w.frozen? ⟨b, o + j, none⟩ = false) :
 (Builtin.copy_ #[dT, sT] ty #[.slice (some ⟨b, o, none⟩) dLen dCap, .slice a sLen sCap]).run P w = .ok (goInt k) (w.setCells b o cs) := by
 have hst := run_storeCells_cells (P := P) b o cs 0 w (by simpa using hc) (by simpa using hf) h1
 simp only [Nat.add_zero] at hst
 rcases Nat.eq_zero_or_pos k with h0 | h0
 · subst h0
   have : cs = [] := List.length_eq_zero_iff.1 (by rw [hn, Nat.zero_mul])
   subst this
   cases a <;> simp [Builtin.copy_, run_underlying hu, Builtin.lenOf, Builtin.firstCells, sizeOf, typeInfo, hi, ← hk, hst, loadCells, loadCellsFrom]
 · obtain ⟨ad, rfl, hs⟩ := hsrc h0
   have hl := run_loadCells_list (P := P) w ad cs hs
   rw [hn] at hl
   simp [Builtin.copy_, run_underlying hu, Builtin.lenOf, Builtin.firstCells, sizeOf, typeInfo, hi, ← hk, hl, hst]
theorem wp_copyE {P : Program} {o : Oper} {a : Act} {w : World} {K : Act → World → Prop} {Q : Exit → Act → World → Prop} (d s : Operand) (dT sT : TypeId)
 (ho : o.op = .call { callee := .builtin .copy, args := #[d, s], argTypes := #[dT, sT] }) (elem : TypeId) (i : TypeInfo) (hu : P.underlying dT = some (.slice elem)) (hi : P.info? elem = some i)
 (b off dLen dCap : Nat) (sa : Option Addr) (sLen sCap k : Nat) (hd : a.eval d = .slice (some ⟨b, off, none⟩) dLen dCap) (hs : a.eval s = .slice sa sLen sCap) (cs : List Value) (hk : k = Nat.min sLen dLen) (hn : cs.length = k * i.size)
 (hsrc : 0 < k → ∃ ad, sa = some ad ∧ ∀ j v, cs[j]? = some v → w.cell? (ad.add j) = some v) (h1 : ∀ v ∈ cs, v.oneCell' = true)
 (hc : ∀ j, j < cs.length → (w.cell? ⟨b, off + j, none⟩).isSome = true) (hf : ∀ j, j < cs.length → w.frozen? ⟨b, off + j, none⟩ = false)
 (hK : K (a.put o.dst (goInt k)) (w.setCells b off cs)) : Oper.wp P o a w K Q := by
 have hrun := run_copyE (P := P) w dT sT o.type elem i b off dLen dCap sa sLen sCap k cs hu hi hk hn hsrc h1 hc hf
 unfold Oper.wp
 simp [execOp, ho, resolve, invoke, builtin, hd, hs, hrun, Result.andThen]
 exact hK
theorem wpList_append_roomE {P : Program} {w : World} {ops : Array Oper} {rest : List Oper} {o : Oper} {a : Act} {Q : Exit → Act → World → Prop} (hgd : o.guard = none) (s x : Operand) (t : TypeId)
 (ho : o.op = .call { callee := .builtin .append, args := #[s, x], argTypes := #[t, t] }) (e : TypeId) (i : TypeInfo) (ht : P.underlying t = some (.slice e)) (hi : P.info? e = some i) (hi5 : i.size = 5)
 (b n cap : Nat) (hs : a.eval s = .slice (some ⟨b, 0, none⟩) n cap) (sa : Option Addr) (m c : Nat) (hx : a.eval x = .slice sa m c) (hnc : n ≤ cap) (news : List Value) (hn : news.length = m * 5)
 (hsrc : 0 < m → ∃ ad, sa = some ad ∧ ∀ j v, news[j]? = some v → w.cell? (ad.add j) = some v) (h1 : ∀ u ∈ news, u.oneCell' = true)
 (r : Nat) (hr : n + m = r) (hroom : r ≤ cap) (hspare : ∀ j, j < cap * 5 → (w.cell? ⟨b, j, none⟩).isSome = true ∧ w.frozen? ⟨b, j, none⟩ = false)
 (h : wpList P ops Q rest (a.put o.dst (.slice (some ⟨b, 0, none⟩) r cap)) (w.setCells b (n * 5) news)) : wpList P ops Q (o :: rest) a w := by
 subst hr
 refine wpList_plain hgd fun K hK => ?_
 have hrun : (Builtin.append_ #[t, t] o.type #[.slice (some ⟨b, 0, none⟩) n cap, .slice sa m c]).run P w = .ok (.slice (some ⟨b, 0, none⟩) (n + m) cap) (w.setCells b (n * 5) news) := by
  rcases Nat.eq_zero_or_pos m with h0 | h0
  · subst h0
    have : news = [] := List.length_eq_zero_iff.1 (by rw [hn, Nat.zero_mul])
    subst this
    exact append_noneE ht hi o.type (some ⟨b, 0, none⟩) n cap hnc sa c w
  · obtain ⟨ad, rfl, hc⟩ := hsrc h0
    have hrun := run_append_room_cells (P := P) w t o.type e i ht hi b 0 n cap ad m c news (by rw [hi5]; exact hn) hc h1 hroom (fun j hj => by rw [Nat.zero_add]; exact (hspare _ (by rw [hi5]; omega)).1) (fun j hj => by rw [Nat.zero_add]; exact (hspare _ (by rw [hi5]; omega)).2)
    rw [Nat.zero_add, hi5] at hrun
    exact hrun
 unfold Oper.wp
 simp [execOp, ho, resolve, invoke, builtin, hs, hx, hrun, Result.andThen]
 exact hK _ _ h
theorem slice_l_any {P : Program} {t e : TypeId} (U : P.underlying t = some (.slice e)) (hel : P.elem t = e) (hso : ∀ w, (sizeOf e).run P w = .ok 5 w) (q n cap i : Nat) (x : Int) (hx : x = i) (h1 : i ≤ n) (h3 : i < cap) (W : World) :
 (Instr.slice t (.slice (some ⟨q, 0, none⟩) n cap) (some (.int .i64 x)) none none).run P W = .ok (.slice (some ⟨q, i * 5, none⟩) (n - i) (cap - i)) W := by
 subst hx
 rw [run_slice_l (w := W) t _ n cap (by rw [hel]; exact U) .i64 (i : Int) (by omega) (by omega), hel, hso]
 have : ¬ cap = i := by omega
 simp [sliced, Result.andThen, this, addr_plus]
theorem slice_h_any {P : Program} {t e : TypeId} (U : P.underlying t = some (.slice e)) (hel : P.elem t = e) (hso : ∀ w, (sizeOf e).run P w = .ok 5 w) (q n cap i : Nat) (x : Int) (hx : x = i) (h2 : i ≤ cap) (h3 : 0 < cap) (W : World) :
 (Instr.slice t (.slice (some ⟨q, 0, none⟩) n cap) none (some (.int .i64 x)) none).run P W = .ok (.slice (some ⟨q, 0, none⟩) i cap) W := by
 subst hx
 rw [run_slice_h (w := W) t _ n cap (by rw [hel]; exact U) .i64 (i : Int) (by omega) (by omega), hel, hso]
 have : ¬ cap = 0 := by omega
 simp [sliced, Result.andThen, this, addr_plus]
theorem slice_lh_any {P : Program} {t e : TypeId} (U : P.underlying t = some (.slice e)) (hel : P.elem t = e) (hso : ∀ w, (sizeOf e).run P w = .ok 5 w) (q n cap i j : Nat) (x y : Int) (hx : x = i) (hy : y = j) (h1 : i ≤ j) (h2 : j ≤ cap) (h3 : i < cap) (W : World) :
 (Instr.slice t (.slice (some ⟨q, 0, none⟩) n cap) (some (.int .i64 x)) (some (.int .i64 y)) none).run P W = .ok (.slice (some ⟨q, i * 5, none⟩) (j - i) (cap - i)) W := by
 subst hx
 subst hy
 rw [run_slice_lh (w := W) t _ n cap (by rw [hel]; exact U) .i64 .i64 (i : Int) (j : Int) (by omega) (by omega) (by omega), hel, hso]
 have : ¬ cap = i := by omega
 simp [sliced, Result.andThen, this, addr_plus]
end Go.Proofs.YtcngjbfbdonpeaaGreatDoor

/- A text of this claim. -/
namespace Go.Proofs.YtcngjbfbdonpeaaGreatDoor
open Go.RowKit Go.BigFrame
open Tr (Ed)
theorem edZero : ∀ w, (zeroValue 30).run Tryz.prog w = .ok (.agg #[.int .i64 0, .int .i64 0, .int .i64 0, .int .i64 0, .string ⟨#[]⟩]) w := fun w => by kernel_rfl
theorem clear_end {W : World} {base q n cap tot : Nat} {L l : List Ed} (hro : EdOwn W base (.slice (some ⟨q, 0, none⟩) n cap) L) (ht : tot < n) (hL : L.take tot = l) :
 ∃ W2, (Builtin.clear_ #[22] 0 #[.slice (some ⟨q, tot * 5, none⟩) (n - tot) (cap - tot)]).run Tryz.prog W = .ok (.tuple #[]) W2 ∧ EdOwn W2 base (.slice (some ⟨q, 0, none⟩) tot cap) l ∧ Kept (fun b => b = q) W W2 := by
 obtain ⟨e1, e2, _, _⟩ := hro.facts
 obtain ⟨vs, hvs⟩ := run_clear_rowE (P := Tryz.prog) W 22 30 0 (.agg #[.int .i64 0, .int .i64 0, .int .i64 0, .int .i64 0, .string ⟨#[]⟩]) Tryz.underlying22 edZero (by decide) q (tot * 5) (n - tot) (cap - tot) (by omega)
  (fun i (hi : i < (n - tot) * 5) => (hro.cellE (i := tot * 5 + i) (by omega)).1) (fun i (hi : i < (n - tot) * 5) => (hro.cellE (i := tot * 5 + i) (by omega)).2)
 refine ⟨_, hvs, ?_, kept_lay q vs (tot * 5) _⟩
 have h3 := hro.less tot (by omega)
 rw [hL] at h3
 exact h3.cleared vs (tot * 5) (by rw [← hL, List.length_take]; omega)
theorem ERow.src {w : World} {a : Option Addr} {m : List Ed} (h : ERow w a m) : 0 < m.length → ∃ ad, a = some ad ∧ ∀ j v, (m.flatMap edC)[j]? = some v → w.cell? (ad.add j) = some v := fun h0 => by
 obtain ⟨b, off, e, _, _⟩ := h.here h0
 subst e
 exact ⟨_, rfl, h.flat⟩
set_option maxHeartbeats 4000000 in
set_option maxRecDepth 100000 in
theorem replaceA_any (l m : List Ed) (base q cap i n k cm : Nat) (am : Option Addr) (w : World) (hown : EdOwn w base (.slice (some ⟨q, 0, none⟩) n cap) l) (hm : ERow w am m) (hk : m.length = k) (hk1 : k ≤ 1) (hi : n = i + 2) :
 Calls Tryz.prog 55 #[.slice (some ⟨q, 0, none⟩) n cap, .int .i64 i, .int .i64 n, .slice am k cm] w fun e w' =>
  ∃ r, r = i + k ∧ e = .returned (.slice (some ⟨q, 0, none⟩) r cap) ∧ EdOwn w' base (.slice (some ⟨q, 0, none⟩) r cap) (l.take i ++ (m ++ l.drop (i + 2))) ∧ Kept (fun b => b = q) w w' := by
 obtain ⟨hln, hnc, hcm, hbq⟩ := hown.facts
 unfold maxLen at hcm
 have hel : Tryz.prog.elem 22 = 30 := by kernel_rfl
 have hso := Tryz.sizeOf30
 have U := Tryz.underlying22
 obtain ⟨tot, htot⟩ : ∃ tot, i + k = tot := ⟨_, rfl⟩
 have hne : ((i : Int) == (n : Int)) = false := by rw [beq_eq_false_iff_ne]; omega
 have s1 := slice_lh_any U hel hso q n cap i n (i : Int) (n : Int) rfl rfl (by omega) (by omega) (by omega)
 have s2 := slice_h_any U hel hso q n cap i (i : Int) rfl (by omega) (by omega)
 have s3 := slice_l_any U hel hso q n cap tot (tot : Int) rfl (by omega) (by omega)
 obtain ⟨W1, hW1⟩ : ∃ W, w.setCells q (i * 5) (m.flatMap edC) = W := ⟨_, rfl⟩
 have hro : EdOwn W1 base (.slice (some ⟨q, 0, none⟩) n cap) (l.take i ++ m ++ l.drop (i + m.length)) := by rw [← hW1]; exact hown.lay m i (by omega)
 have hk1' : Kept (fun b => b = q) w W1 := by rw [← hW1]; exact kept_lay q _ _ _
 obtain ⟨W2, hcl, hr2, hk2⟩ := clear_end (tot := tot) (l := l.take i ++ (m ++ l.drop (i + 2))) hro (by omega) (by
  rw [List.take_append_of_le_length (by simp; omega), List.take_of_length_le (by simp; omega), List.drop_eq_nil_of_le (by omega), List.append_nil])
 have tlt : decide ((tot : Int) < (n : Int)) = true := by rw [decide_eq_true_eq]; omega
 have tlt' : decide (tot < n) = true := by rw [decide_eq_true_eq]; omega
 obtain ⟨i0, hi0, hz0, hz1, hz2⟩ := info_parts (show (Tryz.prog.info? 30).map (fun i => (i.zero, i.size, i.bytes)) = some (some (.agg #[.int .i64 0, .int .i64 0, .int .i64 0, .int .i64 0, .string ⟨#[]⟩]), 5, 48) by kernel_rfl)
 have HI := Lib.hid (And.intro hi0 hz1)
 have HM := Lib.hid (show 0 < k → _ from hk ▸ hm.src)
 have HL := Lib.hid (show (m.flatMap edC).length = k * 5 by rw [flatEd_len, hk])
 have H1 := Lib.hid (flatEd_one m)
 have HS := Lib.hid (fun (i : Nat) (hi : i < cap * 5) => hown.cellE hi)
 have HW1 := Lib.hid hW1
 have HR := Lib.hid (And.intro hr2 (hk1'.trans hk2))
 have HT := Lib.hid htot
 have HB := Lib.hid (And.intro (show tot ≤ cap by omega) (show i ≤ cap by omega))
 clear hown hm hk hk1 hi hln hW1 hro hk1' hr2 hk2 hi0 hz0 hz1 hz2 htot hbq
 generalize m.flatMap edC = news at *
 go_enter Tryz.func55, Tryz.ntmps55
 go_wp2_with (at_builtin; refine wpList_append_roomE rfl (.tmp 32) (.tmp 33) 22 rfl 30 i0 U HI.out.1 HI.out.2 q i cap rfl am k cm rfl HB.out.2 news HL.out HM.out H1.out tot HT.out HB.out.1 HS.out ?_)
 rw [HW1.out]
 go_wp2_with fail
 rw [hcl]
 go_wp2_with fail
 go_ret
 exact ⟨tot, HT.out.symm, rfl, HR.out.1, HR.out.2⟩
end Go.Proofs.YtcngjbfbdonpeaaGreatDoor

/- A text of this claim. -/
namespace Go.Proofs.YtcngjbfbdonpeaaGreatDoor
open Go.RowKit Go.BigFrame
open Tr (Ed)
theorem rep_stage {w : World} {base q cap i j n k r tot : Nat} {l m : List Ed} (hown : EdOwn w base (.slice (some ⟨q, 0, none⟩) n cap) l) (hk : m.length = k) (hk1 : k ≤ 1) (hj : j = i + 2) (hn : n = j + r) (htot : tot = i + k + r) :
 ∃ W2 W3 W4, w.setCells q (i * 5) (m.flatMap edC) = W2 ∧ W2.drew.setCells q ((i + k) * 5) ((l.drop j).flatMap edC) = W3 ∧
  (Builtin.clear_ #[22] 0 #[.slice (some ⟨q, tot * 5, none⟩) (n - tot) (cap - tot)]).run Tryz.prog W3 = .ok (.tuple #[]) W4 ∧
  EdOwn W4 base (.slice (some ⟨q, 0, none⟩) tot cap) (l.take i ++ (m ++ l.drop j)) ∧ Kept (fun b => b = q) w W4 ∧
  (∀ t v, ((l.drop j).flatMap edC)[t]? = some v → W2.drew.cell? ((⟨q, j * 5, none⟩ : Addr).add t) = some v) ∧
  (∀ t, t < cap * 5 → (w.cell? ⟨q, t, none⟩).isSome = true ∧ w.frozen? ⟨q, t, none⟩ = false) ∧
  (∀ t, t < cap * 5 → (W2.drew.cell? ⟨q, t, none⟩).isSome = true ∧ W2.drew.frozen? ⟨q, t, none⟩ = false) := by
 obtain ⟨hln, hnc, _, _⟩ := hown.facts
 obtain ⟨W2, hW2⟩ : ∃ W, w.setCells q (i * 5) (m.flatMap edC) = W := ⟨_, rfl⟩
 have h2 : EdOwn W2 base (.slice (some ⟨q, 0, none⟩) n cap) (l.take i ++ m ++ l.drop (i + m.length)) := by rw [← hW2]; exact hown.lay m i (by omega)
 have h2d : EdOwn W2.drew base (.slice (some ⟨q, 0, none⟩) n cap) (l.take i ++ m ++ l.drop (i + m.length)) := h2.below (Below.refl _ _).drew
 have hlen : (l.take i ++ m).length = i + k := by simp; omega
 have hL : (l.take i ++ m ++ l.drop (i + m.length)).length = n := by simp; omega
 have hdr : (l.take i ++ m ++ l.drop (i + m.length)).drop j = l.drop j := by
  rw [List.drop_append, List.drop_eq_nil_of_le (by omega), List.nil_append, List.drop_drop, hlen, hk]
  congr 1
  omega
 obtain ⟨W3, hW3⟩ : ∃ W, W2.drew.setCells q ((i + k) * 5) ((l.drop j).flatMap edC) = W := ⟨_, rfl⟩
 have hld : (l.drop j).length = r := by rw [List.length_drop]; omega
 have h3 := h2d.lay (l.drop j) (i + k) (by rw [hL, hld]; omega)
 rw [hW3] at h3
 obtain ⟨W4, hcl, h4, hk4⟩ := clear_end (tot := tot) (l := l.take i ++ (m ++ l.drop j)) h3 (by omega) (by
  have hA : ((l.take i ++ m ++ l.drop (i + m.length)).take (i + k)).length = i + k := by rw [List.length_take, hL]; omega
  rw [List.take_append_of_le_length (by rw [List.length_append, hA, hld]; omega), List.take_of_length_le (by rw [List.length_append, hA, hld]; omega)]
  rw [List.take_append_of_le_length (by omega), List.take_of_length_le (by omega), List.append_assoc])
 refine ⟨W2, W3, W4, hW2, hW3, hcl, h4, ?_, ?_, fun t ht => hown.cellE ht, fun t ht => h2d.cellE ht⟩
 · have a : Kept (fun b => b = q) w W2 := by rw [← hW2]; exact kept_lay q _ _ _
   have b : Kept (fun b => b = q) W2 W3 := by rw [← hW3]; exact (Kept.of_below (Below.refl _ W2).drew).trans (kept_lay q _ _ _)
   exact (a.trans b).trans hk4
 · intro t v hv
   rw [addr_plus]
   refine h2d.at ?_
   rw [← hdr, ← flatEd_drop, List.getElem?_drop] at hv
   exact hv
set_option maxHeartbeats 4000000 in
set_option maxRecDepth 100000 in
theorem replaceB_any (l m : List Ed) (base q cap i j r n k cm : Nat) (am : Option Addr) (w : World) (hown : EdOwn w base (.slice (some ⟨q, 0, none⟩) n cap) l) (hm : ERow w am m) (hk : m.length = k) (hk1 : k ≤ 1) (hj : j = i + 2) (hn : n = j + r) (hr : 0 < r) (hl : l.length ≤ 200) :
 Calls Tryz.prog 55 #[.slice (some ⟨q, 0, none⟩) n cap, .int .i64 i, .int .i64 j, .slice am k cm] w fun e w' =>
  ∃ r, r = i + k + (l.length - j) ∧ e = .returned (.slice (some ⟨q, 0, none⟩) r cap) ∧ EdOwn w' base (.slice (some ⟨q, 0, none⟩) r cap) (l.take i ++ (m ++ l.drop j)) ∧ Kept (fun b => b = q) w w' := by
 obtain ⟨hln, hnc, hcm, hbq⟩ := hown.facts
 unfold maxLen at hcm
 have hel : Tryz.prog.elem 22 = 30 := by kernel_rfl
 have hso := Tryz.sizeOf30
 have U := Tryz.underlying22
 obtain ⟨tot, htot⟩ : ∃ tot, tot = i + k + r := ⟨_, rfl⟩
 have hne : ((i : Int) == (j : Int)) = false := by rw [beq_eq_false_iff_ne]; omega
 have hne2 : ((j : Int) == (n : Int)) = false := by rw [beq_eq_false_iff_ne]; omega
 have s1 := slice_lh_any U hel hso q n cap i j (i : Int) (j : Int) rfl rfl (by omega) (by omega) (by omega)
 have s2 := slice_h_any U hel hso q n cap i (i : Int) rfl (by omega) (by omega)
 have s3 := slice_l_any U hel hso q n cap j (j : Int) rfl (by omega) (by omega)
 rw [show n - j = r by omega] at s3
 have s4 := slice_h_any U hel hso q n cap tot ((i : Int) + (k : Int) + (r : Int)) (by omega) (by omega) (by omega)
 have s5 := slice_l_any U hel hso q tot cap i (i : Int) rfl (by omega) (by omega)
 have s6 := slice_l_any U hel hso q tot cap (i + k) ((i : Int) + (k : Int)) (by omega) (by omega) (by omega)
 have s7 := slice_l_any U hel hso q n cap tot ((i : Int) + (k : Int) + (r : Int)) (by omega) (by omega) (by omega)
 have t1 : decide ((cap : Int) < (i : Int) + (k : Int) + (r : Int)) = false := by rw [decide_eq_false_iff_not]; omega
 have t2 : decide ((i : Int) + (k : Int) ≤ (j : Int)) = true := by rw [decide_eq_true_eq]; omega
 have hwr : IntKind.i64.wrap ((i : Int) + (k : Int)) = (i : Int) + (k : Int) := by rw [IntKind.wrap_i64]; omega
 have hb1 : (i : Int) ≤ 200 := by omega
 have hb2 : (k : Int) ≤ 1 := by omega
 have hb3 : (r : Int) ≤ 200 := by omega
 have HST := Lib.hid (fun (W : World) (hb : Below w.heap.size w W) => rep_stage (hown.below hb) hk hk1 hj hn htot)
 have HM := Lib.hid (fun (W : World) (hb : Below w.heap.size w W) => show 0 < k → _ from hk ▸ (hm.below hb).src)
 obtain ⟨i0, hi0, hz0, hz1, hz2⟩ := info_parts (show (Tryz.prog.info? 30).map (fun i => (i.zero, i.size, i.bytes)) = some (some (.agg #[.int .i64 0, .int .i64 0, .int .i64 0, .int .i64 0, .string ⟨#[]⟩]), 5, 48) by kernel_rfl)
 have HI := Lib.hid (And.intro hi0 hz1)
 have HL := Lib.hid (show (m.flatMap edC).length = k * i0.size by rw [flatEd_len, hk, hz1])
 have HL2 := Lib.hid (show ((l.drop j).flatMap edC).length = r * i0.size by rw [flatEd_len, List.length_drop, hz1]; congr 1; omega)
 have H1 := Lib.hid (flatEd_one m)
 have H2 := Lib.hid (flatEd_one (l.drop j))
 have HT := Lib.hid (show tot = i + k + (l.length - j) by omega)
 have HN1 := Lib.hid (show k = Nat.min k (tot - i) from (Nat.min_eq_left (show k ≤ tot - i by omega)).symm)
 have HN2 := Lib.hid (show r = Nat.min r (tot - (i + k)) from (Nat.min_eq_left (show r ≤ tot - (i + k) by omega)).symm)
 have HB1 := Lib.hid (fun (t : Nat) (ht : t < (m.flatMap edC).length) => show i * 5 + t < cap * 5 by rw [flatEd_len] at ht; omega)
 have HB2 := Lib.hid (fun (t : Nat) (ht : t < ((l.drop j).flatMap edC).length) => show (i + k) * 5 + t < cap * 5 by rw [flatEd_len, List.length_drop] at ht; omega)
 clear hown hm hk hk1 hj hn hr hl hln hnc htot hi0 hz0 hz1 hz2 hbq
 go_enter Tryz.func55, Tryz.ntmps55
 go_wp2_with fail
 go_quiet (fail)
 have HBQ := Lib.hid (below_drewN (Below.refl w.heap.size w) nq)
 obtain ⟨w1, hw1⟩ : ∃ W, w.drewN nq = W := ⟨_, rfl⟩
 rw [hw1]
 rw [hw1] at HBQ
 obtain ⟨W2, W3, W4, hW2, hW3, hcl, hr4, hk4, hsrc, hsp1, hsp2⟩ := HST.out w1 HBQ.out
 have HM1 := Lib.hid (HM.out w1 HBQ.out)
 have HW2 := Lib.hid hW2
 have HW3 := Lib.hid hW3
 have HCL := Lib.hid hcl
 have HR4 := Lib.hid (And.intro hr4 ((Kept.of_below HBQ.out).trans hk4))
 have HSRC := Lib.hid hsrc
 have HSP1 := Lib.hid hsp1
 have HSP2 := Lib.hid hsp2
 clear hw1 hW2 hW3 hcl hr4 hk4 hsrc hsp1 hsp2 HST HM
 generalize m.flatMap edC = newsM at *
 generalize (l.drop j).flatMap edC = newsL at *
 go_wp2_with fail
 rw [run_copyE w1 _ _ _ 30 i0 q (i * 5) (tot - i) (cap - i) am k cm k newsM U HI.out.1 HN1.out HL.out HM1.out H1.out (fun t ht => (HSP1.out _ (HB1.out t ht)).1) (fun t ht => (HSP1.out _ (HB1.out t ht)).2)]
 rw [HW2.out]
 go_wp2_with fail
 refine held_start (C := fun _ => True) (by kernel_rfl) ?_
 obtain ⟨Wd, hWd⟩ : ∃ W, ({ W2 with drawn := W2.drawn + 1 } : World) = W := ⟨_, rfl⟩
 have HWD := Lib.hid (show W2.drew = Wd from hWd)
 rw [hWd]
 rw [HWD.out] at HSRC HSP2 HW3
 clear hWd
 refine held_quiet (by kernel_rfl) (fun _ _ d _ _ h => by cases d <;> exact h) trivial [0, 1, 2, 6, 7, 8] 4 _ _ (by kernel_rfl) ?_
 change wpQuiet _ _ _ _ (_ :: _ :: _ :: _ :: _ :: _ :: []) _
 repeat go_big_quiet_step (fail)
 refine wpQuiet_nil ?_
 refine held_do (i := 3) _ rfl (by kernel_rfl) rfl (fun K hK => ?_)
 go_simp
 refine hK _ _ trivial ?_
 clear hK K
 try simp only [Act.put, List.setIfInBounds_toArray, List.set_cons_zero, List.set_cons_succ]
 refine held_quiet (by kernel_rfl) (fun _ _ d _ _ h => by cases d <;> exact h) trivial [4, 5] 1 _ _ (by kernel_rfl) ?_
 change wpQuiet _ _ _ _ (_ :: _ :: []) _
 repeat go_big_quiet_step (fail)
 refine wpQuiet_nil ?_
 refine held_do (i := 9) _ rfl (by kernel_rfl) rfl (fun K hK => ?_)
 refine wp_copyE (.tmp 103) (.tmp 106) 22 22 rfl 30 i0 U HI.out.1 q ((i + k) * 5) (tot - (i + k)) (cap - (i + k)) (some ⟨q, j * 5, none⟩) r (cap - j) r rfl rfl newsL HN2.out HL2.out (fun _ => ⟨_, rfl, HSRC.out⟩) H2.out (fun t ht => (HSP2.out _ (HB2.out t ht)).1) (fun t ht => (HSP2.out _ (HB2.out t ht)).2) ?_
 refine hK _ _ trivial ?_
 clear hK K
 refine wpAnyH_done (by kernel_rfl) ?_ _
 all_goals
  rw [HW3.out]
  go_wp2_with fail
  rw [HCL.out]
  go_wp2_with fail
  go_ret
  exact ⟨tot, HT.out, rfl, HR4.out.1, HR4.out.2⟩
end Go.Proofs.YtcngjbfbdonpeaaGreatDoor

/- A text of this claim. -/
namespace Go.Proofs.YtcngjbfbdonpeaaGreatDoor
open Go.RowKit Go.BigFrame
open Tr (Ed)
theorem replaceE_any (l m : List Ed) (base q cap i j n k cm : Nat) (am : Option Addr) (w : World) (hown : EdOwn w base (.slice (some ⟨q, 0, none⟩) n cap) l) (hm : ERow w am m) (hk : m.length = k) (hk1 : k ≤ 1) (hj : j = i + 2) (hn : j ≤ n) (hl : l.length ≤ 200) :
 Calls Tryz.prog 55 #[.slice (some ⟨q, 0, none⟩) n cap, .int .i64 i, .int .i64 j, .slice am k cm] w fun e w' =>
  ∃ r, e = .returned (.slice (some ⟨q, 0, none⟩) r cap) ∧ EdOwn w' base (.slice (some ⟨q, 0, none⟩) r cap) (l.take i ++ (m ++ l.drop j)) ∧ Kept (fun b => b = q) w w' := by
 subst hj
 by_cases h : i + 2 = n
 · subst h
   exact (replaceA_any l m base q cap i (i + 2) k cm am w hown hm hk hk1 rfl).mono fun e w' ⟨r, _, h1, h2, h3⟩ => ⟨r, h1, h2, h3⟩
 · exact (replaceB_any l m base q cap i (i + 2) (n - (i + 2)) n k cm am w hown hm hk hk1 rfl (by omega) (by omega) hl).mono fun e w' ⟨r, _, h1, h2, h3⟩ => ⟨r, h1, h2, h3⟩
theorem flatEd_set : ∀ (l : List Ed) (i : Nat) (u : Ed), i < l.length →
 ((((((l.flatMap edC).set (i * 5) (.int .i64 u.k)).set (i * 5 + 1) (.int .i64 u.n)).set (i * 5 + 2) (.int .i64 u.f)).set (i * 5 + 3) (.int .i64 u.t)).set (i * 5 + 4) (.string u.s)) = (l.set i u).flatMap edC
 | [], _, _, h => absurd h (by simp)
 | a :: l, 0, u, _ => by simp [edC]
 | a :: l, i + 1, u, h => by
  have ih := flatEd_set l i u (by simpa using h)
  rw [List.set_cons_succ, List.flatMap_cons, List.flatMap_cons, ← ih, show (i + 1) * 5 = i * 5 + 1 + 1 + 1 + 1 + 1 by omega]
  simp [edC, List.set_cons_succ]
theorem EdOwn.set {w : World} {base q n cap : Nat} {l : List Ed} (h : EdOwn w base (.slice (some ⟨q, 0, none⟩) n cap) l) (i : Nat) (hi : i < l.length) (u : Ed) :
 ∃ W, (((((w.setCell ⟨q, i * 5, none⟩ (.int .i64 u.k)).setCell ⟨q, i * 5 + 1, none⟩ (.int .i64 u.n)).setCell ⟨q, i * 5 + 2, none⟩ (.int .i64 u.f)).setCell ⟨q, i * 5 + 3, none⟩ (.int .i64 u.t)).setCell ⟨q, i * 5 + 4, none⟩ (.string u.s)) = W ∧
  EdOwn W base (.slice (some ⟨q, 0, none⟩) n cap) (l.set i u) ∧ Kept (fun b => b = q) w W := by
 obtain ⟨e, _⟩ := h.facts
 subst e
 unfold EdOwn at h ⊢
 have h1 := (h.stored (i * 5) (.int .i64 u.k)).1
 have h2 := (h1.stored (i * 5 + 1) (.int .i64 u.n)).1
 have h3 := (h2.stored (i * 5 + 2) (.int .i64 u.f)).1
 have h4 := (h3.stored (i * 5 + 3) (.int .i64 u.t)).1
 have h5 := (h4.stored (i * 5 + 4) (.string u.s)).1
 rw [flatEd_set l i u hi] at h5
 refine ⟨_, rfl, by rw [List.length_set]; exact h5, kept_setE (kept_setE (kept_setE (kept_setE (kept_setE (Kept.refl _ _) rfl) rfl) rfl) rfl) rfl⟩
end Go.Proofs.YtcngjbfbdonpeaaGreatDoor

/- A text of this claim. -/
namespace Go.Proofs.YtcngjbfbdonpeaaGreatDoor
open Go.RowKit Go.BigFrame
open Tr (Ed isZero united bef rule1 rule2 rule3 fstIdx)
def TidR (base : Nat) (w : World) (l : List Ed) (e : Ending) (w' : World) : Prop :=
 ∃ v b l', e = .returned (.tuple #[v, .bool b]) ∧ EdOwn w' base v l' ∧ Kept (fun k => base ≤ k) w w' ∧ (Tr.step l = if b = true then Option.some l' else Option.none) ∧ (b = false → l' = l)
theorem Kept.wide {O O' : Nat → Prop} {w w' : World} (h : Kept O w w') (hO : ∀ k, O k → O' k) : Kept O' w w' := ⟨h.os, h.tape, h.output, h.size, fun k hk hn => h.block k hk (fun e => hn (hO k e))⟩
theorem step1 {l m : List Ed} (h : rule1 l = some m) : Tr.step l = some m := by unfold Tr.step; rw [h]; rfl
theorem step2 {l m : List Ed} (h1 : rule1 l = none) (h : rule2 l = some m) : Tr.step l = some m := by unfold Tr.step; rw [h1, h]; rfl
theorem step3 {l : List Ed} (h1 : rule1 l = none) (h2 : rule2 l = none) : Tr.step l = rule3 l := by unfold Tr.step; rw [h1, h2]; rfl
theorem EdOwn.cells {w : World} {base q n cap : Nat} {l : List Ed} (h : EdOwn w base (.slice (some ⟨q, 0, none⟩) n cap) l) {i : Nat} {x : Ed} (hx : l[i]? = some x) :
 w.cell? ⟨q, i * 5, none⟩ = some (.int .i64 x.k) ∧ w.cell? ⟨q, i * 5 + 1, none⟩ = some (.int .i64 x.n) ∧ w.cell? ⟨q, i * 5 + 2, none⟩ = some (.int .i64 x.f) ∧ w.cell? ⟨q, i * 5 + 3, none⟩ = some (.int .i64 x.t) ∧ w.cell? ⟨q, i * 5 + 4, none⟩ = some (.string x.s) :=
 ⟨h.at (flatEd_get l i x hx 0 _ rfl), h.at (flatEd_get l i x hx 1 _ rfl), h.at (flatEd_get l i x hx 2 _ rfl), h.at (flatEd_get l i x hx 3 _ rfl), h.at (flatEd_get l i x hx 4 _ rfl)⟩
theorem swap_list : ∀ {l : List Ed} (k : Nat) {x y : Ed}, l[k]? = some x → l[k + 1]? = some y → (l.set k y).set (k + 1) x = l.take k ++ (y :: x :: l.drop (k + 2))
 | [], _, _, _, h, _ => by simp at h
 | [_], 0, _, _, _, h => by simp at h
 | a :: b :: l, 0, x, y, h1, h2 => by
  simp only [List.getElem?_cons_zero, Option.some.injEq] at h1
  simp only [Nat.zero_add, List.getElem?_cons_succ, List.getElem?_cons_zero, Option.some.injEq] at h2
  subst h1 h2
  rfl
 | a :: l, k + 1, x, y, h1, h2 => by
  have ih := swap_list (l := l) k (by simpa using h1) (by simpa using h2)
  rw [List.set_cons_succ, List.set_cons_succ, ih]
  rfl
set_option maxHeartbeats 4000000 in
set_option maxRecDepth 100000 in
theorem tidied_any (l : List Ed) (base q cap n : Nat) (w : World) (hown : EdOwn w base (.slice (some ⟨q, 0, none⟩) n cap) l) (hl : l.length ≤ 200) (hn0 : 0 < n) (hc : ∀ x, x ∈ l → chkE x = 0) :
 Calls Tryz.prog 38 #[.slice (some ⟨q, 0, none⟩) n cap] w fun e w' => TidR base w l e w' := by
 obtain ⟨hln, hnc, hcm, hbq⟩ := hown.facts
 unfold maxLen at hcm
 obtain ⟨a0, c0, e0, hlc, hrow, _⟩ := hown.row
 injection e0 with e1 e2 e3
 subst e1 e3
 have DI := indexE_any (some ⟨q, 0, none⟩) l cap w hrow (by omega)
 rw [← hln] at DI
 have HO := Lib.hid hown
 have HC := Lib.hid hc
 have hq : ∀ b, b = q → base ≤ b := fun b e => by omega
 have HQ := Lib.hid hq
 rcases Tr.rule1_idx l 0 with ⟨i1, r1⟩ | ⟨j, hj, i1, r1⟩
 case inr =>
  rw [i1, Nat.zero_add] at DI
  have HDI := Lib.hid DI
  have hst := Lib.hid (step1 r1)
  obtain ⟨n1, hn1⟩ : ∃ n1, n = n1 + 1 := ⟨n - 1, by omega⟩
  have DD := fun (W : World) (hb : Below w.heap.size w W) => deleteE_any l base q cap j (j + 1) n n1 W (hown.below hb) hl (by omega) rfl hn1
  simp only [Int.natCast_add, Int.natCast_one] at DD
  have HDD := Lib.hid DD
  have t0 : decide ((0 : Int) ≤ (j : Int)) = true := by rw [decide_eq_true_eq]; omega
  have hj2 : (j : Int) ≤ 200 := by omega
  clear hown hc DI DD i1 r1 hn1 hj hl hln hrow hlc e2 hq
  go_enter Tryz.func38, Tryz.ntmps38
  go_wp2_with fail
  refine HDI.out.mono ?_
  rintro e w1 ⟨rfl, hb1⟩
  have HB1 := Lib.hid hb1
  clear hb1
  go_wp2_with fail
  refine (HDD.out w1 HB1.out).mono ?_
  rintro e w2 ⟨rfl, ho2, hk2⟩
  have HO2 := Lib.hid (And.intro ho2 hk2)
  clear ho2 hk2
  go_wp2_with fail
  go_ret2
  exact ⟨_, true, _, rfl, HO2.out.1, (Kept.of_below HB1.out).trans (HO2.out.2.wide HQ.out), hst.out, fun h => by cases h⟩
 case inl =>
  rw [i1] at DI
  have HDI := Lib.hid DI
  have HR1 := Lib.hid r1
  have HLN := Lib.hid (And.intro hln hl)
  clear DI i1 r1 hown hc hq hln hrow hlc e2 hl
  go_enter Tryz.func38, Tryz.ntmps38
  go_wp2_with fail
  refine HDI.out.mono ?_
  rintro e w1 ⟨rfl, hb1⟩
  obtain ⟨X0, rfl⟩ : ∃ X : Ext w, w1 = X.1 := ⟨⟨w1, hb1⟩, rfl⟩
  clear hb1
  go_wp2_with fail
  go_loopw [5] (fun iv wr => ∃ (k : Nat), iv = .int .i64 ((k : Int) + 1) ∧ k + 1 ≤ n ∧ Hid (rule2 l = (rule2 (l.drop k)).map (l.take k ++ ·)) ∧ ∃ X : Ext w, wr = X.1) (fun iv _ => n - (intOf iv).toNat)
  case atStart => exact ⟨0, rfl, by omega, Lib.hid (Tr.rule2_start l), X0, rfl⟩
  case round =>
   obtain ⟨k, rfl, hk, HE, X, rfl⟩ := hrel
   by_cases hlt : k + 1 < n
   · have t1 : decide ((k : Int) + 1 < (n : Int)) = true := by rw [decide_eq_true_eq]; omega
     obtain ⟨x, hx⟩ : ∃ x, l[k]? = some x := ⟨_, List.getElem?_eq_getElem (by have := HLN.out.1; omega)⟩
     obtain ⟨y, hy⟩ : ∃ y, l[k + 1]? = some y := ⟨_, List.getElem?_eq_getElem (by have := HLN.out.1; omega)⟩
     obtain ⟨hg1, hg2⟩ := Tr.rule2_go hx hy HE.out
     obtain ⟨x0, x1, x2, x3, x4⟩ := (HO.out.below X.2).cells hx
     obtain ⟨y0, y1, y2, y3, y4⟩ := (HO.out.below X.2).cells hy
     have X0 := Ext.ex x0
     have X1 := Ext.ex x1
     have X2 := Ext.ex x2
     have X3 := Ext.ex x3
     have X4 := Ext.ex x4
     have Y0 := Ext.ex y0
     have Y1 := Ext.ex y1
     have Y2 := Ext.ex y2
     have Y3 := Ext.ex y3
     have Y4 := Ext.ex y4
     have DU := Lib.hid (fun W => united_any x y W (HC.out x (List.mem_of_getElem? hx)) (HC.out y (List.mem_of_getElem? hy)))
     have hn200 : n ≤ 200 := by have := HLN.out; omega
     have hwr : IntKind.i64.wrap ((k : Int) + 1 - 1) = (k : Int) := by rw [IntKind.wrap_i64]; omega
     have hsub : (k : Int) + 1 - 1 = (k : Int) := by omega
     have HG := Lib.hid (And.intro hg1 hg2)
     clear x0 x1 x2 x3 x4 y0 y1 y2 y3 y4 hx hy hg1 hg2 HE
     unfold edV at DU
     go_wp2_with fail
     refine held_start (C := fun w' => ∃ Z : Ext X.1, w' = Z.1) (by kernel_rfl) ?_
     obtain ⟨Z0, hZ0⟩ : ∃ Z : Ext X.1, ({ X.1 with drawn := X.1.drawn + 1 } : World) = Z.1 := ⟨⟨{ X.1 with drawn := X.1.drawn + 1 }, ⟨rfl, rfl, rfl, Nat.le_refl _, fun _ _ => rfl⟩⟩, rfl⟩
     rw [hZ0]
     clear hZ0
     refine held_quiet (by kernel_rfl) (fun _ _ d _ _ h => by cases d <;> exact h) ⟨Z0, rfl⟩ [0, 1, 2, 3, 4, 5, 6, 7, 8] 6 _ _ (by kernel_rfl) ?_
     change wpQuiet _ _ _ _ (_ :: _ :: _ :: _ :: _ :: _ :: _ :: _ :: _ :: []) _
     repeat go_big_quiet_step (fail)
     refine wpQuiet_nil ?_
     refine held_do (i := 9) _ rfl (by kernel_rfl) rfl (fun K hK => ?_)
     go_simp
     refine (DU.out _).mono ?_
     rintro e w2 ⟨⟨v, rfl, hv⟩, hb2⟩
     have HB2 := Lib.hid (below_step (below_step X.2 Z0.2) hb2)
     have HV := Lib.hid hv
     obtain ⟨Z2, rfl⟩ : ∃ Z : Ext X.1, w2 = Z.1 := ⟨⟨w2, below_step Z0.2 hb2⟩, rfl⟩
     refine hK _ _ ⟨Z2, rfl⟩ ?_
     clear hK K hb2 hv
     try simp only [Act.put, List.setIfInBounds_toArray, List.set_cons_zero, List.set_cons_succ]
     refine held_quiet (by kernel_rfl) (fun _ _ d _ _ h => by cases d <;> exact h) ⟨Z2, rfl⟩ [10, 11, 12, 13, 14] 0 _ _ (by kernel_rfl) ?_
     change wpQuiet _ _ _ _ (_ :: _ :: _ :: _ :: _ :: []) _
     repeat go_big_quiet_step (fail)
     refine wpQuiet_nil ?_
     refine wpAnyH_done (by kernel_rfl) ?_ _
     cases hu : united x y with
     | none =>
      have HN := Lib.hid (HG.out.2 hu)
      clear hu
      simp only [Option.isSome]
      go_wp2_with fail
      go_roundw
      case rel => exact ⟨k + 1, by go_num, by omega, HN, ⟨Z2.1, HB2.out⟩, rfl⟩
      case measure => simp [intOf]; omega
     | some m =>
      have HS := Lib.hid (step2 HR1.out (HG.out.1 m hu))
      obtain ⟨am, cm, rfl, _, hrm, _⟩ := (HV.out m hu).row
      have hml := Tr.united_len hu
      have DR := replaceE_any l m base q cap k (k + 2) n m.length cm am Z2.1 (HO.out.below HB2.out) hrm rfl hml rfl (by omega) HLN.out.2
      simp only [Int.natCast_add, Int.cast_ofNat_Int] at DR
      have HDR := Lib.hid DR
      have hwr2 : IntKind.i64.wrap ((k : Int) + 1 + 1) = (k : Int) + 2 := by rw [IntKind.wrap_i64]; omega
      clear hu hrm DR
      simp only [Option.isSome]
      go_wp2_with fail
      refine HDR.out.mono ?_
      rintro e w3 ⟨r, rfl, ho3, hk3⟩
      have HO3 := Lib.hid (And.intro ho3 hk3)
      clear ho3 hk3
      go_wp2_with fail
      go_ret2
      exact ⟨_, true, _, rfl, HO3.out.1, (Kept.of_below HB2.out).trans (HO3.out.2.wide HQ.out), HS.out, fun h => by cases h⟩
   · have t1 : decide ((k : Int) + 1 < (n : Int)) = false := by rw [decide_eq_false_iff_not]; omega
     have HR2 := Lib.hid (Tr.rule2_end (by have := HLN.out.1; omega) HE.out)
     clear HE hlt
     go_wp2_with fail
     go_loopw [8] (fun iv wr => ∃ (k : Nat), iv = .int .i64 ((k : Int) + 1) ∧ k + 1 ≤ n ∧ Hid (rule3 l = (rule3 (l.drop k)).map (l.take k ++ ·)) ∧ ∃ X : Ext w, wr = X.1) (fun iv _ => n - (intOf iv).toNat)
     case atStart => exact ⟨0, rfl, by omega, Lib.hid (Tr.rule3_start l), X, rfl⟩
     case round =>
      obtain ⟨k, rfl, hk, HE, X, rfl⟩ := hrel
      by_cases hlt : k + 1 < n
      · have t2 : decide ((k : Int) + 1 < (n : Int)) = true := by rw [decide_eq_true_eq]; omega
        obtain ⟨x, hx⟩ : ∃ x, l[k]? = some x := ⟨_, List.getElem?_eq_getElem (by have := HLN.out.1; omega)⟩
        obtain ⟨y, hy⟩ : ∃ y, l[k + 1]? = some y := ⟨_, List.getElem?_eq_getElem (by have := HLN.out.1; omega)⟩
        obtain ⟨hg1, hg2⟩ := Tr.rule3_go hx hy HE.out
        obtain ⟨x0, x1, x2, x3, x4⟩ := (HO.out.below X.2).cells hx
        obtain ⟨y0, y1, y2, y3, y4⟩ := (HO.out.below X.2).cells hy
        have X0 := Ext.ex x0
        have X1 := Ext.ex x1
        have X2 := Ext.ex x2
        have X3 := Ext.ex x3
        have X4 := Ext.ex x4
        have Y0 := Ext.ex y0
        have Y1 := Ext.ex y1
        have Y2 := Ext.ex y2
        have Y3 := Ext.ex y3
        have Y4 := Ext.ex y4
        have DO := Lib.hid (fun (Z : Ext X.1) => Z.calls (order_any y x Z.1 (chkE_kind (HC.out y (List.mem_of_getElem? hy))) (chkE_kind (HC.out x (List.mem_of_getElem? hx)))))
        have hn200 : n ≤ 200 := by have := HLN.out; omega
        have hwr : IntKind.i64.wrap ((k : Int) + 1 - 1) = (k : Int) := by rw [IntKind.wrap_i64]; omega
        have hsub : (k : Int) + 1 - 1 = (k : Int) := by omega
        have HG := Lib.hid (And.intro hg1 hg2)
        have hov := ordV_neg y x
        have HXY := Lib.hid (And.intro hx hy)
        generalize ordV y x = ov at *
        clear x0 x1 x2 x3 x4 y0 y1 y2 y3 y4 hx hy hg1 hg2 HE
        unfold edV at DO
        cases hb : bef y x
        · rw [hb] at hov
          have HN := Lib.hid (HG.out.2 hb)
          clear hb
          go_wp2_with fail
          refine wp_region_ext (W := X.1) ⟨X.1, Below.refl _ _⟩ (by kernel_rfl) (by kernel_rfl) ?_
          repeat go_big_quiet_step (exact DO.out _)
          refine wpQuiet_nil ?_
          intro _ hw'
          obtain ⟨Z2, rfl⟩ := hw'
          have HB2 := Lib.hid (below_step X.2 Z2.2)
          go_wp2_with fail
          go_roundw
          case rel => exact ⟨k + 1, by go_num, by omega, HN, ⟨Z2.1, HB2.out⟩, rfl⟩
          case measure => simp [intOf]; omega
        · rw [hb] at hov
          have HS := Lib.hid (HG.out.1 hb)
          have fz : ∀ (Z : Ext X.1) (t : Nat), t < cap * 5 → (Z.1.frozen? ⟨q, t, none⟩ = false) := fun Z t ht => ((HO.out.below (below_step X.2 Z.2)).cellE ht).2
          have HFZ := Lib.hid fz
          clear hb fz
          go_wp2_with fail
          refine wp_region_ext (W := X.1) ⟨X.1, Below.refl _ _⟩ (by kernel_rfl) (by kernel_rfl) ?_
          repeat go_big_quiet_step (exact DO.out _)
          refine wpQuiet_nil ?_
          intro _ hw'
          obtain ⟨Z2, rfl⟩ := hw'
          have HB2 := Lib.hid (below_step X.2 Z2.2)
          have f0 := HFZ.out Z2 (k * 5) (by omega)
          have f1 := HFZ.out Z2 (k * 5 + 1) (by omega)
          have f2 := HFZ.out Z2 (k * 5 + 2) (by omega)
          have f3 := HFZ.out Z2 (k * 5 + 3) (by omega)
          have f4 := HFZ.out Z2 (k * 5 + 4) (by omega)
          have g0 := HFZ.out Z2 ((k + 1) * 5) (by omega)
          have g1 := HFZ.out Z2 ((k + 1) * 5 + 1) (by omega)
          have g2 := HFZ.out Z2 ((k + 1) * 5 + 2) (by omega)
          have g3 := HFZ.out Z2 ((k + 1) * 5 + 3) (by omega)
          have g4 := HFZ.out Z2 ((k + 1) * 5 + 4) (by omega)
          go_wp2_with fail
          go_region
          obtain ⟨V1, hV1, ho1, hk1⟩ := (HO.out.below HB2.out).set k (by have := HLN.out.1; omega) y
          obtain ⟨V2, hV2, ho2, hk2⟩ := ho1.set (k + 1) (by rw [List.length_set]; have := HLN.out.1; omega) x
          rw [hV1, hV2]
          rw [swap_list k HXY.out.1 HXY.out.2] at ho2
          have HO2 := Lib.hid (And.intro ho2 (hk1.trans hk2))
          clear hV1 ho1 hk1 hV2 ho2 hk2
          go_wp2_with fail
          go_ret2
          exact ⟨_, true, _, rfl, HO2.out.1.below (Below.refl _ _).drew, ((Kept.of_below HB2.out).trans (HO2.out.2.wide HQ.out)).trans (Kept.of_below (Below.refl _ _).drew), by rw [step3 HR1.out HR2.out, HS.out]; rfl, fun h => by cases h⟩
      · have t2 : decide ((k : Int) + 1 < (n : Int)) = false := by rw [decide_eq_false_iff_not]; omega
        have HR3 := Lib.hid (Tr.rule3_end (by have := HLN.out.1; omega) HE.out)
        have HX := Lib.hid X.2
        clear HE hlt
        go_wp2_with fail
        go_ret2
        exact ⟨_, false, l, rfl, HO.out.below HX.out, Kept.of_below HX.out, by rw [step3 HR1.out HR2.out, HR3.out]; rfl, fun _ => rfl⟩
end Go.Proofs.YtcngjbfbdonpeaaGreatDoor

/- A text of this claim. -/
namespace Go.Proofs.YtcngjbfbdonpeaaGreatDoor
open Go.RowKit Go.BigFrame
open Tr (Ed isZero united bef rule1 rule2 rule3 fstIdx)
theorem edC_inj {x y : Ed} (h : edC x = edC y) : x = y := by
 unfold edC at h
 simp only [List.cons.injEq, Value.int.injEq, Value.string.injEq, true_and, and_true] at h
 exact Tr.Ed.ext' h.1 h.2.1 h.2.2.1 h.2.2.2.1 h.2.2.2.2
theorem flatEd_inj : ∀ {l m : List Ed}, l.flatMap edC = m.flatMap edC → l = m
 | [], [], _ => rfl
 | [], y :: m, h => by simp [edC] at h
 | x :: l, [], h => by simp [edC] at h
 | x :: l, y :: m, h => by
  rw [List.flatMap_cons, List.flatMap_cons] at h
  obtain ⟨h1, h2⟩ := List.append_inj h rfl
  rw [edC_inj h1, flatEd_inj h2]
theorem EdOwn.uniq {w : World} {base base' : Nat} {v : Value} {l m : List Ed} (h : EdOwn w base v l) (k : EdOwn w base' v m) : l = m := by
 rcases h.2 with ⟨e, h0⟩ | ⟨g, cap, cur, e, _, hg, _, _, _, ht⟩
 · subst e
   rcases k.2 with ⟨_, k0⟩ | ⟨g', cap', cur', e', _⟩
   · rw [List.length_eq_zero_iff.1 h0, List.length_eq_zero_iff.1 k0]
   · cases e'
 · subst e
   rcases k.2 with ⟨e', _⟩ | ⟨g', cap', cur', e', _, kg, _, _, _, kt⟩
   · cases e'
   · injection e' with e1 e2 e3
     injection e1 with e1
     injection e1 with e1
     subst e1
     rw [hg] at kg
     injection kg with kg
     injection kg with kg
     subst kg
     rw [← e2, ht] at kt
     exact flatEd_inj kt
set_option maxHeartbeats 1000000 in
theorem tidied_nil (a : Option Addr) (c base : Nat) (w : World) (hown : EdOwn w base (.slice a 0 c) []) :
 Calls Tryz.prog 38 #[.slice a 0 c] w fun e w' => TidR base w [] e w' := by
 have DI := indexE_any a [] c w ⟨fun h => by simp at h⟩ (by simp)
 change Calls _ _ _ _ (fun e w' => e = .returned (.int .i64 (-1)) ∧ _) at DI
 have HDI := Lib.hid DI
 have HO := Lib.hid hown
 clear DI hown
 simp only [List.length_nil] at HDI
 go_enter Tryz.func38, Tryz.ntmps38
 go_wp2_with fail
 refine HDI.out.mono ?_
 rintro e w1 ⟨rfl, hb1⟩
 have HB := Lib.hid hb1
 clear hb1
 go_wp2_with fail
 go_loopw [5] (fun iv wr => iv = .int .i64 1 ∧ w1 = wr) (fun _ _ => 0)
 case atStart => exact ⟨rfl, rfl⟩
 case round =>
  obtain ⟨rfl, rfl⟩ := hrel
  go_wp2_with fail
  go_loopw [8] (fun iv wr => iv = .int .i64 1 ∧ w1 = wr) (fun _ _ => 0)
  case atStart => exact ⟨rfl, rfl⟩
  case round =>
   obtain ⟨rfl, rfl⟩ := hrel
   go_wp2_with fail
   go_ret2
   exact ⟨_, false, [], rfl, HO.out.below HB.out, Kept.of_below HB.out, rfl, fun _ => rfl⟩
end Go.Proofs.YtcngjbfbdonpeaaGreatDoor

/- A text of this claim. -/
namespace Go.Proofs.YtcngjbfbdonpeaaGreatDoor
open Go.RowKit Go.BigFrame
open Tr (Ed)
def tidyR (l : List Ed) : List Ed := if chkEL l = 0 then Tr.tidyL l else []
theorem eps_own {w : World} {b : Nat} {v : Value} {l : List Ed} (h : EdOwn w b v l) : Classical.epsilon (fun l => ∃ b, EdOwn w b v l) = l := by
 obtain ⟨b', h'⟩ := Classical.epsilon_spec (p := fun l => ∃ b, EdOwn w b v l) ⟨l, b, h⟩
 exact h'.uniq h
theorem tidied_own (l : List Ed) (base : Nat) (v : Value) (w : World) (hown : EdOwn w base v l) (hl : l.length ≤ 200) (hc : ∀ x, x ∈ l → chkE x = 0) : Calls Tryz.prog 38 #[v] w fun e w' => TidR base w l e w' := by
 rcases hown.2 with ⟨rfl, h0⟩ | ⟨q, cap, cur, rfl, _⟩
 · obtain rfl := List.length_eq_zero_iff.1 h0
   exact tidied_nil none 0 base w hown
 · cases l with
   | nil => exact tidied_nil _ cap base w hown
   | cons x l => exact tidied_any (x :: l) base q cap _ w hown hl (by simp) hc
theorem kept_from {base : Nat} {w w1 w2 : World} (h : Below w.heap.size w w1) (hb : w.heap.size ≤ base) (hk : Kept (fun k => base ≤ k) w1 w2) : Below w.heap.size w w2 :=
 Kept.below h hk h.size (fun k hk e => by omega)
theorem tidy_next {l m m' : List Ed} {w wr w3 : World} {v v3 : Value} {b3 : Bool}
 (h : EdOwn wr w.heap.size v m ∧ Below w.heap.size w wr ∧ m.length ≤ 200 ∧ (∀ x, x ∈ m → chkE x = 0) ∧ Tr.tidyL l = Tr.tidyL m ∧ (true = false → Tr.step m = none))
 (k : EdOwn w3 w.heap.size v3 m' ∧ Kept (fun k => w.heap.size ≤ k) wr w3 ∧ (Tr.step m = if b3 = true then some m' else none) ∧ (b3 = false → m' = m)) :
 EdOwn w3 w.heap.size v3 m' ∧ Below w.heap.size w w3 ∧ m'.length ≤ 200 ∧ (∀ x, x ∈ m' → chkE x = 0) ∧ Tr.tidyL l = Tr.tidyL m' ∧ (b3 = false → Tr.step m' = none) := by
 obtain ⟨_, h2, h3, h4, h5, _⟩ := h
 obtain ⟨k1, k2, k3, k4⟩ := k
 refine ⟨k1, kept_from h2 (Nat.le_refl _) k2, ?_⟩
 cases b3
 · obtain rfl := k4 rfl
   exact ⟨h3, h4, h5, fun _ => k3⟩
 · exact ⟨Nat.le_trans (Tr.step_mu h3 k3).2 h3, Tr.step_all united_ok k3 h4, by rw [h5, Tr.tidyL_step h3 k3], fun h => by cases h⟩
set_option maxHeartbeats 2000000 in
theorem tidy_any (a : Option Addr) (l : List Ed) (c : Nat) (w : World) (hr : ERow w a l) (hs : ∀ x, x ∈ l → x.s.size ≤ maxLen) :
 Calls Tryz.prog 23 #[.slice a l.length c] w fun e w' => (∃ v, e = .returned (.tuple #[v, .int .i64 (chkEL l)]) ∧ EdOwn w' w.heap.size v (tidyR l)) ∧ Below w.heap.size w w' := by
 have DC := Lib.hid (checkEdits_any a l c w hr hs)
 have DK := Lib.hid (fun (hn : l.length ≤ 1000000) (X : Ext w) => cloneE_any a l c X.1 (hr.below X.2) hn)
 have HT : Hid (tidyR l = if chkEL l = 0 then Tr.tidyL l else []) := Lib.hid rfl
 have HCK := Lib.hid (fun (h : chkEL l = 0) => show l.length ≤ 200 ∧ ∀ x, x ∈ l → chkE x = 0 from by
  unfold chkEL at h
  split at h
  · cases h
  · exact ⟨by omega, chkEs_zero.1 h⟩)
 obtain ⟨n, hnn⟩ : ∃ n, l.length = n := ⟨_, rfl⟩
 rw [hnn] at DC DK ⊢
 have HNN := Lib.hid hnn
 generalize chkEL l = r at *
 clear hr hs hnn
 by_cases h0 : r = 0
 · subst h0
   have HT2 := Lib.hid (HT.out.trans (if_pos rfl))
   have HC := Lib.hid (HCK.out rfl)
   clear HT HCK
   go_enter Tryz.func23, Tryz.ntmps23
   go_wp2_with fail
   refine DC.out.mono ?_
   rintro e w1 ⟨rfl, hb1⟩
   obtain ⟨X, rfl⟩ : ∃ X : Ext w, w1 = X.1 := ⟨⟨w1, hb1⟩, rfl⟩
   clear hb1
   go_wp2_with fail
   refine (DK.out (by have := HC.out.1; have := HNN.out; omega) X).mono ?_
   rintro e w2 ⟨⟨v, rfl, ho⟩, hb2⟩
   have HO := Lib.hid (ho.weaken X.2.size)
   have HB := Lib.hid (X.2.trans (hb2.mono X.2.size))
   clear ho hb2 DC DK
   go_wp2_with fail
   go_loopw [5, 6] (fun vv bv wr => ∃ (b : Bool) (m : List Ed), bv = .bool b ∧ Hid (EdOwn wr w.heap.size vv m ∧ Below w.heap.size w wr ∧ m.length ≤ 200 ∧ (∀ x, x ∈ m → chkE x = 0) ∧ Tr.tidyL l = Tr.tidyL m ∧ (b = false → Tr.step m = none)))
    (fun vv bv wr => 2 * Tr.mu (Classical.epsilon (fun l => ∃ b, EdOwn wr b vv l)) + (match bv with | .bool true => 1 | _ => 0))
   case atStart => exact ⟨true, l, rfl, Lib.hid ⟨HO.out, HB.out, HC.out.1, HC.out.2, rfl, fun h => by cases h⟩⟩
   case round =>
    obtain ⟨b, m, rfl, HH⟩ := hrel
    cases b
    · have HF := Lib.hid (show tidyR l = m by
       obtain ⟨_, _, _, _, h5, h6⟩ := HH.out
       rw [HT2.out, h5, Tr.tidyL_none (h6 rfl)])
      go_wp2_with fail
      go_ret2
      exact ⟨⟨_, rfl, by rw [HF.out]; exact HH.out.1⟩, HH.out.2.1⟩
    · have DT := Lib.hid (tidied_own m w.heap.size _ wr HH.out.1 HH.out.2.2.1 HH.out.2.2.2.1)
      go_wp2_with fail
      refine DT.out.mono ?_
      rintro e w3 ⟨v3, b3, m3, rfl, ho3, hk3, hst3, hsm3⟩
      have HR3 := Lib.hid (And.intro ho3 (And.intro hk3 (And.intro hst3 hsm3)))
      clear ho3 hk3 hst3 hsm3
      go_wp2_with fail
      go_roundw
      case rel => exact ⟨b3, m3, rfl, Lib.hid (tidy_next HH.out HR3.out)⟩
      case measure =>
       obtain ⟨ho3, _, hst3, hsm3⟩ := HR3.out
       rw [eps_own HH.out.1, eps_own ho3]
       cases b3
       · rw [hsm3 rfl]
         simp
       · have := (Tr.step_mu HH.out.2.2.1 hst3).1
         simp only
         omega
 · have hne : (r != 0) = true := by rw [bne_iff_ne]; exact h0
   have HT2 := Lib.hid (HT.out.trans (if_neg h0))
   clear HT HCK DK h0
   go_enter Tryz.func23, Tryz.ntmps23
   go_wp2_with fail
   refine DC.out.mono ?_
   rintro e w1 ⟨rfl, hb1⟩
   have HB := Lib.hid hb1
   clear hb1
   go_wp2_with fail
   go_ret2
   exact ⟨⟨_, rfl, by rw [HT2.out]; exact EdOwn.nil _ _⟩, HB.out⟩
end Go.Proofs.YtcngjbfbdonpeaaGreatDoor

/- A text of this claim. -/
namespace Go.Proofs.YtcngjbfbdonpeaaGreatDoor
open Go.RowKit Go.BigFrame
open Tr (Ed inR)
theorem rout_any (n lo hi : Int) (w : World) : Calls Tryz.prog 41 #[.int .i64 n, .int .i64 lo, .int .i64 hi] w fun e w' => e = .returned (.bool (!inR n lo hi)) ∧ w = w' := by
 by_cases h1 : n < lo
 · have t1 : decide (n < lo) = true := by simpa using h1
   have HV := Lib.hid (show (!inR n lo hi) = true by simp [inR]; omega)
   clear h1
   go_enter Tryz.func41, Tryz.ntmps41
   go_wp2_with fail
   go_ret
   exact ⟨ret_bool HV.out.symm, rfl⟩
 · have t1 : decide (n < lo) = false := by simpa using h1
   have HV := Lib.hid (show (!inR n lo hi) = decide (hi < n) by
    unfold inR
    rw [decide_eq_true (show lo ≤ n by omega), Bool.true_and]
    by_cases h : hi < n
    · rw [decide_eq_true h, decide_eq_false (by omega)]; rfl
    · rw [decide_eq_false h, decide_eq_true (by omega)]; rfl)
   clear h1
   go_enter Tryz.func41, Tryz.ntmps41
   go_wp2_with fail
   go_ret
   exact ⟨ret_bool HV.out.symm, rfl⟩
def usesT (k : Int) : Bool := decide (k = 1) || decide (k = 3) || decide (k = 4) || decide (k = 11)
def usesS (k : Int) : Bool := decide (k = 8) || decide (k = 11)
theorem rspan_any (k : Int) (w : World) : Calls Tryz.prog 16 #[.int .i64 k] w fun e w' => e = .returned (.bool (usesS k)) ∧ w = w' := by
 by_cases h1 : k = 8
 · subst h1
   go_enter Tryz.func16, Tryz.ntmps16
   go_wp2_with fail
   go_ret
   exact ⟨rfl, rfl⟩
 · have b1 := beqF h1
   have HV := Lib.hid (show usesS k = decide (k = 11) by unfold usesS; rw [decide_eq_false h1, Bool.false_or])
   clear h1
   go_enter Tryz.func16, Tryz.ntmps16
   go_wp2_with fail
   go_ret
   exact ⟨ret_bool HV.out.symm, rfl⟩
theorem rtext_any (k : Int) (w : World) : Calls Tryz.prog 19 #[.int .i64 k] w fun e w' => e = .returned (.bool (usesT k)) ∧ w = w' := by
 by_cases h : k = 1 ∨ k = 3 ∨ k = 4
 · rcases h with rfl | rfl | rfl
   all_goals
    go_enter Tryz.func19, Tryz.ntmps19
    go_wp2_with fail
    go_ret
    exact ⟨rfl, rfl⟩
 · have b1 : (k == 1) = false := beqF (by omega)
   have b3 : (k == 3) = false := beqF (by omega)
   have b4 : (k == 4) = false := beqF (by omega)
   have HV := Lib.hid (show usesT k = decide (k = 11) by unfold usesT; rw [decide_eq_false (by omega), decide_eq_false (by omega), decide_eq_false (by omega)]; rfl)
   clear h
   go_enter Tryz.func19, Tryz.ntmps19
   go_wp2_with fail
   go_ret
   exact ⟨ret_bool HV.out.symm, rfl⟩
end Go.Proofs.YtcngjbfbdonpeaaGreatDoor

/- A text of this claim. -/
namespace Go.Proofs.YtcngjbfbdonpeaaGreatDoor
open Go.RowKit Go.BigFrame
open Tr (Ed inR)
def usesNB (k : Int) : Bool := !usesT k && !usesS k
theorem rn_any (k : Int) (w : World) : Calls Tryz.prog 18 #[.int .i64 k] w fun e w' => e = .returned (.bool (usesNB k)) ∧ w = w' := by
 have DT := Lib.hid (rtext_any k)
 have DS := Lib.hid (rspan_any k)
 unfold usesNB
 generalize usesT k = bt at *
 generalize usesS k = bs at *
 cases bt
 · go_enter Tryz.func18, Tryz.ntmps18
   go_wp2_with fail
   refine (DT.out _).mono ?_
   rintro e w1 ⟨rfl, rfl⟩
   go_wp2_with fail
   refine (DS.out _).mono ?_
   rintro e w1 ⟨rfl, rfl⟩
   go_wp2_with fail
   go_ret
   exact ⟨ret_bool (by simp), rfl⟩
 · go_enter Tryz.func18, Tryz.ntmps18
   go_wp2_with fail
   refine (DT.out _).mono ?_
   rintro e w1 ⟨rfl, rfl⟩
   go_wp2_with fail
   go_ret
   exact ⟨ret_bool (by simp), rfl⟩
end Go.Proofs.YtcngjbfbdonpeaaGreatDoor

/- A text of this claim. -/
namespace Go.Proofs.YtcngjbfbdonpeaaGreatDoor
open Go.RowKit Go.BigFrame
def loE (k : Int) : Int := if k = 5 then -86399999999 else if k = 6 then -200000 else if k = 7 then 1 else 0
def hiE (k : Int) : Int := if k = 5 then 86399999999 else if k = 6 then 200000 else if k = 7 then 3 else if k = 9 then 50 else if k = 10 then 1000000 else 199
theorem rbounds_any (k : Int) (w : World) : Calls Tryz.prog 44 #[.int .i64 k] w fun e w' => e = .returned (.tuple #[.int .i64 (loE k), .int .i64 (hiE k)]) ∧ w = w' := by
 by_cases h : k = 5 ∨ k = 6 ∨ k = 7 ∨ k = 9 ∨ k = 10
 · rcases h with rfl | rfl | rfl | rfl | rfl
   all_goals
    go_enter Tryz.func44, Tryz.ntmps44
    go_wp2_with fail
    go_ret2
    exact ⟨rfl, rfl⟩
 · have b5 : (k == 5) = false := beqF (by omega)
   have b6 : (k == 6) = false := beqF (by omega)
   have b7 : (k == 7) = false := beqF (by omega)
   have b9 : (k == 9) = false := beqF (by omega)
   have b10 : (k == 10) = false := beqF (by omega)
   have H1 := Lib.hid (show loE k = 0 by unfold loE; rw [if_neg (by omega), if_neg (by omega), if_neg (by omega)])
   have H2 := Lib.hid (show hiE k = 199 by unfold hiE; rw [if_neg (by omega), if_neg (by omega), if_neg (by omega), if_neg (by omega), if_neg (by omega)])
   clear h
   go_enter Tryz.func44, Tryz.ntmps44
   go_wp2_with fail
   go_ret2
   exact ⟨by rw [H1.out, H2.out]; rfl, rfl⟩
end Go.Proofs.YtcngjbfbdonpeaaGreatDoor

/- A text of this claim. -/
namespace Go.Proofs.YtcngjbfbdonpeaaGreatDoor
open Go.RowKit Go.BigFrame
open Tr (Ed inR)
set_option maxHeartbeats 2000000 in
set_option maxRecDepth 100000 in
theorem rlap_any (s : ByteArray) (w : World) (hs : s.size ≤ maxLen) :
 Calls Tryz.prog 43 #[.string s] w fun e w' => e = .returned (.bool (titleB s)) ∧ w = w' := by
 unfold maxLen at hs
 by_cases h6 : s.size ≤ 60
 · have t4 : decide ((60 : Int) < (s.size : Int)) = false := by rw [decide_eq_false_iff_not]; omega
   have t4' : decide (60 < s.size) = false := by rw [decide_eq_false_iff_not]; omega
   have H6 := Lib.hid h6
   clear h6
   go_enter Tryz.func43, Tryz.ntmps43
   go_wp2_with fail
   go_loop [3] (fun iv => ∃ (k : Nat), iv = .int .i64 k ∧ k ≤ s.size ∧ Hid (allT s k = true)) (fun iv => s.size - (intOf iv).toNat)
   case atStart => exact ⟨0, rfl, by omega, Lib.hid rfl⟩
   case round =>
    obtain ⟨k, rfl, hk, HA⟩ := hrel
    by_cases hlt : k < s.size
    · have t3 : decide ((k : Int) < (s.size : Int)) = true := by rw [decide_eq_true_eq]; omega
      have t3' : decide (k < s.size) = true := by simpa using hlt
      have hub : (s[k].toNat : Int) ≤ 255 := by have := s[k].toNat_lt; omega
      have OKN := Lib.hid (fun (h1 : 32 ≤ s[k].toNat) (h2 : s[k].toNat ≤ 126) => allT_step hlt HA.out h1 h2)
      have BADN := Lib.hid (fun (h : ¬ (32 ≤ s[k].toNat ∧ s[k].toNat ≤ 126)) => titleB_bad hlt h)
      by_cases c1 : 32 ≤ s[k].toNat
      · have d1 : decide ((s[k].toNat : Int) < 32) = false := by rw [decide_eq_false_iff_not]; omega
        have d1' : decide (s[k].toNat < 32) = false := by rw [decide_eq_false_iff_not]; omega
        by_cases c2 : s[k].toNat ≤ 126
        · have d2 : decide ((126 : Int) < (s[k].toNat : Int)) = false := by rw [decide_eq_false_iff_not]; omega
          have d2' : decide (126 < s[k].toNat) = false := by rw [decide_eq_false_iff_not]; omega
          have HF := Lib.hid (OKN.out c1 c2)
          clear OKN BADN c1 c2
          go_wp2_with fail
          go_round
          case rel => exact ⟨k + 1, by go_num, by omega, HF⟩
          case measure => simp [intOf]; omega
        · have d2 : decide ((126 : Int) < (s[k].toNat : Int)) = true := by rw [decide_eq_true_eq]; omega
          have d2' : decide (126 < s[k].toNat) = true := by rw [decide_eq_true_eq]; omega
          have HF := Lib.hid (BADN.out (fun h => c2 h.2))
          clear OKN BADN c1 c2
          go_wp2_with fail
          go_ret
          exact ⟨ret_bool HF.out.symm, rfl⟩
      · have d1 : decide ((s[k].toNat : Int) < 32) = true := by rw [decide_eq_true_eq]; omega
        have d1' : decide (s[k].toNat < 32) = true := by rw [decide_eq_true_eq]; omega
        have HF := Lib.hid (BADN.out (fun h => c1 h.1))
        clear OKN BADN c1
        go_wp2_with fail
        go_ret
        exact ⟨ret_bool HF.out.symm, rfl⟩
    · have t3 : decide ((k : Int) < (s.size : Int)) = false := by rw [decide_eq_false_iff_not]; omega
      have t3' : decide (k < s.size) = false := by simpa using hlt
      have HF := Lib.hid (show titleB s = true from (titleB_of (by have := HA.out; rwa [show k = s.size by omega] at this)).trans (decide_eq_true H6.out))
      clear hlt
      go_wp2_with fail
      go_ret
      exact ⟨ret_bool HF.out.symm, rfl⟩
 · have t4 : decide ((60 : Int) < (s.size : Int)) = true := by rw [decide_eq_true_eq]; omega
   have t4' : decide (60 < s.size) = true := by rw [decide_eq_true_eq]; omega
   have HF := Lib.hid (show titleB s = false by unfold titleB; rw [decide_eq_false h6, Bool.false_and])
   clear h6
   go_enter Tryz.func43, Tryz.ntmps43
   go_wp2_with fail
   go_ret
   exact ⟨ret_bool HF.out.symm, rfl⟩
end Go.Proofs.YtcngjbfbdonpeaaGreatDoor

/- A text of this claim. -/
namespace Go.Proofs.YtcngjbfbdonpeaaGreatDoor
open Go.RowKit Go.BigFrame
open Tr (Ed inR united bef)
theorem neT {n m : Int} (h : n ≠ m) : (n != m) = true := by rw [bne_iff_ne]; exact h
end Go.Proofs.YtcngjbfbdonpeaaGreatDoor

/- A text of this claim. -/
namespace Go.Proofs.YtcngjbfbdonpeaaGreatDoor
open Go.RowKit Go.BigFrame
open Tr (Ed inR)
def RChk (x : Ed) (w : World) : Prop := Calls Tryz.prog 29 #[edV x] w fun e w' => e = .returned (.int .i64 (chkE x)) ∧ Below w.heap.size w w'
theorem str_eq0 {s : ByteArray} (h : s.size = 0) : (s.toList == []) = true := by
 rw [ByteArray.toList_eq, beq_iff_eq]
 exact List.length_eq_zero_iff.1 h
theorem str_ne0 {s : ByteArray} (h : s.size = 0) : (s.toList != []) = false := by
 unfold bne
 rw [str_eq0 h]
 rfl
theorem str_eq1 {s : ByteArray} (h : s.size ≠ 0) : (s.toList == []) = false := by
 rw [ByteArray.toList_eq, beq_eq_false_iff_ne]
 exact fun e => h (List.length_eq_zero_iff.2 e)
theorem str_ne1 {s : ByteArray} (h : s.size ≠ 0) : (s.toList != []) = true := by
 unfold bne
 rw [str_eq1 h]
 rfl
theorem neF {n m : Int} (h : n = m) : (n != m) = false := by rw [h]; simp
theorem chkE_form {x : Ed} (hk : 1 ≤ x.k ∧ x.k ≤ 12) {b : Bool} (h : formE x = b) : chkE x = if b = false then 2 else fieldE x := by
 unfold chkE
 rw [if_neg (by omega), h]
set_option maxHeartbeats 4000000 in
theorem rcheck_2 (n f t : Int) (s : ByteArray) (w : World) (_ : s.size ≤ maxLen) : RChk ⟨2, n, f, t, s⟩ w := by
 have DO : Hid (∀ W, Calls Tryz.prog 41 #[.int .i64 2, .int .i64 1, .int .i64 12] W fun e w' => e = .returned (.bool false) ∧ W = w') := Lib.hid (fun W => rout_any 2 1 12 W)
 have DT : Hid (∀ W, Calls Tryz.prog 19 #[.int .i64 2] W fun e w' => e = .returned (.bool false) ∧ W = w') := Lib.hid (fun W => rtext_any 2 W)
 have DN : Hid (∀ W, Calls Tryz.prog 18 #[.int .i64 2] W fun e w' => e = .returned (.bool true) ∧ W = w') := Lib.hid (fun W => rn_any 2 W)
 have DS : Hid (∀ W, Calls Tryz.prog 16 #[.int .i64 2] W fun e w' => e = .returned (.bool false) ∧ W = w') := Lib.hid (fun W => rspan_any 2 W)
 unfold RChk edV
 by_cases h1 : s.size = 0
 case neg =>
  have q1 := str_eq1 h1
  have q2 := str_ne1 h1
  have HV := Lib.hid (show chkE ⟨2, n, f, t, s⟩ = 2 from chkE_form (b := false) (by simp) (by simp [formE, h1]))
  clear h1
  go_enter Tryz.func29, Tryz.ntmps29
  go_wp2_with fail
  refine (DO.out _).mono ?_
  rintro e w1 ⟨rfl, rfl⟩
  go_wp2_with fail
  refine (DT.out _).mono ?_
  rintro e w1 ⟨rfl, rfl⟩
  go_wp2_with fail
  go_ret
  exact ⟨ret_int HV.out.symm, below_al w _⟩
 have q1 := str_eq0 h1
 have q2 := str_ne0 h1
 by_cases h2 : f = 0
 case neg =>
  have b2 := neT h2
  have HV := Lib.hid (show chkE ⟨2, n, f, t, s⟩ = 2 from chkE_form (b := false) (by simp) (by simp [formE, h2]))
  clear h1 h2
  go_enter Tryz.func29, Tryz.ntmps29
  go_wp2_with fail
  refine (DO.out _).mono ?_
  rintro e w1 ⟨rfl, rfl⟩
  go_wp2_with fail
  refine (DT.out _).mono ?_
  rintro e w1 ⟨rfl, rfl⟩
  go_wp2_with fail
  refine (DN.out _).mono ?_
  rintro e w1 ⟨rfl, rfl⟩
  go_wp2_with fail
  refine (DS.out _).mono ?_
  rintro e w1 ⟨rfl, rfl⟩
  go_wp2_with fail
  go_ret
  exact ⟨ret_int HV.out.symm, below_al w _⟩
 have b2 := neF h2
 by_cases h3 : t = 0
 case neg =>
  have b3 := neT h3
  have HV := Lib.hid (show chkE ⟨2, n, f, t, s⟩ = 2 from chkE_form (b := false) (by simp) (by simp [formE, h3]))
  clear h1 h2 h3
  go_enter Tryz.func29, Tryz.ntmps29
  go_wp2_with fail
  refine (DO.out _).mono ?_
  rintro e w1 ⟨rfl, rfl⟩
  go_wp2_with fail
  refine (DT.out _).mono ?_
  rintro e w1 ⟨rfl, rfl⟩
  go_wp2_with fail
  refine (DN.out _).mono ?_
  rintro e w1 ⟨rfl, rfl⟩
  go_wp2_with fail
  refine (DS.out _).mono ?_
  rintro e w1 ⟨rfl, rfl⟩
  go_wp2_with fail
  go_ret
  exact ⟨ret_int HV.out.symm, below_al w _⟩
 have b3 := neF h3
 have HV0 := Lib.hid (show chkE ⟨2, n, f, t, s⟩ = if inR n 1 5 = true then 0 else 7 from (chkE_form (b := true) (by simp) (by simp [formE, h1, h2, h3])).trans (by simp [fieldE]))
 have DB := Lib.hid (fun W => rout_any n 1 5 W)
 clear h1 h2 h3
 generalize inR n 1 5 = b at *
 cases b
 all_goals
  have HV := Lib.hid (HV0.out)
  go_enter Tryz.func29, Tryz.ntmps29
  go_wp2_with fail
  refine (DO.out _).mono ?_
  rintro e w1 ⟨rfl, rfl⟩
  go_wp2_with fail
  refine (DT.out _).mono ?_
  rintro e w1 ⟨rfl, rfl⟩
  go_wp2_with fail
  refine (DN.out _).mono ?_
  rintro e w1 ⟨rfl, rfl⟩
  go_wp2_with fail
  refine (DS.out _).mono ?_
  rintro e w1 ⟨rfl, rfl⟩
  go_wp2_with fail
  refine (DB.out _).mono ?_
  rintro e w1 ⟨rfl, rfl⟩
  go_wp2_with fail
  go_ret
  exact ⟨ret_int HV.out.symm, below_al w _⟩
set_option maxHeartbeats 4000000 in
theorem rcheck_5 (n f t : Int) (s : ByteArray) (w : World) (_ : s.size ≤ maxLen) : RChk ⟨5, n, f, t, s⟩ w := by
 have DO : Hid (∀ W, Calls Tryz.prog 41 #[.int .i64 5, .int .i64 1, .int .i64 12] W fun e w' => e = .returned (.bool false) ∧ W = w') := Lib.hid (fun W => rout_any 5 1 12 W)
 have DT : Hid (∀ W, Calls Tryz.prog 19 #[.int .i64 5] W fun e w' => e = .returned (.bool false) ∧ W = w') := Lib.hid (fun W => rtext_any 5 W)
 have DN : Hid (∀ W, Calls Tryz.prog 18 #[.int .i64 5] W fun e w' => e = .returned (.bool true) ∧ W = w') := Lib.hid (fun W => rn_any 5 W)
 have DS : Hid (∀ W, Calls Tryz.prog 16 #[.int .i64 5] W fun e w' => e = .returned (.bool false) ∧ W = w') := Lib.hid (fun W => rspan_any 5 W)
 unfold RChk edV
 by_cases h1 : s.size = 0
 case neg =>
  have q1 := str_eq1 h1
  have q2 := str_ne1 h1
  have HV := Lib.hid (show chkE ⟨5, n, f, t, s⟩ = 2 from chkE_form (b := false) (by simp) (by simp [formE, h1]))
  clear h1
  go_enter Tryz.func29, Tryz.ntmps29
  go_wp2_with fail
  refine (DO.out _).mono ?_
  rintro e w1 ⟨rfl, rfl⟩
  go_wp2_with fail
  refine (DT.out _).mono ?_
  rintro e w1 ⟨rfl, rfl⟩
  go_wp2_with fail
  go_ret
  exact ⟨ret_int HV.out.symm, below_al w _⟩
 have q1 := str_eq0 h1
 have q2 := str_ne0 h1
 by_cases h2 : f = 0
 case neg =>
  have b2 := neT h2
  have HV := Lib.hid (show chkE ⟨5, n, f, t, s⟩ = 2 from chkE_form (b := false) (by simp) (by simp [formE, h2]))
  clear h1 h2
  go_enter Tryz.func29, Tryz.ntmps29
  go_wp2_with fail
  refine (DO.out _).mono ?_
  rintro e w1 ⟨rfl, rfl⟩
  go_wp2_with fail
  refine (DT.out _).mono ?_
  rintro e w1 ⟨rfl, rfl⟩
  go_wp2_with fail
  refine (DN.out _).mono ?_
  rintro e w1 ⟨rfl, rfl⟩
  go_wp2_with fail
  refine (DS.out _).mono ?_
  rintro e w1 ⟨rfl, rfl⟩
  go_wp2_with fail
  go_ret
  exact ⟨ret_int HV.out.symm, below_al w _⟩
 have b2 := neF h2
 by_cases h3 : t = 0
 case neg =>
  have b3 := neT h3
  have HV := Lib.hid (show chkE ⟨5, n, f, t, s⟩ = 2 from chkE_form (b := false) (by simp) (by simp [formE, h3]))
  clear h1 h2 h3
  go_enter Tryz.func29, Tryz.ntmps29
  go_wp2_with fail
  refine (DO.out _).mono ?_
  rintro e w1 ⟨rfl, rfl⟩
  go_wp2_with fail
  refine (DT.out _).mono ?_
  rintro e w1 ⟨rfl, rfl⟩
  go_wp2_with fail
  refine (DN.out _).mono ?_
  rintro e w1 ⟨rfl, rfl⟩
  go_wp2_with fail
  refine (DS.out _).mono ?_
  rintro e w1 ⟨rfl, rfl⟩
  go_wp2_with fail
  go_ret
  exact ⟨ret_int HV.out.symm, below_al w _⟩
 have b3 := neF h3
 have HV0 := Lib.hid (show chkE ⟨5, n, f, t, s⟩ = if inR n (loE 5) (hiE 5) = true then 0 else 9 from (chkE_form (b := true) (by simp) (by simp [formE, h1, h2, h3])).trans (by simp [fieldE, rngE, loE, hiE]))
 have DB := Lib.hid (fun W => rout_any n (loE 5) (hiE 5) W)
 have DL := Lib.hid (fun W => rbounds_any 5 W)
 clear h1 h2 h3
 generalize inR n (loE 5) (hiE 5) = b at *
 generalize loE 5 = lo at *
 generalize hiE 5 = hi at *
 cases b
 all_goals
  have HV := Lib.hid (HV0.out)
  go_enter Tryz.func29, Tryz.ntmps29
  go_wp2_with fail
  refine (DO.out _).mono ?_
  rintro e w1 ⟨rfl, rfl⟩
  go_wp2_with fail
  refine (DT.out _).mono ?_
  rintro e w1 ⟨rfl, rfl⟩
  go_wp2_with fail
  refine (DN.out _).mono ?_
  rintro e w1 ⟨rfl, rfl⟩
  go_wp2_with fail
  refine (DS.out _).mono ?_
  rintro e w1 ⟨rfl, rfl⟩
  go_wp2_with fail
  refine (DS.out _).mono ?_
  rintro e w1 ⟨rfl, rfl⟩
  go_wp2_with fail
  refine (DL.out _).mono ?_
  rintro e w1 ⟨rfl, rfl⟩
  go_wp2_with fail
  refine (DB.out _).mono ?_
  rintro e w1 ⟨rfl, rfl⟩
  go_wp2_with fail
  go_ret
  exact ⟨ret_int HV.out.symm, below_al w _⟩
set_option maxHeartbeats 4000000 in
theorem rcheck_6 (n f t : Int) (s : ByteArray) (w : World) (_ : s.size ≤ maxLen) : RChk ⟨6, n, f, t, s⟩ w := by
 have DO : Hid (∀ W, Calls Tryz.prog 41 #[.int .i64 6, .int .i64 1, .int .i64 12] W fun e w' => e = .returned (.bool false) ∧ W = w') := Lib.hid (fun W => rout_any 6 1 12 W)
 have DT : Hid (∀ W, Calls Tryz.prog 19 #[.int .i64 6] W fun e w' => e = .returned (.bool false) ∧ W = w') := Lib.hid (fun W => rtext_any 6 W)
 have DN : Hid (∀ W, Calls Tryz.prog 18 #[.int .i64 6] W fun e w' => e = .returned (.bool true) ∧ W = w') := Lib.hid (fun W => rn_any 6 W)
 have DS : Hid (∀ W, Calls Tryz.prog 16 #[.int .i64 6] W fun e w' => e = .returned (.bool false) ∧ W = w') := Lib.hid (fun W => rspan_any 6 W)
 unfold RChk edV
 by_cases h1 : s.size = 0
 case neg =>
  have q1 := str_eq1 h1
  have q2 := str_ne1 h1
  have HV := Lib.hid (show chkE ⟨6, n, f, t, s⟩ = 2 from chkE_form (b := false) (by simp) (by simp [formE, h1]))
  clear h1
  go_enter Tryz.func29, Tryz.ntmps29
  go_wp2_with fail
  refine (DO.out _).mono ?_
  rintro e w1 ⟨rfl, rfl⟩
  go_wp2_with fail
  refine (DT.out _).mono ?_
  rintro e w1 ⟨rfl, rfl⟩
  go_wp2_with fail
  go_ret
  exact ⟨ret_int HV.out.symm, below_al w _⟩
 have q1 := str_eq0 h1
 have q2 := str_ne0 h1
 by_cases h2 : f = 0
 case neg =>
  have b2 := neT h2
  have HV := Lib.hid (show chkE ⟨6, n, f, t, s⟩ = 2 from chkE_form (b := false) (by simp) (by simp [formE, h2]))
  clear h1 h2
  go_enter Tryz.func29, Tryz.ntmps29
  go_wp2_with fail
  refine (DO.out _).mono ?_
  rintro e w1 ⟨rfl, rfl⟩
  go_wp2_with fail
  refine (DT.out _).mono ?_
  rintro e w1 ⟨rfl, rfl⟩
  go_wp2_with fail
  refine (DN.out _).mono ?_
  rintro e w1 ⟨rfl, rfl⟩
  go_wp2_with fail
  refine (DS.out _).mono ?_
  rintro e w1 ⟨rfl, rfl⟩
  go_wp2_with fail
  go_ret
  exact ⟨ret_int HV.out.symm, below_al w _⟩
 have b2 := neF h2
 by_cases h3 : t = 0
 case neg =>
  have b3 := neT h3
  have HV := Lib.hid (show chkE ⟨6, n, f, t, s⟩ = 2 from chkE_form (b := false) (by simp) (by simp [formE, h3]))
  clear h1 h2 h3
  go_enter Tryz.func29, Tryz.ntmps29
  go_wp2_with fail
  refine (DO.out _).mono ?_
  rintro e w1 ⟨rfl, rfl⟩
  go_wp2_with fail
  refine (DT.out _).mono ?_
  rintro e w1 ⟨rfl, rfl⟩
  go_wp2_with fail
  refine (DN.out _).mono ?_
  rintro e w1 ⟨rfl, rfl⟩
  go_wp2_with fail
  refine (DS.out _).mono ?_
  rintro e w1 ⟨rfl, rfl⟩
  go_wp2_with fail
  go_ret
  exact ⟨ret_int HV.out.symm, below_al w _⟩
 have b3 := neF h3
 have HV0 := Lib.hid (show chkE ⟨6, n, f, t, s⟩ = if inR n (loE 6) (hiE 6) = true then 0 else 9 from (chkE_form (b := true) (by simp) (by simp [formE, h1, h2, h3])).trans (by simp [fieldE, rngE, loE, hiE]))
 have DB := Lib.hid (fun W => rout_any n (loE 6) (hiE 6) W)
 have DL := Lib.hid (fun W => rbounds_any 6 W)
 clear h1 h2 h3
 generalize inR n (loE 6) (hiE 6) = b at *
 generalize loE 6 = lo at *
 generalize hiE 6 = hi at *
 cases b
 all_goals
  have HV := Lib.hid (HV0.out)
  go_enter Tryz.func29, Tryz.ntmps29
  go_wp2_with fail
  refine (DO.out _).mono ?_
  rintro e w1 ⟨rfl, rfl⟩
  go_wp2_with fail
  refine (DT.out _).mono ?_
  rintro e w1 ⟨rfl, rfl⟩
  go_wp2_with fail
  refine (DN.out _).mono ?_
  rintro e w1 ⟨rfl, rfl⟩
  go_wp2_with fail
  refine (DS.out _).mono ?_
  rintro e w1 ⟨rfl, rfl⟩
  go_wp2_with fail
  refine (DS.out _).mono ?_
  rintro e w1 ⟨rfl, rfl⟩
  go_wp2_with fail
  refine (DL.out _).mono ?_
  rintro e w1 ⟨rfl, rfl⟩
  go_wp2_with fail
  refine (DB.out _).mono ?_
  rintro e w1 ⟨rfl, rfl⟩
  go_wp2_with fail
  go_ret
  exact ⟨ret_int HV.out.symm, below_al w _⟩
set_option maxHeartbeats 4000000 in
theorem rcheck_7 (n f t : Int) (s : ByteArray) (w : World) (_ : s.size ≤ maxLen) : RChk ⟨7, n, f, t, s⟩ w := by
 have DO : Hid (∀ W, Calls Tryz.prog 41 #[.int .i64 7, .int .i64 1, .int .i64 12] W fun e w' => e = .returned (.bool false) ∧ W = w') := Lib.hid (fun W => rout_any 7 1 12 W)
 have DT : Hid (∀ W, Calls Tryz.prog 19 #[.int .i64 7] W fun e w' => e = .returned (.bool false) ∧ W = w') := Lib.hid (fun W => rtext_any 7 W)
 have DN : Hid (∀ W, Calls Tryz.prog 18 #[.int .i64 7] W fun e w' => e = .returned (.bool true) ∧ W = w') := Lib.hid (fun W => rn_any 7 W)
 have DS : Hid (∀ W, Calls Tryz.prog 16 #[.int .i64 7] W fun e w' => e = .returned (.bool false) ∧ W = w') := Lib.hid (fun W => rspan_any 7 W)
 unfold RChk edV
 by_cases h1 : s.size = 0
 case neg =>
  have q1 := str_eq1 h1
  have q2 := str_ne1 h1
  have HV := Lib.hid (show chkE ⟨7, n, f, t, s⟩ = 2 from chkE_form (b := false) (by simp) (by simp [formE, h1]))
  clear h1
  go_enter Tryz.func29, Tryz.ntmps29
  go_wp2_with fail
  refine (DO.out _).mono ?_
  rintro e w1 ⟨rfl, rfl⟩
  go_wp2_with fail
  refine (DT.out _).mono ?_
  rintro e w1 ⟨rfl, rfl⟩
  go_wp2_with fail
  go_ret
  exact ⟨ret_int HV.out.symm, below_al w _⟩
 have q1 := str_eq0 h1
 have q2 := str_ne0 h1
 by_cases h2 : f = 0
 case neg =>
  have b2 := neT h2
  have HV := Lib.hid (show chkE ⟨7, n, f, t, s⟩ = 2 from chkE_form (b := false) (by simp) (by simp [formE, h2]))
  clear h1 h2
  go_enter Tryz.func29, Tryz.ntmps29
  go_wp2_with fail
  refine (DO.out _).mono ?_
  rintro e w1 ⟨rfl, rfl⟩
  go_wp2_with fail
  refine (DT.out _).mono ?_
  rintro e w1 ⟨rfl, rfl⟩
  go_wp2_with fail
  refine (DN.out _).mono ?_
  rintro e w1 ⟨rfl, rfl⟩
  go_wp2_with fail
  refine (DS.out _).mono ?_
  rintro e w1 ⟨rfl, rfl⟩
  go_wp2_with fail
  go_ret
  exact ⟨ret_int HV.out.symm, below_al w _⟩
 have b2 := neF h2
 by_cases h3 : t = 0
 case neg =>
  have b3 := neT h3
  have HV := Lib.hid (show chkE ⟨7, n, f, t, s⟩ = 2 from chkE_form (b := false) (by simp) (by simp [formE, h3]))
  clear h1 h2 h3
  go_enter Tryz.func29, Tryz.ntmps29
  go_wp2_with fail
  refine (DO.out _).mono ?_
  rintro e w1 ⟨rfl, rfl⟩
  go_wp2_with fail
  refine (DT.out _).mono ?_
  rintro e w1 ⟨rfl, rfl⟩
  go_wp2_with fail
  refine (DN.out _).mono ?_
  rintro e w1 ⟨rfl, rfl⟩
  go_wp2_with fail
  refine (DS.out _).mono ?_
  rintro e w1 ⟨rfl, rfl⟩
  go_wp2_with fail
  go_ret
  exact ⟨ret_int HV.out.symm, below_al w _⟩
 have b3 := neF h3
 have HV0 := Lib.hid (show chkE ⟨7, n, f, t, s⟩ = if inR n (loE 7) (hiE 7) = true then 0 else 9 from (chkE_form (b := true) (by simp) (by simp [formE, h1, h2, h3])).trans (by simp [fieldE, rngE, loE, hiE]))
 have DB := Lib.hid (fun W => rout_any n (loE 7) (hiE 7) W)
 have DL := Lib.hid (fun W => rbounds_any 7 W)
 clear h1 h2 h3
 generalize inR n (loE 7) (hiE 7) = b at *
 generalize loE 7 = lo at *
 generalize hiE 7 = hi at *
 cases b
 all_goals
  have HV := Lib.hid (HV0.out)
  go_enter Tryz.func29, Tryz.ntmps29
  go_wp2_with fail
  refine (DO.out _).mono ?_
  rintro e w1 ⟨rfl, rfl⟩
  go_wp2_with fail
  refine (DT.out _).mono ?_
  rintro e w1 ⟨rfl, rfl⟩
  go_wp2_with fail
  refine (DN.out _).mono ?_
  rintro e w1 ⟨rfl, rfl⟩
  go_wp2_with fail
  refine (DS.out _).mono ?_
  rintro e w1 ⟨rfl, rfl⟩
  go_wp2_with fail
  refine (DS.out _).mono ?_
  rintro e w1 ⟨rfl, rfl⟩
  go_wp2_with fail
  refine (DL.out _).mono ?_
  rintro e w1 ⟨rfl, rfl⟩
  go_wp2_with fail
  refine (DB.out _).mono ?_
  rintro e w1 ⟨rfl, rfl⟩
  go_wp2_with fail
  go_ret
  exact ⟨ret_int HV.out.symm, below_al w _⟩
set_option maxHeartbeats 4000000 in
theorem rcheck_9 (n f t : Int) (s : ByteArray) (w : World) (_ : s.size ≤ maxLen) : RChk ⟨9, n, f, t, s⟩ w := by
 have DO : Hid (∀ W, Calls Tryz.prog 41 #[.int .i64 9, .int .i64 1, .int .i64 12] W fun e w' => e = .returned (.bool false) ∧ W = w') := Lib.hid (fun W => rout_any 9 1 12 W)
 have DT : Hid (∀ W, Calls Tryz.prog 19 #[.int .i64 9] W fun e w' => e = .returned (.bool false) ∧ W = w') := Lib.hid (fun W => rtext_any 9 W)
 have DN : Hid (∀ W, Calls Tryz.prog 18 #[.int .i64 9] W fun e w' => e = .returned (.bool true) ∧ W = w') := Lib.hid (fun W => rn_any 9 W)
 have DS : Hid (∀ W, Calls Tryz.prog 16 #[.int .i64 9] W fun e w' => e = .returned (.bool false) ∧ W = w') := Lib.hid (fun W => rspan_any 9 W)
 unfold RChk edV
 by_cases h1 : s.size = 0
 case neg =>
  have q1 := str_eq1 h1
  have q2 := str_ne1 h1
  have HV := Lib.hid (show chkE ⟨9, n, f, t, s⟩ = 2 from chkE_form (b := false) (by simp) (by simp [formE, h1]))
  clear h1
  go_enter Tryz.func29, Tryz.ntmps29
  go_wp2_with fail
  refine (DO.out _).mono ?_
  rintro e w1 ⟨rfl, rfl⟩
  go_wp2_with fail
  refine (DT.out _).mono ?_
  rintro e w1 ⟨rfl, rfl⟩
  go_wp2_with fail
  go_ret
  exact ⟨ret_int HV.out.symm, below_al w _⟩
 have q1 := str_eq0 h1
 have q2 := str_ne0 h1
 by_cases h2 : f = 0
 case neg =>
  have b2 := neT h2
  have HV := Lib.hid (show chkE ⟨9, n, f, t, s⟩ = 2 from chkE_form (b := false) (by simp) (by simp [formE, h2]))
  clear h1 h2
  go_enter Tryz.func29, Tryz.ntmps29
  go_wp2_with fail
  refine (DO.out _).mono ?_
  rintro e w1 ⟨rfl, rfl⟩
  go_wp2_with fail
  refine (DT.out _).mono ?_
  rintro e w1 ⟨rfl, rfl⟩
  go_wp2_with fail
  refine (DN.out _).mono ?_
  rintro e w1 ⟨rfl, rfl⟩
  go_wp2_with fail
  refine (DS.out _).mono ?_
  rintro e w1 ⟨rfl, rfl⟩
  go_wp2_with fail
  go_ret
  exact ⟨ret_int HV.out.symm, below_al w _⟩
 have b2 := neF h2
 by_cases h3 : t = 0
 case neg =>
  have b3 := neT h3
  have HV := Lib.hid (show chkE ⟨9, n, f, t, s⟩ = 2 from chkE_form (b := false) (by simp) (by simp [formE, h3]))
  clear h1 h2 h3
  go_enter Tryz.func29, Tryz.ntmps29
  go_wp2_with fail
  refine (DO.out _).mono ?_
  rintro e w1 ⟨rfl, rfl⟩
  go_wp2_with fail
  refine (DT.out _).mono ?_
  rintro e w1 ⟨rfl, rfl⟩
  go_wp2_with fail
  refine (DN.out _).mono ?_
  rintro e w1 ⟨rfl, rfl⟩
  go_wp2_with fail
  refine (DS.out _).mono ?_
  rintro e w1 ⟨rfl, rfl⟩
  go_wp2_with fail
  go_ret
  exact ⟨ret_int HV.out.symm, below_al w _⟩
 have b3 := neF h3
 have HV0 := Lib.hid (show chkE ⟨9, n, f, t, s⟩ = if inR n (loE 9) (hiE 9) = true then 0 else 9 from (chkE_form (b := true) (by simp) (by simp [formE, h1, h2, h3])).trans (by simp [fieldE, rngE, loE, hiE]))
 have DB := Lib.hid (fun W => rout_any n (loE 9) (hiE 9) W)
 have DL := Lib.hid (fun W => rbounds_any 9 W)
 clear h1 h2 h3
 generalize inR n (loE 9) (hiE 9) = b at *
 generalize loE 9 = lo at *
 generalize hiE 9 = hi at *
 cases b
 all_goals
  have HV := Lib.hid (HV0.out)
  go_enter Tryz.func29, Tryz.ntmps29
  go_wp2_with fail
  refine (DO.out _).mono ?_
  rintro e w1 ⟨rfl, rfl⟩
  go_wp2_with fail
  refine (DT.out _).mono ?_
  rintro e w1 ⟨rfl, rfl⟩
  go_wp2_with fail
  refine (DN.out _).mono ?_
  rintro e w1 ⟨rfl, rfl⟩
  go_wp2_with fail
  refine (DS.out _).mono ?_
  rintro e w1 ⟨rfl, rfl⟩
  go_wp2_with fail
  refine (DS.out _).mono ?_
  rintro e w1 ⟨rfl, rfl⟩
  go_wp2_with fail
  refine (DL.out _).mono ?_
  rintro e w1 ⟨rfl, rfl⟩
  go_wp2_with fail
  refine (DB.out _).mono ?_
  rintro e w1 ⟨rfl, rfl⟩
  go_wp2_with fail
  go_ret
  exact ⟨ret_int HV.out.symm, below_al w _⟩
set_option maxHeartbeats 4000000 in
theorem rcheck_10 (n f t : Int) (s : ByteArray) (w : World) (_ : s.size ≤ maxLen) : RChk ⟨10, n, f, t, s⟩ w := by
 have DO : Hid (∀ W, Calls Tryz.prog 41 #[.int .i64 10, .int .i64 1, .int .i64 12] W fun e w' => e = .returned (.bool false) ∧ W = w') := Lib.hid (fun W => rout_any 10 1 12 W)
 have DT : Hid (∀ W, Calls Tryz.prog 19 #[.int .i64 10] W fun e w' => e = .returned (.bool false) ∧ W = w') := Lib.hid (fun W => rtext_any 10 W)
 have DN : Hid (∀ W, Calls Tryz.prog 18 #[.int .i64 10] W fun e w' => e = .returned (.bool true) ∧ W = w') := Lib.hid (fun W => rn_any 10 W)
 have DS : Hid (∀ W, Calls Tryz.prog 16 #[.int .i64 10] W fun e w' => e = .returned (.bool false) ∧ W = w') := Lib.hid (fun W => rspan_any 10 W)
 unfold RChk edV
 by_cases h1 : s.size = 0
 case neg =>
  have q1 := str_eq1 h1
  have q2 := str_ne1 h1
  have HV := Lib.hid (show chkE ⟨10, n, f, t, s⟩ = 2 from chkE_form (b := false) (by simp) (by simp [formE, h1]))
  clear h1
  go_enter Tryz.func29, Tryz.ntmps29
  go_wp2_with fail
  refine (DO.out _).mono ?_
  rintro e w1 ⟨rfl, rfl⟩
  go_wp2_with fail
  refine (DT.out _).mono ?_
  rintro e w1 ⟨rfl, rfl⟩
  go_wp2_with fail
  go_ret
  exact ⟨ret_int HV.out.symm, below_al w _⟩
 have q1 := str_eq0 h1
 have q2 := str_ne0 h1
 by_cases h2 : f = 0
 case neg =>
  have b2 := neT h2
  have HV := Lib.hid (show chkE ⟨10, n, f, t, s⟩ = 2 from chkE_form (b := false) (by simp) (by simp [formE, h2]))
  clear h1 h2
  go_enter Tryz.func29, Tryz.ntmps29
  go_wp2_with fail
  refine (DO.out _).mono ?_
  rintro e w1 ⟨rfl, rfl⟩
  go_wp2_with fail
  refine (DT.out _).mono ?_
  rintro e w1 ⟨rfl, rfl⟩
  go_wp2_with fail
  refine (DN.out _).mono ?_
  rintro e w1 ⟨rfl, rfl⟩
  go_wp2_with fail
  refine (DS.out _).mono ?_
  rintro e w1 ⟨rfl, rfl⟩
  go_wp2_with fail
  go_ret
  exact ⟨ret_int HV.out.symm, below_al w _⟩
 have b2 := neF h2
 by_cases h3 : t = 0
 case neg =>
  have b3 := neT h3
  have HV := Lib.hid (show chkE ⟨10, n, f, t, s⟩ = 2 from chkE_form (b := false) (by simp) (by simp [formE, h3]))
  clear h1 h2 h3
  go_enter Tryz.func29, Tryz.ntmps29
  go_wp2_with fail
  refine (DO.out _).mono ?_
  rintro e w1 ⟨rfl, rfl⟩
  go_wp2_with fail
  refine (DT.out _).mono ?_
  rintro e w1 ⟨rfl, rfl⟩
  go_wp2_with fail
  refine (DN.out _).mono ?_
  rintro e w1 ⟨rfl, rfl⟩
  go_wp2_with fail
  refine (DS.out _).mono ?_
  rintro e w1 ⟨rfl, rfl⟩
  go_wp2_with fail
  go_ret
  exact ⟨ret_int HV.out.symm, below_al w _⟩
 have b3 := neF h3
 have HV0 := Lib.hid (show chkE ⟨10, n, f, t, s⟩ = if inR n (loE 10) (hiE 10) = true then 0 else 9 from (chkE_form (b := true) (by simp) (by simp [formE, h1, h2, h3])).trans (by simp [fieldE, rngE, loE, hiE]))
 have DB := Lib.hid (fun W => rout_any n (loE 10) (hiE 10) W)
 have DL := Lib.hid (fun W => rbounds_any 10 W)
 clear h1 h2 h3
 generalize inR n (loE 10) (hiE 10) = b at *
 generalize loE 10 = lo at *
 generalize hiE 10 = hi at *
 cases b
 all_goals
  have HV := Lib.hid (HV0.out)
  go_enter Tryz.func29, Tryz.ntmps29
  go_wp2_with fail
  refine (DO.out _).mono ?_
  rintro e w1 ⟨rfl, rfl⟩
  go_wp2_with fail
  refine (DT.out _).mono ?_
  rintro e w1 ⟨rfl, rfl⟩
  go_wp2_with fail
  refine (DN.out _).mono ?_
  rintro e w1 ⟨rfl, rfl⟩
  go_wp2_with fail
  refine (DS.out _).mono ?_
  rintro e w1 ⟨rfl, rfl⟩
  go_wp2_with fail
  refine (DS.out _).mono ?_
  rintro e w1 ⟨rfl, rfl⟩
  go_wp2_with fail
  refine (DL.out _).mono ?_
  rintro e w1 ⟨rfl, rfl⟩
  go_wp2_with fail
  refine (DB.out _).mono ?_
  rintro e w1 ⟨rfl, rfl⟩
  go_wp2_with fail
  go_ret
  exact ⟨ret_int HV.out.symm, below_al w _⟩
set_option maxHeartbeats 4000000 in
theorem rcheck_12 (n f t : Int) (s : ByteArray) (w : World) (_ : s.size ≤ maxLen) : RChk ⟨12, n, f, t, s⟩ w := by
 have DO : Hid (∀ W, Calls Tryz.prog 41 #[.int .i64 12, .int .i64 1, .int .i64 12] W fun e w' => e = .returned (.bool false) ∧ W = w') := Lib.hid (fun W => rout_any 12 1 12 W)
 have DT : Hid (∀ W, Calls Tryz.prog 19 #[.int .i64 12] W fun e w' => e = .returned (.bool false) ∧ W = w') := Lib.hid (fun W => rtext_any 12 W)
 have DN : Hid (∀ W, Calls Tryz.prog 18 #[.int .i64 12] W fun e w' => e = .returned (.bool true) ∧ W = w') := Lib.hid (fun W => rn_any 12 W)
 have DS : Hid (∀ W, Calls Tryz.prog 16 #[.int .i64 12] W fun e w' => e = .returned (.bool false) ∧ W = w') := Lib.hid (fun W => rspan_any 12 W)
 unfold RChk edV
 by_cases h1 : s.size = 0
 case neg =>
  have q1 := str_eq1 h1
  have q2 := str_ne1 h1
  have HV := Lib.hid (show chkE ⟨12, n, f, t, s⟩ = 2 from chkE_form (b := false) (by simp) (by simp [formE, h1]))
  clear h1
  go_enter Tryz.func29, Tryz.ntmps29
  go_wp2_with fail
  refine (DO.out _).mono ?_
  rintro e w1 ⟨rfl, rfl⟩
  go_wp2_with fail
  refine (DT.out _).mono ?_
  rintro e w1 ⟨rfl, rfl⟩
  go_wp2_with fail
  go_ret
  exact ⟨ret_int HV.out.symm, below_al w _⟩
 have q1 := str_eq0 h1
 have q2 := str_ne0 h1
 by_cases h2 : f = 0
 case neg =>
  have b2 := neT h2
  have HV := Lib.hid (show chkE ⟨12, n, f, t, s⟩ = 2 from chkE_form (b := false) (by simp) (by simp [formE, h2]))
  clear h1 h2
  go_enter Tryz.func29, Tryz.ntmps29
  go_wp2_with fail
  refine (DO.out _).mono ?_
  rintro e w1 ⟨rfl, rfl⟩
  go_wp2_with fail
  refine (DT.out _).mono ?_
  rintro e w1 ⟨rfl, rfl⟩
  go_wp2_with fail
  refine (DN.out _).mono ?_
  rintro e w1 ⟨rfl, rfl⟩
  go_wp2_with fail
  refine (DS.out _).mono ?_
  rintro e w1 ⟨rfl, rfl⟩
  go_wp2_with fail
  go_ret
  exact ⟨ret_int HV.out.symm, below_al w _⟩
 have b2 := neF h2
 by_cases h3 : t = 0
 case neg =>
  have b3 := neT h3
  have HV := Lib.hid (show chkE ⟨12, n, f, t, s⟩ = 2 from chkE_form (b := false) (by simp) (by simp [formE, h3]))
  clear h1 h2 h3
  go_enter Tryz.func29, Tryz.ntmps29
  go_wp2_with fail
  refine (DO.out _).mono ?_
  rintro e w1 ⟨rfl, rfl⟩
  go_wp2_with fail
  refine (DT.out _).mono ?_
  rintro e w1 ⟨rfl, rfl⟩
  go_wp2_with fail
  refine (DN.out _).mono ?_
  rintro e w1 ⟨rfl, rfl⟩
  go_wp2_with fail
  refine (DS.out _).mono ?_
  rintro e w1 ⟨rfl, rfl⟩
  go_wp2_with fail
  go_ret
  exact ⟨ret_int HV.out.symm, below_al w _⟩
 have b3 := neF h3
 have HV0 := Lib.hid (show chkE ⟨12, n, f, t, s⟩ = if inR n (loE 12) (hiE 12) = true then 0 else 9 from (chkE_form (b := true) (by simp) (by simp [formE, h1, h2, h3])).trans (by simp [fieldE, rngE, loE, hiE]))
 have DB := Lib.hid (fun W => rout_any n (loE 12) (hiE 12) W)
 have DL := Lib.hid (fun W => rbounds_any 12 W)
 clear h1 h2 h3
 generalize inR n (loE 12) (hiE 12) = b at *
 generalize loE 12 = lo at *
 generalize hiE 12 = hi at *
 cases b
 all_goals
  have HV := Lib.hid (HV0.out)
  go_enter Tryz.func29, Tryz.ntmps29
  go_wp2_with fail
  refine (DO.out _).mono ?_
  rintro e w1 ⟨rfl, rfl⟩
  go_wp2_with fail
  refine (DT.out _).mono ?_
  rintro e w1 ⟨rfl, rfl⟩
  go_wp2_with fail
  refine (DN.out _).mono ?_
  rintro e w1 ⟨rfl, rfl⟩
  go_wp2_with fail
  refine (DS.out _).mono ?_
  rintro e w1 ⟨rfl, rfl⟩
  go_wp2_with fail
  refine (DS.out _).mono ?_
  rintro e w1 ⟨rfl, rfl⟩
  go_wp2_with fail
  refine (DL.out _).mono ?_
  rintro e w1 ⟨rfl, rfl⟩
  go_wp2_with fail
  refine (DB.out _).mono ?_
  rintro e w1 ⟨rfl, rfl⟩
  go_wp2_with fail
  go_ret
  exact ⟨ret_int HV.out.symm, below_al w _⟩
set_option maxHeartbeats 4000000 in
theorem rcheck_1 (n f t : Int) (s : ByteArray) (w : World) (hs : s.size ≤ maxLen) : RChk ⟨1, n, f, t, s⟩ w := by
 have DO : Hid (∀ W, Calls Tryz.prog 41 #[.int .i64 1, .int .i64 1, .int .i64 12] W fun e w' => e = .returned (.bool false) ∧ W = w') := Lib.hid (fun W => rout_any 1 1 12 W)
 have DT : Hid (∀ W, Calls Tryz.prog 19 #[.int .i64 1] W fun e w' => e = .returned (.bool true) ∧ W = w') := Lib.hid (fun W => rtext_any 1 W)
 have DN : Hid (∀ W, Calls Tryz.prog 18 #[.int .i64 1] W fun e w' => e = .returned (.bool false) ∧ W = w') := Lib.hid (fun W => rn_any 1 W)
 have DS : Hid (∀ W, Calls Tryz.prog 16 #[.int .i64 1] W fun e w' => e = .returned (.bool false) ∧ W = w') := Lib.hid (fun W => rspan_any 1 W)
 unfold RChk edV
 by_cases h1 : n = 0
 case neg =>
  have b1 := neT h1
  have HV := Lib.hid (show chkE ⟨1, n, f, t, s⟩ = 2 from chkE_form (b := false) (by simp) (by simp [formE, h1]))
  clear h1
  go_enter Tryz.func29, Tryz.ntmps29
  go_wp2_with fail
  refine (DO.out _).mono ?_
  rintro e w1 ⟨rfl, rfl⟩
  go_wp2_with fail
  refine (DT.out _).mono ?_
  rintro e w1 ⟨rfl, rfl⟩
  go_wp2_with fail
  refine (DN.out _).mono ?_
  rintro e w1 ⟨rfl, rfl⟩
  go_wp2_with fail
  go_ret
  exact ⟨ret_int HV.out.symm, below_al w _⟩
 have b1 := neF h1
 by_cases h2 : f = 0
 case neg =>
  have b2 := neT h2
  have HV := Lib.hid (show chkE ⟨1, n, f, t, s⟩ = 2 from chkE_form (b := false) (by simp) (by simp [formE, h2]))
  clear h1 h2
  go_enter Tryz.func29, Tryz.ntmps29
  go_wp2_with fail
  refine (DO.out _).mono ?_
  rintro e w1 ⟨rfl, rfl⟩
  go_wp2_with fail
  refine (DT.out _).mono ?_
  rintro e w1 ⟨rfl, rfl⟩
  go_wp2_with fail
  refine (DN.out _).mono ?_
  rintro e w1 ⟨rfl, rfl⟩
  go_wp2_with fail
  refine (DS.out _).mono ?_
  rintro e w1 ⟨rfl, rfl⟩
  go_wp2_with fail
  go_ret
  exact ⟨ret_int HV.out.symm, below_al w _⟩
 have b2 := neF h2
 by_cases h3 : t = 0
 case neg =>
  have b3 := neT h3
  have HV := Lib.hid (show chkE ⟨1, n, f, t, s⟩ = 2 from chkE_form (b := false) (by simp) (by simp [formE, h3]))
  clear h1 h2 h3
  go_enter Tryz.func29, Tryz.ntmps29
  go_wp2_with fail
  refine (DO.out _).mono ?_
  rintro e w1 ⟨rfl, rfl⟩
  go_wp2_with fail
  refine (DT.out _).mono ?_
  rintro e w1 ⟨rfl, rfl⟩
  go_wp2_with fail
  refine (DN.out _).mono ?_
  rintro e w1 ⟨rfl, rfl⟩
  go_wp2_with fail
  refine (DS.out _).mono ?_
  rintro e w1 ⟨rfl, rfl⟩
  go_wp2_with fail
  go_ret
  exact ⟨ret_int HV.out.symm, below_al w _⟩
 have b3 := neF h3
 have HV0 := Lib.hid (show chkE ⟨1, n, f, t, s⟩ = if nameB s = true then 0 else 8 from (chkE_form (b := true) (by simp) (by simp [formE, h1, h2, h3])).trans (by simp [fieldE]))
 have DB := Lib.hid (fun W => risName_any s W hs)
 clear h1 h2 h3 hs
 generalize nameB s = b at *
 cases b
 all_goals
  have HV := Lib.hid (HV0.out)
  go_enter Tryz.func29, Tryz.ntmps29
  go_wp2_with fail
  refine (DO.out _).mono ?_
  rintro e w1 ⟨rfl, rfl⟩
  go_wp2_with fail
  refine (DT.out _).mono ?_
  rintro e w1 ⟨rfl, rfl⟩
  go_wp2_with fail
  refine (DN.out _).mono ?_
  rintro e w1 ⟨rfl, rfl⟩
  go_wp2_with fail
  refine (DS.out _).mono ?_
  rintro e w1 ⟨rfl, rfl⟩
  go_wp2_with fail
  refine (DB.out _).mono ?_
  rintro e w1 ⟨rfl, rfl⟩
  go_wp2_with fail
  go_ret
  exact ⟨ret_int HV.out.symm, below_al w _⟩
set_option maxHeartbeats 4000000 in
theorem rcheck_3 (n f t : Int) (s : ByteArray) (w : World) (hs : s.size ≤ maxLen) : RChk ⟨3, n, f, t, s⟩ w := by
 have DO : Hid (∀ W, Calls Tryz.prog 41 #[.int .i64 3, .int .i64 1, .int .i64 12] W fun e w' => e = .returned (.bool false) ∧ W = w') := Lib.hid (fun W => rout_any 3 1 12 W)
 have DT : Hid (∀ W, Calls Tryz.prog 19 #[.int .i64 3] W fun e w' => e = .returned (.bool true) ∧ W = w') := Lib.hid (fun W => rtext_any 3 W)
 have DN : Hid (∀ W, Calls Tryz.prog 18 #[.int .i64 3] W fun e w' => e = .returned (.bool false) ∧ W = w') := Lib.hid (fun W => rn_any 3 W)
 have DS : Hid (∀ W, Calls Tryz.prog 16 #[.int .i64 3] W fun e w' => e = .returned (.bool false) ∧ W = w') := Lib.hid (fun W => rspan_any 3 W)
 unfold RChk edV
 by_cases h1 : n = 0
 case neg =>
  have b1 := neT h1
  have HV := Lib.hid (show chkE ⟨3, n, f, t, s⟩ = 2 from chkE_form (b := false) (by simp) (by simp [formE, h1]))
  clear h1
  go_enter Tryz.func29, Tryz.ntmps29
  go_wp2_with fail
  refine (DO.out _).mono ?_
  rintro e w1 ⟨rfl, rfl⟩
  go_wp2_with fail
  refine (DT.out _).mono ?_
  rintro e w1 ⟨rfl, rfl⟩
  go_wp2_with fail
  refine (DN.out _).mono ?_
  rintro e w1 ⟨rfl, rfl⟩
  go_wp2_with fail
  go_ret
  exact ⟨ret_int HV.out.symm, below_al w _⟩
 have b1 := neF h1
 by_cases h2 : f = 0
 case neg =>
  have b2 := neT h2
  have HV := Lib.hid (show chkE ⟨3, n, f, t, s⟩ = 2 from chkE_form (b := false) (by simp) (by simp [formE, h2]))
  clear h1 h2
  go_enter Tryz.func29, Tryz.ntmps29
  go_wp2_with fail
  refine (DO.out _).mono ?_
  rintro e w1 ⟨rfl, rfl⟩
  go_wp2_with fail
  refine (DT.out _).mono ?_
  rintro e w1 ⟨rfl, rfl⟩
  go_wp2_with fail
  refine (DN.out _).mono ?_
  rintro e w1 ⟨rfl, rfl⟩
  go_wp2_with fail
  refine (DS.out _).mono ?_
  rintro e w1 ⟨rfl, rfl⟩
  go_wp2_with fail
  go_ret
  exact ⟨ret_int HV.out.symm, below_al w _⟩
 have b2 := neF h2
 by_cases h3 : t = 0
 case neg =>
  have b3 := neT h3
  have HV := Lib.hid (show chkE ⟨3, n, f, t, s⟩ = 2 from chkE_form (b := false) (by simp) (by simp [formE, h3]))
  clear h1 h2 h3
  go_enter Tryz.func29, Tryz.ntmps29
  go_wp2_with fail
  refine (DO.out _).mono ?_
  rintro e w1 ⟨rfl, rfl⟩
  go_wp2_with fail
  refine (DT.out _).mono ?_
  rintro e w1 ⟨rfl, rfl⟩
  go_wp2_with fail
  refine (DN.out _).mono ?_
  rintro e w1 ⟨rfl, rfl⟩
  go_wp2_with fail
  refine (DS.out _).mono ?_
  rintro e w1 ⟨rfl, rfl⟩
  go_wp2_with fail
  go_ret
  exact ⟨ret_int HV.out.symm, below_al w _⟩
 have b3 := neF h3
 have HV0 := Lib.hid (show chkE ⟨3, n, f, t, s⟩ = if nameB s = true then 0 else 8 from (chkE_form (b := true) (by simp) (by simp [formE, h1, h2, h3])).trans (by simp [fieldE]))
 have DB := Lib.hid (fun W => risName_any s W hs)
 clear h1 h2 h3 hs
 generalize nameB s = b at *
 cases b
 all_goals
  have HV := Lib.hid (HV0.out)
  go_enter Tryz.func29, Tryz.ntmps29
  go_wp2_with fail
  refine (DO.out _).mono ?_
  rintro e w1 ⟨rfl, rfl⟩
  go_wp2_with fail
  refine (DT.out _).mono ?_
  rintro e w1 ⟨rfl, rfl⟩
  go_wp2_with fail
  refine (DN.out _).mono ?_
  rintro e w1 ⟨rfl, rfl⟩
  go_wp2_with fail
  refine (DS.out _).mono ?_
  rintro e w1 ⟨rfl, rfl⟩
  go_wp2_with fail
  refine (DB.out _).mono ?_
  rintro e w1 ⟨rfl, rfl⟩
  go_wp2_with fail
  go_ret
  exact ⟨ret_int HV.out.symm, below_al w _⟩
set_option maxHeartbeats 4000000 in
theorem rcheck_4 (n f t : Int) (s : ByteArray) (w : World) (hs : s.size ≤ maxLen) : RChk ⟨4, n, f, t, s⟩ w := by
 have DO : Hid (∀ W, Calls Tryz.prog 41 #[.int .i64 4, .int .i64 1, .int .i64 12] W fun e w' => e = .returned (.bool false) ∧ W = w') := Lib.hid (fun W => rout_any 4 1 12 W)
 have DT : Hid (∀ W, Calls Tryz.prog 19 #[.int .i64 4] W fun e w' => e = .returned (.bool true) ∧ W = w') := Lib.hid (fun W => rtext_any 4 W)
 have DN : Hid (∀ W, Calls Tryz.prog 18 #[.int .i64 4] W fun e w' => e = .returned (.bool false) ∧ W = w') := Lib.hid (fun W => rn_any 4 W)
 have DS : Hid (∀ W, Calls Tryz.prog 16 #[.int .i64 4] W fun e w' => e = .returned (.bool false) ∧ W = w') := Lib.hid (fun W => rspan_any 4 W)
 unfold RChk edV
 by_cases h1 : n = 0
 case neg =>
  have b1 := neT h1
  have HV := Lib.hid (show chkE ⟨4, n, f, t, s⟩ = 2 from chkE_form (b := false) (by simp) (by simp [formE, h1]))
  clear h1
  go_enter Tryz.func29, Tryz.ntmps29
  go_wp2_with fail
  refine (DO.out _).mono ?_
  rintro e w1 ⟨rfl, rfl⟩
  go_wp2_with fail
  refine (DT.out _).mono ?_
  rintro e w1 ⟨rfl, rfl⟩
  go_wp2_with fail
  refine (DN.out _).mono ?_
  rintro e w1 ⟨rfl, rfl⟩
  go_wp2_with fail
  go_ret
  exact ⟨ret_int HV.out.symm, below_al w _⟩
 have b1 := neF h1
 by_cases h2 : f = 0
 case neg =>
  have b2 := neT h2
  have HV := Lib.hid (show chkE ⟨4, n, f, t, s⟩ = 2 from chkE_form (b := false) (by simp) (by simp [formE, h2]))
  clear h1 h2
  go_enter Tryz.func29, Tryz.ntmps29
  go_wp2_with fail
  refine (DO.out _).mono ?_
  rintro e w1 ⟨rfl, rfl⟩
  go_wp2_with fail
  refine (DT.out _).mono ?_
  rintro e w1 ⟨rfl, rfl⟩
  go_wp2_with fail
  refine (DN.out _).mono ?_
  rintro e w1 ⟨rfl, rfl⟩
  go_wp2_with fail
  refine (DS.out _).mono ?_
  rintro e w1 ⟨rfl, rfl⟩
  go_wp2_with fail
  go_ret
  exact ⟨ret_int HV.out.symm, below_al w _⟩
 have b2 := neF h2
 by_cases h3 : t = 0
 case neg =>
  have b3 := neT h3
  have HV := Lib.hid (show chkE ⟨4, n, f, t, s⟩ = 2 from chkE_form (b := false) (by simp) (by simp [formE, h3]))
  clear h1 h2 h3
  go_enter Tryz.func29, Tryz.ntmps29
  go_wp2_with fail
  refine (DO.out _).mono ?_
  rintro e w1 ⟨rfl, rfl⟩
  go_wp2_with fail
  refine (DT.out _).mono ?_
  rintro e w1 ⟨rfl, rfl⟩
  go_wp2_with fail
  refine (DN.out _).mono ?_
  rintro e w1 ⟨rfl, rfl⟩
  go_wp2_with fail
  refine (DS.out _).mono ?_
  rintro e w1 ⟨rfl, rfl⟩
  go_wp2_with fail
  go_ret
  exact ⟨ret_int HV.out.symm, below_al w _⟩
 have b3 := neF h3
 have HV0 := Lib.hid (show chkE ⟨4, n, f, t, s⟩ = if nameB s = true then 0 else 8 from (chkE_form (b := true) (by simp) (by simp [formE, h1, h2, h3])).trans (by simp [fieldE]))
 have DB := Lib.hid (fun W => risName_any s W hs)
 clear h1 h2 h3 hs
 generalize nameB s = b at *
 cases b
 all_goals
  have HV := Lib.hid (HV0.out)
  go_enter Tryz.func29, Tryz.ntmps29
  go_wp2_with fail
  refine (DO.out _).mono ?_
  rintro e w1 ⟨rfl, rfl⟩
  go_wp2_with fail
  refine (DT.out _).mono ?_
  rintro e w1 ⟨rfl, rfl⟩
  go_wp2_with fail
  refine (DN.out _).mono ?_
  rintro e w1 ⟨rfl, rfl⟩
  go_wp2_with fail
  refine (DS.out _).mono ?_
  rintro e w1 ⟨rfl, rfl⟩
  go_wp2_with fail
  refine (DB.out _).mono ?_
  rintro e w1 ⟨rfl, rfl⟩
  go_wp2_with fail
  go_ret
  exact ⟨ret_int HV.out.symm, below_al w _⟩
set_option maxHeartbeats 4000000 in
theorem rcheck_8 (n f t : Int) (s : ByteArray) (w : World) (_ : s.size ≤ maxLen) : RChk ⟨8, n, f, t, s⟩ w := by
 have DO : Hid (∀ W, Calls Tryz.prog 41 #[.int .i64 8, .int .i64 1, .int .i64 12] W fun e w' => e = .returned (.bool false) ∧ W = w') := Lib.hid (fun W => rout_any 8 1 12 W)
 have DT : Hid (∀ W, Calls Tryz.prog 19 #[.int .i64 8] W fun e w' => e = .returned (.bool false) ∧ W = w') := Lib.hid (fun W => rtext_any 8 W)
 have DN : Hid (∀ W, Calls Tryz.prog 18 #[.int .i64 8] W fun e w' => e = .returned (.bool false) ∧ W = w') := Lib.hid (fun W => rn_any 8 W)
 have DS : Hid (∀ W, Calls Tryz.prog 16 #[.int .i64 8] W fun e w' => e = .returned (.bool true) ∧ W = w') := Lib.hid (fun W => rspan_any 8 W)
 unfold RChk edV
 by_cases h0 : s.size = 0
 case neg =>
  have q1 := str_eq1 h0
  have q2 := str_ne1 h0
  have HV := Lib.hid (show chkE ⟨8, n, f, t, s⟩ = 2 from chkE_form (b := false) (by simp) (by simp [formE, h0]))
  clear h0
  go_enter Tryz.func29, Tryz.ntmps29
  go_wp2_with fail
  refine (DO.out _).mono ?_
  rintro e w1 ⟨rfl, rfl⟩
  go_wp2_with fail
  refine (DT.out _).mono ?_
  rintro e w1 ⟨rfl, rfl⟩
  go_wp2_with fail
  go_ret
  exact ⟨ret_int HV.out.symm, below_al w _⟩
 have HZ := Lib.hid h0
 have q1 := str_eq0 h0
 have q2 := str_ne0 h0
 by_cases h1 : n = 0
 case neg =>
  have b1 := neT h1
  have HV := Lib.hid (show chkE ⟨8, n, f, t, s⟩ = 2 from chkE_form (b := false) (by simp) (by simp [formE, h1]))
  clear h0 h1
  go_enter Tryz.func29, Tryz.ntmps29
  go_wp2_with fail
  refine (DO.out _).mono ?_
  rintro e w1 ⟨rfl, rfl⟩
  go_wp2_with fail
  refine (DT.out _).mono ?_
  rintro e w1 ⟨rfl, rfl⟩
  go_wp2_with fail
  refine (DN.out _).mono ?_
  rintro e w1 ⟨rfl, rfl⟩
  go_wp2_with fail
  go_ret
  exact ⟨ret_int HV.out.symm, below_al w _⟩
 have b1 := neF h1
 have HV0 := Lib.hid (show chkE ⟨8, n, f, t, s⟩ = fieldE ⟨8, n, f, t, s⟩ from (chkE_form (b := true) (by simp) (by simp [formE, h0, h1])))
 clear h1 h0 
 by_cases g0 : f < 0
 case pos =>
  have d0 : decide (f < 0) = true := decide_eq_true g0
  have HV := Lib.hid (show chkE ⟨8, n, f, t, s⟩ = 9 by
   rw [HV0.out]
   unfold fieldE
   rw [if_neg (by simp), if_neg (by simp), if_neg (by simp), if_neg (by simp), if_neg (by simp), if_neg (by simp), if_neg (by simp), if_neg (by simp), if_pos (by simp only; omega)])
  clear g0 HV0
  go_enter Tryz.func29, Tryz.ntmps29
  go_wp2_with fail
  refine (DO.out _).mono ?_
  rintro e w1 ⟨rfl, rfl⟩
  go_wp2_with fail
  refine (DT.out _).mono ?_
  rintro e w1 ⟨rfl, rfl⟩
  go_wp2_with fail
  refine (DN.out _).mono ?_
  rintro e w1 ⟨rfl, rfl⟩
  go_wp2_with fail
  refine (DS.out _).mono ?_
  rintro e w1 ⟨rfl, rfl⟩
  go_wp2_with fail
  refine (DS.out _).mono ?_
  rintro e w1 ⟨rfl, rfl⟩
  go_wp2_with fail
  go_ret
  exact ⟨ret_int HV.out.symm, below_al w _⟩
 have d0 : decide (f < 0) = false := decide_eq_false g0
 by_cases g1 : t ≤ f
 case pos =>
  have d1 : decide (t ≤ f) = true := decide_eq_true g1
  have HV := Lib.hid (show chkE ⟨8, n, f, t, s⟩ = 9 by
   rw [HV0.out]
   unfold fieldE
   rw [if_neg (by simp), if_neg (by simp), if_neg (by simp), if_neg (by simp), if_neg (by simp), if_neg (by simp), if_neg (by simp), if_neg (by simp), if_pos (by simp only; omega)])
  clear g0 g1 HV0
  go_enter Tryz.func29, Tryz.ntmps29
  go_wp2_with fail
  refine (DO.out _).mono ?_
  rintro e w1 ⟨rfl, rfl⟩
  go_wp2_with fail
  refine (DT.out _).mono ?_
  rintro e w1 ⟨rfl, rfl⟩
  go_wp2_with fail
  refine (DN.out _).mono ?_
  rintro e w1 ⟨rfl, rfl⟩
  go_wp2_with fail
  refine (DS.out _).mono ?_
  rintro e w1 ⟨rfl, rfl⟩
  go_wp2_with fail
  refine (DS.out _).mono ?_
  rintro e w1 ⟨rfl, rfl⟩
  go_wp2_with fail
  go_ret
  exact ⟨ret_int HV.out.symm, below_al w _⟩
 have d1 : decide (t ≤ f) = false := decide_eq_false g1
 by_cases g2 : 1000000 < t
 case pos =>
  have d2 : decide ((1000000 : Int) < t) = true := decide_eq_true g2
  have HV := Lib.hid (show chkE ⟨8, n, f, t, s⟩ = 9 by
   rw [HV0.out]
   unfold fieldE
   rw [if_neg (by simp), if_neg (by simp), if_neg (by simp), if_neg (by simp), if_neg (by simp), if_neg (by simp), if_neg (by simp), if_neg (by simp), if_pos (by simp only; omega)])
  clear g0 g1 g2 HV0
  go_enter Tryz.func29, Tryz.ntmps29
  go_wp2_with fail
  refine (DO.out _).mono ?_
  rintro e w1 ⟨rfl, rfl⟩
  go_wp2_with fail
  refine (DT.out _).mono ?_
  rintro e w1 ⟨rfl, rfl⟩
  go_wp2_with fail
  refine (DN.out _).mono ?_
  rintro e w1 ⟨rfl, rfl⟩
  go_wp2_with fail
  refine (DS.out _).mono ?_
  rintro e w1 ⟨rfl, rfl⟩
  go_wp2_with fail
  refine (DS.out _).mono ?_
  rintro e w1 ⟨rfl, rfl⟩
  go_wp2_with fail
  go_ret
  exact ⟨ret_int HV.out.symm, below_al w _⟩
 have d2 : decide ((1000000 : Int) < t) = false := decide_eq_false g2
 have HV1 := Lib.hid (show chkE ⟨8, n, f, t, s⟩ = if titleB s = true then 0 else 8 by
  rw [HV0.out]
  unfold fieldE
  rw [if_neg (by simp), if_neg (by simp), if_neg (by simp), if_neg (by simp), if_neg (by simp), if_neg (by simp), if_neg (by simp), if_neg (by simp), if_neg (by simp only; omega)])
 have HV := Lib.hid (HV1.out.trans (if_pos (show titleB s = true by
  cases s with
  | mk d =>
   have : d = #[] := Array.eq_empty_of_size_eq_zero HZ.out
   rw [this]
   rfl)))
 clear g0 g1 g2 HV0 HV1
 go_enter Tryz.func29, Tryz.ntmps29
 go_wp2_with fail
 refine (DO.out _).mono ?_
 rintro e w1 ⟨rfl, rfl⟩
 go_wp2_with fail
 refine (DT.out _).mono ?_
 rintro e w1 ⟨rfl, rfl⟩
 go_wp2_with fail
 refine (DN.out _).mono ?_
 rintro e w1 ⟨rfl, rfl⟩
 go_wp2_with fail
 refine (DS.out _).mono ?_
 rintro e w1 ⟨rfl, rfl⟩
 go_wp2_with fail
 refine (DS.out _).mono ?_
 rintro e w1 ⟨rfl, rfl⟩
 go_wp2_with fail
 go_ret
 exact ⟨ret_int HV.out.symm, below_al w _⟩
set_option maxHeartbeats 4000000 in
theorem rcheck_11 (n f t : Int) (s : ByteArray) (w : World) (hs : s.size ≤ maxLen) : RChk ⟨11, n, f, t, s⟩ w := by
 have DO : Hid (∀ W, Calls Tryz.prog 41 #[.int .i64 11, .int .i64 1, .int .i64 12] W fun e w' => e = .returned (.bool false) ∧ W = w') := Lib.hid (fun W => rout_any 11 1 12 W)
 have DT : Hid (∀ W, Calls Tryz.prog 19 #[.int .i64 11] W fun e w' => e = .returned (.bool true) ∧ W = w') := Lib.hid (fun W => rtext_any 11 W)
 have DN : Hid (∀ W, Calls Tryz.prog 18 #[.int .i64 11] W fun e w' => e = .returned (.bool false) ∧ W = w') := Lib.hid (fun W => rn_any 11 W)
 have DS : Hid (∀ W, Calls Tryz.prog 16 #[.int .i64 11] W fun e w' => e = .returned (.bool true) ∧ W = w') := Lib.hid (fun W => rspan_any 11 W)
 unfold RChk edV
 by_cases h1 : n = 0
 case neg =>
  have b1 := neT h1
  have HV := Lib.hid (show chkE ⟨11, n, f, t, s⟩ = 2 from chkE_form (b := false) (by simp) (by simp [formE, h1]))
  clear h1
  go_enter Tryz.func29, Tryz.ntmps29
  go_wp2_with fail
  refine (DO.out _).mono ?_
  rintro e w1 ⟨rfl, rfl⟩
  go_wp2_with fail
  refine (DT.out _).mono ?_
  rintro e w1 ⟨rfl, rfl⟩
  go_wp2_with fail
  refine (DN.out _).mono ?_
  rintro e w1 ⟨rfl, rfl⟩
  go_wp2_with fail
  go_ret
  exact ⟨ret_int HV.out.symm, below_al w _⟩
 have b1 := neF h1
 have HV0 := Lib.hid (show chkE ⟨11, n, f, t, s⟩ = fieldE ⟨11, n, f, t, s⟩ from (chkE_form (b := true) (by simp) (by simp [formE, h1])))
 clear h1 
 by_cases g0 : f < 0
 case pos =>
  have d0 : decide (f < 0) = true := decide_eq_true g0
  have HV := Lib.hid (show chkE ⟨11, n, f, t, s⟩ = 9 by
   rw [HV0.out]
   unfold fieldE
   rw [if_neg (by simp), if_neg (by simp), if_neg (by simp), if_neg (by simp), if_neg (by simp), if_neg (by simp), if_neg (by simp), if_neg (by simp), if_pos (by simp only; omega)])
  clear g0 HV0
  go_enter Tryz.func29, Tryz.ntmps29
  go_wp2_with fail
  refine (DO.out _).mono ?_
  rintro e w1 ⟨rfl, rfl⟩
  go_wp2_with fail
  refine (DT.out _).mono ?_
  rintro e w1 ⟨rfl, rfl⟩
  go_wp2_with fail
  refine (DN.out _).mono ?_
  rintro e w1 ⟨rfl, rfl⟩
  go_wp2_with fail
  refine (DS.out _).mono ?_
  rintro e w1 ⟨rfl, rfl⟩
  go_wp2_with fail
  refine (DS.out _).mono ?_
  rintro e w1 ⟨rfl, rfl⟩
  go_wp2_with fail
  go_ret
  exact ⟨ret_int HV.out.symm, below_al w _⟩
 have d0 : decide (f < 0) = false := decide_eq_false g0
 by_cases g1 : t ≤ f
 case pos =>
  have d1 : decide (t ≤ f) = true := decide_eq_true g1
  have HV := Lib.hid (show chkE ⟨11, n, f, t, s⟩ = 9 by
   rw [HV0.out]
   unfold fieldE
   rw [if_neg (by simp), if_neg (by simp), if_neg (by simp), if_neg (by simp), if_neg (by simp), if_neg (by simp), if_neg (by simp), if_neg (by simp), if_pos (by simp only; omega)])
  clear g0 g1 HV0
  go_enter Tryz.func29, Tryz.ntmps29
  go_wp2_with fail
  refine (DO.out _).mono ?_
  rintro e w1 ⟨rfl, rfl⟩
  go_wp2_with fail
  refine (DT.out _).mono ?_
  rintro e w1 ⟨rfl, rfl⟩
  go_wp2_with fail
  refine (DN.out _).mono ?_
  rintro e w1 ⟨rfl, rfl⟩
  go_wp2_with fail
  refine (DS.out _).mono ?_
  rintro e w1 ⟨rfl, rfl⟩
  go_wp2_with fail
  refine (DS.out _).mono ?_
  rintro e w1 ⟨rfl, rfl⟩
  go_wp2_with fail
  go_ret
  exact ⟨ret_int HV.out.symm, below_al w _⟩
 have d1 : decide (t ≤ f) = false := decide_eq_false g1
 by_cases g2 : 1000000 < t
 case pos =>
  have d2 : decide ((1000000 : Int) < t) = true := decide_eq_true g2
  have HV := Lib.hid (show chkE ⟨11, n, f, t, s⟩ = 9 by
   rw [HV0.out]
   unfold fieldE
   rw [if_neg (by simp), if_neg (by simp), if_neg (by simp), if_neg (by simp), if_neg (by simp), if_neg (by simp), if_neg (by simp), if_neg (by simp), if_pos (by simp only; omega)])
  clear g0 g1 g2 HV0
  go_enter Tryz.func29, Tryz.ntmps29
  go_wp2_with fail
  refine (DO.out _).mono ?_
  rintro e w1 ⟨rfl, rfl⟩
  go_wp2_with fail
  refine (DT.out _).mono ?_
  rintro e w1 ⟨rfl, rfl⟩
  go_wp2_with fail
  refine (DN.out _).mono ?_
  rintro e w1 ⟨rfl, rfl⟩
  go_wp2_with fail
  refine (DS.out _).mono ?_
  rintro e w1 ⟨rfl, rfl⟩
  go_wp2_with fail
  refine (DS.out _).mono ?_
  rintro e w1 ⟨rfl, rfl⟩
  go_wp2_with fail
  go_ret
  exact ⟨ret_int HV.out.symm, below_al w _⟩
 have d2 : decide ((1000000 : Int) < t) = false := decide_eq_false g2
 have HV1 := Lib.hid (show chkE ⟨11, n, f, t, s⟩ = if titleB s = true then 0 else 8 by
  rw [HV0.out]
  unfold fieldE
  rw [if_neg (by simp), if_neg (by simp), if_neg (by simp), if_neg (by simp), if_neg (by simp), if_neg (by simp), if_neg (by simp), if_neg (by simp), if_neg (by simp only; omega)])
 have DB := Lib.hid (fun W => rlap_any s W hs)
 clear g0 g1 g2 HV0 hs
 generalize titleB s = b at *
 cases b
 all_goals
  have HV := Lib.hid (HV1.out)
  go_enter Tryz.func29, Tryz.ntmps29
  go_wp2_with fail
  refine (DO.out _).mono ?_
  rintro e w1 ⟨rfl, rfl⟩
  go_wp2_with fail
  refine (DT.out _).mono ?_
  rintro e w1 ⟨rfl, rfl⟩
  go_wp2_with fail
  refine (DN.out _).mono ?_
  rintro e w1 ⟨rfl, rfl⟩
  go_wp2_with fail
  refine (DS.out _).mono ?_
  rintro e w1 ⟨rfl, rfl⟩
  go_wp2_with fail
  refine (DS.out _).mono ?_
  rintro e w1 ⟨rfl, rfl⟩
  go_wp2_with fail
  refine (DB.out _).mono ?_
  rintro e w1 ⟨rfl, rfl⟩
  go_wp2_with fail
  go_ret
  exact ⟨ret_int HV.out.symm, below_al w _⟩
set_option maxHeartbeats 4000000 in
theorem rcheck_any (x : Ed) (w : World) (hs : x.s.size ≤ maxLen) : RChk x w := by
 obtain ⟨k, n, f, t, s⟩ := x
 rcases kinds k with rfl | rfl | rfl | rfl | rfl | rfl | rfl | rfl | rfl | rfl | rfl | rfl | h | h
 · exact rcheck_1 n f t s w hs
 · exact rcheck_2 n f t s w hs
 · exact rcheck_3 n f t s w hs
 · exact rcheck_4 n f t s w hs
 · exact rcheck_5 n f t s w hs
 · exact rcheck_6 n f t s w hs
 · exact rcheck_7 n f t s w hs
 · exact rcheck_8 n f t s w hs
 · exact rcheck_9 n f t s w hs
 · exact rcheck_10 n f t s w hs
 · exact rcheck_11 n f t s w hs
 · exact rcheck_12 n f t s w hs
 all_goals
  have HV := Lib.hid (show chkE ⟨k, n, f, t, s⟩ = 7 by
   unfold chkE
   rw [if_pos (by simp only; omega)])
  have DO : Hid (∀ W, Calls Tryz.prog 41 #[.int .i64 k, .int .i64 1, .int .i64 12] W fun e w' => e = .returned (.bool true) ∧ W = w') := Lib.hid (fun W => by
   have := rout_any k 1 12 W
   rwa [show (!inR k 1 12) = true by simp [inR]; omega] at this)
  unfold RChk edV
  clear h hs
  go_enter Tryz.func29, Tryz.ntmps29
  go_wp2_with fail
  refine (DO.out _).mono ?_
  rintro e w1 ⟨rfl, rfl⟩
  go_wp2_with fail
  go_ret
  exact ⟨ret_int HV.out.symm, below_al w _⟩
end Go.Proofs.YtcngjbfbdonpeaaGreatDoor
