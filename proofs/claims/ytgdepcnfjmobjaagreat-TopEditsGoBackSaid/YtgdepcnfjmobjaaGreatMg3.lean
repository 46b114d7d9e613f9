/- Several texts of this claim in one. -/
import Derived.Test.YtgdepcnfjmobjaaGreatMg2
import Derived.Test.YtgdepcnfjmobjaaGreatShelf
import Derived.Laws.OwnMore
import Derived.Laws.StructEq
import Derived.Deep.AppendLies
import Derived.Lib.AppendZeros
import Derived.Lib.SliceRun
import Derived.Lib.Bytealg
import Derived.Test.YtgdepcnfjmobjaaGreatMg1
import Derived.Laws.IdiomCopy
import Derived.Deep.RegionLaw
import Derived.Laws.CopyOwn
/- A text of this claim. -/
namespace Go.Proofs.YtgdepcnfjmobjaaGreat
open Go.RowKit Go.BigFrame
open Tr (inR)
theorem errS_ord {start : Int} {l : List Sm} {k : Nat} {s : Sm} (hx : l[k]? = some s) (ho : ordS l k s.tm = true) : errS start l k = 10 := by
 unfold errS
 rw [hx]
 simp only
 rw [if_pos ho]
theorem errS_far {start : Int} {l : List Sm} {k : Nat} {s : Sm} (hx : l[k]? = some s) (ho : ordS l k s.tm = false) (h : 1000000 < s.tm ∨ 86399999999 < start + s.tm ∨ rangeS s = false) : errS start l k = 9 := by
 unfold errS
 rw [hx]
 simp only
 rw [if_neg (by rw [ho]; simp), if_pos h]
theorem errS_ok {start : Int} {l : List Sm} {k : Nat} {s : Sm} (hx : l[k]? = some s) (ho : ordS l k s.tm = false) (h1 : ¬ 1000000 < s.tm) (h2 : ¬ 86399999999 < start + s.tm) (h3 : rangeS s = true) : errS start l k = 0 := by
 unfold errS
 rw [hx]
 simp only
 rw [if_neg (by rw [ho]; simp), if_neg (fun h => by rcases h with h | h | h; exact h1 h; exact h2 h; rw [h3] at h; cases h)]
theorem errS_next {start : Int} {l : List Sm} {k : Nat} (h : ∀ i, i < k → errS start l i = 0) (h0 : errS start l k = 0) : ∀ i, i < k + 1 → errS start l i = 0 := fun i hi => by
 by_cases e : i = k
 · rw [e]; exact h0
 · exact h i (by omega)
theorem errS_nonneg {start : Int} {l : List Sm} {k : Nat} (h : ∀ i, i < k → errS start l i = 0) : ∀ (i : Nat) (s : Sm), i < k → l[i]? = some s → 0 ≤ s.tm
 | 0, s, hi, hs => by
  have := h 0 hi
  unfold errS at this
  rw [hs] at this
  simp only at this
  split at this
  · cases this
  · rename_i ho
    unfold ordS at ho
    simp at ho
    omega
 | i + 1, s, hi, hs => by
  obtain ⟨p, hp⟩ : ∃ p, l[i]? = some p := ⟨_, List.getElem?_eq_getElem (by have := (List.getElem?_eq_some_iff.1 hs).1; omega)⟩
  have hp0 := errS_nonneg h i p (by omega) hp
  have := h (i + 1) hi
  unfold errS at this
  rw [hs] at this
  simp only at this
  split at this
  · cases this
  · rename_i ho
    unfold ordS at ho
    rw [if_neg (by omega), Nat.add_sub_cancel, hp] at ho
    simp at ho
    omega
theorem ordS_succ {l : List Sm} {j : Nat} {p : Sm} {t : Int} (hp : l[j]? = some p) : ordS l (j + 1) t = decide (t ≤ p.tm) := by
 unfold ordS
 rw [if_neg (by omega), Nat.add_sub_cancel, hp]
theorem errL_9 {span : Int} {l : List Lp} {k : Nat} {p : Lp} (hx : l[k]? = some p) (h : p.f < 0 ∨ p.t ≤ p.f ∨ span < p.t) : errL span l k = 9 := by
 unfold errL
 rw [hx]
 simp only
 rw [if_pos h]
theorem errL_ord {span : Int} {l : List Lp} {k : Nat} {p : Lp} (hx : l[k]? = some p) (h : ¬ (p.f < 0 ∨ p.t ≤ p.f ∨ span < p.t)) (ho : ordL l k p.f = true) : errL span l k = 10 := by
 unfold errL
 rw [hx]
 simp only
 rw [if_neg h, if_pos ho]
theorem errL_title {span : Int} {l : List Lp} {k : Nat} {p : Lp} {b : Bool} (hx : l[k]? = some p) (h : ¬ (p.f < 0 ∨ p.t ≤ p.f ∨ span < p.t)) (ho : ordL l k p.f = false) (hb : titleB p.s = b) : errL span l k = if b = true then 0 else 8 := by
 unfold errL
 rw [hx]
 simp only
 rw [if_neg h, if_neg (by rw [ho]; simp), hb]
theorem ordL_succ {l : List Lp} {j : Nat} {p : Lp} {t : Int} (hp : l[j]? = some p) : ordL l (j + 1) t = decide (t < p.t) := by
 unfold ordL
 rw [if_neg (by omega), Nat.add_sub_cancel, hp]
theorem errT_name {l : List ByteArray} {k : Nat} {s : ByteArray} (hx : l[k]? = some s) (h : nameB s = false) : errT l k = 8 := by
 unfold errT
 rw [hx]
 simp only
 rw [if_pos h]
theorem errT_ord {l : List ByteArray} {k : Nat} {s : ByteArray} {b : Bool} (hx : l[k]? = some s) (h : nameB s = true) (ho : ordT l k s = b) : errT l k = if b = true then 10 else 0 := by
 unfold errT
 rw [hx]
 simp only
 rw [if_neg (by rw [h]; simp), ho]
theorem ordT_succ {l : List ByteArray} {j : Nat} {p s : ByteArray} (hp : l[j]? = some p) : ordT l (j + 1) s = !Op.bytesLess p.toList s.toList := by
 unfold ordT
 rw [if_neg (by omega), Nat.add_sub_cancel, hp]
theorem bytesLe : ∀ a b : List UInt8, (Op.bytesLess a b || (a == b)) = !Op.bytesLess b a
 | [], [] => rfl
 | [], _ :: _ => rfl
 | _ :: _, [] => rfl
 | x :: a, y :: b => by
  have ih := bytesLe a b
  rw [Op.bytesLess, Op.bytesLess, List.cons_beq_cons]
  by_cases h1 : x < y
  · have h2 : ¬ y < x := fun h2 => by
     rw [UInt8.lt_iff_toNat_lt] at h1 h2
     omega
    have h3 : (y == x) = false := by
     rw [beq_eq_false_iff_ne]
     rintro rfl
     exact h2 h1
    simp [h1, h2, h3]
  · by_cases h2 : y < x
    · have h3 : (x == y) = false := by
       rw [beq_eq_false_iff_ne]
       rintro rfl
       exact h1 h2
      simp [h1, h2, h3]
    · have h3 : x = y := by
       rw [← UInt8.toNat_inj]
       rw [UInt8.lt_iff_toNat_lt] at h1 h2
       omega
      subst h3
      simp [h1, ih]
theorem chkR_1 {A : Acv} {e : Int} (h : chkSs A = e) (he : e ≠ 0) : chkR A = e := by
 unfold chkR
 rw [h, if_neg he]
theorem chkR_2 {A : Acv} {e : Int} (h0 : chkSs A = 0) (h : chkLs A = e) (he : e ≠ 0) : chkR A = e := by
 unfold chkR
 rw [h0, if_pos rfl, h, if_neg he]
theorem chkR_3 {A : Acv} {e : Int} (h0 : chkSs A = 0) (h1 : chkLs A = 0) (h : chkTs A = e) : chkR A = e := by
 unfold chkR
 rw [h0, if_pos rfl, h1, if_pos rfl, h]
theorem spanS_at {l : List Sm} {j : Nat} {s : Sm} (hn : l.length = j + 1) (hs : l[j]? = some s) : spanS l = s.tm := by
 unfold spanS
 rw [hn, Nat.add_sub_cancel, hs]
set_option maxHeartbeats 1000000 in
theorem span_any (A : Acv) (a b c : Option Addr) (ca cb cc : Nat) (w : World) (h : Rw smC 7 w a A.sm) (hl : (A.sm.length : Int) ≤ 9223372036854775807) :
 Calls Tryz.prog 27 #[actV A a b c ca cb cc] w fun e w' => e = .returned (.int .i64 (spanS A.sm)) ∧ Below w.heap.size w w' := by
 unfold actV
 obtain ⟨n, hn⟩ : ∃ n, A.sm.length = n := ⟨_, rfl⟩
 rw [hn] at hl ⊢
 generalize A.lp.length = m
 generalize A.tg.length = t
 cases n with
 | zero =>
  have HV := Lib.hid (show spanS A.sm = 0 by unfold spanS; rw [List.length_eq_zero_iff.1 hn]; rfl)
  clear hn
  go_enter Tryz.func27, Tryz.ntmps27
  go_wp2_with fail
  go_ret
  exact ⟨ret_int HV.out.symm, below_al w _⟩
 | succ j =>
  obtain ⟨s, hs⟩ : ∃ s, A.sm[j]? = some s := ⟨_, List.getElem?_eq_getElem (by omega)⟩
  obtain ⟨ba, oa, rfl, hba, hc⟩ := h.at hs
  have c0 : w.cell? ⟨ba, oa + j * 7, none⟩ = some (.int .i64 s.tm) := hc 0 _ rfl
  have HV := Lib.hid (spanS_at hn hs)
  have hl' : (j : Int) ≤ 9223372036854775806 := by omega
  clear hl
  have hwr : IntKind.i64.wrap ((j : Int) + 1 - 1) = (j : Int) := by rw [IntKind.wrap_i64]; omega
  have hsub : (j : Int) + 1 - 1 = (j : Int) := by omega
  obtain ⟨V0, hV0, hb0, hs0, hl0⟩ := alloc_cells w #[.string A.name, .int .i64 A.sport, .int .i64 A.start, .slice (some ⟨ba, oa, none⟩) (j + 1) ca, .slice b m cb, .slice c t cc] 26
  have B3 := Ext.ex (hl0 3 _ rfl)
  have C0 := Ext.ex (below_cell hb0 c0)
  have HV0 := Lib.hid hV0
  have HB0 := Lib.hid hb0
  have HS0 := Lib.hid (show w.heap.size ≤ V0.heap.size by omega)
  clear hs hc c0 hV0 hb0 hs0 hl0 hn h
  go_enter Tryz.func27, Tryz.ntmps27
  go_upto_region 1 with (fail)
  rw [HV0.out]
  refine ext_wp fun X => ?_
  go_wp2_with fail
  go_ret
  exact ⟨ret_int HV.out.symm, X.down HB0.out HS0.out⟩
def ChkG (A : Acv) (a b c : Option Addr) (ca cb cc : Nat) (w : World) : Prop := Calls Tryz.prog 14 #[actV A a b c ca cb cc] w fun e w' => e = .returned (.int .i64 (chkA A)) ∧ Below w.heap.size w w'
set_option maxHeartbeats 8000000 in
set_option maxRecDepth 100000 in
theorem check_any (A : Acv) (a b c : Option Addr) (ca cb cc : Nat) (w : World) (h : ActIn w A a b c) : ChkG A a b c ca cb cc w := by
 have DN := Lib.hid (fun W => isName_any A.name W h.name)
 have D1 := Lib.hid (fun W => rcin_any A.sport 1 5 W)
 have D2 := Lib.hid (fun W => rcin_any A.start 0 86399999999 W)
 have HS := Lib.hid h.sm
 have HL := Lib.hid h.lp
 have HT := Lib.hid h.tg
 have HTI := Lib.hid h.titles
 have HTA := Lib.hid h.tags
 have hn1 := h.nsm
 have hm1 := h.nlp
 have ht1 := h.ntg
 unfold ChkG
 have DSP := Lib.hid (fun (W : World) (h : Rw smC 7 W a A.sm) => span_any A a b c ca cb cc W h hn1)
 unfold actV at *
 have HV : Hid (chkA A = if nameB A.name = false then 8 else if inR A.sport 1 5 = false then 7 else if inR A.start 0 86399999999 = false then 9
  else if 20000 < A.sm.length ∨ 200 < A.lp.length ∨ 20 < A.tg.length then 3 else chkR A) := Lib.hid rfl
 obtain ⟨n, hn⟩ : ∃ n, A.sm.length = n := ⟨_, rfl⟩
 obtain ⟨m, hm⟩ : ∃ n, A.lp.length = n := ⟨_, rfl⟩
 obtain ⟨t, ht⟩ : ∃ n, A.tg.length = n := ⟨_, rfl⟩
 have HN := Lib.hid (And.intro hn (And.intro hm ht))
 rw [hn, hm, ht] at HV DSP ⊢
 rw [hn] at hn1
 rw [hm] at hm1
 rw [ht] at ht1
 have HST := Lib.hid (fun (h : inR A.start 0 86399999999 = true) => inR_iff.1 h)
 generalize nameB A.name = bn at *
 generalize inR A.sport 1 5 = b1 at *
 generalize inR A.start 0 86399999999 = b2 at *
 obtain ⟨V0, hV0, hb0, hs0, hl0⟩ := alloc_cells w #[.string A.name, .int .i64 A.sport, .int .i64 A.start, .slice a n ca, .slice b m cb, .slice c t cc] 26
 have B0 := Ext.ex (hl0 0 _ rfl)
 have B1 := Ext.ex (hl0 1 _ rfl)
 have B2 := Ext.ex (hl0 2 _ rfl)
 have B3 := Ext.ex (hl0 3 _ rfl)
 have B4 := Ext.ex (hl0 4 _ rfl)
 have B5 := Ext.ex (hl0 5 _ rfl)
 have HV0 := Lib.hid hV0
 have HB0 := Lib.hid hb0
 have HS0 := Lib.hid (show w.heap.size ≤ V0.heap.size by omega)
 clear hV0 hb0 hs0 hl0 h hn hm ht
 cases bn
 · clear HS HL HT HTI HTA D1 D2 DSP HST
   have HF := Lib.hid (HV.out.trans (if_pos rfl))
   go_enter Tryz.func14, Tryz.ntmps14
   go_upto_region 1 with (fail)
   rw [HV0.out]
   refine ext_wp fun X => ?_
   go_wp2_with fail
   refine (DN.out _).mono ?_
   rintro e w1 ⟨rfl, rfl⟩
   go_wp2_with fail
   go_ret
   exact ⟨ret_int (HF.out).symm, X.down HB0.out HS0.out⟩
 have HV := Lib.hid (HV.out.trans (if_neg (by simp)))
 cases b1
 · clear HS HL HT HTI HTA D2 DSP HST
   have HF := Lib.hid (HV.out.trans (if_pos rfl))
   go_enter Tryz.func14, Tryz.ntmps14
   go_upto_region 1 with (fail)
   rw [HV0.out]
   refine ext_wp fun X => ?_
   go_wp2_with fail
   refine (DN.out _).mono ?_
   rintro e w1 ⟨rfl, rfl⟩
   go_wp2_with fail
   refine (D1.out _).mono ?_
   rintro e w1 ⟨rfl, rfl⟩
   go_wp2_with fail
   go_ret
   exact ⟨ret_int (HF.out).symm, X.down HB0.out HS0.out⟩
 have HV := Lib.hid (HV.out.trans (if_neg (by simp)))
 cases b2
 · clear HS HL HT HTI HTA DSP HST
   have HF := Lib.hid (HV.out.trans (if_pos rfl))
   go_enter Tryz.func14, Tryz.ntmps14
   go_upto_region 1 with (fail)
   rw [HV0.out]
   refine ext_wp fun X => ?_
   go_wp2_with fail
   refine (DN.out _).mono ?_
   rintro e w1 ⟨rfl, rfl⟩
   go_wp2_with fail
   refine (D1.out _).mono ?_
   rintro e w1 ⟨rfl, rfl⟩
   go_wp2_with fail
   refine (D2.out _).mono ?_
   rintro e w1 ⟨rfl, rfl⟩
   go_wp2_with fail
   go_ret
   exact ⟨ret_int (HF.out).symm, X.down HB0.out HS0.out⟩
 have HV := Lib.hid (HV.out.trans (if_neg (by simp)))
 obtain ⟨hst1, hst2⟩ := HST.out rfl
 clear HST
 by_cases h0 : 20000 < n
 case pos =>
  have q0 : decide ((20000 : Int) < (n : Int)) = true := by rw [decide_eq_true_eq]; omega
  have q0' : decide (20000 < n) = true := by rw [decide_eq_true_eq]; omega
  have HF := Lib.hid (HV.out.trans (if_pos (by omega)))
  clear h0 HS HL HT HTI HTA DSP
  go_enter Tryz.func14, Tryz.ntmps14
  go_upto_region 1 with (fail)
  rw [HV0.out]
  refine ext_wp fun X => ?_
  go_wp2_with fail
  refine (DN.out _).mono ?_
  rintro e w1 ⟨rfl, rfl⟩
  go_wp2_with fail
  refine (D1.out _).mono ?_
  rintro e w1 ⟨rfl, rfl⟩
  go_wp2_with fail
  refine (D2.out _).mono ?_
  rintro e w1 ⟨rfl, rfl⟩
  go_wp2_with fail
  go_ret
  exact ⟨ret_int (HF.out).symm, X.down HB0.out HS0.out⟩
 have q0 : decide ((20000 : Int) < (n : Int)) = false := by rw [decide_eq_false_iff_not]; omega
 have q0' : decide (20000 < n) = false := by rw [decide_eq_false_iff_not]; omega
 by_cases h1 : 200 < m
 case pos =>
  have q1 : decide ((200 : Int) < (m : Int)) = true := by rw [decide_eq_true_eq]; omega
  have q1' : decide (200 < m) = true := by rw [decide_eq_true_eq]; omega
  have HF := Lib.hid (HV.out.trans (if_pos (by omega)))
  clear h0 h1 HS HL HT HTI HTA DSP
  go_enter Tryz.func14, Tryz.ntmps14
  go_upto_region 1 with (fail)
  rw [HV0.out]
  refine ext_wp fun X => ?_
  go_wp2_with fail
  refine (DN.out _).mono ?_
  rintro e w1 ⟨rfl, rfl⟩
  go_wp2_with fail
  refine (D1.out _).mono ?_
  rintro e w1 ⟨rfl, rfl⟩
  go_wp2_with fail
  refine (D2.out _).mono ?_
  rintro e w1 ⟨rfl, rfl⟩
  go_wp2_with fail
  go_ret
  exact ⟨ret_int (HF.out).symm, X.down HB0.out HS0.out⟩
 have q1 : decide ((200 : Int) < (m : Int)) = false := by rw [decide_eq_false_iff_not]; omega
 have q1' : decide (200 < m) = false := by rw [decide_eq_false_iff_not]; omega
 by_cases h2 : 20 < t
 case pos =>
  have q2 : decide ((20 : Int) < (t : Int)) = true := by rw [decide_eq_true_eq]; omega
  have q2' : decide (20 < t) = true := by rw [decide_eq_true_eq]; omega
  have HF := Lib.hid (HV.out.trans (if_pos (by omega)))
  clear h0 h1 h2 HS HL HT HTI HTA DSP
  go_enter Tryz.func14, Tryz.ntmps14
  go_upto_region 1 with (fail)
  rw [HV0.out]
  refine ext_wp fun X => ?_
  go_wp2_with fail
  refine (DN.out _).mono ?_
  rintro e w1 ⟨rfl, rfl⟩
  go_wp2_with fail
  refine (D1.out _).mono ?_
  rintro e w1 ⟨rfl, rfl⟩
  go_wp2_with fail
  refine (D2.out _).mono ?_
  rintro e w1 ⟨rfl, rfl⟩
  go_wp2_with fail
  go_ret
  exact ⟨ret_int (HF.out).symm, X.down HB0.out HS0.out⟩
 have q2 : decide ((20 : Int) < (t : Int)) = false := by rw [decide_eq_false_iff_not]; omega
 have q2' : decide (20 < t) = false := by rw [decide_eq_false_iff_not]; omega
 have HV := Lib.hid (HV.out.trans (if_neg (by omega)))
 go_enter Tryz.func14, Tryz.ntmps14
 go_upto_region 1 with (fail)
 rw [HV0.out]
 refine ext_wp fun X => ?_
 go_wp2_with fail
 refine (DN.out _).mono ?_
 rintro e w1 ⟨rfl, rfl⟩
 go_wp2_with fail
 refine (D1.out _).mono ?_
 rintro e w1 ⟨rfl, rfl⟩
 go_wp2_with fail
 refine (D2.out _).mono ?_
 rintro e w1 ⟨rfl, rfl⟩
 go_wp2_with fail
 clear DN D1 D2 q0 q1 q2 q0' q1' q2'
 go_loopw [45] (fun iv wr => ∃ (k : Nat), iv = .int .i64 k ∧ k ≤ n ∧ Hid ((chkSs A = firstE (errS A.start A.sm) (n - k) k) ∧ ∀ i, i < k → errS A.start A.sm i = 0) ∧ ∃ X : Ext V0, wr = X.1) (fun iv _ => n - (intOf iv).toNat)
 case atStart => exact ⟨0, rfl, by omega, Lib.hid ⟨by unfold chkSs; rw [HN.out.1]; rfl, fun i hi => by omega⟩, X, rfl⟩
 case round =>
  obtain ⟨k, rfl, hk, HE, X, rfl⟩ := hrel
  by_cases hlt : k < n
  · have t2 : decide ((k : Int) < (n : Int)) = true := by rw [decide_eq_true_eq]; omega
    have t2' : decide (k < n) = true := by simpa using hlt
    obtain ⟨s, hx⟩ : ∃ s, A.sm[k]? = some s := ⟨_, List.getElem?_eq_getElem (by rw [HN.out.1]; exact hlt)⟩
    have HX := Lib.hid (HS.out.below (below_step HB0.out X.2))
    obtain ⟨ba, oa, rfl, hba, hc⟩ := HX.out.at hx
    have c0 : X.1.cell? ⟨ba, oa + k * 7, none⟩ = some (.int .i64 s.tm) := hc 0 _ rfl
    have c1 := hc 1 _ rfl
    have c2 := hc 2 _ rfl
    have c3 := hc 3 _ rfl
    have c4 := hc 4 _ rfl
    have c5 := hc 5 _ rfl
    have c6 := hc 6 _ rfl
    obtain ⟨V1, hV1, hvb, hvs, hvl⟩ := alloc_cells X.1 #[.int .i64 s.tm, .int .i64 s.x, .int .i64 s.y, .int .i64 s.z, .int .i64 s.pu, .int .i64 s.po, .int .i64 s.st] 54
    have u0 := hvl 0 _ rfl
    have u1 := hvl 1 _ rfl
    have u2 := hvl 2 _ rfl
    have u3 := hvl 3 _ rfl
    have u4 := hvl 4 _ rfl
    have u5 := hvl 5 _ rfl
    have u6 := hvl 6 _ rfl
    obtain ⟨Z, rfl⟩ : ∃ Z : Ext V0, V1 = Z.1 := ⟨⟨V1, below_step X.2 hvb⟩, rfl⟩
    have HV1 := Lib.hid hV1
    have HG := Lib.hid (firstE_go hlt HE.out.1)
    have HP := Lib.hid HE.out.2
    have HHX := Lib.hid hx
    have DR := Lib.hid (fun W => inRange_any s W)
    unfold smV at DR
    clear hV1 hvs hvl HE hc hx
    have hk20 : n ≤ 20000 := by omega
    obtain rfl | ⟨j, rfl⟩ : k = 0 ∨ ∃ j, k = j + 1 := by cases k; exact Or.inl rfl; exact Or.inr ⟨_, rfl⟩
    · skip
      simp only [Nat.zero_mul, Nat.add_zero] at c0 c1 c2 c3 c4 c5 c6
      have U0 := Ext.ex u0
      have U1 := Ext.ex u1
      have U2 := Ext.ex u2
      have U3 := Ext.ex u3
      have U4 := Ext.ex u4
      have U5 := Ext.ex u5
      have U6 := Ext.ex u6
      have B2' := Ext.re Z.2 B2
      have HO : Hid (ordS A.sm 0 s.tm = decide (s.tm ≠ 0)) := Lib.hid rfl
      by_cases ho : s.tm = 0
      case neg =>
       have b0 := bneT ho
       have b0' := beqF ho
       have HF := Lib.hid (HV.out.trans (chkR_1 ((HG.out.1 (by rw [errS_ord HHX.out (HO.out.trans (by simpa using ho))]; decide)).trans (errS_ord HHX.out (HO.out.trans (by simpa using ho)))) (by decide)))
       clear ho HG HO HHX DR HS HL HT HTI HTA DSP
       go_wp2_with fail
       rw [HV1.out]
       go_wp2_with fail
       go_ret
       exact ⟨ret_int HF.out.symm, Z.down HB0.out HS0.out⟩
      have b0 := bneF ho
      have b0' := beqT ho
      have HO : Hid (ordS A.sm 0 s.tm = false) := Lib.hid (HO.out.trans (by simpa using ho))
      by_cases f1 : 1000000 < s.tm
      case pos =>
       have d1 : decide ((1000000 : Int) < s.tm) = true := decide_eq_true f1
       have HF := Lib.hid (HV.out.trans (chkR_1 ((HG.out.1 (by rw [errS_far HHX.out HO.out (Or.inl f1)]; decide)).trans (errS_far HHX.out HO.out (Or.inl f1))) (by decide)))
       clear f1 ho HG HO HHX DR HS HL HT HTI HTA DSP
       go_wp2_with fail
       rw [HV1.out]
       go_wp2_with fail
       refine wp_region_ext (W := Z.1) ⟨Z.1, Below.refl _ _⟩ (by kernel_rfl) (by kernel_rfl) ?_
       repeat go_big_quiet_step (fail)
       refine wpQuiet_nil ?_
       rintro _ ⟨Y, rfl⟩
       go_wp2_with fail
       go_ret
       exact ⟨ret_int HF.out.symm, below_step (below_step HB0.out Z.2) Y.2⟩
      have d1 : decide ((1000000 : Int) < s.tm) = false := decide_eq_false f1
      have hs1 : 0 ≤ s.tm := by omega
      have hs2 : s.tm ≤ 1000000 := by omega
      by_cases f2 : 86399999999 < A.start + s.tm
      case pos =>
       have d2 : decide ((86399999999 : Int) < A.start + s.tm) = true := decide_eq_true f2
       have HF := Lib.hid (HV.out.trans (chkR_1 ((HG.out.1 (by rw [errS_far HHX.out HO.out (Or.inr (Or.inl f2))]; decide)).trans (errS_far HHX.out HO.out (Or.inr (Or.inl f2)))) (by decide)))
       clear f1 f2 ho HG HO HHX DR HS HL HT HTI HTA DSP
       go_wp2_with fail
       rw [HV1.out]
       go_wp2_with fail
       refine wp_region_ext (W := Z.1) ⟨Z.1, Below.refl _ _⟩ (by kernel_rfl) (by kernel_rfl) ?_
       repeat go_big_quiet_step (fail)
       refine wpQuiet_nil ?_
       rintro _ ⟨Y, rfl⟩
       go_wp2_with fail
       go_ret
       exact ⟨ret_int HF.out.symm, below_step (below_step HB0.out Z.2) Y.2⟩
      have d2 : decide ((86399999999 : Int) < A.start + s.tm) = false := decide_eq_false f2
      have HRG := Lib.hid (fun (h : rangeS s = false) => errS_far (start := A.start) HHX.out HO.out (Or.inr (Or.inr h)))
      have HOK := Lib.hid (fun (h : rangeS s = true) => errS_ok HHX.out HO.out f1 f2 h)
      generalize rangeS s = br at *
      cases br
      · have HF := Lib.hid (HV.out.trans (chkR_1 ((HG.out.1 (by rw [HRG.out rfl]; decide)).trans (HRG.out rfl)) (by decide)))
        clear f1 f2 ho HG HO HHX HOK HRG HS HL HT HTI HTA DSP
        go_wp2_with fail
        rw [HV1.out]
        go_wp2_with fail
        refine wp_region_ext (W := Z.1) ⟨Z.1, Below.refl _ _⟩ (by kernel_rfl) (by kernel_rfl) ?_
        repeat go_big_quiet_step (fail)
        refine wpQuiet_nil ?_
        rintro _ ⟨Y, rfl⟩
        go_wp2_with fail
        refine (DR.out _).mono ?_
        rintro e w1 ⟨rfl, hbw⟩
        have HBW := Lib.hid (below_step (below_step (below_step HB0.out Z.2) Y.2) hbw)
        clear hbw
        go_wp2_with fail
        go_ret
        exact ⟨ret_int HF.out.symm, HBW.out⟩
      · have HF := Lib.hid (And.intro (HG.out.2 (HOK.out rfl)) (errS_next HP.out (HOK.out rfl)))
        clear f1 f2 ho HG HO HHX HOK HRG
        go_wp2_with fail
        rw [HV1.out]
        go_wp2_with fail
        refine wp_region_ext (W := Z.1) ⟨Z.1, Below.refl _ _⟩ (by kernel_rfl) (by kernel_rfl) ?_
        repeat go_big_quiet_step (fail)
        refine wpQuiet_nil ?_
        rintro _ ⟨Y, rfl⟩
        go_wp2_with fail
        refine (DR.out _).mono ?_
        rintro e w1 ⟨rfl, hbw⟩
        obtain ⟨Q, rfl⟩ : ∃ Q : Ext V0, w1 = Q.1 := ⟨⟨w1, below_step (below_step Z.2 Y.2) hbw⟩, rfl⟩
        clear hbw
        go_wp2_with fail
        go_roundw
        case rel => exact ⟨1, by go_num, by omega, HF, Q, rfl⟩
        case measure => simp [intOf]; omega
    · skip
      obtain ⟨p, hp⟩ : ∃ p, A.sm[j]? = some p := ⟨_, List.getElem?_eq_getElem (by have := HN.out.1; omega)⟩
      have P0 : ∀ Y : Ext Z.1, Y.1.cell? ⟨ba, oa + j * 7, none⟩ = some (.int .i64 p.tm) := Ext.ex (below_cell hvb (HX.out.on hp 0 _ rfl))
      have U0 := Ext.ex u0
      have U1 := Ext.ex u1
      have U2 := Ext.ex u2
      have U3 := Ext.ex u3
      have U4 := Ext.ex u4
      have U5 := Ext.ex u5
      have U6 := Ext.ex u6
      have B2' := Ext.re Z.2 B2
      have B3' := Ext.re Z.2 B3
      have HO := Lib.hid (ordS_succ (t := s.tm) hp)
      have e0 : (((j + 1 : Nat) : Int) == 0) = false := by rw [beq_eq_false_iff_ne]; omega
      have e0' : ((j : Int) + 1 == 0) = false := by rw [beq_eq_false_iff_ne]; omega
      have e1 : decide ((0 : Int) < (j : Int) + 1) = true := by rw [decide_eq_true_eq]; omega
      have hwr : IntKind.i64.wrap ((j : Int) + 1 - 1) = (j : Int) := by rw [IntKind.wrap_i64]; omega
      have hsub : (j : Int) + 1 - 1 = (j : Int) := by omega
      have hjn : j < n := by omega
      have HP2 := Lib.hid hp
      clear hp
      by_cases ho : s.tm ≤ p.tm
      case pos =>
       have b0 : decide (s.tm ≤ p.tm) = true := decide_eq_true ho
       have HF := Lib.hid (HV.out.trans (chkR_1 ((HG.out.1 (by rw [errS_ord HHX.out (HO.out.trans (by exact decide_eq_true ho))]; decide)).trans (errS_ord HHX.out (HO.out.trans (by exact decide_eq_true ho)))) (by decide)))
       clear ho HG HO HHX DR HS HL HT HTI HTA DSP
       go_wp2_with fail
       rw [HV1.out]
       go_wp2_with fail
       refine wp_region_ext (W := Z.1) ⟨Z.1, Below.refl _ _⟩ (by kernel_rfl) (by kernel_rfl) ?_
       repeat go_big_quiet_step (fail)
       refine wpQuiet_nil ?_
       rintro _ ⟨Y, rfl⟩
       go_wp2_with fail
       go_ret
       exact ⟨ret_int HF.out.symm, below_step (below_step HB0.out Z.2) Y.2⟩
      have b0 : decide (s.tm ≤ p.tm) = false := decide_eq_false ho
      have HO := Lib.hid (HO.out.trans (decide_eq_false ho))
      by_cases f1 : 1000000 < s.tm
      case pos =>
       have d1 : decide ((1000000 : Int) < s.tm) = true := decide_eq_true f1
       have HF := Lib.hid (HV.out.trans (chkR_1 ((HG.out.1 (by rw [errS_far HHX.out HO.out (Or.inl f1)]; decide)).trans (errS_far HHX.out HO.out (Or.inl f1))) (by decide)))
       clear f1 ho HG HO HHX DR HS HL HT HTI HTA DSP
       go_wp2_with fail
       rw [HV1.out]
       go_wp2_with fail
       refine wp_region_ext (W := Z.1) ⟨Z.1, Below.refl _ _⟩ (by kernel_rfl) (by kernel_rfl) ?_
       repeat go_big_quiet_step (fail)
       refine wpQuiet_nil ?_
       rintro _ ⟨Y, rfl⟩
       go_wp2_with fail
       go_ret
       exact ⟨ret_int HF.out.symm, below_step (below_step HB0.out Z.2) Y.2⟩
      have d1 : decide ((1000000 : Int) < s.tm) = false := decide_eq_false f1
      have hs1 : 0 ≤ s.tm := by have := errS_nonneg HP.out j p (by omega) HP2.out; omega
      have hs2 : s.tm ≤ 1000000 := by omega
      by_cases f2 : 86399999999 < A.start + s.tm
      case pos =>
       have d2 : decide ((86399999999 : Int) < A.start + s.tm) = true := decide_eq_true f2
       have HF := Lib.hid (HV.out.trans (chkR_1 ((HG.out.1 (by rw [errS_far HHX.out HO.out (Or.inr (Or.inl f2))]; decide)).trans (errS_far HHX.out HO.out (Or.inr (Or.inl f2)))) (by decide)))
       clear f1 f2 ho HG HO HHX DR HS HL HT HTI HTA DSP
       go_wp2_with fail
       rw [HV1.out]
       go_wp2_with fail
       refine wp_region_ext (W := Z.1) ⟨Z.1, Below.refl _ _⟩ (by kernel_rfl) (by kernel_rfl) ?_
       repeat go_big_quiet_step (fail)
       refine wpQuiet_nil ?_
       rintro _ ⟨Y, rfl⟩
       go_wp2_with fail
       go_ret
       exact ⟨ret_int HF.out.symm, below_step (below_step HB0.out Z.2) Y.2⟩
      have d2 : decide ((86399999999 : Int) < A.start + s.tm) = false := decide_eq_false f2
      have HRG := Lib.hid (fun (h : rangeS s = false) => errS_far (start := A.start) HHX.out HO.out (Or.inr (Or.inr h)))
      have HOK := Lib.hid (fun (h : rangeS s = true) => errS_ok HHX.out HO.out f1 f2 h)
      generalize rangeS s = br at *
      cases br
      · have HF := Lib.hid (HV.out.trans (chkR_1 ((HG.out.1 (by rw [HRG.out rfl]; decide)).trans (HRG.out rfl)) (by decide)))
        clear f1 f2 ho HG HO HHX HOK HRG HS HL HT HTI HTA DSP
        go_wp2_with fail
        rw [HV1.out]
        go_wp2_with fail
        refine wp_region_ext (W := Z.1) ⟨Z.1, Below.refl _ _⟩ (by kernel_rfl) (by kernel_rfl) ?_
        repeat go_big_quiet_step (fail)
        refine wpQuiet_nil ?_
        rintro _ ⟨Y, rfl⟩
        go_wp2_with fail
        refine (DR.out _).mono ?_
        rintro e w1 ⟨rfl, hbw⟩
        have HBW := Lib.hid (below_step (below_step (below_step HB0.out Z.2) Y.2) hbw)
        clear hbw
        go_wp2_with fail
        go_ret
        exact ⟨ret_int HF.out.symm, HBW.out⟩
      · have HF := Lib.hid (And.intro (HG.out.2 (HOK.out rfl)) (errS_next HP.out (HOK.out rfl)))
        clear f1 f2 ho HG HO HHX HOK HRG
        go_wp2_with fail
        rw [HV1.out]
        go_wp2_with fail
        refine wp_region_ext (W := Z.1) ⟨Z.1, Below.refl _ _⟩ (by kernel_rfl) (by kernel_rfl) ?_
        repeat go_big_quiet_step (fail)
        refine wpQuiet_nil ?_
        rintro _ ⟨Y, rfl⟩
        go_wp2_with fail
        refine (DR.out _).mono ?_
        rintro e w1 ⟨rfl, hbw⟩
        obtain ⟨Q, rfl⟩ : ∃ Q : Ext V0, w1 = Q.1 := ⟨⟨w1, below_step (below_step Z.2 Y.2) hbw⟩, rfl⟩
        clear hbw
        go_wp2_with fail
        go_roundw
        case rel => exact ⟨j + 1 + 1, by go_num, by omega, HF, Q, rfl⟩
        case measure => simp [intOf]; omega
  · have t2 : decide ((k : Int) < (n : Int)) = false := by rw [decide_eq_false_iff_not]; omega
    have t2' : decide (k < n) = false := by simpa using hlt
    have HSS := Lib.hid (firstE_end (by omega) HE.out.1)
    have HXX := Lib.hid (HS.out.below (below_step HB0.out X.2))
    clear HE hlt hk HS
    go_wp2_with fail
    refine (DSP.out _ HXX.out).mono ?_
    rintro e w1 ⟨rfl, hbw⟩
    obtain ⟨X, rfl⟩ : ∃ Q : Ext V0, w1 = Q.1 := ⟨⟨w1, below_step X.2 hbw⟩, rfl⟩
    clear hbw DSP HXX t2 t2'
    obtain ⟨sp, hsp⟩ : ∃ sp, spanS A.sm = sp := ⟨_, rfl⟩
    have HSP := Lib.hid hsp
    rw [hsp]
    clear hsp
    go_wp2_with fail
    go_loopw [95] (fun iv wr => ∃ (k : Nat), iv = .int .i64 k ∧ k ≤ m ∧ Hid (chkLs A = firstE (errL sp A.lp) (m - k) k) ∧ ∃ X : Ext V0, wr = X.1) (fun iv _ => m - (intOf iv).toNat)
    case atStart => exact ⟨0, rfl, by omega, Lib.hid (by unfold chkLs; rw [HN.out.2.1, HSP.out]; rfl), X, rfl⟩
    case round =>
     obtain ⟨k, rfl, hk, HE, X, rfl⟩ := hrel
     by_cases hlt : k < m
     · have t2 : decide ((k : Int) < (m : Int)) = true := by rw [decide_eq_true_eq]; omega
       have t2' : decide (k < m) = true := by simpa using hlt
       obtain ⟨s, hx⟩ : ∃ s, A.lp[k]? = some s := ⟨_, List.getElem?_eq_getElem (by rw [HN.out.2.1]; exact hlt)⟩
       have HX := Lib.hid (HL.out.below (below_step HB0.out X.2))
       obtain ⟨ba, oa, rfl, hba, hc⟩ := HX.out.at hx
       have c0 : X.1.cell? ⟨ba, oa + k * 3, none⟩ = some (.int .i64 s.f) := hc 0 _ rfl
       have c1 := hc 1 _ rfl
       have c2 := hc 2 _ rfl
       obtain ⟨V1, hV1, hvb, hvs, hvl⟩ := alloc_cells X.1 #[.int .i64 s.f, .int .i64 s.t, .string s.s] 57
       have u0 := hvl 0 _ rfl
       have u1 := hvl 1 _ rfl
       have u2 := hvl 2 _ rfl
       obtain ⟨Z, rfl⟩ : ∃ Z : Ext V0, V1 = Z.1 := ⟨⟨V1, below_step X.2 hvb⟩, rfl⟩
       have HV1 := Lib.hid hV1
       have HG := Lib.hid (firstE_go hlt HE.out)
       have HHX := Lib.hid hx
       have DTI := Lib.hid (fun W => isTitle_any s.s W (HTI.out s (List.mem_of_getElem? hx)))
       clear hV1 hvs hvl HE hc hx
       have hk20 : m ≤ 200 := by omega
       have U0 := Ext.ex u0
       have U1 := Ext.ex u1
       have U2 := Ext.ex u2
       have B4' := Ext.re Z.2 B4
       obtain rfl | ⟨j, rfl⟩ : k = 0 ∨ ∃ j, k = j + 1 := by cases k; exact Or.inl rfl; exact Or.inr ⟨_, rfl⟩
       · simp only [Nat.zero_mul, Nat.add_zero] at c0 c1 c2
         have HO : Hid (ordL A.lp 0 s.f = false) := Lib.hid rfl
         by_cases g0 : s.f < 0
         case pos =>
          have d0 : decide (s.f < 0) = true := decide_eq_true g0
          have HF := Lib.hid (HV.out.trans (chkR_2 HSS.out ((HG.out.1 (by rw [errL_9 HHX.out (Or.inl g0)]; decide)).trans (errL_9 HHX.out (Or.inl g0))) (by decide)))
          clear g0 HG HHX DTI HL HT HTI HTA
          go_wp2_with fail
          rw [HV1.out]
          go_wp2_with fail
          go_ret
          exact ⟨ret_int HF.out.symm, Z.down HB0.out HS0.out⟩
         have d0 : decide (s.f < 0) = false := decide_eq_false g0
         by_cases g1 : s.t ≤ s.f
         case pos =>
          have d1 : decide (s.t ≤ s.f) = true := decide_eq_true g1
          have HF := Lib.hid (HV.out.trans (chkR_2 HSS.out ((HG.out.1 (by rw [errL_9 HHX.out (Or.inr (Or.inl g1))]; decide)).trans (errL_9 HHX.out (Or.inr (Or.inl g1)))) (by decide)))
          clear g0 g1 HG HHX DTI HL HT HTI HTA
          go_wp2_with fail
          rw [HV1.out]
          go_wp2_with fail
          go_ret
          exact ⟨ret_int HF.out.symm, Z.down HB0.out HS0.out⟩
         have d1 : decide (s.t ≤ s.f) = false := decide_eq_false g1
         by_cases g2 : sp < s.t
         case pos =>
          have d2 : decide (sp < s.t) = true := decide_eq_true g2
          have HF := Lib.hid (HV.out.trans (chkR_2 HSS.out ((HG.out.1 (by rw [errL_9 HHX.out (Or.inr (Or.inr g2))]; decide)).trans (errL_9 HHX.out (Or.inr (Or.inr g2)))) (by decide)))
          clear g0 g1 g2 HG HHX DTI HL HT HTI HTA
          go_wp2_with fail
          rw [HV1.out]
          go_wp2_with fail
          go_ret
          exact ⟨ret_int HF.out.symm, Z.down HB0.out HS0.out⟩
         have d2 : decide (sp < s.t) = false := decide_eq_false g2
         have HET := Lib.hid (fun (b : Bool) (hb : titleB s.s = b) => errL_title (span := sp) HHX.out (fun h => by omega) HO.out hb)
         generalize titleB s.s = bt at *
         cases bt
         · have HF := Lib.hid (HV.out.trans (chkR_2 HSS.out ((HG.out.1 (by rw [HET.out false rfl]; decide)).trans (HET.out false rfl)) (by decide)))
           clear g0 g1 g2 HG HHX HL HT HTI HTA HET
           go_wp2_with fail
           rw [HV1.out]
           go_wp2_with fail
           refine wp_region_ext (W := Z.1) ⟨Z.1, Below.refl _ _⟩ (by kernel_rfl) (by kernel_rfl) ?_
           repeat go_big_quiet_step (fail)
           refine wpQuiet_nil ?_
           rintro _ ⟨Y, rfl⟩
           go_wp2_with fail
           refine (DTI.out _).mono ?_
           rintro e w1 ⟨rfl, rfl⟩
           go_wp2_with fail
           go_ret
           exact ⟨ret_int HF.out.symm, below_step (below_step HB0.out Z.2) Y.2⟩
         · have HF := Lib.hid (HG.out.2 (HET.out true rfl))
           clear g0 g1 g2 HG HHX HET
           go_wp2_with fail
           rw [HV1.out]
           go_wp2_with fail
           refine wp_region_ext (W := Z.1) ⟨Z.1, Below.refl _ _⟩ (by kernel_rfl) (by kernel_rfl) ?_
           repeat go_big_quiet_step (fail)
           refine wpQuiet_nil ?_
           rintro _ ⟨Y, rfl⟩
           go_wp2_with fail
           refine (DTI.out _).mono ?_
           rintro e w1 ⟨rfl, rfl⟩
           go_wp2_with fail
           go_roundw
           case rel => exact ⟨1, by go_num, by omega, HF, ⟨Y.1, below_step Z.2 Y.2⟩, rfl⟩
           case measure => simp [intOf]; omega
       · obtain ⟨p, hp⟩ : ∃ p, A.lp[j]? = some p := ⟨_, List.getElem?_eq_getElem (by have := HN.out.2.1; omega)⟩
         have P1 : ∀ Y : Ext Z.1, Y.1.cell? ⟨ba, oa + j * 3 + 1, none⟩ = some (.int .i64 p.t) := Ext.ex (below_cell hvb (HX.out.on hp 1 _ rfl))
         have HO1 := Lib.hid (ordL_succ (t := s.f) hp)
         have e0 : (((j + 1 : Nat) : Int) == 0) = false := by rw [beq_eq_false_iff_ne]; omega
         have e0' : ((j : Int) + 1 == 0) = false := by rw [beq_eq_false_iff_ne]; omega
         have e1 : decide ((0 : Int) < (j : Int) + 1) = true := by rw [decide_eq_true_eq]; omega
         have hwr : IntKind.i64.wrap ((j : Int) + 1 - 1) = (j : Int) := by rw [IntKind.wrap_i64]; omega
         have hsub : (j : Int) + 1 - 1 = (j : Int) := by omega
         have hjn : j < m := by omega
         clear hp
         by_cases g0 : s.f < 0
         case pos =>
          have d0 : decide (s.f < 0) = true := decide_eq_true g0
          have HF := Lib.hid (HV.out.trans (chkR_2 HSS.out ((HG.out.1 (by rw [errL_9 HHX.out (Or.inl g0)]; decide)).trans (errL_9 HHX.out (Or.inl g0))) (by decide)))
          clear g0 HG HHX DTI HL HT HTI HTA
          go_wp2_with fail
          rw [HV1.out]
          go_wp2_with fail
          go_ret
          exact ⟨ret_int HF.out.symm, Z.down HB0.out HS0.out⟩
         have d0 : decide (s.f < 0) = false := decide_eq_false g0
         by_cases g1 : s.t ≤ s.f
         case pos =>
          have d1 : decide (s.t ≤ s.f) = true := decide_eq_true g1
          have HF := Lib.hid (HV.out.trans (chkR_2 HSS.out ((HG.out.1 (by rw [errL_9 HHX.out (Or.inr (Or.inl g1))]; decide)).trans (errL_9 HHX.out (Or.inr (Or.inl g1)))) (by decide)))
          clear g0 g1 HG HHX DTI HL HT HTI HTA
          go_wp2_with fail
          rw [HV1.out]
          go_wp2_with fail
          go_ret
          exact ⟨ret_int HF.out.symm, Z.down HB0.out HS0.out⟩
         have d1 : decide (s.t ≤ s.f) = false := decide_eq_false g1
         by_cases g2 : sp < s.t
         case pos =>
          have d2 : decide (sp < s.t) = true := decide_eq_true g2
          have HF := Lib.hid (HV.out.trans (chkR_2 HSS.out ((HG.out.1 (by rw [errL_9 HHX.out (Or.inr (Or.inr g2))]; decide)).trans (errL_9 HHX.out (Or.inr (Or.inr g2)))) (by decide)))
          clear g0 g1 g2 HG HHX DTI HL HT HTI HTA
          go_wp2_with fail
          rw [HV1.out]
          go_wp2_with fail
          go_ret
          exact ⟨ret_int HF.out.symm, Z.down HB0.out HS0.out⟩
         have d2 : decide (sp < s.t) = false := decide_eq_false g2
         by_cases ho : s.f < p.t
         case pos =>
          have b0 : decide (s.f < p.t) = true := decide_eq_true ho
          have HEO := Lib.hid (errL_ord (span := sp) HHX.out (fun h => by omega) (HO1.out.trans b0))
          have HF := Lib.hid (HV.out.trans (chkR_2 HSS.out ((HG.out.1 (by rw [HEO.out]; decide)).trans HEO.out) (by decide)))
          clear g0 g1 g2 ho HG HHX DTI HL HT HTI HTA HEO
          go_wp2_with fail
          rw [HV1.out]
          go_wp2_with fail
          refine wp_region_ext (W := Z.1) ⟨Z.1, Below.refl _ _⟩ (by kernel_rfl) (by kernel_rfl) ?_
          repeat go_big_quiet_step (fail)
          refine wpQuiet_nil ?_
          rintro _ ⟨Y, rfl⟩
          go_wp2_with fail
          go_ret
          exact ⟨ret_int HF.out.symm, below_step (below_step HB0.out Z.2) Y.2⟩
         have b0 : decide (s.f < p.t) = false := decide_eq_false ho
         have HO := Lib.hid (HO1.out.trans b0)
         have HET := Lib.hid (fun (b : Bool) (hb : titleB s.s = b) => errL_title (span := sp) HHX.out (fun h => by omega) HO.out hb)
         generalize titleB s.s = bt at *
         cases bt
         · have HF := Lib.hid (HV.out.trans (chkR_2 HSS.out ((HG.out.1 (by rw [HET.out false rfl]; decide)).trans (HET.out false rfl)) (by decide)))
           clear g0 g1 g2 HG HHX HL HT HTI HTA HET
           go_wp2_with fail
           rw [HV1.out]
           go_wp2_with fail
           refine wp_region_ext (W := Z.1) ⟨Z.1, Below.refl _ _⟩ (by kernel_rfl) (by kernel_rfl) ?_
           repeat go_big_quiet_step (fail)
           refine wpQuiet_nil ?_
           rintro _ ⟨Y, rfl⟩
           go_wp2_with fail
           refine (DTI.out _).mono ?_
           rintro e w1 ⟨rfl, rfl⟩
           go_wp2_with fail
           go_ret
           exact ⟨ret_int HF.out.symm, below_step (below_step HB0.out Z.2) Y.2⟩
         · have HF := Lib.hid (HG.out.2 (HET.out true rfl))
           clear g0 g1 g2 HG HHX HET
           go_wp2_with fail
           rw [HV1.out]
           go_wp2_with fail
           refine wp_region_ext (W := Z.1) ⟨Z.1, Below.refl _ _⟩ (by kernel_rfl) (by kernel_rfl) ?_
           repeat go_big_quiet_step (fail)
           refine wpQuiet_nil ?_
           rintro _ ⟨Y, rfl⟩
           go_wp2_with fail
           refine (DTI.out _).mono ?_
           rintro e w1 ⟨rfl, rfl⟩
           go_wp2_with fail
           go_roundw
           case rel => exact ⟨j + 1 + 1, by go_num, by omega, HF, ⟨Y.1, below_step Z.2 Y.2⟩, rfl⟩
           case measure => simp [intOf]; omega
     · have t2 : decide ((k : Int) < (m : Int)) = false := by rw [decide_eq_false_iff_not]; omega
       have t2' : decide (k < m) = false := by simpa using hlt
       have HLL := Lib.hid (firstE_end (by omega) HE.out)
       clear HE hlt hk HL HTI
       go_wp2_with fail
       clear t2 t2'
       go_loopw [141] (fun iv wr => ∃ (k : Nat), iv = .int .i64 k ∧ k ≤ t ∧ Hid (chkTs A = firstE (errT A.tg) (t - k) k) ∧ ∃ X : Ext V0, wr = X.1) (fun iv _ => t - (intOf iv).toNat)
       case atStart => exact ⟨0, rfl, by omega, Lib.hid (by unfold chkTs; rw [HN.out.2.2]; rfl), X, rfl⟩
       case round =>
        obtain ⟨k, rfl, hk, HE, X, rfl⟩ := hrel
        by_cases hlt : k < t
        · have t2 : decide ((k : Int) < (t : Int)) = true := by rw [decide_eq_true_eq]; omega
          have t2' : decide (k < t) = true := by simpa using hlt
          obtain ⟨s, hx⟩ : ∃ s, A.tg[k]? = some s := ⟨_, List.getElem?_eq_getElem (by rw [HN.out.2.2]; exact hlt)⟩
          have HX := Lib.hid (HT.out.below (below_step HB0.out X.2))
          obtain ⟨ba, oa, rfl, hba, hc⟩ := HX.out.at hx
          have c0 : X.1.cell? ⟨ba, oa + k, none⟩ = some (.string s) := by
           have := hc 0 _ rfl
           rwa [Nat.mul_one, Nat.add_zero] at this
          have HG := Lib.hid (firstE_go hlt HE.out)
          have HHX := Lib.hid hx
          have DNM := Lib.hid (fun W => isName_any s W (HTA.out s (List.mem_of_getElem? hx)))
          have HNA := Lib.hid (fun (h : nameB s = false) => errT_name HHX.out h)
          have HNO := Lib.hid (fun (h : nameB s = true) (b : Bool) (hb : ordT A.tg k s = b) => errT_ord HHX.out h hb)
          generalize nameB s = bn at *
          clear HE hc hx
          have hk20 : t ≤ 20 := by omega
          cases bn
          · have HF := Lib.hid (HV.out.trans (chkR_3 HSS.out HLL.out ((HG.out.1 (by rw [HNA.out rfl]; decide)).trans (HNA.out rfl))))
            clear HG HHX HNA HNO HT HTA
            go_wp2_with fail
            refine (DNM.out _).mono ?_
            rintro e w1 ⟨rfl, rfl⟩
            go_wp2_with fail
            go_ret
            exact ⟨ret_int HF.out.symm, X.down HB0.out HS0.out⟩
          · obtain rfl | ⟨j, rfl⟩ : k = 0 ∨ ∃ j, k = j + 1 := by cases k; exact Or.inl rfl; exact Or.inr ⟨_, rfl⟩
            · have HF := Lib.hid (HG.out.2 (HNO.out rfl false rfl))
              rw [Nat.add_zero] at c0
              clear HG HHX HNA HNO
              go_wp2_with fail
              refine (DNM.out _).mono ?_
              rintro e w1 ⟨rfl, rfl⟩
              go_wp2_with fail
              go_roundw
              case rel => exact ⟨1, by go_num, by omega, HF, X, rfl⟩
              case measure => simp [intOf]; omega
            · obtain ⟨p, hp⟩ : ∃ p, A.tg[j]? = some p := ⟨_, List.getElem?_eq_getElem (by have := HN.out.2.2; omega)⟩
              have P0 : X.1.cell? ⟨ba, oa + j, none⟩ = some (.string p) := by
               have := HX.out.on hp 0 _ rfl
               rwa [Nat.mul_one, Nat.add_zero] at this
              have HO := Lib.hid (ordT_succ (s := s) hp)
              have e0 : decide ((0 : Int) < (j : Int) + 1) = true := by rw [decide_eq_true_eq]; omega
              have hwr : IntKind.i64.wrap ((j : Int) + 1 - 1) = (j : Int) := by rw [IntKind.wrap_i64]; omega
              have hsub : (j : Int) + 1 - 1 = (j : Int) := by omega
              have hjn : j < t := by omega
              clear hp
              have HNO := Lib.hid (fun (b : Bool) (hb : Op.bytesLess p.toList s.toList = b) => HNO.out rfl (!b) (HO.out.trans (by rw [hb])))
              have hle := bytesLe s.toList p.toList
              generalize hb1 : Op.bytesLess s.toList p.toList = b1 at hle
              generalize hb2 : (s.toList == p.toList) = b2 at hle
              cases b1
              · cases b2
                · have hbl : Op.bytesLess p.toList s.toList = true := by simpa using hle.symm
                  have HF := Lib.hid (HG.out.2 (HNO.out true hbl))
                  clear HG HHX HNA HNO HO hle hbl
                  go_wp2_with fail
                  refine (DNM.out _).mono ?_
                  rintro e w1 ⟨rfl, rfl⟩
                  go_wp2_with fail
                  go_roundw
                  case rel => exact ⟨j + 1 + 1, by go_num, by omega, HF, X, rfl⟩
                  case measure => simp [intOf]; omega
                · have hbl : Op.bytesLess p.toList s.toList = false := by simpa using hle.symm
                  have HF := Lib.hid (HV.out.trans (chkR_3 HSS.out HLL.out ((HG.out.1 (by rw [HNO.out false hbl]; decide)).trans (HNO.out false hbl))))
                  clear HG HHX HNA HNO HO HT HTA hle hbl
                  go_wp2_with fail
                  refine (DNM.out _).mono ?_
                  rintro e w1 ⟨rfl, rfl⟩
                  go_wp2_with fail
                  go_ret
                  exact ⟨ret_int HF.out.symm, X.down HB0.out HS0.out⟩
              · have hbl : Op.bytesLess p.toList s.toList = false := by simpa using hle.symm
                have HF := Lib.hid (HV.out.trans (chkR_3 HSS.out HLL.out ((HG.out.1 (by rw [HNO.out false hbl]; decide)).trans (HNO.out false hbl))))
                clear HG HHX HNA HNO HO HT HTA hle hbl
                go_wp2_with fail
                refine (DNM.out _).mono ?_
                rintro e w1 ⟨rfl, rfl⟩
                go_wp2_with fail
                go_ret
                exact ⟨ret_int HF.out.symm, X.down HB0.out HS0.out⟩
        · have t2 : decide ((k : Int) < (t : Int)) = false := by rw [decide_eq_false_iff_not]; omega
          have t2' : decide (k < t) = false := by simpa using hlt
          have HF := Lib.hid (HV.out.trans (chkR_3 HSS.out HLL.out (firstE_end (by omega) HE.out)))
          clear HE hlt hk HT HTA
          go_wp2_with fail
          go_ret
          exact ⟨ret_int HF.out.symm, X.down HB0.out HS0.out⟩
end Go.Proofs.YtgdepcnfjmobjaaGreat

/- A text of this claim. -/
namespace Go.Proofs.YtgdepcnfjmobjaaGreat
open Go.RowKit Go.BigFrame
open Tr (inR)
end Go.Proofs.YtgdepcnfjmobjaaGreat

/- Scale of the program returns 'Sc.sc'. -/
namespace Go.Proofs.YtgdepcnfjmobjaaGreat
open Go.RowKit Go.BigFrame

def scRet (p : Int × Int) : Ending := .returned (.tuple #[.int .i64 p.1, .int .i64 p.2])
theorem hasRow_new (w : World) (o : Obj) : HasRow ((w.alloc o).alloc (.cells wayRow 95)) (w.heap.size + 1) := by
  intro j hj
  rw [World.cell?_alloc_at _ _ _ _ (by simp)]
  rcases (show j = 0 ∨ j = 1 ∨ j = 2 ∨ j = 3 ∨ j = 4 ∨ j = 5 ∨ j = 6 ∨ j = 7 ∨ j = 8 ∨ j = 9 by omega) with rfl | rfl | rfl | rfl | rfl | rfl | rfl | rfl | rfl | rfl <;> rfl
theorem how_new (w : World) (how : Int) (o : Obj) : ((w.alloc (.cells #[.int .i64 how] 3)).alloc o).cell? ⟨w.heap.size, 0, none⟩ = some (.int .i64 how) := by
  rw [World.cell?_alloc_past _ _ _ (by simp), World.cell?_alloc_at _ _ _ _ rfl]; rfl
theorem below_two (w : World) (o o' : Obj) : Below w.heap.size w ((w.alloc o).alloc o') := ((Below.refl _ _).alloc (Nat.le_refl _) o).alloc (by simp) o'

set_option maxHeartbeats 400000 in
theorem scale_kind (a num den how : Int) (w : World) (h : how < 1 ∨ 5 < how) :
    Calls Tryz.prog 35 #[.int .i64 a, .int .i64 num, .int .i64 den, .int .i64 how] w fun e w' => e = scRet (0, 7) ∧ Below w.heap.size w w' := by
  have hw : wayAt how = -1 := by unfold wayAt; rw [if_neg (by omega)]
  have hmf : ∀ (fn : Fn) (first cap : Array Value) (w : World), (Instr.makeFunc fn first cap).run Tryz.prog w = .ok (.func fn first cap) w := fun _ _ _ _ => rfl
  go_enter Tryz.func35, Tryz.ntmps35
  go_wp2_with fail
  refine (ways_any _).mono ?_
  rintro e w1 ⟨rfl, rfl⟩
  go_wp2_with fail
  refine (index_any _ _ how _ (hasRow_new w _) (how_new w how _) (by simp) (by simp; omega)).mono ?_
  rintro e w1 ⟨rfl, hb⟩
  rw [hw]
  have hb' := (below_two w _ _).trans (hb.mono (by simp; omega))
  clear hb
  go_wp2
  go_ret2
  exact ⟨rfl, hb'⟩
set_option maxHeartbeats 400000 in
theorem scale_arg (a num den how : Int) (w : World) (h1 : 1 ≤ how) (h5 : how ≤ 5) (h : den ≤ 0 ∨ num < 0) :
    Calls Tryz.prog 35 #[.int .i64 a, .int .i64 num, .int .i64 den, .int .i64 how] w fun e w' => e = scRet (0, 1) ∧ Below w.heap.size w w' := by
  have hw : wayAt how = how - 1 := by unfold wayAt; rw [if_pos ⟨h1, h5⟩]
  have hmf : ∀ (fn : Fn) (first cap : Array Value) (w : World), (Instr.makeFunc fn first cap).run Tryz.prog w = .ok (.func fn first cap) w := fun _ _ _ _ => rfl
  have hk : decide (how - 1 < 0) = false := by rw [decide_eq_false_iff_not]; omega
  by_cases hd : den ≤ 0
  all_goals
    go_enter Tryz.func35, Tryz.ntmps35
    go_wp2_with fail
    refine (ways_any _).mono ?_
    rintro e w1 ⟨rfl, rfl⟩
    go_wp2_with fail
    refine (index_any _ _ how _ (hasRow_new w _) (how_new w how _) (by simp) (by simp; omega)).mono ?_
    rintro e w1 ⟨rfl, hb⟩
    rw [hw]
    have hb' := (below_two w _ _).trans (hb.mono (by simp; omega))
    clear hb hw
  · go_wp2
    go_ret2
    exact ⟨rfl, hb'⟩
  · have hd2 : decide (den ≤ 0) = false := by rw [decide_eq_false_iff_not]; omega
    have hn2 : decide (num < 0) = true := by rw [decide_eq_true_eq]; omega
    clear h hd
    go_wp2
    go_ret2
    exact ⟨rfl, hb'⟩

/-- the number without its sign, as the program makes it -/
theorem neg_wrap {a : Int} (h : a < 0) (h1 : -9223372036854775808 ≤ a) : IntKind.u64.wrap (-IntKind.u64.wrap a) = (a.natAbs : Int) := by
  simp only [IntKind.wrap_u64]; omega

theorem fin_ok {a num den how v : Int} {S : Bool} {q r d Q : Nat}
    (h : Sc.sc a num den how = if 4611686018427387904 < Sc.quo how S q r d then (0, 9) else (Sc.sgn S (Sc.quo how S q r d), 0))
    (hQ : Sc.quo how S q r d = Q) (hl : (Q : Int) ≤ 4611686018427387904) (hv : v = Sc.sgn S Q) :
    Ending.returned (.tuple #[.int .i64 v, .int .i64 0]) = scRet (Sc.sc a num den how) := by
  rw [h, hQ, if_neg (by omega), hv]; rfl
theorem fin_big {a num den how : Int} {S : Bool} {q r d Q : Nat}
    (h : Sc.sc a num den how = if 4611686018427387904 < Sc.quo how S q r d then (0, 9) else (Sc.sgn S (Sc.quo how S q r d), 0))
    (hQ : Sc.quo how S q r d = Q) (hl : 4611686018427387904 < (Q : Int)) :
    Ending.returned (.tuple #[.int .i64 0, .int .i64 9]) = scRet (Sc.sc a num den how) := by
  rw [h, hQ, if_pos (by omega)]; rfl
theorem quo_rest0 (how : Int) (S : Bool) (q d : Nat) : Sc.quo how S q 0 d = q := by simp [Sc.quo]
theorem quo_stay {how : Int} {S : Bool} {q r d : Nat} (h : Sc.away how S q r d = false) : Sc.quo how S q r d = q := by simp [Sc.quo, h]
theorem quo_up {how : Int} {S : Bool} {q r d : Nat} (h0 : 0 < r) (h : Sc.away how S q r d = true) : Sc.quo how S q r d = q + 1 := by simp [Sc.quo, h, h0]

set_option maxHeartbeats 2000000 in
set_option maxRecDepth 100000 in
/-- the product's quotient fits one word -/
theorem scale_neg (a how : Int) (num den hi lo q r k A : Nat) (w : World) (hk : Hid (how = (k : Int) + 1)) (hk5 : k < 5) (hd : 1 ≤ den) (hD : (den : Int) ≤ 9223372036854775807) (hM : (num : Int) ≤ 9223372036854775807)
    (hs : a < 0) (_ha1 : -9223372036854775808 ≤ a) (hneg : IntKind.u64.wrap (-IntKind.u64.wrap a) = (A : Int))
    (hhi' : ((A * num / 18446744073709551616 : Nat) : Int) = hi) (hlo' : ((A * num % 18446744073709551616 : Nat) : Int) = lo) (hlt : (hi : Int) < den)
    (hq' : (((hi * 18446744073709551616 + lo) / den : Nat) : Int) = q) (hr' : (((hi * 18446744073709551616 + lo) % den : Nat) : Int) = r) (hr0 : (r : Int) < den) (_hlo2 : (lo : Int) ≤ 18446744073709551615) (hq2 : (q : Int) ≤ 18446744073709551615) (hA : (A : Int) ≤ 9223372036854775808)
    (hfin : Hid (Sc.sc a num den how = if 4611686018427387904 < Sc.quo how true q r den then (0, 9) else (Sc.sgn true (Sc.quo how true q r den), 0))) :
    Calls Tryz.prog 35 #[.int .i64 a, .int .i64 num, .int .i64 den, .int .i64 how] w fun e w' => e = scRet (Sc.sc a num den how) ∧ Below w.heap.size w w' := by
  have hw : wayAt how = (k : Int) := by have := hk.out; unfold wayAt; rw [if_pos (by omega)]; omega
  have hmf : ∀ (fn : Fn) (first cap : Array Value) (w : World), (Instr.makeFunc fn first cap).run Tryz.prog w = .ok (.func fn first cap) w := fun _ _ _ _ => rfl
  have b1 : decide ((den : Int) ≤ 0) = false := by rw [decide_eq_false_iff_not]; omega
  have b2 : decide ((den : Int) ≤ hi) = false := by rw [decide_eq_false_iff_not]; omega
  have hmul := Lib.hid (Go.Proofs.Tryz.bits_Mul64 A num)
  have hdiv := Lib.hid (div64_any hi lo den)
  obtain ⟨f, g0, g1, hcf, hf'⟩ := way_any k hk5
  have hf := Lib.hid hf'
  clear hf'
  unfold fnv at g1
  go_enter Tryz.func35, Tryz.ntmps35
  go_wp2_with fail
  refine (ways_any _).mono ?_
  rintro e w1 ⟨rfl, rfl⟩
  go_wp2_with fail
  refine (index_any _ _ how _ (hasRow_new w _) (how_new w how _) (by simp) (by simp; omega)).mono ?_
  rintro e w1 ⟨rfl, hb⟩
  rw [hw]
  have hrow := (hasRow_new w (.cells #[.int .i64 how] 3)).at hb (by simp)
  have hb' := (below_two w _ _).trans (hb.mono (by simp; omega))
  have hk5i : (k : Int) < 5 := by omega
  have r0 := hrow (k * 2) (by omega)
  have r1 := hrow (k * 2 + 1) (by omega)
  rw [g0] at r0; rw [g1] at r1
  clear hb hw hrow g0 g1
  go_wp2_with fail
  refine (hmul.out (by omega) (by omega) _).mono ?_
  rintro e w2 ⟨rfl, rfl⟩
  rw [hhi', hlo']
  go_wp2_with fail
  refine (hdiv.out _ (by omega) (by omega) (by omega)).mono ?_
  rintro e w3 ⟨rfl, hn⟩
  rw [hq', hr']
  obtain ⟨r0', r1', hb2⟩ : w3.cell? ⟨w.heap.size + 1, k * 2, none⟩ = some (.int .i64 ((k : Int) + 1)) ∧ w3.cell? ⟨w.heap.size + 1, k * 2 + 1, none⟩ = some (.func (.func f) #[] #[]) ∧ Below w.heap.size w w3 := by
    obtain ⟨n, rfl⟩ := hn
    exact ⟨r0, r1, below_drewN hb' n⟩
  have Hb2 := Lib.hid hb2
  clear hn r0 r1 hb' hb2 hmul hdiv hq' hr' hhi' hlo' b2
  by_cases hr1 : r = 0
  · subst hr1
    have hQ := Lib.hid (quo_rest0 how true q den)
    go_wp2_with fail
    go_quiet (fail)
    go_wp2
    all_goals go_ret2
    all_goals refine ⟨?_, below_drewN Hb2.out _⟩
    all_goals first | exact fin_ok hfin.out hQ.out (by assumption) (by simp [Sc.sgn]) | exact fin_big hfin.out hQ.out (by assumption)
  · have c1 : decide ((0 : Int) < (r : Int)) = true := by rw [decide_eq_true_eq]; omega
    have hr1' : 0 < r := by omega
    clear hr1
    by_cases hq3 : q ≤ 4611686018427387904
    · have c2 : decide ((q : Int) ≤ 4611686018427387904) = true := by rw [decide_eq_true_eq]; omega
      have hq3i : (q : Int) ≤ 4611686018427387904 := by omega
      clear hq3
      cases haw : Sc.away how true q r den
      · have hwf : wayF ((k : Int) + 1) true q (cmpF r ((den : Int) - r)) = false := by rw [← hk.out, wayF_away, haw]
        have hQ := Lib.hid (quo_stay haw)
        clear haw
        go_wp2_with fail
        refine wp_region_quiet_lit (by kernel_rfl) (by kernel_rfl) ?_
        repeat (go_big_quiet_step (fail))
        go_big_quiet_want
        go_big_quiet_op
        go_big_quiet_call ((refine (compare_any _ _ _).mono ?_; exact fun _ _ h => ⟨h.1, _, h.2.symm⟩))
        go_big_quiet_want
        go_big_quiet_op
        go_big_quiet_call ((refine (hf.out _ _ _ _ (by omega)).mono ?_; exact fun _ _ h => ⟨h.1, _, h.2.symm⟩))
        repeat (go_big_quiet_step (fail))
        refine wpQuiet_nil ?_
        intro w4 hw4
        obtain ⟨nq, rfl⟩ := hw4
        have c4 : decide (4611686018427387904 < (q : Int)) = false := by rw [decide_eq_false_iff_not]; omega
        clear hk5 hd hr1' hmf hcf hlt
        go_wp2
        go_ret2
        refine ⟨?_, below_drewN Hb2.out _⟩
        exact fin_ok hfin.out hQ.out (by omega) (by simp [Sc.sgn])
      · have hwf : wayF ((k : Int) + 1) true q (cmpF r ((den : Int) - r)) = true := by rw [← hk.out, wayF_away, haw]
        have hQ := Lib.hid (quo_up hr1' haw)
        clear haw
        go_wp2_with fail
        refine wp_region_quiet_lit (by kernel_rfl) (by kernel_rfl) ?_
        repeat (go_big_quiet_step (fail))
        go_big_quiet_want
        go_big_quiet_op
        go_big_quiet_call ((refine (compare_any _ _ _).mono ?_; exact fun _ _ h => ⟨h.1, _, h.2.symm⟩))
        go_big_quiet_want
        go_big_quiet_op
        go_big_quiet_call ((refine (hf.out _ _ _ _ (by omega)).mono ?_; exact fun _ _ h => ⟨h.1, _, h.2.symm⟩))
        repeat (go_big_quiet_step (fail))
        refine wpQuiet_nil ?_
        intro w4 hw4
        obtain ⟨nq, rfl⟩ := hw4
        by_cases hq4 : (q : Int) = 4611686018427387904
        · have c4 : decide (4611686018427387904 < (q : Int) + 1) = true := by rw [decide_eq_true_eq]; omega
          have Hq4 := Lib.hid hq4
          clear hk5 hd hr1' hmf hcf hlt hq4
          go_wp2
          go_ret2
          refine ⟨?_, below_drewN Hb2.out _⟩
          exact fin_big hfin.out hQ.out (by have := Hq4.out; omega)
        · have c4 : decide (4611686018427387904 < (q : Int) + 1) = false := by rw [decide_eq_false_iff_not]; omega
          have hq5 : (q : Int) ≤ 4611686018427387903 := by omega
          clear hk5 hd hr1' hmf hcf hlt hq4 hq3i
          go_wp2
          go_ret2
          refine ⟨?_, below_drewN Hb2.out _⟩
          exact fin_ok hfin.out hQ.out (by omega) (by simp [Sc.sgn]; try omega)
    · have c2 : decide ((q : Int) ≤ 4611686018427387904) = false := by rw [decide_eq_false_iff_not]; omega
      have hq3i : 4611686018427387904 < (q : Int) := by omega
      clear hq3
      go_wp2_with fail
      go_quiet (fail)
      go_wp2
      go_ret2
      refine ⟨?_, below_drewN Hb2.out _⟩
      cases haw : Sc.away how true q r den
      · exact fin_big hfin.out (quo_stay haw) hq3i
      · exact fin_big hfin.out (quo_up hr1' haw) (by omega)
set_option maxHeartbeats 2000000 in
set_option maxRecDepth 100000 in
/-- the product's quotient fits one word -/
theorem scale_pos (how : Int) (num den hi lo q r k A : Nat) (w : World) (hk : Hid (how = (k : Int) + 1)) (hk5 : k < 5) (hd : 1 ≤ den) (hD : (den : Int) ≤ 9223372036854775807) (hM : (num : Int) ≤ 9223372036854775807)
    
    (hhi' : ((A * num / 18446744073709551616 : Nat) : Int) = hi) (hlo' : ((A * num % 18446744073709551616 : Nat) : Int) = lo) (hlt : (hi : Int) < den)
    (hq' : (((hi * 18446744073709551616 + lo) / den : Nat) : Int) = q) (hr' : (((hi * 18446744073709551616 + lo) % den : Nat) : Int) = r) (hr0 : (r : Int) < den) (_hlo2 : (lo : Int) ≤ 18446744073709551615) (hq2 : (q : Int) ≤ 18446744073709551615) (hA : (A : Int) ≤ 9223372036854775807)
    (hfin : Hid (Sc.sc A num den how = if 4611686018427387904 < Sc.quo how false q r den then (0, 9) else (Sc.sgn false (Sc.quo how false q r den), 0))) :
    Calls Tryz.prog 35 #[.int .i64 A, .int .i64 num, .int .i64 den, .int .i64 how] w fun e w' => e = scRet (Sc.sc A num den how) ∧ Below w.heap.size w w' := by
  have hw : wayAt how = (k : Int) := by have := hk.out; unfold wayAt; rw [if_pos (by omega)]; omega
  have hmf : ∀ (fn : Fn) (first cap : Array Value) (w : World), (Instr.makeFunc fn first cap).run Tryz.prog w = .ok (.func fn first cap) w := fun _ _ _ _ => rfl
  have b5 : decide ((A : Int) < 0) = false := by rw [decide_eq_false_iff_not]; omega
  have b1 : decide ((den : Int) ≤ 0) = false := by rw [decide_eq_false_iff_not]; omega
  have b2 : decide ((den : Int) ≤ hi) = false := by rw [decide_eq_false_iff_not]; omega
  have hmul := Lib.hid (Go.Proofs.Tryz.bits_Mul64 A num)
  have hdiv := Lib.hid (div64_any hi lo den)
  obtain ⟨f, g0, g1, hcf, hf'⟩ := way_any k hk5
  have hf := Lib.hid hf'
  clear hf'
  unfold fnv at g1
  go_enter Tryz.func35, Tryz.ntmps35
  go_wp2_with fail
  refine (ways_any _).mono ?_
  rintro e w1 ⟨rfl, rfl⟩
  go_wp2_with fail
  refine (index_any _ _ how _ (hasRow_new w _) (how_new w how _) (by simp) (by simp; omega)).mono ?_
  rintro e w1 ⟨rfl, hb⟩
  rw [hw]
  have hrow := (hasRow_new w (.cells #[.int .i64 how] 3)).at hb (by simp)
  have hb' := (below_two w _ _).trans (hb.mono (by simp; omega))
  have hk5i : (k : Int) < 5 := by omega
  have r0 := hrow (k * 2) (by omega)
  have r1 := hrow (k * 2 + 1) (by omega)
  rw [g0] at r0; rw [g1] at r1
  clear hb hw hrow g0 g1
  go_wp2_with fail
  refine (hmul.out (by omega) (by omega) _).mono ?_
  rintro e w2 ⟨rfl, rfl⟩
  rw [hhi', hlo']
  go_wp2_with fail
  refine (hdiv.out _ (by omega) (by omega) (by omega)).mono ?_
  rintro e w3 ⟨rfl, hn⟩
  rw [hq', hr']
  obtain ⟨r0', r1', hb2⟩ : w3.cell? ⟨w.heap.size + 1, k * 2, none⟩ = some (.int .i64 ((k : Int) + 1)) ∧ w3.cell? ⟨w.heap.size + 1, k * 2 + 1, none⟩ = some (.func (.func f) #[] #[]) ∧ Below w.heap.size w w3 := by
    obtain ⟨n, rfl⟩ := hn
    exact ⟨r0, r1, below_drewN hb' n⟩
  have Hb2 := Lib.hid hb2
  clear hn r0 r1 hb' hb2 hmul hdiv hq' hr' hhi' hlo' b2
  by_cases hr1 : r = 0
  · subst hr1
    have hQ := Lib.hid (quo_rest0 how false q den)
    go_wp2_with fail
    go_quiet (fail)
    go_wp2
    all_goals go_ret2
    all_goals refine ⟨?_, below_drewN Hb2.out _⟩
    all_goals first | exact fin_ok hfin.out hQ.out (by assumption) (by simp [Sc.sgn]) | exact fin_big hfin.out hQ.out (by assumption)
  · have c1 : decide ((0 : Int) < (r : Int)) = true := by rw [decide_eq_true_eq]; omega
    have hr1' : 0 < r := by omega
    clear hr1
    by_cases hq3 : q ≤ 4611686018427387904
    · have c2 : decide ((q : Int) ≤ 4611686018427387904) = true := by rw [decide_eq_true_eq]; omega
      have hq3i : (q : Int) ≤ 4611686018427387904 := by omega
      clear hq3
      cases haw : Sc.away how false q r den
      · have hwf : wayF ((k : Int) + 1) false q (cmpF r ((den : Int) - r)) = false := by rw [← hk.out, wayF_away, haw]
        have hQ := Lib.hid (quo_stay haw)
        clear haw
        go_wp2_with fail
        refine wp_region_quiet_lit (by kernel_rfl) (by kernel_rfl) ?_
        repeat (go_big_quiet_step (fail))
        go_big_quiet_want
        go_big_quiet_op
        go_big_quiet_call ((refine (compare_any _ _ _).mono ?_; exact fun _ _ h => ⟨h.1, _, h.2.symm⟩))
        go_big_quiet_want
        go_big_quiet_op
        go_big_quiet_call ((refine (hf.out _ _ _ _ (by omega)).mono ?_; exact fun _ _ h => ⟨h.1, _, h.2.symm⟩))
        repeat (go_big_quiet_step (fail))
        refine wpQuiet_nil ?_
        intro w4 hw4
        obtain ⟨nq, rfl⟩ := hw4
        have c4 : decide (4611686018427387904 < (q : Int)) = false := by rw [decide_eq_false_iff_not]; omega
        clear hk5 hd hr1' hmf hcf hlt
        go_wp2
        go_ret2
        refine ⟨?_, below_drewN Hb2.out _⟩
        exact fin_ok hfin.out hQ.out (by omega) (by simp [Sc.sgn])
      · have hwf : wayF ((k : Int) + 1) false q (cmpF r ((den : Int) - r)) = true := by rw [← hk.out, wayF_away, haw]
        have hQ := Lib.hid (quo_up hr1' haw)
        clear haw
        go_wp2_with fail
        refine wp_region_quiet_lit (by kernel_rfl) (by kernel_rfl) ?_
        repeat (go_big_quiet_step (fail))
        go_big_quiet_want
        go_big_quiet_op
        go_big_quiet_call ((refine (compare_any _ _ _).mono ?_; exact fun _ _ h => ⟨h.1, _, h.2.symm⟩))
        go_big_quiet_want
        go_big_quiet_op
        go_big_quiet_call ((refine (hf.out _ _ _ _ (by omega)).mono ?_; exact fun _ _ h => ⟨h.1, _, h.2.symm⟩))
        repeat (go_big_quiet_step (fail))
        refine wpQuiet_nil ?_
        intro w4 hw4
        obtain ⟨nq, rfl⟩ := hw4
        by_cases hq4 : (q : Int) = 4611686018427387904
        · have c4 : decide (4611686018427387904 < (q : Int) + 1) = true := by rw [decide_eq_true_eq]; omega
          have Hq4 := Lib.hid hq4
          clear hk5 hd hr1' hmf hcf hlt hq4
          go_wp2
          go_ret2
          refine ⟨?_, below_drewN Hb2.out _⟩
          exact fin_big hfin.out hQ.out (by have := Hq4.out; omega)
        · have c4 : decide (4611686018427387904 < (q : Int) + 1) = false := by rw [decide_eq_false_iff_not]; omega
          have hq5 : (q : Int) ≤ 4611686018427387903 := by omega
          clear hk5 hd hr1' hmf hcf hlt hq4 hq3i
          go_wp2
          go_ret2
          refine ⟨?_, below_drewN Hb2.out _⟩
          exact fin_ok hfin.out hQ.out (by omega) (by simp [Sc.sgn]; try omega)
    · have c2 : decide ((q : Int) ≤ 4611686018427387904) = false := by rw [decide_eq_false_iff_not]; omega
      have hq3i : 4611686018427387904 < (q : Int) := by omega
      clear hq3
      go_wp2_with fail
      go_quiet (fail)
      go_wp2
      go_ret2
      refine ⟨?_, below_drewN Hb2.out _⟩
      cases haw : Sc.away how false q r den
      · exact fin_big hfin.out (quo_stay haw) hq3i
      · exact fin_big hfin.out (quo_up hr1' haw) (by omega)
end Go.Proofs.YtgdepcnfjmobjaaGreat

/- Scale and Div of the program and of the reference: all return 'Sc.sc'. -/
namespace Go.Proofs.YtgdepcnfjmobjaaGreat
open Go.RowKit Go.BigFrame

theorem word_split (n : Nat) : n / 18446744073709551616 * 18446744073709551616 + n % 18446744073709551616 = n := by omega

theorem scale_high_neg (a how : Int) (num den hi k A : Nat) (w : World) (hk : Hid (how = (k : Int) + 1)) (hk5 : k < 5) (hd : 1 ≤ den) (hD : (den : Int) ≤ 9223372036854775807) (hM : (num : Int) ≤ 9223372036854775807)
    (hs : a < 0) (hneg : IntKind.u64.wrap (-IntKind.u64.wrap a) = (A : Int)) (hA : (A : Int) ≤ 9223372036854775808)
    (hhi' : ((A * num / 18446744073709551616 : Nat) : Int) = hi) (hle : (den : Int) ≤ hi) :
    Calls Tryz.prog 35 #[.int .i64 a, .int .i64 num, .int .i64 den, .int .i64 how] w fun e w' => e = scRet (0, 9) ∧ Below w.heap.size w w' := by
  have hw : wayAt how = (k : Int) := by have := hk.out; unfold wayAt; rw [if_pos (by omega)]; omega
  have hmf : ∀ (fn : Fn) (first cap : Array Value) (w : World), (Instr.makeFunc fn first cap).run Tryz.prog w = .ok (.func fn first cap) w := fun _ _ _ _ => rfl
  have b1 : decide ((den : Int) ≤ 0) = false := by rw [decide_eq_false_iff_not]; omega
  have b2 : decide ((den : Int) ≤ hi) = true := by rw [decide_eq_true_eq]; omega
  have hmul := Lib.hid (Go.Proofs.Tryz.bits_Mul64 A num)
  go_enter Tryz.func35, Tryz.ntmps35
  go_wp2_with fail
  refine (ways_any _).mono ?_
  rintro e w1 ⟨rfl, rfl⟩
  go_wp2_with fail
  refine (index_any _ _ how _ (hasRow_new w _) (how_new w how _) (by simp) (by simp; omega)).mono ?_
  rintro e w1 ⟨rfl, hb⟩
  rw [hw]
  have hb' := (below_two w _ _).trans (hb.mono (by simp; omega))
  have hk5i : (k : Int) < 5 := by omega
  clear hb hw
  go_wp2_with fail
  refine (hmul.out (by omega) (by omega) _).mono ?_
  rintro e w2 ⟨rfl, rfl⟩
  rw [hhi']
  go_wp2
  go_ret2
  exact ⟨rfl, hb'⟩
theorem scale_high_pos (how : Int) (num den hi k A : Nat) (w : World) (hk : Hid (how = (k : Int) + 1)) (hk5 : k < 5) (hd : 1 ≤ den) (hD : (den : Int) ≤ 9223372036854775807) (hM : (num : Int) ≤ 9223372036854775807)
    (hA : (A : Int) ≤ 9223372036854775807)
    (hhi' : ((A * num / 18446744073709551616 : Nat) : Int) = hi) (hle : (den : Int) ≤ hi) :
    Calls Tryz.prog 35 #[.int .i64 A, .int .i64 num, .int .i64 den, .int .i64 how] w fun e w' => e = scRet (0, 9) ∧ Below w.heap.size w w' := by
  have hw : wayAt how = (k : Int) := by have := hk.out; unfold wayAt; rw [if_pos (by omega)]; omega
  have hmf : ∀ (fn : Fn) (first cap : Array Value) (w : World), (Instr.makeFunc fn first cap).run Tryz.prog w = .ok (.func fn first cap) w := fun _ _ _ _ => rfl
  have b5 : decide ((A : Int) < 0) = false := by rw [decide_eq_false_iff_not]; omega
  have b1 : decide ((den : Int) ≤ 0) = false := by rw [decide_eq_false_iff_not]; omega
  have b2 : decide ((den : Int) ≤ hi) = true := by rw [decide_eq_true_eq]; omega
  have hmul := Lib.hid (Go.Proofs.Tryz.bits_Mul64 A num)
  go_enter Tryz.func35, Tryz.ntmps35
  go_wp2_with fail
  refine (ways_any _).mono ?_
  rintro e w1 ⟨rfl, rfl⟩
  go_wp2_with fail
  refine (index_any _ _ how _ (hasRow_new w _) (how_new w how _) (by simp) (by simp; omega)).mono ?_
  rintro e w1 ⟨rfl, hb⟩
  rw [hw]
  have hb' := (below_two w _ _).trans (hb.mono (by simp; omega))
  have hk5i : (k : Int) < 5 := by omega
  clear hb hw
  go_wp2_with fail
  refine (hmul.out (by omega) (by omega) _).mono ?_
  rintro e w2 ⟨rfl, rfl⟩
  rw [hhi']
  go_wp2
  go_ret2
  exact ⟨rfl, hb'⟩

/-- the program's Scale -/
theorem scale_any (a num den how : Int) (w : World) (ha1 : -9223372036854775808 ≤ a) (ha2 : a ≤ 9223372036854775807) (hn : num ≤ 9223372036854775807) (hd : den ≤ 9223372036854775807) :
    Calls Tryz.prog 35 #[.int .i64 a, .int .i64 num, .int .i64 den, .int .i64 how] w fun e w' => e = scRet (Sc.sc a num den how) ∧ Below w.heap.size w w' := by
  by_cases h1 : how < 1 ∨ 5 < how
  · rw [Sc.sc_kind _ _ _ _ h1]; exact scale_kind a num den how w h1
  by_cases h2 : den ≤ 0 ∨ num < 0
  · rw [Sc.sc_arg _ _ _ _ (by omega) (by omega) h2]; exact scale_arg a num den how w (by omega) (by omega) h2
  obtain ⟨num, rfl⟩ := Int.eq_ofNat_of_zero_le (show 0 ≤ num by omega)
  obtain ⟨den, rfl⟩ := Int.eq_ofNat_of_zero_le (show 0 ≤ den by omega)
  obtain ⟨k, hk⟩ : ∃ k : Nat, how = (k : Int) + 1 := ⟨(how - 1).toNat, by omega⟩
  have hk5 : k < 5 := by omega
  obtain ⟨N, hN⟩ : ∃ N, N = a.natAbs * num := ⟨_, rfl⟩
  have hN2 : N ≤ 9223372036854775808 * 9223372036854775807 := by rw [hN]; exact Nat.mul_le_mul (by omega) (by omega)
  by_cases h3 : den ≤ a.natAbs * num / 18446744073709551616
  · rw [Sc.sc_high a how num den (by omega) (by omega) (by omega) h3]
    by_cases h4 : a < 0
    · exact scale_high_neg a how num den _ k a.natAbs w (Lib.hid hk) hk5 (by omega) hd hn h4 (neg_wrap h4 ha1) (by omega) rfl (by omega)
    · obtain ⟨A, rfl⟩ := Int.eq_ofNat_of_zero_le (show 0 ≤ a by omega)
      rw [Int.natAbs_natCast] at h3
      exact scale_high_pos how num den _ k A w (Lib.hid hk) hk5 (by omega) hd hn ha2 rfl (by omega)
  · have hfin := Sc.sc_of a how num den (by omega) (by omega) (by omega) (by omega)
    rw [← hN] at hfin h3
    have hr := Nat.mod_lt N (show 0 < den by omega)
    have hq : N / den < 18446744073709551616 := by
      rw [Nat.div_lt_iff_lt_mul (by omega)]
      omega
    have hlo := Nat.mod_lt N (show 0 < 18446744073709551616 by omega)
    by_cases h4 : a < 0
    · rw [show decide (a < 0) = true by simpa using h4] at hfin
      refine scale_neg a how num den (N / 18446744073709551616) (N % 18446744073709551616) (N / den) (N % den) k a.natAbs w (Lib.hid hk) hk5 (by omega) hd hn h4 ha1 (neg_wrap h4 ha1) (by rw [← hN]) (by rw [← hN]) (by omega) (by rw [word_split]) (by rw [word_split]) (by omega) (by omega) (by omega) (by omega) (Lib.hid hfin)
    · obtain ⟨A, rfl⟩ := Int.eq_ofNat_of_zero_le (show 0 ≤ a by omega)
      rw [show decide ((A : Int) < 0) = false by rw [decide_eq_false_iff_not]; exact h4] at hfin
      rw [Int.natAbs_natCast] at hN
      refine scale_pos how num den (N / 18446744073709551616) (N % 18446744073709551616) (N / den) (N % den) k A w (Lib.hid hk) hk5 (by omega) hd hn (by rw [← hN]) (by rw [← hN]) (by omega) (by rw [word_split]) (by rw [word_split]) (by omega) (by omega) (by omega) (by omega) (Lib.hid hfin)

theorem div_any (a den how : Int) (w : World) (ha1 : -9223372036854775808 ≤ a) (ha2 : a ≤ 9223372036854775807) (hd : den ≤ 9223372036854775807) :
    Calls Tryz.prog 17 #[.int .i64 a, .int .i64 den, .int .i64 how] w fun e w' => e = scRet (Sc.sc a 1 den how) ∧ Below w.heap.size w w' := by
  have h := Lib.hid (scale_any a 1 den how w ha1 ha2 (by omega) hd)
  go_enter Tryz.func17, Tryz.ntmps17
  go_wp2_with fail
  refine h.out.mono ?_
  rintro e w1 ⟨rfl, hb⟩
  unfold scRet
  go_wp2
  go_ret2
  exact ⟨rfl, hb⟩
end Go.Proofs.YtgdepcnfjmobjaaGreat

/- A text of this claim. -/
namespace Go.Proofs.YtgdepcnfjmobjaaGreat
open Go.RowKit Go.BigFrame
end Go.Proofs.YtgdepcnfjmobjaaGreat

/- A text of this claim. -/
namespace Go.Proofs.YtgdepcnfjmobjaaGreat
open Go.RowKit Go.BigFrame
open Tr (inR)
theorem cmpI_lt (x y : Int) : decide (Lib.compareInt x y < 0) = decide (x < y) := by
 unfold Lib.compareInt
 by_cases h : x < y
 · rw [if_pos h, decide_eq_true h]; rfl
 · rw [if_neg h, decide_eq_false h]
   split <;> rfl
theorem cmpI_eq (x y : Int) : (Lib.compareInt x y == 0) = decide (x = y) := by
 unfold Lib.compareInt
 by_cases h : x < y
 · rw [if_pos h, decide_eq_false (by omega)]; rfl
 · rw [if_neg h]
   by_cases h2 : x > y
   · rw [if_pos h2, decide_eq_false (by omega)]; rfl
   · rw [if_neg h2, decide_eq_true (by omega)]; rfl
theorem whereCmp_any (s : Sm) (n : Int) (w : World) : Calls Tryz.prog 147 #[smV s, .int .i64 n] w fun e w' => e = .returned (.int .i64 (Lib.compareInt s.tm n)) ∧ Below w.heap.size w w' := by
 have D := Lib.hid (fun W => Tryz.cmp_Compare_int s.tm n W)
 unfold smV
 generalize Lib.compareInt s.tm n = r at *
 go_enter Tryz.func147, Tryz.ntmps147
 go_wp2_with fail
 refine (D.out _).mono ?_
 rintro e w1 ⟨rfl, hw⟩
 have HB := Lib.hid (show Below w.heap.size w w1 from hw ▸ below_al w _)
 clear hw
 go_wp2_with fail
 go_ret
 exact ⟨rfl, HB.out⟩
def foundS (l : List Sm) (n : Int) : Bool := match l[lbS l n]? with
 | some s => decide (s.tm = n)
 | none => false
set_option maxHeartbeats 4000000 in
set_option maxRecDepth 100000 in
theorem searchS_any (a : Option Addr) (l : List Sm) (c : Nat) (x start : Int) (w : World) (hr : Rw smC 7 w a l) (ho : SmOk start l) (hl : l.length ≤ 20000) :
 Calls Tryz.prog 146 #[.slice a l.length c, .int .i64 x, .func (.func 147) #[] #[]] w fun e w' => e = .returned (.tuple #[.int .i64 (lbS l x), .bool (foundS l x)]) ∧ Below w.heap.size w w' := by
 have HR := Lib.hid hr
 have HO := Lib.hid ho
 have DZ := Lib.hid (fun (s : Sm) (W : World) => whereCmp_any s x W)
 have crun : ∀ (args : Array Value) (W : World), Sem.run Tryz.prog (callFunc 147 args) W = .ok (.enter 147 args) W := fun _ _ => by kernel_rfl
 obtain ⟨n, hn⟩ : ∃ n, l.length = n := ⟨_, rfl⟩
 have HN := Lib.hid hn
 rw [hn] at hl ⊢
 clear hr ho hn
 unfold smV at DZ
 go_enter Tryz.func146, Tryz.ntmps146
 go_wp2_with fail
 go_loopw [9, 10] (fun iv jv wr => ∃ (i j : Nat), iv = .int .i64 i ∧ jv = .int .i64 j ∧ i ≤ j ∧ j ≤ n ∧ Hid ((∀ s : Sm, 0 < i → l[i - 1]? = some s → s.tm < x) ∧ (∀ s : Sm, l[j]? = some s → x ≤ s.tm)) ∧ ∃ X : Ext w, wr = X.1) (fun iv jv _ => (intOf jv).toNat - (intOf iv).toNat)
 case atStart => exact ⟨0, n, rfl, rfl, by omega, by omega, Lib.hid ⟨fun s h => by omega, fun s h => by rw [List.getElem?_eq_none (by rw [HN.out]; exact Nat.le_refl _)] at h; cases h⟩, ⟨w, Below.refl _ _⟩, rfl⟩
 case round =>
  obtain ⟨i, j, rfl, rfl, hij, hj, HE, X, rfl⟩ := hrel
  by_cases hlt : i < j
  · have t1 : decide ((i : Int) < (j : Int)) = true := by rw [decide_eq_true_eq]; omega
    have t1' : decide (i < j) = true := by simpa using hlt
    obtain ⟨k, hk⟩ : ∃ k : Nat, (i + j) / 2 = k := ⟨_, rfl⟩
    have ek : ((i : Int) + (j : Int)) / 2 = (k : Int) := by omega
    have hki : i ≤ k := by omega
    have hkj : k < j := by omega
    have hkn : k < n := by omega
    have hb1 : (i : Int) ≤ 20000 := by omega
    have hb2 : (j : Int) ≤ 20000 := by omega
    have hb3 : (k : Int) ≤ 20000 := by omega
    obtain ⟨s, hx⟩ : ∃ s, l[k]? = some s := ⟨_, List.getElem?_eq_getElem (by rw [HN.out]; exact hkn)⟩
    have HX := Lib.hid (HR.out.below X.2)
    obtain ⟨ba, oa, rfl, hba, hc⟩ := HX.out.at hx
    have c0 : X.1.cell? ⟨ba, oa + k * 7, none⟩ = some (.int .i64 s.tm) := hc 0 _ rfl
    have c1 := hc 1 _ rfl
    have c2 := hc 2 _ rfl
    have c3 := hc 3 _ rfl
    have c4 := hc 4 _ rfl
    have c5 := hc 5 _ rfl
    have c6 := hc 6 _ rfl
    have D := Lib.hid (DZ.out s)
    have t3 := cmpI_lt s.tm x
    have HHX := Lib.hid hx
    generalize Lib.compareInt s.tm x = cv at D t3
    clear hk hc hx
    by_cases hs : s.tm < x
    · rw [decide_eq_true hs] at t3
      have HH := Lib.hid (show (∀ z : Sm, 0 < k + 1 → l[k + 1 - 1]? = some z → z.tm < x) ∧ (∀ z : Sm, l[j]? = some z → x ≤ z.tm) from ⟨fun z _ hz => by
       rw [Nat.add_sub_cancel, HHX.out] at hz
       injection hz with hz
       subst hz
       exact hs, HE.out.2⟩)
      clear hs HE
      go_wp2_with fail
      refine (D.out _).mono ?_
      rintro e w1 ⟨rfl, hb⟩
      obtain ⟨Z, rfl⟩ : ∃ Z : Ext w, w1 = Z.1 := ⟨⟨w1, below_step X.2 hb⟩, rfl⟩
      clear hb
      go_wp2_with fail
      go_roundw
      case rel => exact ⟨k + 1, j, by go_num, rfl, by omega, hj, HH, Z, rfl⟩
      case measure => simp [intOf]; omega
    · rw [decide_eq_false hs] at t3
      have HH := Lib.hid (show (∀ z : Sm, 0 < i → l[i - 1]? = some z → z.tm < x) ∧ (∀ z : Sm, l[k]? = some z → x ≤ z.tm) from ⟨HE.out.1, fun z hz => by
       rw [HHX.out] at hz
       injection hz with hz
       subst hz
       omega⟩)
      clear hs HE
      go_wp2_with fail
      refine (D.out _).mono ?_
      rintro e w1 ⟨rfl, hb⟩
      obtain ⟨Z, rfl⟩ : ∃ Z : Ext w, w1 = Z.1 := ⟨⟨w1, below_step X.2 hb⟩, rfl⟩
      clear hb
      go_wp2_with fail
      go_roundw
      case rel => exact ⟨i, k, rfl, rfl, hki, by omega, HH, Z, rfl⟩
      case measure => simp [intOf]; omega
  · have t1 : decide ((i : Int) < (j : Int)) = false := by rw [decide_eq_false_iff_not]; omega
    have t1' : decide (i < j) = false := by simpa using hlt
    obtain rfl : i = j := by omega
    have HL := Lib.hid (lbS_halved HO.out (by rw [HN.out]; exact hj) HE.out.1 HE.out.2)
    clear HE hlt hij
    by_cases hin : i < n
    · have t2 : decide ((i : Int) < (n : Int)) = true := by rw [decide_eq_true_eq]; omega
      have t2' : decide (i < n) = true := by simpa using hin
      obtain ⟨s, hx⟩ : ∃ s, l[i]? = some s := ⟨_, List.getElem?_eq_getElem (by rw [HN.out]; exact hin)⟩
      have HX := Lib.hid (HR.out.below X.2)
      obtain ⟨ba, oa, rfl, hba, hc⟩ := HX.out.at hx
      have c0 : X.1.cell? ⟨ba, oa + i * 7, none⟩ = some (.int .i64 s.tm) := hc 0 _ rfl
      have c1 := hc 1 _ rfl
      have c2 := hc 2 _ rfl
      have c3 := hc 3 _ rfl
      have c4 := hc 4 _ rfl
      have c5 := hc 5 _ rfl
      have c6 := hc 6 _ rfl
      have D := Lib.hid (DZ.out s)
      have t3 := cmpI_eq s.tm x
      have HF := Lib.hid (show foundS l x = decide (s.tm = x) by unfold foundS; rw [HL.out, hx])
      generalize Lib.compareInt s.tm x = cv at D t3
      generalize decide (s.tm = x) = bf at t3 HF
      clear hc hx
      go_wp2_with fail
      refine (D.out _).mono ?_
      rintro e w1 ⟨rfl, hb⟩
      have HB := Lib.hid (below_step X.2 hb)
      clear hb
      go_wp2_with fail
      go_ret2
      exact ⟨by rw [HL.out, HF.out]; rfl, HB.out⟩
    · have t2 : decide ((i : Int) < (n : Int)) = false := by rw [decide_eq_false_iff_not]; omega
      have t2' : decide (i < n) = false := by simpa using hin
      have HF := Lib.hid (show foundS l x = false by unfold foundS; rw [HL.out, List.getElem?_eq_none (by rw [HN.out]; omega)])
      have HX := Lib.hid X.2
      clear hin
      go_wp2_with fail
      go_ret2
      exact ⟨by rw [HL.out, HF.out]; rfl, HX.out⟩
theorem sc_near {a num den : Int} (ha : -200000000 ≤ a) (ha' : a ≤ 200000000) (hn : 0 ≤ num) (hd : num ≤ den) (hd1 : 1 ≤ den) (hd2 : den ≤ 1000000) : -200000001 ≤ (Sc.sc a num den 4).1 ∧ (Sc.sc a num den 4).1 ≤ 200000001 := by
 have hna : a.natAbs ≤ 200000000 := by omega
 have hnn : num.toNat ≤ den.toNat := by omega
 have hdn : den.toNat ≤ 1000000 := by omega
 have hmul : a.natAbs * num.toNat ≤ a.natAbs * den.toNat := Nat.mul_le_mul_left _ hnn
 have hbig : a.natAbs * num.toNat ≤ 200000000 * 1000000 := Nat.mul_le_mul hna (Nat.le_trans hnn hdn)
 rw [Sc.sc_small a num den 4 (by decide) (by decide) hd1 hn (Nat.lt_of_le_of_lt hbig (by decide))]
 have hq : a.natAbs * num.toNat / den.toNat ≤ a.natAbs := by
  have h1 : a.natAbs * num.toNat / den.toNat ≤ a.natAbs * den.toNat / den.toNat := Nat.div_le_div_right hmul
  rwa [Nat.mul_div_cancel _ (by omega)] at h1
 generalize a.natAbs * num.toNat / den.toNat = q at hq
 have hQ : ∀ b r d, Sc.quo 4 b q r d ≤ q + 1 := fun b r d => by
  unfold Sc.quo
  split <;> omega
 have := hQ (decide (a < 0)) (a.natAbs * num.toNat % den.toNat) den.toNat
 generalize Sc.quo 4 (decide (a < 0)) q (a.natAbs * num.toNat % den.toNat) den.toNat = Q at this
 unfold Sc.sgn
 split <;> simp only <;> omega
set_option maxHeartbeats 1000000 in
theorem between_any (p q part whole : Int) (w : World) (hp : -100000000 ≤ p ∧ p ≤ 100000000) (hq : -100000000 ≤ q ∧ q ≤ 100000000) (h0 : 0 ≤ part) (h1 : part ≤ whole) (h2 : 1 ≤ whole) (h3 : whole ≤ 1000000) :
 Calls Tryz.prog 117 #[.int .i64 p, .int .i64 q, .int .i64 part, .int .i64 whole] w fun e w' => e = .returned (.int .i64 (betw p q part whole)) ∧ Below w.heap.size w w' := by
 have D := Lib.hid (fun W => scale_any (q - p) part whole 4 W (by omega) (by omega) (by omega) (by omega))
 have hn := sc_near (a := q - p) (num := part) (den := whole) (by omega) (by omega) h0 h1 h2 h3
 unfold betw
 unfold scRet at D
 generalize Sc.sc (q - p) part whole 4 = r at *
 obtain ⟨r1, r2⟩ := r
 simp only at *
 obtain ⟨hn1, hn2⟩ := hn
 obtain ⟨hp1, hp2⟩ := hp
 obtain ⟨hq1, hq2⟩ := hq
 clear h0 h1 h2 h3
 go_enter Tryz.func117, Tryz.ntmps117
 go_wp2_with fail
 refine (D.out _).mono ?_
 rintro e w1 ⟨rfl, hb⟩
 have HB := Lib.hid hb
 clear hb D
 go_wp2_with fail
 go_ret
 exact ⟨rfl, HB.out⟩
end Go.Proofs.YtgdepcnfjmobjaaGreat

/- A text of this claim. -/
namespace Go.Proofs.YtgdepcnfjmobjaaGreat
open Go.RowKit Go.BigFrame
open Tr (inR)
def SmB (w : World) (g : Nat) (s : Sm) : Prop := w.heap[g]? = some (.cells #[.int .i64 s.tm, .int .i64 s.x, .int .i64 s.y, .int .i64 s.z, .int .i64 s.pu, .int .i64 s.po, .int .i64 s.st] 54 (0, 0))
theorem SmB.cell {w : World} {g : Nat} {s : Sm} (h : SmB w g s) : w.cell? ⟨g, 0, none⟩ = some (.int .i64 s.tm) ∧ w.cell? ⟨g, 1, none⟩ = some (.int .i64 s.x) ∧ w.cell? ⟨g, 2, none⟩ = some (.int .i64 s.y) ∧ w.cell? ⟨g, 3, none⟩ = some (.int .i64 s.z) ∧ w.cell? ⟨g, 4, none⟩ = some (.int .i64 s.pu) ∧ w.cell? ⟨g, 5, none⟩ = some (.int .i64 s.po) ∧ w.cell? ⟨g, 6, none⟩ = some (.int .i64 s.st) := by
 unfold SmB at h
 simp [World.cell?, h]
theorem SmB.free {w : World} {g : Nat} {s : Sm} (h : SmB w g s) (i : Nat) : w.frozen? ⟨g, i, none⟩ = false := by
 unfold SmB at h
 simp [World.frozen?, h]
theorem SmB.lt {w : World} {g : Nat} {s : Sm} (h : SmB w g s) : g < w.heap.size := lt_of_block h
theorem SmB.below {w w' : World} {g : Nat} {s : Sm} (h : SmB w g s) (hb : Below w.heap.size w w') : SmB w' g s := (hb.block g h.lt).trans h
theorem SmB.kept {O : Nat → Prop} {w w' : World} {g : Nat} {s : Sm} (h : SmB w g s) (hk : Kept O w w') (ho : ¬ O g) : SmB w' g s := (hk.block g h.lt ho).trans h
theorem set_cells {w : World} {b i : Nat} {cs : Array Value} {T : TypeId} {fz : Nat × Nat} {v : Value} (h : w.heap[b]? = some (.cells cs T fz)) : (w.setCell ⟨b, i, none⟩ v).heap[b]? = some (.cells (cs.setIfInBounds i v) T fz) := by
 simp [World.setCell, Array.getElem?_modify, h]
theorem keep_set {O : Nat → Prop} {a : World} {b i : Nat} {v : Value} (ho : O b) : Kept O a (a.setCell ⟨b, i, none⟩ v) := by
 refine ⟨rfl, rfl, rfl, Nat.le_of_eq (by simp [World.setCell]), fun k _ hn => Below.heap_setCell a ⟨b, i, none⟩ v k (fun e => hn (e ▸ ho))⟩
theorem SmB.set0 {w : World} {g : Nat} {s : Sm} (h : SmB w g s) (v : Int) : SmB (w.setCell ⟨g, 0, none⟩ (.int .i64 v)) g { s with tm := v } := set_cells h
theorem SmB.set1 {w : World} {g : Nat} {s : Sm} (h : SmB w g s) (v : Int) : SmB (w.setCell ⟨g, 1, none⟩ (.int .i64 v)) g { s with x := v } := set_cells h
theorem SmB.set2 {w : World} {g : Nat} {s : Sm} (h : SmB w g s) (v : Int) : SmB (w.setCell ⟨g, 2, none⟩ (.int .i64 v)) g { s with y := v } := set_cells h
theorem SmB.set3 {w : World} {g : Nat} {s : Sm} (h : SmB w g s) (v : Int) : SmB (w.setCell ⟨g, 3, none⟩ (.int .i64 v)) g { s with z := v } := set_cells h
theorem SmB.set4 {w : World} {g : Nat} {s : Sm} (h : SmB w g s) (v : Int) : SmB (w.setCell ⟨g, 4, none⟩ (.int .i64 v)) g { s with pu := v } := set_cells h
theorem SmB.set5 {w : World} {g : Nat} {s : Sm} (h : SmB w g s) (v : Int) : SmB (w.setCell ⟨g, 5, none⟩ (.int .i64 v)) g { s with po := v } := set_cells h
theorem SmB.set6 {w : World} {g : Nat} {s : Sm} (h : SmB w g s) (v : Int) : SmB (w.setCell ⟨g, 6, none⟩ (.int .i64 v)) g { s with st := v } := set_cells h
theorem SmB.store {w : World} {g : Nat} {s : Sm} (h : SmB w g s) (u : Sm) : ∃ W, (((((((w.setCell ⟨g, 0, none⟩ (.int .i64 u.tm)).setCell ⟨g, 1, none⟩ (.int .i64 u.x)).setCell ⟨g, 2, none⟩ (.int .i64 u.y)).setCell ⟨g, 3, none⟩ (.int .i64 u.z)).setCell ⟨g, 4, none⟩ (.int .i64 u.pu)).setCell ⟨g, 5, none⟩ (.int .i64 u.po)).setCell ⟨g, 6, none⟩ (.int .i64 u.st)) = W ∧ SmB W g u ∧ ∀ O : Nat → Prop, O g → Kept O w W :=
 ⟨_, rfl, (((((((h.set0 u.tm).set1 u.x).set2 u.y).set3 u.z).set4 u.pu).set5 u.po).set6 u.st), fun _ ho => ((((((keep_set ho).trans (keep_set ho)).trans (keep_set ho)).trans (keep_set ho)).trans (keep_set ho)).trans (keep_set ho)).trans (keep_set ho)⟩
theorem alloc_sm (w : World) (s : Sm) : ∃ W, w.alloc (.cells #[.int .i64 s.tm, .int .i64 s.x, .int .i64 s.y, .int .i64 s.z, .int .i64 s.pu, .int .i64 s.po, .int .i64 s.st] 54) = W ∧ Below w.heap.size w W ∧ W.heap.size = w.heap.size + 1 ∧ SmB W w.heap.size s :=
 ⟨_, rfl, below_al _ _, by simp, heap_alloc_new w _⟩
theorem smSize : Hid ((Tryz.prog.info? 54).map (·.size) = some 7) := Lib.hid (by kernel_rfl)
structure Btw (p q : Sm) (n : Int) : Prop where
 rp : rangeS p = true
 rq : rangeS q = true
 h0 : p.tm ≤ n
 h1 : n ≤ q.tm
 h2 : p.tm < q.tm
 h3 : 0 ≤ p.tm
 h4 : q.tm ≤ 1000000
theorem range_xyz {s : Sm} (h : rangeS s = true) : (-100000000 ≤ s.x ∧ s.x ≤ 100000000) ∧ (-100000000 ≤ s.y ∧ s.y ≤ 100000000) ∧ (-100000000 ≤ s.z ∧ s.z ≤ 100000000) := by
 unfold rangeS at h
 simp only [Bool.and_eq_true, inR_iff] at h
 omega
set_option maxHeartbeats 8000000 in
set_option maxRecDepth 100000 in
theorem amid_any (p q : Sm) (n : Int) (w : World) (h : Btw p q n) : Calls Tryz.prog 148 #[smV p, smV q, .int .i64 n] w fun e w' => e = .returned (smV (amidS p q n)) ∧ Below w.heap.size w w' := by
 obtain ⟨px, py, pz⟩ := range_xyz h.rp
 obtain ⟨qx, qy, qz⟩ := range_xyz h.rq
 have hb := h.h0
 have hc := h.h1
 have hd := h.h2
 have he := h.h3
 have hf := h.h4
 have DX := Lib.hid (fun W => between_any p.x q.x (n - p.tm) (q.tm - p.tm) W px qx (by omega) (by omega) (by omega) (by omega))
 have DY := Lib.hid (fun W => between_any p.y q.y (n - p.tm) (q.tm - p.tm) W py qy (by omega) (by omega) (by omega) (by omega))
 have DZ := Lib.hid (fun W => between_any p.z q.z (n - p.tm) (q.tm - p.tm) W pz qz (by omega) (by omega) (by omega) (by omega))
 obtain ⟨tx, htx⟩ : ∃ t, betw p.x q.x (n - p.tm) (q.tm - p.tm) = t := ⟨_, rfl⟩
 obtain ⟨ty, hty⟩ : ∃ t, betw p.y q.y (n - p.tm) (q.tm - p.tm) = t := ⟨_, rfl⟩
 obtain ⟨tz, htz⟩ : ∃ t, betw p.z q.z (n - p.tm) (q.tm - p.tm) = t := ⟨_, rfl⟩
 have HV : Hid (amidS p q n = ⟨n, tx, ty, tz, p.pu, p.po, p.st⟩) := Lib.hid (by unfold amidS; rw [htx, hty, htz])
 rw [HV.out]
 rw [htx] at DX
 rw [hty] at DY
 rw [htz] at DZ
 have HI := smSize
 obtain ⟨V0, hV0, hb0, hs0, hl0⟩ := alloc_sm w p
 obtain ⟨V1, hV1, hb1, hs1, hl1⟩ := alloc_sm V0 q
 obtain ⟨V2, hV2, hb2, hs2, hl2⟩ := alloc_sm V1 sm0
 rw [hs0] at hl1
 rw [hs1, hs0] at hl2
 unfold sm0 at hV2
 have HP := Lib.hid ((hl0.below hb1).below hb2)
 have HQ := Lib.hid (hl1.below hb2)
 have HR := Lib.hid hl2
 have HV0 := Lib.hid hV0
 have HV1 := Lib.hid hV1
 have HV2 := Lib.hid hV2
 have HB := Lib.hid (below_step (below_step hb0 hb1) hb2)
 have HS := Lib.hid (show w.heap.size + 3 = V2.heap.size by omega)
 obtain ⟨p0, p1, p2, p3, p4, p5, p6⟩ := HP.out.cell
 obtain ⟨q0, q1, q2, q3, q4, q5, q6⟩ := HQ.out.cell
 have P0 := Ext.ex p0
 have P1 := Ext.ex p1
 have P2 := Ext.ex p2
 have P3 := Ext.ex p3
 have P4 := Ext.ex p4
 have P5 := Ext.ex p5
 have P6 := Ext.ex p6
 have Q0 := Ext.ex q0
 have Q1 := Ext.ex q1
 have Q2 := Ext.ex q2
 have Q3 := Ext.ex q3
 have Q4 := Ext.ex q4
 have Q5 := Ext.ex q5
 have Q6 := Ext.ex q6
 clear hV0 hb0 hs0 hl0 hV1 hb1 hs1 hl1 hV2 hb2 hs2 hl2 htx hty htz px py pz qx qy qz h p0 p1 p2 p3 p4 p5 p6 q0 q1 q2 q3 q4 q5 q6 HV
 unfold smV
 go_enter Tryz.func148, Tryz.ntmps148
 go_upto_region 1 with (fail)
 simp only at HV2
 rw [HV0.out, HV1.out, HV2.out]
 refine ext_wp fun X => ?_
 refine wp_region_ext (W := V2) _ (by kernel_rfl) (by kernel_rfl) ?_
 repeat go_big_quiet_step (fail)
 refine wpQuiet_nil ?_
 rintro _ ⟨Y, rfl⟩
 obtain ⟨V3, hV3, hb3, hs3, hl3⟩ := alloc_sm Y.1 p
 have HV3 := Lib.hid hV3
 have HY := Lib.hid (And.intro HS.out Y.2.size)
 obtain ⟨G, hG⟩ : ∃ G, Y.1.heap.size = G := ⟨_, rfl⟩
 clear hV3
 go_upto_region 3 with (fail)
 rw [HV3.out]
 rw [hG] at hl3
 have HGR := Lib.hid hG
 have HRP := Lib.hid (And.intro (HP.out.below (below_step Y.2 hb3)) (And.intro (HQ.out.below (below_step Y.2 hb3)) (And.intro (HR.out.below (below_step Y.2 hb3)) hl3)))
 have HNE := Lib.hid (show ¬ (w.heap.size = G ∨ w.heap.size = w.heap.size + 2) ∧ ¬ (w.heap.size + 1 = G ∨ w.heap.size + 1 = w.heap.size + 2) ∧ ¬ G = w.heap.size + 2 ∧ w.heap.size ≤ G from by have := HY.out; omega)
 have HB3 := Lib.hid (below_step (below_step HB.out Y.2) hb3)
 clear hb3 hs3 hl3 hG HV3 HP HQ HR HY
 clear P0 P1 P2 P3 P4 P5 P6
 clear Q0 Q1 Q2 Q3 Q4 Q5 Q6
 obtain ⟨p0, p1, p2, p3, p4, p5, p6⟩ := HRP.out.1.cell
 obtain ⟨q0, q1, q2, q3, q4, q5, q6⟩ := HRP.out.2.1.cell
 have P1 := ExtO.ex (O := fun b => b = G ∨ b = w.heap.size + 2) HNE.out.1 p1
 have P2 := ExtO.ex (O := fun b => b = G ∨ b = w.heap.size + 2) HNE.out.1 p2
 have P3 := ExtO.ex (O := fun b => b = G ∨ b = w.heap.size + 2) HNE.out.1 p3
 have Q1 := ExtO.ex (O := fun b => b = G ∨ b = w.heap.size + 2) HNE.out.2.1 q1
 have Q2 := ExtO.ex (O := fun b => b = G ∨ b = w.heap.size + 2) HNE.out.2.1 q2
 have Q3 := ExtO.ex (O := fun b => b = G ∨ b = w.heap.size + 2) HNE.out.2.1 q3
 clear p0 p1 p2 p3 p4 p5 p6 q0 q1 q2 q3 q4 q5 q6
 refine held_start (C := fun w' => ∃ Z : ExtO (fun b => b = G ∨ b = w.heap.size + 2) V3, w' = Z.1) (by kernel_rfl) ?_
 obtain ⟨Z0, hZ0⟩ : ∃ Z : ExtO (fun b => b = G ∨ b = w.heap.size + 2) V3, ({ V3 with drawn := V3.drawn + 1 } : World) = Z.1 := ⟨⟨{ V3 with drawn := V3.drawn + 1 }, ⟨rfl, rfl, rfl, Nat.le_refl _, fun _ _ _ => rfl⟩⟩, rfl⟩
 have HBX : Hid (SmB Z0.1 G p ∧ SmB Z0.1 (w.heap.size + 2) sm0) := Lib.hid (hZ0 ▸ ⟨HRP.out.2.2.2.below ⟨rfl, rfl, rfl, Nat.le_refl _, fun _ _ => rfl⟩, HRP.out.2.2.1.below ⟨rfl, rfl, rfl, Nat.le_refl _, fun _ _ => rfl⟩⟩)
 rw [hZ0]
 clear hZ0 HRP
 refine held_quiet (by kernel_rfl) (fun _ _ d _ _ h => by cases d <;> exact h) ⟨Z0, rfl⟩ [0, 1, 2, 3, 4, 5, 6, 8, 9, 10, 11, 12, 13, 15, 16, 17, 18, 19, 20, 22] 10 _ _ (by kernel_rfl) ?_
 change wpQuiet _ _ _ _ (_ :: _ :: _ :: _ :: _ :: _ :: _ :: _ :: _ :: _ :: _ :: _ :: _ :: _ :: _ :: _ :: _ :: _ :: _ :: _ :: []) _
 repeat go_big_quiet_step (fail)
 refine wpQuiet_nil ?_
 refine held_do (i := 7) _ rfl (by kernel_rfl) rfl (fun K hK => ?_)
 go_simp
 refine (DX.out _).mono ?_
 rintro e w1 ⟨rfl, hb⟩
 obtain ⟨Z1, rfl⟩ : ∃ Z : ExtO (fun b => b = G ∨ b = w.heap.size + 2) V3, w1 = Z.1 := ⟨⟨w1, Z0.2.trans (Kept.of_below hb)⟩, rfl⟩
 have HBX : Hid (SmB Z1.1 G p ∧ SmB Z1.1 (w.heap.size + 2) sm0) := Lib.hid (⟨HBX.out.1.below hb, HBX.out.2.below hb⟩)
 refine hK _ _ ⟨Z1, rfl⟩ ?_
 clear hK K hb
 try simp only [Act.put, List.setIfInBounds_toArray, List.set_cons_zero, List.set_cons_succ]
 refine held_do (i := 14) _ rfl (by kernel_rfl) rfl (fun K hK => ?_)
 go_simp
 refine (DY.out _).mono ?_
 rintro e w2 ⟨rfl, hb⟩
 obtain ⟨Z2, rfl⟩ : ∃ Z : ExtO (fun b => b = G ∨ b = w.heap.size + 2) V3, w2 = Z.1 := ⟨⟨w2, Z1.2.trans (Kept.of_below hb)⟩, rfl⟩
 have HBX : Hid (SmB Z2.1 G p ∧ SmB Z2.1 (w.heap.size + 2) sm0) := Lib.hid (⟨HBX.out.1.below hb, HBX.out.2.below hb⟩)
 refine hK _ _ ⟨Z2, rfl⟩ ?_
 clear hK K hb
 try simp only [Act.put, List.setIfInBounds_toArray, List.set_cons_zero, List.set_cons_succ]
 refine held_do (i := 21) _ rfl (by kernel_rfl) rfl (fun K hK => ?_)
 go_simp
 refine (DZ.out _).mono ?_
 rintro e w3 ⟨rfl, hb⟩
 obtain ⟨Z3, rfl⟩ : ∃ Z : ExtO (fun b => b = G ∨ b = w.heap.size + 2) V3, w3 = Z.1 := ⟨⟨w3, Z2.2.trans (Kept.of_below hb)⟩, rfl⟩
 have HBX : Hid (SmB Z3.1 G p ∧ SmB Z3.1 (w.heap.size + 2) sm0) := Lib.hid (⟨HBX.out.1.below hb, HBX.out.2.below hb⟩)
 refine hK _ _ ⟨Z3, rfl⟩ ?_
 clear hK K hb
 try simp only [Act.put, List.setIfInBounds_toArray, List.set_cons_zero, List.set_cons_succ]
 obtain ⟨g0, g1, g2, g3, g4, g5, g6⟩ := HBX.out.1.cell
 have f0 := HBX.out.1.free 0
 refine held_do (i := 23) _ rfl (by kernel_rfl) rfl (fun K hK => ?_)
 go_simp
 obtain ⟨Z4, hZ⟩ : ∃ Z : ExtO (fun b => b = G ∨ b = w.heap.size + 2) V3, Z3.1.setCell ⟨G, 0, none⟩ (.int .i64 n) = Z.1 := ⟨⟨_, Z3.2.trans (keep_set (Or.inl rfl))⟩, rfl⟩
 have HBX : Hid (SmB Z4.1 G { p with tm := n } ∧ SmB Z4.1 (w.heap.size + 2) sm0) := Lib.hid (hZ ▸ ⟨HBX.out.1.set0 n, HBX.out.2.kept (O := fun b => b = G) (keep_set rfl) (fun e => HNE.out.2.2.1 e.symm)⟩)
 rw [hZ]
 refine hK _ _ ⟨Z4, rfl⟩ ?_
 clear hK K hZ g0 g1 g2 g3 g4 g5 g6 f0
 try simp only [Act.put, List.setIfInBounds_toArray, List.set_cons_zero, List.set_cons_succ]
 refine held_quiet (by kernel_rfl) (fun _ _ d _ _ h => by cases d <;> exact h) ⟨Z4, rfl⟩ [24] 5 _ _ (by kernel_rfl) ?_
 change wpQuiet _ _ _ _ (_ :: []) _
 repeat go_big_quiet_step (fail)
 refine wpQuiet_nil ?_
 obtain ⟨g0, g1, g2, g3, g4, g5, g6⟩ := HBX.out.1.cell
 have f1 := HBX.out.1.free 1
 refine held_do (i := 25) _ rfl (by kernel_rfl) rfl (fun K hK => ?_)
 go_simp
 obtain ⟨Z5, hZ⟩ : ∃ Z : ExtO (fun b => b = G ∨ b = w.heap.size + 2) V3, Z4.1.setCell ⟨G, 1, none⟩ (.int .i64 tx) = Z.1 := ⟨⟨_, Z4.2.trans (keep_set (Or.inl rfl))⟩, rfl⟩
 have HBX : Hid (SmB Z5.1 G { { p with tm := n } with x := tx } ∧ SmB Z5.1 (w.heap.size + 2) sm0) := Lib.hid (hZ ▸ ⟨HBX.out.1.set1 tx, HBX.out.2.kept (O := fun b => b = G) (keep_set rfl) (fun e => HNE.out.2.2.1 e.symm)⟩)
 rw [hZ]
 refine hK _ _ ⟨Z5, rfl⟩ ?_
 clear hK K hZ g0 g1 g2 g3 g4 g5 g6 f1
 try simp only [Act.put, List.setIfInBounds_toArray, List.set_cons_zero, List.set_cons_succ]
 refine held_quiet (by kernel_rfl) (fun _ _ d _ _ h => by cases d <;> exact h) ⟨Z5, rfl⟩ [26] 3 _ _ (by kernel_rfl) ?_
 change wpQuiet _ _ _ _ (_ :: []) _
 repeat go_big_quiet_step (fail)
 refine wpQuiet_nil ?_
 obtain ⟨g0, g1, g2, g3, g4, g5, g6⟩ := HBX.out.1.cell
 have f2 := HBX.out.1.free 2
 refine held_do (i := 27) _ rfl (by kernel_rfl) rfl (fun K hK => ?_)
 go_simp
 obtain ⟨Z6, hZ⟩ : ∃ Z : ExtO (fun b => b = G ∨ b = w.heap.size + 2) V3, Z5.1.setCell ⟨G, 2, none⟩ (.int .i64 ty) = Z.1 := ⟨⟨_, Z5.2.trans (keep_set (Or.inl rfl))⟩, rfl⟩
 have HBX : Hid (SmB Z6.1 G { { { p with tm := n } with x := tx } with y := ty } ∧ SmB Z6.1 (w.heap.size + 2) sm0) := Lib.hid (hZ ▸ ⟨HBX.out.1.set2 ty, HBX.out.2.kept (O := fun b => b = G) (keep_set rfl) (fun e => HNE.out.2.2.1 e.symm)⟩)
 rw [hZ]
 refine hK _ _ ⟨Z6, rfl⟩ ?_
 clear hK K hZ g0 g1 g2 g3 g4 g5 g6 f2
 try simp only [Act.put, List.setIfInBounds_toArray, List.set_cons_zero, List.set_cons_succ]
 refine held_quiet (by kernel_rfl) (fun _ _ d _ _ h => by cases d <;> exact h) ⟨Z6, rfl⟩ [28] 1 _ _ (by kernel_rfl) ?_
 change wpQuiet _ _ _ _ (_ :: []) _
 repeat go_big_quiet_step (fail)
 refine wpQuiet_nil ?_
 obtain ⟨g0, g1, g2, g3, g4, g5, g6⟩ := HBX.out.1.cell
 have f3 := HBX.out.1.free 3
 refine held_do (i := 29) _ rfl (by kernel_rfl) rfl (fun K hK => ?_)
 go_simp
 obtain ⟨Z7, hZ⟩ : ∃ Z : ExtO (fun b => b = G ∨ b = w.heap.size + 2) V3, Z6.1.setCell ⟨G, 3, none⟩ (.int .i64 tz) = Z.1 := ⟨⟨_, Z6.2.trans (keep_set (Or.inl rfl))⟩, rfl⟩
 have HBX : Hid (SmB Z7.1 G { { { { p with tm := n } with x := tx } with y := ty } with z := tz } ∧ SmB Z7.1 (w.heap.size + 2) sm0) := Lib.hid (hZ ▸ ⟨HBX.out.1.set3 tz, HBX.out.2.kept (O := fun b => b = G) (keep_set rfl) (fun e => HNE.out.2.2.1 e.symm)⟩)
 rw [hZ]
 refine hK _ _ ⟨Z7, rfl⟩ ?_
 clear hK K hZ g0 g1 g2 g3 g4 g5 g6 f3
 try simp only [Act.put, List.setIfInBounds_toArray, List.set_cons_zero, List.set_cons_succ]
 refine wpAnyH_done (by kernel_rfl) ?_ _
 obtain ⟨g0, g1, g2, g3, g4, g5, g6⟩ := HBX.out.1.cell
 obtain ⟨r0, r1, r2, r3, r4, r5, r6⟩ := HBX.out.2.cell
 have fr := HBX.out.2.free
 have f0 := fr 0
 have f1 := fr 1
 have f2 := fr 2
 have f3 := fr 3
 have f4 := fr 4
 have f5 := fr 5
 have f6 := fr 6
 try simp only at g0 g1 g2 g3 g4 g5 g6
 unfold sm0 at r0 r1 r2 r3 r4 r5 r6
 try simp only at r0 r1 r2 r3 r4 r5 r6
 clear fr
 obtain ⟨WE, hWE, hWB, hWK⟩ := HBX.out.2.store ⟨n, tx, ty, tz, p.pu, p.po, p.st⟩
 have HWE := Lib.hid hWE
 have HWB := Lib.hid (And.intro hWB (show Below w.heap.size w WE from Kept.below HB3.out (Z7.2.trans (hWK (fun b => b = G ∨ b = w.heap.size + 2) (Or.inr rfl))) HB3.out.size (fun k hk e => by have := HNE.out; omega)))
 clear hWE hWB hWK
 go_wp2_with fail
 try simp only at HWE
 rw [HWE.out]
 exact bodyPost_ret (v := _) (results_cell_row Tryz.results148 _ _ (w.heap.size + 2) _ _ _ _ rfl HWB.out.1 Tryz.underlying54 rfl HI.out) rfl ⟨rfl, HWB.out.2⟩
end Go.Proofs.YtgdepcnfjmobjaaGreat

/- A text of this claim. -/
namespace Go.Proofs.YtgdepcnfjmobjaaGreat
open Go.RowKit Go.BigFrame
structure El {α : Type} (C : α → List Value) (k : Nat) : Prop where
 len : ∀ x, (C x).length = k
 pos : 0 < k
 one : ∀ x, ∀ v ∈ C x, v.oneCell' = true
theorem smEl : El smC 7 := ⟨fun _ => rfl, by decide, fun x v hv => by
 simp only [smC, List.mem_cons, List.not_mem_nil, or_false] at hv
 rcases hv with rfl | rfl | rfl | rfl | rfl | rfl | rfl <;> rfl⟩
theorem lpEl : El lpC 3 := ⟨fun _ => rfl, by decide, fun x v hv => by
 simp only [lpC, List.mem_cons, List.not_mem_nil, or_false] at hv
 rcases hv with rfl | rfl | rfl <;> rfl⟩
theorem tgEl : El tgC 1 := ⟨fun _ => rfl, by decide, fun x v hv => by
 simp only [tgC, List.mem_cons, List.not_mem_nil, or_false] at hv
 rcases hv with rfl <;> rfl⟩
section
variable {α : Type} {C : α → List Value} {k : Nat}
theorem El.flat (E : El C k) : ∀ l : List α, (l.flatMap C).length = l.length * k
 | [] => by simp
 | x :: l => by rw [List.flatMap_cons, List.length_append, E.len, E.flat l, List.length_cons, Nat.succ_mul]; omega
theorem El.get (E : El C k) : ∀ (l : List α) (i : Nat) (x : α), l[i]? = some x → ∀ j v, (C x)[j]? = some v → (l.flatMap C)[i * k + j]? = some v
 | [], i, x, h, _, _, _ => by simp at h
 | y :: l, 0, x, h, j, v, hv => by
  injection h with h
  subst h
  rw [List.flatMap_cons, Nat.zero_mul, Nat.zero_add, List.getElem?_append_left (by have := (List.getElem?_eq_some_iff.1 hv).1; exact this)]
  exact hv
 | y :: l, i + 1, x, h, j, v, hv => by
  have ih := E.get l i x (by simpa using h) j v hv
  rw [List.flatMap_cons, List.getElem?_append_right (by rw [E.len, Nat.succ_mul]; omega), E.len, show (i + 1) * k + j - k = i * k + j by rw [Nat.succ_mul]; omega]
  exact ih
theorem El.ones (E : El C k) (l : List α) : ∀ u ∈ l.flatMap C, u.oneCell' = true := fun u hu => by
 obtain ⟨y, _, hy⟩ := List.mem_flatMap.1 hu
 exact E.one y u hy
theorem El.at (E : El C k) : ∀ (l : List α) (j : Nat) (u : Value), (l.flatMap C)[j]? = some u → ∃ x, l[j / k]? = some x ∧ (C x)[j % k]? = some u
 | [], j, u, h => by simp at h
 | x :: l, j, u, h => by
  have k0 := E.pos
  rw [List.flatMap_cons] at h
  by_cases hj : j < k
  · rw [List.getElem?_append_left (by rw [E.len]; exact hj)] at h
    exact ⟨x, by rw [Nat.div_eq_of_lt hj]; rfl, by rw [Nat.mod_eq_of_lt hj]; exact h⟩
  · rw [List.getElem?_append_right (by rw [E.len]; omega), E.len] at h
    obtain ⟨y, h1, h2⟩ := E.at l (j - k) u h
    have e1 : j / k = (j - k) / k + 1 := by
     rw [Nat.div_eq_sub_div k0 (by omega)]
    have e2 : j % k = (j - k) % k := Nat.mod_eq_sub_mod (by omega)
    exact ⟨y, by rw [e1]; exact h1, by rw [e2]; exact h2⟩
theorem Rw.flat (E : El C k) {w : World} {a : Addr} {l : List α} (h : Rw C k w (some a) l) : ∀ j u, (l.flatMap C)[j]? = some u → w.cell? (a.add j) = some u := by
 intro j u hj
 obtain ⟨x, hx, hu⟩ := E.at l j u hj
 obtain ⟨b, off, e, _, hc⟩ := h.here (Nat.lt_of_le_of_lt (Nat.zero_le _) (List.getElem?_eq_some_iff.1 hx).1)
 injection e with e
 subst e
 have := hc _ x hx _ u hu
 rw [addr_plus, show off + j = off + j / k * k + j % k by rw [Nat.add_assoc, Nat.div_add_mod']]
 exact this
theorem Rw.nil_of {w : World} {l : List α} (h : Rw C k w none l) : l = [] := by
 cases l with
 | nil => rfl
 | cons x l =>
  obtain ⟨b, off, e, _⟩ := h.here (by simp)
  cases e
theorem Rw.kept {O : Nat → Prop} {w w' : World} {a : Option Addr} {l : List α} (h : Rw C k w a l) (hk : Kept O w w') (ho : ∀ b off, a = some ⟨b, off, none⟩ → ¬ O b) : Rw C k w' a l :=
 ⟨fun hl => by
  obtain ⟨b, off, e, hb, hc⟩ := h.here hl
  exact ⟨b, off, e, by have := hk.size; omega, fun i x hx j v hv => hk.cell (p := ⟨b, off + i * k + j, none⟩) (ho b off e) (hc i x hx j v hv)⟩⟩
def Own (C : α → List Value) (k : Nat) (e : TypeId) (w : World) (base : Nat) (v : Value) (l : List α) : Prop := w.ownsRow base e k v l.length (l.flatMap C)
variable {e : TypeId} {w w' : World} {base : Nat} {v : Value} {l : List α}
theorem Own.nil (C : α → List Value) (k : Nat) (e : TypeId) (w : World) (base : Nat) : Own C k e w base (.slice none 0 0) [] := World.ownsRow_nil _ _ _ _
theorem Own.below (h : Own C k e w base v l) (hb : Below w.heap.size w w') : Own C k e w' base v l := ownsRow_below h hb
theorem Own.keepO {O : Nat → Prop} (h : Own C k e w base v l) (hk : Kept O w w') (hO : ∀ b, v.ownBlock = some b → ¬ O b) : Own C k e w' base v l := by
 refine ⟨h.1, ?_⟩
 rcases h.2 with h0 | ⟨g, cap, cur, hv, hb, hg, h3⟩
 · exact Or.inl h0
 · exact Or.inr ⟨g, cap, cur, hv, hb, (hk.block g (lt_of_block hg) (hO g (by rw [hv]; rfl))).trans hg, h3⟩
theorem Own.lt (h : Own C k e w base v l) : ∀ b, v.ownBlock = some b → base ≤ b ∧ b < w.heap.size := fun b e => World.ownsRow.lt h b e
theorem Own.weaken {base' : Nat} (h : Own C k e w base v l) (hb : base' ≤ base) : Own C k e w base' v l := by
 refine ⟨h.1, ?_⟩
 rcases h.2 with e | ⟨g, cap, cur, h1, h2, h3⟩
 · exact Or.inl e
 · exact Or.inr ⟨g, cap, cur, h1, Nat.le_trans hb h2, h3⟩
theorem Own.row (E : El C k) (h : Own C k e w base v l) : ∃ a c, v = .slice a l.length c ∧ l.length ≤ c ∧ Rw C k w a l ∧ ∀ b, a = some b → base ≤ b.block ∧ v.ownBlock = some b.block ∧ b.off = 0 ∧ b.spot = none := by
 have hh := h
 rcases h.2 with ⟨e, h0⟩ | ⟨g, cap, cur, e, hb, hg, hn, hm, hs, ht⟩
 · refine ⟨none, 0, ?_, by omega, ⟨fun hl => by omega⟩, fun b hb => by cases hb⟩
   rw [e, h0]
 · refine ⟨_, cap, e, hn, ⟨fun _ => ⟨g, 0, rfl, lt_of_block hg, fun i x hx j v hv => ?_⟩⟩, fun b hb' => by injection hb' with hb'; subst hb'; exact ⟨hb, by rw [e]; rfl, rfl, rfl⟩⟩
   have hc := World.ownsRow.cells hh (g := g) (by rw [e]; rfl) (i * k + j) _ (E.get l i x hx j v hv)
   rw [addr_plus, ← Nat.add_assoc] at hc
   exact hc
theorem Own.rw_ (E : El C k) {a : Option Addr} {n c : Nat} (h : Own C k e w base (.slice a n c) l) : Rw C k w a l ∧ n = l.length ∧ ∀ b, a = some b → base ≤ b.block ∧ b.block < w.heap.size := by
 obtain ⟨a', c', he, _, hr, hb⟩ := h.row E
 injection he with e1 e2 e3
 subst e1 e2 e3
 exact ⟨hr, rfl, fun b hb' => ⟨(hb b hb').1, (h.lt b.block (hb b hb').2.1).2⟩⟩
theorem Own.open (h : Own C k e w base v l) (h0 : 0 < l.length) : ∃ q c, v = .slice (some ⟨q, 0, none⟩) l.length c ∧ base ≤ q ∧ q < w.heap.size := by
 rcases h.2 with ⟨_, h1⟩ | ⟨g, cap, cur, hv, hb, hg, _⟩
 · omega
 · exact ⟨g, cap, hv, hb, lt_of_block hg⟩
theorem set_flat (E : El C k) : ∀ (l : List α) (i j : Nat) (x y : α) (u : Value), l[i]? = some x → C y = (C x).set j u → j < k → (l.flatMap C).set (i * k + j) u = (l.set i y).flatMap C
 | [], i, j, x, y, u, h, _, _ => by simp at h
 | z :: l, 0, j, x, y, u, h, hy, hj => by
  injection h with h
  subst h
  rw [List.set_cons_zero, List.flatMap_cons, List.flatMap_cons, hy, Nat.zero_mul, Nat.zero_add, List.set_append_left _ _ (by rw [E.len]; exact hj)]
 | z :: l, i + 1, j, x, y, u, h, hy, hj => by
  have ih := set_flat E l i j x y u (by simpa using h) hy hj
  rw [List.set_cons_succ, List.flatMap_cons, List.flatMap_cons, ← ih, List.set_append_right _ _ (by rw [E.len, Nat.succ_mul]; omega), E.len, show (i + 1) * k + j - k = i * k + j by rw [Nat.succ_mul]; omega]
theorem Own.set (E : El C k) {q n c : Nat} (h : Own C k e w base (.slice (some ⟨q, 0, none⟩) n c) l) {i j : Nat} {x y : α} {u : Value} (hx : l[i]? = some x) (hj : j < k) (hy : C y = (C x).set j u) :
 Own C k e (w.setCell ⟨q, i * k + j, none⟩ u) base (.slice (some ⟨q, 0, none⟩) n c) (l.set i y) ∧ Kept (fun b => b = q) w (w.setCell ⟨q, i * k + j, none⟩ u) := by
 have hn : n = l.length := by
  rcases h.2 with ⟨h0, _⟩ | ⟨g, cap, cur, hv, _⟩
  · cases h0
  · injection hv
 subst hn
 have h1 := (World.ownsRow.stored h (i * k + j) u).1
 refine ⟨?_, keep_set rfl⟩
 unfold Own
 rw [List.length_set, ← set_flat E l i j x y u hx hy hj]
 exact h1
theorem Own.free {q n c : Nat} (h : Own C k e w base (.slice (some ⟨q, 0, none⟩) n c) l) (j : Nat) : w.frozen? ⟨q, j, none⟩ = false := by
 have hn : n = l.length := by
  rcases h.2 with ⟨h0, _⟩ | ⟨g, cap, cur, hv, _⟩
  · cases h0
  · injection hv
 subst hn
 have := World.ownsRow.frozenAt h j
 exact this
end
end Go.Proofs.YtgdepcnfjmobjaaGreat

/- A text of this claim. -/
namespace Go.Proofs.YtgdepcnfjmobjaaGreat
open Go.RowKit Go.BigFrame
theorem infoSm : Hid ((Tryz.prog.info? 54).map (fun i => (i.zero, i.size, i.bytes)) = some (some (.agg #[.int .i64 0, .int .i64 0, .int .i64 0, .int .i64 0, .int .i64 0, .int .i64 0, .int .i64 0]), 7, 56)) := Lib.hid (by kernel_rfl)
theorem underSm : Hid (Tryz.prog.underlying 22 = some (.slice 54)) := Lib.hid (by kernel_rfl)
set_option maxHeartbeats 2000000 in
set_option maxRecDepth 100000 in
theorem cloneSm_any (a : Option Addr) (l : List Sm) (cap : Nat) (w : World) (hr : Rw smC 7 w a l) (hl : l.length ≤ 1000000) :
 Calls Tryz.prog 29 #[.slice a l.length cap] w fun e w' => (∃ v, e = .returned v ∧ Own smC 7 54 w' w.heap.size v l) ∧ Below w.heap.size w w' := by
 have HU := underSm
 have hq : ∀ (w : World) (a : Option Addr) (n c n' c' : Nat), (binOp .eql 22 (.slice a n c) (.slice none n' c')).run Tryz.prog w = .ok (.bool a.isNone) w := fun w a n c n' c' => Lib.run_eql_slice_nil w _ _ a n c n' c' HU.out
 have u22 : ∀ w, Sem.run Tryz.prog (underlying 22) w = .ok (TypeDesc.slice 54) w := run_underlying HU.out
 cases a with
 | none =>
  have h0 := hr.nil_of
  subst h0
  clear hr
  go_enter Tryz.func29, Tryz.ntmps29
  go_wp2_with fail
  go_ret
  exact ⟨⟨_, rfl, Own.nil _ _ _ _ _⟩, Below.refl _ _⟩
 | some a =>
  obtain ⟨i0, hi0, hz0, hz1, hz2⟩ := info_parts infoSm.out
  have HI0 := Lib.hid hi0
  have HZ0 := Lib.hid hz0
  have HZ1 := Lib.hid hz1
  have HZ2 := Lib.hid hz2
  have HC := Lib.hid (hr.flat smEl)
  have HL := Lib.hid (smEl.flat l)
  have H1 := Lib.hid (smEl.ones l)
  clear hi0 hz0 hz1 hz2 hr
  go_enter Tryz.func29, Tryz.ntmps29
  go_wp2_with (at_builtin; refine wpList_append_own _ rfl _ _ 22 rfl w.heap.size 54 i0 (.agg #[.int .i64 0, .int .i64 0, .int .i64 0, .int .i64 0, .int .i64 0, .int .i64 0, .int .i64 0]) 7 56 HU.out HI0.out HZ0.out HZ1.out HZ2.out rfl (by decide) _ _ _ rfl (World.ownsRow_made w #[] 0 (Nat.le_refl _) (Nat.zero_le _) (by simp)) a l.length cap (l.flatMap smC) rfl ?qc1 ?qc2 ?qc3 ?qc4 ?qc5 ?qc6 ?_)
  case qc1 => exact HL.out
  case qc2 =>
   intro j u hj
   exact Lib.cell?_alloc_some _ (HC.out j u hj)
  case qc3 => exact H1.out
  case qc4 => rw [Nat.zero_add]; unfold maxLen; omega
  case qc5 => rw [Nat.zero_add]; omega
  case qc6 => simp
  intro v' w1 hown hgrow hnil
  go_wp2_with fail
  go_ret
  exact ⟨⟨v', rfl, by unfold Own; simpa using hown⟩, ((Below.refl _ w).alloc (Nat.le_refl _) _).grown hgrow (by simp) (by intro k hk; simp [Value.ownBlock] at hk; omega)⟩
theorem infoLp : Hid ((Tryz.prog.info? 57).map (fun i => (i.zero, i.size, i.bytes)) = some (some (.agg #[.int .i64 0, .int .i64 0, .string ⟨#[]⟩]), 3, 32)) := Lib.hid (by kernel_rfl)
theorem underLp : Hid (Tryz.prog.underlying 23 = some (.slice 57)) := Lib.hid (by kernel_rfl)
set_option maxHeartbeats 2000000 in
set_option maxRecDepth 100000 in
theorem cloneLp_any (a : Option Addr) (l : List Lp) (cap : Nat) (w : World) (hr : Rw lpC 3 w a l) (hl : l.length ≤ 1000000) :
 Calls Tryz.prog 30 #[.slice a l.length cap] w fun e w' => (∃ v, e = .returned v ∧ Own lpC 3 57 w' w.heap.size v l) ∧ Below w.heap.size w w' := by
 have HU := underLp
 have hq : ∀ (w : World) (a : Option Addr) (n c n' c' : Nat), (binOp .eql 23 (.slice a n c) (.slice none n' c')).run Tryz.prog w = .ok (.bool a.isNone) w := fun w a n c n' c' => Lib.run_eql_slice_nil w _ _ a n c n' c' HU.out
 have u22 : ∀ w, Sem.run Tryz.prog (underlying 23) w = .ok (TypeDesc.slice 57) w := run_underlying HU.out
 cases a with
 | none =>
  have h0 := hr.nil_of
  subst h0
  clear hr
  go_enter Tryz.func30, Tryz.ntmps30
  go_wp2_with fail
  go_ret
  exact ⟨⟨_, rfl, Own.nil _ _ _ _ _⟩, Below.refl _ _⟩
 | some a =>
  obtain ⟨i0, hi0, hz0, hz1, hz2⟩ := info_parts infoLp.out
  have HI0 := Lib.hid hi0
  have HZ0 := Lib.hid hz0
  have HZ1 := Lib.hid hz1
  have HZ2 := Lib.hid hz2
  have HC := Lib.hid (hr.flat lpEl)
  have HL := Lib.hid (lpEl.flat l)
  have H1 := Lib.hid (lpEl.ones l)
  clear hi0 hz0 hz1 hz2 hr
  go_enter Tryz.func30, Tryz.ntmps30
  go_wp2_with (at_builtin; refine wpList_append_own _ rfl _ _ 23 rfl w.heap.size 57 i0 (.agg #[.int .i64 0, .int .i64 0, .string ⟨#[]⟩]) 3 32 HU.out HI0.out HZ0.out HZ1.out HZ2.out rfl (by decide) _ _ _ rfl (World.ownsRow_made w #[] 0 (Nat.le_refl _) (Nat.zero_le _) (by simp)) a l.length cap (l.flatMap lpC) rfl ?qc1 ?qc2 ?qc3 ?qc4 ?qc5 ?qc6 ?_)
  case qc1 => exact HL.out
  case qc2 =>
   intro j u hj
   exact Lib.cell?_alloc_some _ (HC.out j u hj)
  case qc3 => exact H1.out
  case qc4 => rw [Nat.zero_add]; unfold maxLen; omega
  case qc5 => rw [Nat.zero_add]; omega
  case qc6 => simp
  intro v' w1 hown hgrow hnil
  go_wp2_with fail
  go_ret
  exact ⟨⟨v', rfl, by unfold Own; simpa using hown⟩, ((Below.refl _ w).alloc (Nat.le_refl _) _).grown hgrow (by simp) (by intro k hk; simp [Value.ownBlock] at hk; omega)⟩
theorem infoTg : Hid ((Tryz.prog.info? 9).map (fun i => (i.zero, i.size, i.bytes)) = some (some (.string ⟨#[]⟩), 1, 16)) := Lib.hid (by kernel_rfl)
theorem underTg : Hid (Tryz.prog.underlying 24 = some (.slice 9)) := Lib.hid (by kernel_rfl)
set_option maxHeartbeats 2000000 in
set_option maxRecDepth 100000 in
theorem cloneTg_any (a : Option Addr) (l : List ByteArray) (cap : Nat) (w : World) (hr : Rw tgC 1 w a l) (hl : l.length ≤ 1000000) :
 Calls Tryz.prog 31 #[.slice a l.length cap] w fun e w' => (∃ v, e = .returned v ∧ Own tgC 1 9 w' w.heap.size v l) ∧ Below w.heap.size w w' := by
 have HU := underTg
 have hq : ∀ (w : World) (a : Option Addr) (n c n' c' : Nat), (binOp .eql 24 (.slice a n c) (.slice none n' c')).run Tryz.prog w = .ok (.bool a.isNone) w := fun w a n c n' c' => Lib.run_eql_slice_nil w _ _ a n c n' c' HU.out
 have u22 : ∀ w, Sem.run Tryz.prog (underlying 24) w = .ok (TypeDesc.slice 9) w := run_underlying HU.out
 cases a with
 | none =>
  have h0 := hr.nil_of
  subst h0
  clear hr
  go_enter Tryz.func31, Tryz.ntmps31
  go_wp2_with fail
  go_ret
  exact ⟨⟨_, rfl, Own.nil _ _ _ _ _⟩, Below.refl _ _⟩
 | some a =>
  obtain ⟨i0, hi0, hz0, hz1, hz2⟩ := info_parts infoTg.out
  have HI0 := Lib.hid hi0
  have HZ0 := Lib.hid hz0
  have HZ1 := Lib.hid hz1
  have HZ2 := Lib.hid hz2
  have HC := Lib.hid (hr.flat tgEl)
  have HL := Lib.hid (tgEl.flat l)
  have H1 := Lib.hid (tgEl.ones l)
  clear hi0 hz0 hz1 hz2 hr
  go_enter Tryz.func31, Tryz.ntmps31
  go_wp2_with (at_builtin; refine wpList_append_own _ rfl _ _ 24 rfl w.heap.size 9 i0 (.string ⟨#[]⟩) 1 16 HU.out HI0.out HZ0.out HZ1.out HZ2.out rfl (by decide) _ _ _ rfl (World.ownsRow_made w #[] 0 (Nat.le_refl _) (Nat.zero_le _) (by simp)) a l.length cap (l.flatMap tgC) rfl ?qc1 ?qc2 ?qc3 ?qc4 ?qc5 ?qc6 ?_)
  case qc1 => exact HL.out
  case qc2 =>
   intro j u hj
   exact Lib.cell?_alloc_some _ (HC.out j u hj)
  case qc3 => exact H1.out
  case qc4 => rw [Nat.zero_add]; unfold maxLen; omega
  case qc5 => rw [Nat.zero_add]; omega
  case qc6 => simp
  intro v' w1 hown hgrow hnil
  go_wp2_with fail
  go_ret
  exact ⟨⟨v', rfl, by unfold Own; simpa using hown⟩, ((Below.refl _ w).alloc (Nat.le_refl _) _).grown hgrow (by simp) (by intro k hk; simp [Value.ownBlock] at hk; omega)⟩
end Go.Proofs.YtgdepcnfjmobjaaGreat

/- A text of this claim. -/
namespace Go.Proofs.YtgdepcnfjmobjaaGreat
open Go.RowKit Go.BigFrame
open Tr (inR)
theorem spanS_last {l : List Sm} {s : Sm} (h : l[l.length - 1]? = some s) : spanS l = s.tm := by
 unfold spanS
 rw [h]
theorem where_cases {start n : Int} {l : List Sm} (ho : SmOk start l) (hne : 0 < l.length) (h0 : 0 ≤ n) (h1 : n ≤ spanS l) :
 ∃ q, l[lbS l n]? = some q ∧ ((q.tm = n ∧ whereS l n = q ∧ foundS l n = true) ∨ (q.tm ≠ n ∧ foundS l n = false ∧ ∃ j p, lbS l n = j + 1 ∧ l[j]? = some p ∧ Btw p q n ∧ whereS l n = amidS p q n)) := by
 obtain ⟨z, hz⟩ : ∃ z, l[l.length - 1]? = some z := ⟨_, List.getElem?_eq_getElem (by omega)⟩
 have hsp := spanS_last hz
 have hlt : lbS l n < l.length := by
  have := lbS_le l n
  by_cases e : lbS l n = l.length
  · have := lbS_before l n (l.length - 1) z (by omega) hz
    omega
  · omega
 obtain ⟨q, hq⟩ : ∃ q, l[lbS l n]? = some q := ⟨_, List.getElem?_eq_getElem hlt⟩
 refine ⟨q, hq, ?_⟩
 have hge := lbS_at l n q hq
 by_cases e : q.tm = n
 · refine Or.inl ⟨e, ?_, ?_⟩
   · unfold whereS
     rw [hq]
     simp only
     rw [if_pos e]
   · unfold foundS
     rw [hq]
     simp [e]
 · refine Or.inr ⟨e, by unfold foundS; rw [hq]; simp [e], ?_⟩
   cases hk : lbS l n with
   | zero =>
    rw [hk] at hq
    have := ho.first q hq
    omega
   | succ j =>
    obtain ⟨p, hp⟩ : ∃ p, l[j]? = some p := ⟨_, List.getElem?_eq_getElem (by omega)⟩
    have hb := lbS_before l n j p (by omega) hp
    rw [hk] at hq
    refine ⟨j, p, rfl, hp, ⟨(ho.upto j p hp).2.2, (ho.upto _ q hq).2.2, by omega, hge, ho.next j p q hp hq, ho.nonneg hp, (ho.upto _ q hq).1⟩, ?_⟩
    unfold whereS
    rw [hk, hq]
    simp only
    rw [if_neg e, Nat.add_sub_cancel, hp]
set_option maxHeartbeats 8000000 in
set_option maxRecDepth 100000 in
theorem where_any (A : Acv) (a b c : Option Addr) (ca cb cc : Nat) (n : Int) (w : World) (h : Rw smC 7 w a A.sm) (ho : SmOk A.start A.sm) (hl : A.sm.length ≤ 20000) (hne : 0 < A.sm.length) (h0 : 0 ≤ n) (h1 : n ≤ spanS A.sm) :
 Calls Tryz.prog 142 #[actV A a b c ca cb cc, .int .i64 n] w fun e w' => e = .returned (smV (whereS A.sm n)) ∧ Below w.heap.size w w' := by
 obtain ⟨q, hq, hw⟩ := where_cases ho hne h0 h1
 have HI := smSize
 have DS := fun (W : World) (hb : Below w.heap.size w W) => searchS_any a A.sm ca n A.start W (h.below hb) ho hl
 unfold actV at *
 have hki := (List.getElem?_eq_some_iff.1 hq).1
 have HLI : Hid (∀ i : Nat, i ≤ A.sm.length → (∀ s : Sm, 0 < i → A.sm[i - 1]? = some s → s.tm < n) → (∀ s : Sm, A.sm[i]? = some s → n ≤ s.tm) → lbS A.sm n = i) := Lib.hid (fun i hi h1 h2 => lbS_halved ho hi h1 h2)
 have HLAST := Lib.hid (show ∀ s : Sm, A.sm[A.sm.length - 1]? = some s → n ≤ s.tm from fun s hs => by rw [spanS_last hs] at h1; exact h1)
 obtain ⟨k, hk⟩ : ∃ k, lbS A.sm n = k := ⟨_, rfl⟩
 obtain ⟨m, hm⟩ : ∃ m, A.sm.length = m := ⟨_, rfl⟩
 have HN := Lib.hid hm
 have HK := Lib.hid hk
 rw [hm] at hl hki HLI HLAST ⊢
 rw [hk] at hq hw hki HLI DS
 rw [hm] at DS
 obtain ⟨ba, oa, rfl, hba, hc⟩ := h.at hq
 have HROW := Lib.hid h
 have q0 : w.cell? ⟨ba, oa + k * 7, none⟩ = some (.int .i64 q.tm) := hc 0 _ rfl
 have q1 := hc 1 _ rfl
 have q2 := hc 2 _ rfl
 have q3 := hc 3 _ rfl
 have q4 := hc 4 _ rfl
 have q5 := hc 5 _ rfl
 have q6 := hc 6 _ rfl
 generalize A.lp.length = m2 at *
 generalize A.tg.length = m3 at *
 obtain ⟨V0, hV0, hb0, hs0, hl0⟩ := alloc_cells w #[.string A.name, .int .i64 A.sport, .int .i64 A.start, .slice (some ⟨ba, oa, none⟩) m ca, .slice b m2 cb, .slice c m3 cc] 26
 obtain ⟨V1, hV1, hb1, hs1, hl1⟩ := alloc_sm V0 sm0
 rw [hs0] at hl1
 unfold sm0 at hV1
 have B3 := ExtO.ex (O := fun b => b = w.heap.size + 1) (show ¬ w.heap.size = w.heap.size + 1 by omega) (below_cell hb1 (hl0 3 _ rfl))
 have hbq : ¬ ba = w.heap.size + 1 := by omega
 have Q0 := ExtO.ex (O := fun b => b = w.heap.size + 1) hbq (below_cell hb1 (below_cell hb0 q0))
 have Q1 := ExtO.ex (O := fun b => b = w.heap.size + 1) hbq (below_cell hb1 (below_cell hb0 q1))
 have Q2 := ExtO.ex (O := fun b => b = w.heap.size + 1) hbq (below_cell hb1 (below_cell hb0 q2))
 have Q3 := ExtO.ex (O := fun b => b = w.heap.size + 1) hbq (below_cell hb1 (below_cell hb0 q3))
 have Q4 := ExtO.ex (O := fun b => b = w.heap.size + 1) hbq (below_cell hb1 (below_cell hb0 q4))
 have Q5 := ExtO.ex (O := fun b => b = w.heap.size + 1) hbq (below_cell hb1 (below_cell hb0 q5))
 have Q6 := ExtO.ex (O := fun b => b = w.heap.size + 1) hbq (below_cell hb1 (below_cell hb0 q6))
 have HBQ := Lib.hid hbq
 have HR := Lib.hid hl1
 have HB := Lib.hid (below_step hb0 hb1)
 have HB0 := Lib.hid hb0
 have HB1 := Lib.hid hb1
 have HV0 := Lib.hid hV0
 have HV1 := Lib.hid hV1
 have hkb : (k : Int) ≤ 20000 := by omega
 have hmb : (m : Int) ≤ 20000 := by omega
 have DS := Lib.hid (fun (W : World) (hb : Below V1.heap.size V1 W) => DS W (below_step (below_step hb0 hb1) hb))
 clear hq hc q0 q1 q2 q3 q4 q5 q6 h hV0 hb0 hs0 hl0 hV1 hb1 hs1 hl1 hk hm hbq
 rcases hw with ⟨he, hv, hf⟩ | ⟨he, hf, j, p, rfl, hp, hbt, hv⟩
 · rw [hv]
   rw [hf] at DS
   clear hv hf he
   unfold smV
   go_enter Tryz.func142, Tryz.ntmps142
   go_upto_region 1 with (fail)
   rw [HV0.out, HV1.out]
   refine ext_wp fun X => ?_
   have B3x := B3 ⟨X.1, Kept.of_below X.2⟩
   go_wp2_with fail
   refine (DS.out X.1 X.2).mono ?_
   rintro e w1 ⟨rfl, hb⟩
   obtain ⟨Y, rfl⟩ : ∃ Y : Ext V1, w1 = Y.1 := ⟨⟨w1, below_step X.2 hb⟩, rfl⟩
   clear hb B3x
   have HRZ : Hid (SmB Y.1 (w.heap.size + 1) sm0) := Lib.hid (HR.out.below Y.2)
   obtain ⟨r0, r1, r2, r3, r4, r5, r6⟩ := HRZ.out.cell
   have fr := HRZ.out.free
   have f0 := fr 0
   have f1 := fr 1
   have f2 := fr 2
   have f3 := fr 3
   have f4 := fr 4
   have f5 := fr 5
   have f6 := fr 6
   unfold sm0 at r0 r1 r2 r3 r4 r5 r6
   try simp only at r0 r1 r2 r3 r4 r5 r6
   clear fr
   obtain ⟨WE, hWE, hWB, hWK⟩ := HRZ.out.store q
   have HWE := Lib.hid hWE
   have HWB := Lib.hid (And.intro hWB (show Below w.heap.size w WE from Kept.below (below_step HB.out Y.2) (hWK (fun b => b = w.heap.size + 1) rfl) (below_step HB.out Y.2).size (fun k hk e => by omega)))
   have B3z := B3 ⟨Y.1, Kept.of_below Y.2⟩
   have Q0z := Q0 ⟨Y.1, Kept.of_below Y.2⟩
   have Q1z := Q1 ⟨Y.1, Kept.of_below Y.2⟩
   have Q2z := Q2 ⟨Y.1, Kept.of_below Y.2⟩
   have Q3z := Q3 ⟨Y.1, Kept.of_below Y.2⟩
   have Q4z := Q4 ⟨Y.1, Kept.of_below Y.2⟩
   have Q5z := Q5 ⟨Y.1, Kept.of_below Y.2⟩
   have Q6z := Q6 ⟨Y.1, Kept.of_below Y.2⟩
   clear hWE hWB hWK B3 Q0 Q1 Q2 Q3 Q4 Q5 Q6
   go_wp2_with fail
   rw [HWE.out]
   exact bodyPost_ret (v := _) (results_cell_row Tryz.results142 _ _ (w.heap.size + 1) _ _ _ _ rfl HWB.out.1 Tryz.underlying54 rfl HI.out) rfl ⟨rfl, HWB.out.2⟩
 · rw [hv]
   rw [hf] at DS
   have hcp := HROW.out.on hp
   have p0 : w.cell? ⟨ba, oa + j * 7, none⟩ = some (.int .i64 p.tm) := hcp 0 _ rfl
   have p1 := hcp 1 _ rfl
   have p2 := hcp 2 _ rfl
   have p3 := hcp 3 _ rfl
   have p4 := hcp 4 _ rfl
   have p5 := hcp 5 _ rfl
   have p6 := hcp 6 _ rfl
   have P0 := ExtO.ex (O := fun b => b = w.heap.size + 1) HBQ.out (below_cell HB1.out (below_cell HB0.out p0))
   have P1 := ExtO.ex (O := fun b => b = w.heap.size + 1) HBQ.out (below_cell HB1.out (below_cell HB0.out p1))
   have P2 := ExtO.ex (O := fun b => b = w.heap.size + 1) HBQ.out (below_cell HB1.out (below_cell HB0.out p2))
   have P3 := ExtO.ex (O := fun b => b = w.heap.size + 1) HBQ.out (below_cell HB1.out (below_cell HB0.out p3))
   have P4 := ExtO.ex (O := fun b => b = w.heap.size + 1) HBQ.out (below_cell HB1.out (below_cell HB0.out p4))
   have P5 := ExtO.ex (O := fun b => b = w.heap.size + 1) HBQ.out (below_cell HB1.out (below_cell HB0.out p5))
   have P6 := ExtO.ex (O := fun b => b = w.heap.size + 1) HBQ.out (below_cell HB1.out (below_cell HB0.out p6))
   have DA := Lib.hid (fun W => amid_any p q n W hbt)
   have hwr : IntKind.i64.wrap ((j : Int) + 1 - 1) = (j : Int) := by rw [IntKind.wrap_i64]; omega
   have hsub : (j : Int) + 1 - 1 = (j : Int) := by omega
   have hjm : j < m := by omega
   generalize amidS p q n = am at *
   obtain ⟨am1, am2, am3, am4, am5, am6, am7⟩ := am
   clear hv hf he hp hbt hcp p0 p1 p2 p3 p4 p5 p6
   unfold smV at *
   simp only at *
   go_enter Tryz.func142, Tryz.ntmps142
   go_upto_region 1 with (fail)
   rw [HV0.out, HV1.out]
   refine ext_wp fun X => ?_
   have B3x := B3 ⟨X.1, Kept.of_below X.2⟩
   go_wp2_with fail
   refine (DS.out X.1 X.2).mono ?_
   rintro e w1 ⟨rfl, hb⟩
   obtain ⟨Y, rfl⟩ : ∃ Y : Ext V1, w1 = Y.1 := ⟨⟨w1, below_step X.2 hb⟩, rfl⟩
   clear hb B3x
   go_wp2_with fail
   have HRZ0 : Hid (SmB Y.1 (w.heap.size + 1) sm0) := Lib.hid (HR.out.below Y.2)
   have HBZ := Lib.hid (below_step HB.out Y.2)
   obtain ⟨V3, hV3⟩ : ∃ V, Y.1 = V := ⟨_, rfl⟩
   have HV31 := Lib.hid (show Kept (fun b => b = w.heap.size + 1) V1 V3 from hV3 ▸ Kept.of_below Y.2)
   have B3z := ExtO.re HV31.out B3
   have P0z := ExtO.re HV31.out P0
   have P1z := ExtO.re HV31.out P1
   have P2z := ExtO.re HV31.out P2
   have P3z := ExtO.re HV31.out P3
   have P4z := ExtO.re HV31.out P4
   have P5z := ExtO.re HV31.out P5
   have P6z := ExtO.re HV31.out P6
   have Q0z := ExtO.re HV31.out Q0
   have Q1z := ExtO.re HV31.out Q1
   have Q2z := ExtO.re HV31.out Q2
   have Q3z := ExtO.re HV31.out Q3
   have Q4z := ExtO.re HV31.out Q4
   have Q5z := ExtO.re HV31.out Q5
   have Q6z := ExtO.re HV31.out Q6
   rw [hV3] at HRZ0 HBZ
   rw [hV3]
   clear hV3 B3 P0 P1 P2 P3 P4 P5 P6 Q0 Q1 Q2 Q3 Q4 Q5 Q6
   refine held_start (C := fun w' => ∃ Z : ExtO (fun b => b = w.heap.size + 1) V3, w' = Z.1) (by kernel_rfl) ?_
   obtain ⟨Z0, hZ0⟩ : ∃ Z : ExtO (fun b => b = w.heap.size + 1) V3, ({ V3 with drawn := V3.drawn + 1 } : World) = Z.1 := ⟨⟨{ V3 with drawn := V3.drawn + 1 }, ⟨rfl, rfl, rfl, Nat.le_refl _, fun _ _ _ => rfl⟩⟩, rfl⟩
   have HRZ1 : Hid (SmB Z0.1 (w.heap.size + 1) sm0) := Lib.hid (hZ0 ▸ HRZ0.out.below ⟨rfl, rfl, rfl, Nat.le_refl _, fun _ _ => rfl⟩)
   rw [hZ0]
   clear hZ0
   refine held_quiet (by kernel_rfl) (fun _ _ d _ _ h => by cases d <;> exact h) ⟨Z0, rfl⟩ [0, 1, 2, 3, 4, 5, 6, 7, 8, 9, 10, 11] 2 _ _ (by kernel_rfl) ?_
   change wpQuiet _ _ _ _ (_ :: _ :: _ :: _ :: _ :: _ :: _ :: _ :: _ :: _ :: _ :: _ :: []) _
   repeat go_big_quiet_step (fail)
   refine wpQuiet_nil ?_
   refine held_do (i := 12) _ rfl (by kernel_rfl) rfl (fun K hK => ?_)
   go_simp
   refine (DA.out _).mono ?_
   rintro e w3 ⟨rfl, hb⟩
   obtain ⟨Z3, rfl⟩ : ∃ Z : ExtO (fun b => b = w.heap.size + 1) V3, w3 = Z.1 := ⟨⟨w3, Z0.2.trans (Kept.of_below hb)⟩, rfl⟩
   have HRZ : Hid (SmB Z3.1 (w.heap.size + 1) sm0) := Lib.hid (HRZ1.out.below hb)
   refine hK _ _ ⟨Z3, rfl⟩ ?_
   clear hK K hb
   try simp only [Act.put, List.setIfInBounds_toArray, List.set_cons_zero, List.set_cons_succ]
   obtain ⟨r0, r1, r2, r3, r4, r5, r6⟩ := HRZ.out.cell
   have fr := HRZ.out.free
   have f0 := fr 0
   have f1 := fr 1
   have f2 := fr 2
   have f3 := fr 3
   have f4 := fr 4
   have f5 := fr 5
   have f6 := fr 6
   unfold sm0 at r0 r1 r2 r3 r4 r5 r6
   try simp only at r0 r1 r2 r3 r4 r5 r6
   clear fr
   obtain ⟨WE, hWE, hWB, hWK⟩ := HRZ.out.store ⟨am1, am2, am3, am4, am5, am6, am7⟩
   have HWE := Lib.hid hWE
   have HKE := Lib.hid (Z3.2.trans (hWK (fun b => b = w.heap.size + 1) rfl))
   have HWB := Lib.hid (And.intro hWB (show Below w.heap.size w WE from Kept.below HBZ.out HKE.out HBZ.out.size (fun k hk e => by omega)))
   clear hWE hWB hWK
   refine held_do (i := 13) _ rfl (by kernel_rfl) rfl (fun K hK => ?_)
   go_simp
   rw [HWE.out]
   refine hK _ _ ⟨⟨WE, HKE.out⟩, rfl⟩ ?_
   clear hK K
   try simp only [Act.put, List.setIfInBounds_toArray, List.set_cons_zero, List.set_cons_succ]
   refine wpAnyH_done (by kernel_rfl) ?_ _
   go_wp2_with fail
   exact bodyPost_ret (v := _) (results_cell_row Tryz.results142 _ _ (w.heap.size + 1) _ _ _ _ rfl HWB.out.1 Tryz.underlying54 rfl HI.out) rfl ⟨rfl, HWB.out.2⟩
end Go.Proofs.YtgdepcnfjmobjaaGreat

/- A text of this claim. -/
namespace Go.Proofs.YtgdepcnfjmobjaaGreat
open Go.RowKit Go.BigFrame
def isCalm3 : Op → Bool
 | .call c => match c.callee with
  | .builtin .max => true
  | .builtin .min => true
  | _ => false
 | op => isCalm op
theorem calm_value3 {P : Program} {o : Oper} {ρ : Operand → Value} {w w' : World} {n : Next} (hc : isCalm3 o.op = true) (h : (execOp ρ o).run P w = .ok n w') : ∃ x, n = .value x := by
 obtain ⟨dst, op, type, pos, after, guard⟩ := o
 cases op
 case call c =>
  obtain ⟨callee, args, ats⟩ := c
  cases callee with
  | builtin b =>
   cases b <;> first | (simp [isCalm3] at hc; done) | (simp only [execOp, resolve, invoke, builtin, Sem.run_bind, Sem.run_pure, Result.andThen_ok] at h; exact run_val (fun x => x) (by simpa using h))
  | _ => simp [isCalm3] at hc
 all_goals exact calm_value (by exact hc) h
end Go.Proofs.YtgdepcnfjmobjaaGreat

/- A text of this claim. -/
namespace Go.Proofs.YtgdepcnfjmobjaaGreat
open Go.RowKit Go.BigFrame
open Tr (Ed inR isZero united rank numOf)
theorem chkE_kind {x : Ed} (h : chkE x = 0) : 1 ≤ x.k ∧ x.k ≤ 12 := by
 unfold chkE at h
 split at h
 · cases h
 · omega
theorem rngE_zero {n lo hi : Int} (h : rngE n lo hi = 0) : lo ≤ n ∧ n ≤ hi := by
 unfold rngE at h
 split at h
 · rename_i hi
   unfold inR at hi
   simpa using hi
 · cases h
theorem chkE_num {x : Ed} (h : chkE x = 0) (hk : x.k = 5 ∨ x.k = 6) : -1000000000000 ≤ x.n ∧ x.n ≤ 1000000000000 := by
 unfold chkE at h
 rw [if_neg (by omega)] at h
 split at h
 · cases h
 · unfold fieldE at h
   rcases hk with hk | hk
   · rw [if_neg (by omega), if_neg (by omega), if_pos hk] at h
     have := rngE_zero h
     omega
   · rw [if_neg (by omega), if_neg (by omega), if_neg (by omega), if_pos hk] at h
     have := rngE_zero h
     omega
theorem united_any (x y : Ed) (w : World) (hx : chkE x = 0) (hy : chkE y = 0) : Calls Tryz.prog 40 #[edV x, edV y] w fun e w' => UniR x y w e w' := by
 have kx := chkE_kind hx
 have ky := chkE_kind hy
 by_cases ht : x.k = 3 ∧ y.k = 4 ∨ x.k = 4 ∧ y.k = 3
 · exact united_tags x y w ht
 · by_cases hne : x.k = y.k
   · have nx := chkE_num hx
     have ny := chkE_num hy
     obtain ⟨k, n, f, t, s⟩ := x
     obtain ⟨k', n', f', t', s'⟩ := y
     simp only at hne kx ky nx ny
     subst hne
     clear ht hx hy
     rcases kinds k with rfl | rfl | rfl | rfl | rfl | rfl | rfl | rfl | rfl | rfl | rfl | rfl | h | h
     · exact united_1 n f t n' f' t' s s' w
     · exact united_2 n f t n' f' t' s s' w
     · exact united_3 n f t n' f' t' s s' w
     · exact united_4 n f t n' f' t' s s' w
     · exact united_5 n f t n' f' t' s s' w (nx (by omega)) (ny (by omega))
     · exact united_6 n f t n' f' t' s s' w (nx (by omega)) (ny (by omega))
     · exact united_7 n f t n' f' t' s s' w
     · exact united_8 n f t n' f' t' s s' w
     · exact united_9 n f t n' f' t' s s' w
     · exact united_10 n f t n' f' t' s s' w
     · exact united_11 n f t n' f' t' s s' w
     · exact united_12 n f t n' f' t' s s' w
     · omega
     · omega
   · exact united_diff x y w kx ky hne ht
theorem ta_texted_texted (v : Value) (W : World) : (Instr.typeAssert (.iface 86 v) 71 86 true).run Tryz.prog W = .ok (.tuple #[v, .bool true]) W := by kernel_rfl
theorem ta_texted_counted (v : Value) (W : World) : (Instr.typeAssert (.iface 86 v) 71 87 true).run Tryz.prog W = .ok (.tuple #[.agg #[.int .i64 0, .int .i64 0, .int .i64 0, .int .i64 0, .string ⟨#[]⟩], .bool false]) W := by kernel_rfl
theorem ta_counted_texted (v : Value) (W : World) : (Instr.typeAssert (.iface 87 v) 71 86 true).run Tryz.prog W = .ok (.tuple #[.agg #[.int .i64 0, .int .i64 0, .int .i64 0, .int .i64 0, .string ⟨#[]⟩], .bool false]) W := by kernel_rfl
theorem ta_counted_counted (v : Value) (W : World) : (Instr.typeAssert (.iface 87 v) 71 87 true).run Tryz.prog W = .ok (.tuple #[v, .bool true]) W := by kernel_rfl
theorem ta_tracked_texted (v : Value) (W : World) : (Instr.typeAssert (.iface 88 v) 71 86 true).run Tryz.prog W = .ok (.tuple #[.agg #[.int .i64 0, .int .i64 0, .int .i64 0, .int .i64 0, .string ⟨#[]⟩], .bool false]) W := by kernel_rfl
theorem ta_tracked_counted (v : Value) (W : World) : (Instr.typeAssert (.iface 88 v) 71 87 true).run Tryz.prog W = .ok (.tuple #[.agg #[.int .i64 0, .int .i64 0, .int .i64 0, .int .i64 0, .string ⟨#[]⟩], .bool false]) W := by kernel_rfl
theorem ta_parted_texted (v : Value) (W : World) : (Instr.typeAssert (.iface 89 v) 71 86 true).run Tryz.prog W = .ok (.tuple #[.agg #[.int .i64 0, .int .i64 0, .int .i64 0, .int .i64 0, .string ⟨#[]⟩], .bool false]) W := by kernel_rfl
theorem ta_parted_counted (v : Value) (W : World) : (Instr.typeAssert (.iface 89 v) 71 87 true).run Tryz.prog W = .ok (.tuple #[.agg #[.int .i64 0, .int .i64 0, .int .i64 0, .int .i64 0, .string ⟨#[]⟩], .bool false]) W := by kernel_rfl
def txtB (x : Ed) : ByteArray := if x.k = 3 ∨ x.k = 4 then x.s else noB
theorem txtB_list (x : Ed) : (txtB x).data.toList = Tr.txtOf x := by
 unfold txtB Tr.txtOf
 split
 · rfl
 · rfl
set_option maxHeartbeats 2000000 in
theorem place_any (x : Ed) (w : World) (hk : 1 ≤ x.k ∧ x.k ≤ 12) : Calls Tryz.prog 54 #[edV x] w fun e w' => e = .returned (.tuple #[.int .i64 (rank x.k), .int .i64 (numOf x), .string (txtB x)]) ∧ Below w.heap.size w w' := by
 have DE := Lib.hid (fun W => editOf_any x W)
 obtain ⟨k, n, f, t, s⟩ := x
 obtain ⟨hk1, hk2⟩ := hk
 rcases kinds k with rfl | rfl | rfl | rfl | rfl | rfl | rfl | rfl | rfl | rfl | rfl | rfl | h | h
 · have HE : Hid (edI ⟨1, n, f, t, s⟩ = .iface 86 (edV ⟨1, n, f, t, s⟩)) := Lib.hid rfl
   rw [HE.out] at DE
   have ta1 := fun v W => ta_texted_texted v W
   have ta2 := fun v W => ta_texted_counted v W
   unfold edV at *
   simp only at *
   clear HE hk1 hk2
   go_enter Tryz.func54, Tryz.ntmps54
   go_wp2_with fail
   refine (DE.out _).mono ?_
   rintro e w1 ⟨rfl, hb⟩
   obtain ⟨Y, rfl⟩ : ∃ Y : Ext w, w1 = Y.1 := ⟨⟨w1, (below_al w _).trans (hb.mono (by simp))⟩, rfl⟩
   clear hb DE
   go_wp2_with fail
   exact bodyPost_ret (v := .tuple #[.int .i64 1, .int .i64 0, .string noB]) (by simp [results, Tryz.results54, go_sem]) rfl ⟨rfl, by first | exact Y.2 | exact Y.2.alloc Y.2.size _ | exact below_drewN (Y.2.alloc Y.2.size _) _⟩
 · have HE : Hid (edI ⟨2, n, f, t, s⟩ = .iface 87 (edV ⟨2, n, f, t, s⟩)) := Lib.hid rfl
   rw [HE.out] at DE
   have ta1 := fun v W => ta_counted_texted v W
   have ta2 := fun v W => ta_counted_counted v W
   unfold edV at *
   simp only at *
   clear HE hk1 hk2
   go_enter Tryz.func54, Tryz.ntmps54
   go_wp2_with fail
   refine (DE.out _).mono ?_
   rintro e w1 ⟨rfl, hb⟩
   obtain ⟨Y, rfl⟩ : ∃ Y : Ext w, w1 = Y.1 := ⟨⟨w1, (below_al w _).trans (hb.mono (by simp))⟩, rfl⟩
   clear hb DE
   go_wp2_with fail
   exact bodyPost_ret (v := .tuple #[.int .i64 2, .int .i64 0, .string noB]) (by simp [results, Tryz.results54, go_sem]) rfl ⟨rfl, by first | exact Y.2 | exact Y.2.alloc Y.2.size _ | exact below_drewN (Y.2.alloc Y.2.size _) _⟩
 · have HE : Hid (edI ⟨3, n, f, t, s⟩ = .iface 86 (edV ⟨3, n, f, t, s⟩)) := Lib.hid rfl
   rw [HE.out] at DE
   have ta1 := fun v W => ta_texted_texted v W
   have ta2 := fun v W => ta_texted_counted v W
   unfold edV at *
   simp only at *
   clear HE hk1 hk2
   go_enter Tryz.func54, Tryz.ntmps54
   go_wp2_with fail
   refine (DE.out _).mono ?_
   rintro e w1 ⟨rfl, hb⟩
   obtain ⟨Y, rfl⟩ : ∃ Y : Ext w, w1 = Y.1 := ⟨⟨w1, (below_al w _).trans (hb.mono (by simp))⟩, rfl⟩
   clear hb DE
   go_wp2_with fail
   go_quiet (fail)
   go_wp2_with fail
   exact bodyPost_ret (v := .tuple #[.int .i64 3, .int .i64 0, .string s]) (by simp [results, Tryz.results54, go_sem]) rfl ⟨rfl, by first | exact Y.2 | exact Y.2.alloc Y.2.size _ | exact below_drewN (Y.2.alloc Y.2.size _) _⟩
 · have HE : Hid (edI ⟨4, n, f, t, s⟩ = .iface 86 (edV ⟨4, n, f, t, s⟩)) := Lib.hid rfl
   rw [HE.out] at DE
   have ta1 := fun v W => ta_texted_texted v W
   have ta2 := fun v W => ta_texted_counted v W
   unfold edV at *
   simp only at *
   clear HE hk1 hk2
   go_enter Tryz.func54, Tryz.ntmps54
   go_wp2_with fail
   refine (DE.out _).mono ?_
   rintro e w1 ⟨rfl, hb⟩
   obtain ⟨Y, rfl⟩ : ∃ Y : Ext w, w1 = Y.1 := ⟨⟨w1, (below_al w _).trans (hb.mono (by simp))⟩, rfl⟩
   clear hb DE
   go_wp2_with fail
   go_quiet (fail)
   go_wp2_with fail
   exact bodyPost_ret (v := .tuple #[.int .i64 3, .int .i64 0, .string s]) (by simp [results, Tryz.results54, go_sem]) rfl ⟨rfl, by first | exact Y.2 | exact Y.2.alloc Y.2.size _ | exact below_drewN (Y.2.alloc Y.2.size _) _⟩
 · have HE : Hid (edI ⟨5, n, f, t, s⟩ = .iface 87 (edV ⟨5, n, f, t, s⟩)) := Lib.hid rfl
   rw [HE.out] at DE
   have ta1 := fun v W => ta_counted_texted v W
   have ta2 := fun v W => ta_counted_counted v W
   unfold edV at *
   simp only at *
   clear HE hk1 hk2
   go_enter Tryz.func54, Tryz.ntmps54
   go_wp2_with fail
   refine (DE.out _).mono ?_
   rintro e w1 ⟨rfl, hb⟩
   obtain ⟨Y, rfl⟩ : ∃ Y : Ext w, w1 = Y.1 := ⟨⟨w1, (below_al w _).trans (hb.mono (by simp))⟩, rfl⟩
   clear hb DE
   go_wp2_with fail
   exact bodyPost_ret (v := .tuple #[.int .i64 4, .int .i64 0, .string noB]) (by simp [results, Tryz.results54, go_sem]) rfl ⟨rfl, by first | exact Y.2 | exact Y.2.alloc Y.2.size _ | exact below_drewN (Y.2.alloc Y.2.size _) _⟩
 · have HE : Hid (edI ⟨6, n, f, t, s⟩ = .iface 87 (edV ⟨6, n, f, t, s⟩)) := Lib.hid rfl
   rw [HE.out] at DE
   have ta1 := fun v W => ta_counted_texted v W
   have ta2 := fun v W => ta_counted_counted v W
   unfold edV at *
   simp only at *
   clear HE hk1 hk2
   go_enter Tryz.func54, Tryz.ntmps54
   go_wp2_with fail
   refine (DE.out _).mono ?_
   rintro e w1 ⟨rfl, hb⟩
   obtain ⟨Y, rfl⟩ : ∃ Y : Ext w, w1 = Y.1 := ⟨⟨w1, (below_al w _).trans (hb.mono (by simp))⟩, rfl⟩
   clear hb DE
   go_wp2_with fail
   exact bodyPost_ret (v := .tuple #[.int .i64 5, .int .i64 0, .string noB]) (by simp [results, Tryz.results54, go_sem]) rfl ⟨rfl, by first | exact Y.2 | exact Y.2.alloc Y.2.size _ | exact below_drewN (Y.2.alloc Y.2.size _) _⟩
 · have HE : Hid (edI ⟨7, n, f, t, s⟩ = .iface 87 (edV ⟨7, n, f, t, s⟩)) := Lib.hid rfl
   rw [HE.out] at DE
   have ta1 := fun v W => ta_counted_texted v W
   have ta2 := fun v W => ta_counted_counted v W
   unfold edV at *
   simp only at *
   clear HE hk1 hk2
   go_enter Tryz.func54, Tryz.ntmps54
   go_wp2_with fail
   refine (DE.out _).mono ?_
   rintro e w1 ⟨rfl, hb⟩
   obtain ⟨Y, rfl⟩ : ∃ Y : Ext w, w1 = Y.1 := ⟨⟨w1, (below_al w _).trans (hb.mono (by simp))⟩, rfl⟩
   clear hb DE
   go_wp2_with fail
   go_quiet (fail)
   go_wp2_with fail
   exact bodyPost_ret (v := .tuple #[.int .i64 6, .int .i64 n, .string noB]) (by simp [results, Tryz.results54, go_sem]) rfl ⟨rfl, by first | exact Y.2 | exact Y.2.alloc Y.2.size _ | exact below_drewN (Y.2.alloc Y.2.size _) _⟩
 · have HE : Hid (edI ⟨8, n, f, t, s⟩ = .iface 89 (edV ⟨8, n, f, t, s⟩)) := Lib.hid rfl
   rw [HE.out] at DE
   have ta1 := fun v W => ta_parted_texted v W
   have ta2 := fun v W => ta_parted_counted v W
   unfold edV at *
   simp only at *
   clear HE hk1 hk2
   go_enter Tryz.func54, Tryz.ntmps54
   go_wp2_with fail
   refine (DE.out _).mono ?_
   rintro e w1 ⟨rfl, hb⟩
   obtain ⟨Y, rfl⟩ : ∃ Y : Ext w, w1 = Y.1 := ⟨⟨w1, (below_al w _).trans (hb.mono (by simp))⟩, rfl⟩
   clear hb DE
   go_wp2_with fail
   exact bodyPost_ret (v := .tuple #[.int .i64 7, .int .i64 0, .string noB]) (by simp [results, Tryz.results54, go_sem]) rfl ⟨rfl, by first | exact Y.2 | exact Y.2.alloc Y.2.size _ | exact below_drewN (Y.2.alloc Y.2.size _) _⟩
 · have HE : Hid (edI ⟨9, n, f, t, s⟩ = .iface 88 (edV ⟨9, n, f, t, s⟩)) := Lib.hid rfl
   rw [HE.out] at DE
   have ta1 := fun v W => ta_tracked_texted v W
   have ta2 := fun v W => ta_tracked_counted v W
   unfold edV at *
   simp only at *
   clear HE hk1 hk2
   go_enter Tryz.func54, Tryz.ntmps54
   go_wp2_with fail
   refine (DE.out _).mono ?_
   rintro e w1 ⟨rfl, hb⟩
   obtain ⟨Y, rfl⟩ : ∃ Y : Ext w, w1 = Y.1 := ⟨⟨w1, (below_al w _).trans (hb.mono (by simp))⟩, rfl⟩
   clear hb DE
   go_wp2_with fail
   exact bodyPost_ret (v := .tuple #[.int .i64 7, .int .i64 0, .string noB]) (by simp [results, Tryz.results54, go_sem]) rfl ⟨rfl, by first | exact Y.2 | exact Y.2.alloc Y.2.size _ | exact below_drewN (Y.2.alloc Y.2.size _) _⟩
 · have HE : Hid (edI ⟨10, n, f, t, s⟩ = .iface 88 (edV ⟨10, n, f, t, s⟩)) := Lib.hid rfl
   rw [HE.out] at DE
   have ta1 := fun v W => ta_tracked_texted v W
   have ta2 := fun v W => ta_tracked_counted v W
   unfold edV at *
   simp only at *
   clear HE hk1 hk2
   go_enter Tryz.func54, Tryz.ntmps54
   go_wp2_with fail
   refine (DE.out _).mono ?_
   rintro e w1 ⟨rfl, hb⟩
   obtain ⟨Y, rfl⟩ : ∃ Y : Ext w, w1 = Y.1 := ⟨⟨w1, (below_al w _).trans (hb.mono (by simp))⟩, rfl⟩
   clear hb DE
   go_wp2_with fail
   exact bodyPost_ret (v := .tuple #[.int .i64 7, .int .i64 0, .string noB]) (by simp [results, Tryz.results54, go_sem]) rfl ⟨rfl, by first | exact Y.2 | exact Y.2.alloc Y.2.size _ | exact below_drewN (Y.2.alloc Y.2.size _) _⟩
 · have HE : Hid (edI ⟨11, n, f, t, s⟩ = .iface 89 (edV ⟨11, n, f, t, s⟩)) := Lib.hid rfl
   rw [HE.out] at DE
   have ta1 := fun v W => ta_parted_texted v W
   have ta2 := fun v W => ta_parted_counted v W
   unfold edV at *
   simp only at *
   clear HE hk1 hk2
   go_enter Tryz.func54, Tryz.ntmps54
   go_wp2_with fail
   refine (DE.out _).mono ?_
   rintro e w1 ⟨rfl, hb⟩
   obtain ⟨Y, rfl⟩ : ∃ Y : Ext w, w1 = Y.1 := ⟨⟨w1, (below_al w _).trans (hb.mono (by simp))⟩, rfl⟩
   clear hb DE
   go_wp2_with fail
   exact bodyPost_ret (v := .tuple #[.int .i64 7, .int .i64 0, .string noB]) (by simp [results, Tryz.results54, go_sem]) rfl ⟨rfl, by first | exact Y.2 | exact Y.2.alloc Y.2.size _ | exact below_drewN (Y.2.alloc Y.2.size _) _⟩
 · have HE : Hid (edI ⟨12, n, f, t, s⟩ = .iface 89 (edV ⟨12, n, f, t, s⟩)) := Lib.hid rfl
   rw [HE.out] at DE
   have ta1 := fun v W => ta_parted_texted v W
   have ta2 := fun v W => ta_parted_counted v W
   unfold edV at *
   simp only at *
   clear HE hk1 hk2
   go_enter Tryz.func54, Tryz.ntmps54
   go_wp2_with fail
   refine (DE.out _).mono ?_
   rintro e w1 ⟨rfl, hb⟩
   obtain ⟨Y, rfl⟩ : ∃ Y : Ext w, w1 = Y.1 := ⟨⟨w1, (below_al w _).trans (hb.mono (by simp))⟩, rfl⟩
   clear hb DE
   go_wp2_with fail
   exact bodyPost_ret (v := .tuple #[.int .i64 7, .int .i64 0, .string noB]) (by simp [results, Tryz.results54, go_sem]) rfl ⟨rfl, by first | exact Y.2 | exact Y.2.alloc Y.2.size _ | exact below_drewN (Y.2.alloc Y.2.size _) _⟩
 · simp only at hk1
   omega
 · simp only at hk2
   omega
end Go.Proofs.YtgdepcnfjmobjaaGreat

/- A text of this claim. -/
namespace Go.Proofs.YtgdepcnfjmobjaaGreat
open Go.RowKit Go.BigFrame
open Tr (Ed inR isZero united rank numOf bef)
def orL : List Int → Int
 | [] => 0
 | x :: l => if x = 0 then orL l else x
theorem orL_drop {l : List Int} {k : Nat} {x : Int} (hx : l[k]? = some x) (h : orL l = orL (l.drop k)) : (x ≠ 0 → orL l = x) ∧ (x = 0 → orL l = orL (l.drop (k + 1))) := by
 obtain ⟨h1, e1⟩ := List.getElem?_eq_some_iff.1 hx
 rw [List.drop_eq_getElem_cons h1, e1, orL] at h
 exact ⟨fun h0 => by rw [h, if_neg h0], fun h0 => by rw [h, if_pos h0]⟩
set_option maxHeartbeats 1000000 in
theorem orInt_any (l : List Int) (g c : Nat) (w : World) (hl : l.length ≤ 1000) (hc : ∀ i v, l[i]? = some v → w.cell? ⟨g, i, none⟩ = some (.int .i64 v)) :
 Calls Tryz.prog 55 #[.slice (some ⟨g, 0, none⟩) l.length c] w fun e w' => e = .returned (.int .i64 (orL l)) ∧ w = w' := by
 obtain ⟨n, hn⟩ : ∃ n, l.length = n := ⟨_, rfl⟩
 have HN := Lib.hid hn
 have HC := Lib.hid hc
 rw [hn] at hl ⊢
 clear hn hc
 go_enter Tryz.func55, Tryz.ntmps55
 go_wp2_with fail
 go_loop [8] (fun iv => ∃ (k : Nat), iv = .int .i64 k ∧ k ≤ n ∧ Hid (orL l = orL (l.drop k))) (fun iv => n - (intOf iv).toNat)
 case atStart => exact ⟨0, rfl, by omega, Lib.hid rfl⟩
 case round =>
  obtain ⟨k, rfl, hk, HE⟩ := hrel
  by_cases hlt : k < n
  · have t1 : decide ((k : Int) < (n : Int)) = true := by rw [decide_eq_true_eq]; omega
    have t1' : decide (k < n) = true := by simpa using hlt
    obtain ⟨x, hx⟩ : ∃ x, l[k]? = some x := ⟨_, List.getElem?_eq_getElem (by rw [HN.out]; exact hlt)⟩
    have hcx := HC.out k x hx
    obtain ⟨h1, h2⟩ := orL_drop hx HE.out
    clear hx HE
    by_cases h0 : x = 0
    · subst h0
      have HE := Lib.hid (h2 rfl)
      clear h1 h2
      go_wp2_with fail
      go_round
      case rel => exact ⟨k + 1, by go_num, by omega, HE⟩
      case measure => simp [intOf]; omega
    · have HE := Lib.hid (h1 h0)
      have hb : (x != 0) = true := by rw [bne_iff_ne]; exact h0
      clear h1 h2 h0
      go_wp2_with fail
      go_ret
      exact ⟨by rw [HE.out]; rfl, rfl⟩
  · have t1 : decide ((k : Int) < (n : Int)) = false := by rw [decide_eq_false_iff_not]; omega
    have t1' : decide (k < n) = false := by simpa using hlt
    have HF := Lib.hid (show orL l = 0 by rw [HE.out, List.drop_eq_nil_of_le (by rw [HN.out]; omega)]; rfl)
    clear hlt HE
    go_wp2_with fail
    go_ret
    exact ⟨by rw [HF.out]; rfl, rfl⟩
theorem cmpB_neg : ∀ a b : List UInt8, decide (Lib.compareBytes a b < 0) = Tr.ltB a b
 | [], [] => rfl
 | [], _ :: _ => rfl
 | _ :: _, [] => rfl
 | x :: a, y :: b => by
  rw [Lib.compareBytes, Tr.ltB]
  split
  · rfl
  · split
    · rfl
    · exact cmpB_neg a b
theorem cmpI_neg (a b : Int) : decide (Lib.compareInt a b < 0) = decide (a < b) := by
 unfold Lib.compareInt
 split
 · rename_i h
   rw [decide_eq_true h]
   rfl
 · rename_i h
   rw [decide_eq_false h]
   split <;> rfl
theorem cmpI_zero (a b : Int) : Lib.compareInt a b = 0 ↔ a = b := by
 unfold Lib.compareInt
 split
 · constructor
   · intro h; cases h
   · omega
 · split
   · constructor
     · intro h; cases h
     · omega
   · constructor
     · omega
     · intro; rfl
def ordV (x y : Ed) : Int := orL [Lib.compareInt (rank x.k) (rank y.k), Lib.compareInt (numOf x) (numOf y), Lib.compareBytes (txtB x).data.toList (txtB y).data.toList]
theorem ordV_neg (x y : Ed) : decide (ordV x y < 0) = bef x y := by
 unfold ordV bef
 rw [orL, orL, orL, orL]
 by_cases h1 : rank x.k = rank y.k
 · rw [if_pos ((cmpI_zero _ _).2 h1), if_pos h1]
   by_cases h2 : numOf x = numOf y
   · rw [if_pos ((cmpI_zero _ _).2 h2), if_pos h2, txtB_list, txtB_list, ← cmpB_neg]
     split
     · rename_i h
       rw [h]
     · rfl
   · rw [if_neg (fun h => h2 ((cmpI_zero _ _).1 h)), if_neg h2, cmpI_neg]
 · rw [if_neg (fun h => h1 ((cmpI_zero _ _).1 h)), if_neg h1, cmpI_neg]
set_option maxHeartbeats 2000000 in
theorem order_any (x y : Ed) (w : World) (hx : 1 ≤ x.k ∧ x.k ≤ 12) (hy : 1 ≤ y.k ∧ y.k ≤ 12) : Calls Tryz.prog 42 #[edV x, edV y] w fun e w' => e = .returned (.int .i64 (ordV x y)) ∧ Below w.heap.size w w' := by
 obtain ⟨W0, hW0, hb0, hs0, hl0⟩ := alloc_cells w #[.int .i64 x.k, .int .i64 x.n, .int .i64 x.f, .int .i64 x.t, .string x.s] 36
 obtain ⟨W1, hW1, hb1, hs1, hl1⟩ := alloc_cells W0 #[.int .i64 y.k, .int .i64 y.n, .int .i64 y.f, .int .i64 y.t, .string y.s] 36
 rw [hs0] at hl1
 have G0 := Ext.ex (below_cell hb1 (hl0 0 _ rfl))
 have G1 := Ext.ex (below_cell hb1 (hl0 1 _ rfl))
 have G2 := Ext.ex (below_cell hb1 (hl0 2 _ rfl))
 have G3 := Ext.ex (below_cell hb1 (hl0 3 _ rfl))
 have G4 := Ext.ex (below_cell hb1 (hl0 4 _ rfl))
 have K0 := Ext.ex (hl1 0 _ rfl)
 have K1 := Ext.ex (hl1 1 _ rfl)
 have K2 := Ext.ex (hl1 2 _ rfl)
 have K3 := Ext.ex (hl1 3 _ rfl)
 have K4 := Ext.ex (hl1 4 _ rfl)
 have HW0 := Lib.hid hW0
 have HW1 := Lib.hid hW1
 have HB := Lib.hid (show Below w.heap.size w W1 from hb0.trans (hb1.mono (by omega)))
 have hsz : w.heap.size ≤ W1.heap.size := by omega
 have DX := Lib.hid (fun Y : Ext W1 => Y.calls (place_any x Y.1 hx))
 have DY := Lib.hid (fun Y : Ext W1 => Y.calls (place_any y Y.1 hy))
 have HV : Hid (ordV x y = orL [Lib.compareInt (rank x.k) (rank y.k), Lib.compareInt (numOf x) (numOf y), Lib.compareBytes (txtB x).data.toList (txtB y).data.toList]) := Lib.hid rfl
 have C1 := Lib.hid (fun W => Tryz.cmp_Compare_int (rank x.k) (rank y.k) W)
 have C2 := Lib.hid (fun W => Tryz.cmp_Compare_int (numOf x) (numOf y) W)
 have C3 := Lib.hid (fun W => Tryz.strings_Compare (txtB x) (txtB y) W)
 generalize Lib.compareInt (rank x.k) (rank y.k) = c1 at *
 generalize Lib.compareInt (numOf x) (numOf y) = c2 at *
 generalize Lib.compareBytes (txtB x).data.toList (txtB y).data.toList = c3 at *
 generalize rank x.k = r1 at *
 generalize rank y.k = r2 at *
 generalize numOf x = n1 at *
 generalize numOf y = n2 at *
 generalize txtB x = z1 at *
 generalize txtB y = z2 at *
 unfold edV at *
 clear hW0 hb0 hs0 hl0 hW1 hb1 hs1 hl1 hx hy
 go_enter Tryz.func42, Tryz.ntmps42
 go_upto_region 1 with (fail)
 rw [HW0.out, HW1.out]
 refine ext_wp fun X => ?_
 go_wp2_with fail
 refine (DX.out _).mono ?_
 rintro e w1 ⟨rfl, Y, rfl⟩
 clear DX
 go_wp2_with fail
 refine (DY.out _).mono ?_
 rintro e w1 ⟨rfl, Z, rfl⟩
 clear DY
 go_wp2_with fail
 refine (C1.out _).mono ?_
 rintro e w1 ⟨rfl, rfl⟩
 go_wp2_with fail
 refine (C2.out _).mono ?_
 rintro e w1 ⟨rfl, rfl⟩
 go_wp2_with fail
 refine (C3.out _).mono ?_
 rintro e w1 ⟨rfl, rfl⟩
 go_wp2_with fail
 refine (orInt_any [c1, c2, c3] _ _ _ (by simp) ?_).mono ?_
 · intro i v h
   rw [World.cell?_alloc_at _ _ _ _ rfl]
   match i, h with
   | 0, h => injection h with h; subst h; rfl
   | 1, h => injection h with h; subst h; rfl
   | 2, h => injection h with h; subst h; rfl
   | n + 3, h => simp at h
 rintro e w1 ⟨rfl, rfl⟩
 go_wp2_with fail
 go_ret
 exact ⟨by rw [HV.out]; rfl, (Z.down HB.out hsz).alloc (Z.down HB.out hsz).size _⟩
end Go.Proofs.YtgdepcnfjmobjaaGreat

/- A text of this claim. -/
namespace Go.Proofs.YtgdepcnfjmobjaaGreat
open Go.RowKit Go.BigFrame
open Tr (inR)
open Ft (Mt)
end Go.Proofs.YtgdepcnfjmobjaaGreat

/- A text of this claim. -/
namespace Go.Proofs.YtgdepcnfjmobjaaGreat
open Go.RowKit Go.BigFrame
open Tr (Ed inR isZero united rank numOf bef fstIdx)
theorem fstIdx_drop {l : List Ed} {k : Nat} {x : Ed} (hx : l[k]? = some x) (h : fstIdx isZero l 0 = fstIdx isZero (l.drop k) k) : (isZero x = true → fstIdx isZero l 0 = k) ∧ (isZero x = false → fstIdx isZero l 0 = fstIdx isZero (l.drop (k + 1)) (k + 1)) := by
 obtain ⟨h1, e1⟩ := List.getElem?_eq_some_iff.1 hx
 rw [List.drop_eq_getElem_cons h1, e1, fstIdx] at h
 exact ⟨fun h0 => by rw [h, if_pos h0], fun h0 => by rw [h, if_neg (by rw [h0]; simp)]⟩
set_option maxHeartbeats 2000000 in
set_option maxRecDepth 100000 in
theorem indexE_any (a : Option Addr) (l : List Ed) (c : Nat) (w : World) (hr : ERow w a l) (hl : l.length ≤ 1000000) :
 Calls Tryz.prog 37 #[.slice a l.length c, .func (.func 38) #[] #[]] w fun e w' => e = .returned (.int .i64 (fstIdx isZero l 0)) ∧ Below w.heap.size w w' := by
 have HR := Lib.hid hr
 have DZ := Lib.hid (fun (x : Ed) (W : World) => isZero_any x W)
 obtain ⟨nl, hnl⟩ : ∃ n, l.length = n := ⟨_, rfl⟩
 have HN := Lib.hid hnl
 rw [hnl] at hl ⊢
 clear hr hnl
 go_enter Tryz.func37, Tryz.ntmps37
 go_wp2_with fail
 go_loopw [8] (fun iv wr => ∃ (k : Nat), iv = .int .i64 k ∧ k ≤ nl ∧ Hid (fstIdx isZero l 0 = fstIdx isZero (l.drop k) k) ∧ ∃ X : Ext w, wr = X.1) (fun iv _ => nl - (intOf iv).toNat)
 case atStart => exact ⟨0, rfl, by omega, Lib.hid rfl, ⟨w, Below.refl _ _⟩, rfl⟩
 case round =>
  obtain ⟨k, rfl, hk, HE, X, rfl⟩ := hrel
  by_cases hlt : k < nl
  · have t1 : decide ((k : Int) < (nl : Int)) = true := by rw [decide_eq_true_eq]; omega
    have t1' : decide (k < nl) = true := by simpa using hlt
    obtain ⟨x, hx⟩ : ∃ x, l[k]? = some x := ⟨_, List.getElem?_eq_getElem (by rw [HN.out]; exact hlt)⟩
    obtain ⟨b, off, rfl, hb, e0, e1, e2, e3, e4⟩ := (HR.out.below X.2).at hx
    have D := Lib.hid (DZ.out x X.1)
    obtain ⟨h1, h2⟩ := fstIdx_drop hx HE.out
    unfold edV at D
    clear hx HE
    cases hz : isZero x
    · rw [hz] at D
      have HE := Lib.hid (h2 hz)
      clear h1 h2 hz
      go_wp2_with fail
      refine D.out.mono ?_
      rintro e w1 ⟨rfl, hb2⟩
      obtain ⟨Z, rfl⟩ : ∃ Z : Ext w, w1 = Z.1 := ⟨⟨w1, X.2.trans (hb2.mono X.2.size)⟩, rfl⟩
      clear hb2
      go_wp2_with fail
      go_roundw
      case rel => exact ⟨k + 1, by go_num, by omega, HE, Z, rfl⟩
      case measure => simp [intOf]; omega
    · rw [hz] at D
      have HE := Lib.hid (h1 hz)
      clear h1 h2 hz
      go_wp2_with fail
      refine D.out.mono ?_
      rintro e w1 ⟨rfl, hb2⟩
      have HB := Lib.hid (X.2.trans (hb2.mono X.2.size))
      clear hb2
      go_wp2_with fail
      go_ret
      exact ⟨ret_int HE.out.symm, HB.out⟩
  · have t1 : decide ((k : Int) < (nl : Int)) = false := by rw [decide_eq_false_iff_not]; omega
    have t1' : decide (k < nl) = false := by simpa using hlt
    have HF := Lib.hid (show fstIdx isZero l 0 = -1 by rw [HE.out, List.drop_eq_nil_of_le (by rw [HN.out]; omega)]; rfl)
    have HX := Lib.hid X.2
    clear hlt HE
    go_wp2_with fail
    go_ret
    exact ⟨ret_int HF.out.symm, HX.out⟩
theorem own_lay {base e k n cap q : Nat} : ∀ (vs : List Value) (o : Nat) {w : World} {xs : List Value}, w.ownsRow base e k (.slice (some ⟨q, 0, none⟩) n cap) n xs → o + vs.length ≤ xs.length →
 (w.setCells q o vs).ownsRow base e k (.slice (some ⟨q, 0, none⟩) n cap) n (xs.take o ++ vs ++ xs.drop (o + vs.length))
 | [], o, w, xs, h, _ => by simpa [World.setCells] using h
 | v :: vs, o, w, xs, h, hl => by
  have h1 := own_lay vs (o + 1) (h.stored o v).1 (by simp at hl ⊢; omega)
  have e : (xs.set o v).take (o + 1) ++ vs ++ (xs.set o v).drop (o + 1 + vs.length) = xs.take o ++ (v :: vs) ++ xs.drop (o + (v :: vs).length) := by
   have ho : o < xs.length := by simp at hl; omega
   rw [List.take_succ_eq_append_getElem (by simpa using ho), List.take_set_of_le (Nat.le_refl _), List.drop_set_of_lt (by omega)]
   simp [Nat.add_assoc, Nat.add_comm 1]
  rw [e] at h1
  exact h1
theorem flatEd_take (l : List Ed) (i : Nat) : (l.flatMap edC).take (i * 5) = (l.take i).flatMap edC := by
 induction i generalizing l with
 | zero => simp
 | succ i ih =>
  cases l with
  | nil => simp
  | cons a l =>
   rw [List.take_succ_cons, List.flatMap_cons, List.flatMap_cons, ← ih, show (i + 1) * 5 = i * 5 + 1 + 1 + 1 + 1 + 1 by omega]
   simp [edC]
theorem flatEd_drop (l : List Ed) (i : Nat) : (l.flatMap edC).drop (i * 5) = (l.drop i).flatMap edC := by
 induction i generalizing l with
 | zero => simp
 | succ i ih =>
  cases l with
  | nil => simp
  | cons a l =>
   rw [List.drop_succ_cons, List.flatMap_cons, ← ih, show (i + 1) * 5 = i * 5 + 1 + 1 + 1 + 1 + 1 by omega]
   simp [edC]
theorem EdOwn.lay {w : World} {base q n cap : Nat} {l : List Ed} (h : EdOwn w base (.slice (some ⟨q, 0, none⟩) n cap) l) (m : List Ed) (o : Nat) (ho : o + m.length ≤ l.length) :
 EdOwn (w.setCells q (o * 5) (m.flatMap edC)) base (.slice (some ⟨q, 0, none⟩) n cap) (l.take o ++ m ++ l.drop (o + m.length)) := by
 obtain ⟨a, c, e, _, _, _⟩ := h.row
 injection e with _ e2 _
 subst e2
 unfold EdOwn at h ⊢
 have hlen : (l.take o ++ m ++ l.drop (o + m.length)).length = l.length := by simp; omega
 rw [hlen]
 have h1 := own_lay (m.flatMap edC) (o * 5) h (by rw [flatEd_len, flatEd_len]; omega)
 rw [flatEd_len, ← Nat.add_mul, flatEd_take, flatEd_drop, ← List.flatMap_append, ← List.flatMap_append] at h1
 exact h1
theorem EdOwn.less {w : World} {base q n cap : Nat} {l : List Ed} (h : EdOwn w base (.slice (some ⟨q, 0, none⟩) n cap) l) (i : Nat) (hi : i ≤ l.length) : EdOwn w base (.slice (some ⟨q, 0, none⟩) i cap) (l.take i) := by
 obtain ⟨a, c, e, _, _, _⟩ := h.row
 injection e with _ e2 _
 subst e2
 have hl : (l.take i).length = i := by simp; omega
 unfold EdOwn at h ⊢
 rw [hl, ← flatEd_take]
 have hm : i * 5 ≤ l.length * 5 := Nat.mul_le_mul_right _ hi
 refine ⟨by rw [List.length_take, h.1]; omega, ?_⟩
 rcases h.2 with ⟨h0, _⟩ | ⟨g', cap', cur, hv, hg, hb, h1, h2, h3, h4⟩
 · cases h0
 · injection hv with e1 e2 e3
   injection e1 with e1
   injection e1 with e1
   subst e1
   subst e3
   exact Or.inr ⟨q, cap, cur, rfl, hg, hb, Nat.le_trans hi h1, h2, h3, by rw [← h4, List.take_take, Nat.min_eq_left hm]⟩
theorem EdOwn.cleared {w : World} {base q n cap : Nat} {l : List Ed} (h : EdOwn w base (.slice (some ⟨q, 0, none⟩) n cap) l) (vs : List Value) (o : Nat) (ho : l.length * 5 ≤ o) : EdOwn (w.setCells q o vs) base (.slice (some ⟨q, 0, none⟩) n cap) l := by
 obtain ⟨a, c, e, _, _, _⟩ := h.row
 injection e with _ e2 _
 subst e2
 unfold EdOwn at h ⊢
 have go : ∀ (vs : List Value) (o : Nat) (w : World) (xs : List Value), w.ownsRow base 36 5 (.slice (some ⟨q, 0, none⟩) l.length cap) l.length xs → xs.length ≤ o → (w.setCells q o vs).ownsRow base 36 5 (.slice (some ⟨q, 0, none⟩) l.length cap) l.length xs := fun vs => by
  induction vs with
  | nil => intro o w xs h _; exact h
  | cons v vs ih =>
   intro o w xs h ho
   have h1 := (h.stored o v).1
   rw [List.set_eq_of_length_le ho] at h1
   exact ih (o + 1) _ _ h1 (by omega)
 exact go vs o w _ h (by rw [flatEd_len]; exact ho)
end Go.Proofs.YtgdepcnfjmobjaaGreat

/- A text of this claim. -/
namespace Go.Proofs.YtgdepcnfjmobjaaGreat
open Go.RowKit Go.BigFrame
open Tr (Ed)
theorem kept_setE {a b : World} {q : Nat} {p : Addr} {v : Value} (h : Kept (fun k => k = q) a b) (hp : p.block = q) : Kept (fun k => k = q) a (b.setCell p v) := by
 refine h.trans ⟨rfl, rfl, rfl, by simp [World.setCell], fun k hk hne => ?_⟩
 simp only [World.setCell]
 rw [Array.getElem?_modify, if_neg (fun e => hne (by rw [← hp, e]))]
theorem kept_lay (q : Nat) : ∀ (vs : List Value) (o : Nat) (w : World), Kept (fun k => k = q) w (w.setCells q o vs)
 | [], _, _ => Kept.refl _ _
 | v :: vs, o, w => (kept_setE (p := ⟨q, o, none⟩) (v := v) (Kept.refl _ w) rfl).trans (kept_lay q vs (o + 1) _)
section
variable {w : World} {base q n cap : Nat} {l : List Ed}
theorem EdOwn.cellE (h : EdOwn w base (.slice (some ⟨q, 0, none⟩) n cap) l) {i : Nat} (hi : i < cap * 5) : (w.cell? ⟨q, i, none⟩).isSome = true ∧ w.frozen? ⟨q, i, none⟩ = false := by
 rcases h.2 with ⟨h0, _⟩ | ⟨g', cap', cur, hv, hg, hb, h1, h2, h3, h4⟩
 · cases h0
 · injection hv with e1 e2 e3
   injection e1 with e1
   injection e1 with e1
   subst e1
   subst e3
   have : i < cur.size := by rw [h3]; exact hi
   constructor
   · simp [World.cell?, hb, this]
   · simp [World.frozen?, hb]
theorem EdOwn.facts (h : EdOwn w base (.slice (some ⟨q, 0, none⟩) n cap) l) : n = l.length ∧ n ≤ cap ∧ cap ≤ maxLen ∧ base ≤ q := by
 rcases h.2 with ⟨h0, _⟩ | ⟨g', cap', cur, hv, hg, hb, h1, h2, h3, h4⟩
 · cases h0
 · injection hv with e1 e2 e3
   injection e1 with e1
   injection e1 with e1
   subst e1
   subst e3
   exact ⟨e2, by omega, h2, hg⟩
theorem EdOwn.at (h : EdOwn w base (.slice (some ⟨q, 0, none⟩) n cap) l) {i : Nat} {v : Value} (hv : (l.flatMap edC)[i]? = some v) : w.cell? ⟨q, i, none⟩ = some v := by
 obtain ⟨e, _⟩ := h.facts
 subst e
 rw [h.cellAt i (by have := (List.getElem?_eq_some_iff.1 hv).1; rw [flatEd_len] at this; exact this)]
 exact hv
end
theorem step_append_roomE {P : Program} {ops : Array Oper} {o : Oper} {a : Act} {w : World} {K : Act → World → Prop} {Q : Exit → Act → World → Prop} {E : Prop}
 (hg : o.guard = none) (s x : Operand) (t : TypeId) (hop : o.op = Op.call { callee := Callee.builtin Builtin.append, args := #[s, x], argTypes := #[t, t] })
 (e : TypeId) (i : TypeInfo) (h1 : P.underlying t = some (.slice e)) (h2 : P.info? e = some i) (h4 : i.size = 5)
 (b n cap : Nat) (hs : a.eval s = .slice (some ⟨b, 0, none⟩) n cap)
 (ad : Addr) (m c : Nat) (hx : a.eval x = .slice (some ad) m c) (news : List Value) (hn : news.length = m * 5) (hc : ∀ j u, news[j]? = some u → w.cell? (ad.add j) = some u) (h1c : ∀ u ∈ news, u.oneCell' = true)
 (r : Nat) (hr : n + m = r) (hroom : r ≤ cap) (hspare : ∀ j, j < cap * 5 → (w.cell? ⟨b, j, none⟩).isSome = true ∧ w.frozen? ⟨b, j, none⟩ = false)
 (hK : K (a.put o.dst (.slice (some ⟨b, 0, none⟩) r cap)) (w.setCells b (n * 5) news)) :
 if Region.wanted o (yielded ops a.tmps) = true then Oper.wp P o a w K Q else E := by
 subst hr
 refine step_append_room hg s x t hop e i 5 h1 h2 h4 b 0 n cap hs ad m c news hx hn hc h1c hroom (fun j hj => ?_) ?_
 · rw [Nat.zero_add]
   exact hspare _ (by omega)
 · rw [Nat.zero_add]
   exact hK
theorem run_clear_rowE {P : Program} (w : World) (t e ty : TypeId) (z : Value) (ht : P.underlying t = some (.slice e)) (hv : ∀ w, (zeroValue e).run P w = .ok z w) (h1 : ∀ v ∈ z.cells.toList, v.oneCell' = true) (b o n c : Nat) (hn : 0 < n)
 (hc : ∀ j, j < n * z.cells.size → (w.cell? ⟨b, o + j, none⟩).isSome = true) (hf : ∀ j, j < n * z.cells.size → w.frozen? ⟨b, o + j, none⟩ = false) :
 ∃ vs : List Value, (Builtin.clear_ #[t] ty #[.slice (some ⟨b, o, none⟩) n c]).run P w = .ok (.tuple #[]) (w.setCells b o vs) := by
 have hlen : (Builtin.zeroCells z.cells n).toList.length = n * z.cells.size := by simp [Builtin.zeroCells]
 have hone : ∀ v ∈ (Builtin.zeroCells z.cells n).toList, v.oneCell' = true := by
  intro v hv
  simp [Builtin.zeroCells] at hv
  obtain ⟨i, hi, rfl⟩ := hv
  have : 0 < z.cells.size := by
   rcases Nat.eq_zero_or_pos z.cells.size with h | h
   · rw [h] at hi; simp at hi
   · exact h
  have hm := Nat.mod_lt i this
  refine h1 _ ?_
  simp [hm]
 have hst := run_storeCells_cells (P := P) b o (Builtin.zeroCells z.cells n).toList 0 w (by rw [hlen]; simpa using hc) (by rw [hlen]; simpa using hf) hone
 simp only [Nat.add_zero] at hst
 obtain ⟨m, rfl⟩ : ∃ m, n = m + 1 := ⟨n - 1, by omega⟩
 exact ⟨(Builtin.zeroCells z.cells (m + 1)).toList, by simp [Builtin.clear_, run_underlying ht, hv, hst]⟩
set_option maxHeartbeats 4000000 in
set_option maxRecDepth 100000 in
theorem deleteE_any (l : List Ed) (base q cap j p n n1 : Nat) (w : World) (hown : EdOwn w base (.slice (some ⟨q, 0, none⟩) n cap) l) (hn : l.length ≤ 200) (hj : j < n) (hp : p = j + 1) (h1 : n = n1 + 1) :
 Calls Tryz.prog 39 #[.slice (some ⟨q, 0, none⟩) n cap, .int .i64 j, .int .i64 p] w fun e w' =>
  e = .returned (.slice (some ⟨q, 0, none⟩) n1 cap) ∧ EdOwn w' base (.slice (some ⟨q, 0, none⟩) n1 cap) (l.take j ++ l.drop (j + 1)) ∧ Kept (fun b => b = q) w w' := by
 obtain ⟨hln, hnc, hcm, hbq⟩ := hown.facts
 unfold maxLen at hcm
 obtain ⟨m, hm⟩ : ∃ m, n = p + m := ⟨n - p, by omega⟩
 have hel : Tryz.prog.elem 27 = 36 := by kernel_rfl
 have hso := Tryz.sizeOf36
 have U := Tryz.underlying27
 have hne : ((j : Int) == (p : Int)) = false := by rw [beq_eq_false_iff_ne]; omega
 obtain ⟨ad, had⟩ : ∃ ad : Addr, ad = if cap = p then ⟨q, 0, none⟩ else ⟨q, p * 5, none⟩ := ⟨_, rfl⟩
 have s1 : ∀ W : World, (Instr.slice 27 (.slice (some ⟨q, 0, none⟩) n cap) (some (.int .i64 (j : Int))) (some (.int .i64 (p : Int))) (some (.int .i64 (n : Int)))).run Tryz.prog W = .ok (.slice (some ⟨q, j * 5, none⟩) 1 (n - j)) W := fun W => by
  rw [run_slice_lhm (w := W) 27 _ n cap U .i64 .i64 .i64 (j : Int) (p : Int) (n : Int) (by omega) (by omega) (by omega) (by omega), hel, hso]
  have : ¬ n = j := by omega
  have h2 : p - j = 1 := by omega
  simp [sliced, Result.andThen, this, addr_plus, h2]
 have s2 : ∀ W : World, (Instr.slice 27 (.slice (some ⟨q, 0, none⟩) n cap) none (some (.int .i64 (j : Int))) none).run Tryz.prog W = .ok (.slice (some ⟨q, 0, none⟩) j cap) W := fun W => by
  rw [run_slice_h (w := W) 27 _ n cap U .i64 (j : Int) (by omega) (by omega), hel, hso]
  have : ¬ cap = 0 := by omega
  simp [sliced, Result.andThen, this, addr_plus]
 have s3 : ∀ W : World, (Instr.slice 27 (.slice (some ⟨q, 0, none⟩) n cap) (some (.int .i64 (p : Int))) none none).run Tryz.prog W = .ok (.slice (some ad) m (cap - p)) W := fun W => by
  rw [run_slice_l (w := W) 27 _ n cap U .i64 (p : Int) (by omega) (by omega), hel, hso, had]
  have h2 : n - p = m := by omega
  by_cases h : cap = p
  · simp [sliced, Result.andThen, h, h2]
  · simp [sliced, Result.andThen, h, addr_plus, h2]
 have s4 : ∀ W : World, (Instr.slice 27 (.slice (some ⟨q, 0, none⟩) n1 cap) (some (.int .i64 (n1 : Int))) (some (.int .i64 (n : Int))) none).run Tryz.prog W = .ok (.slice (some ⟨q, n1 * 5, none⟩) 1 (cap - n1)) W := fun W => by
  rw [run_slice_lh (w := W) 27 _ n1 cap U .i64 .i64 (n1 : Int) (n : Int) (by omega) (by omega) (by omega), hel, hso]
  have : ¬ cap = n1 := by omega
  have h2 : n - n1 = 1 := by omega
  simp [sliced, Result.andThen, this, addr_plus, h2]
 obtain ⟨news, hnews⟩ : ∃ news, news = (l.drop p).flatMap edC := ⟨_, rfl⟩
 have hnl : news.length = m * 5 := by rw [hnews, flatEd_len, List.length_drop]; omega
 have hone : ∀ u ∈ news, u.oneCell' = true := by rw [hnews]; exact flatEd_one _
 have hcc : ∀ i u, news[i]? = some u → w.cell? (ad.add i) = some u := fun i u hi => by
  have hi2 := (List.getElem?_eq_some_iff.1 hi).1
  rw [hnl] at hi2
  rw [had, if_neg (by omega), addr_plus]
  refine hown.at ?_
  rw [hnews, ← flatEd_drop, List.getElem?_drop] at hi
  exact hi
 have hsp := fun (i : Nat) (hi : i < cap * 5) => hown.cellE hi
 obtain ⟨W1, hW1⟩ : ∃ W, w.drew.setCells q (j * 5) news = W := ⟨_, rfl⟩
 have hro : EdOwn W1 base (.slice (some ⟨q, 0, none⟩) n cap) (l.take j ++ l.drop p ++ l.drop (j + (l.drop p).length)) := by
  rw [← hW1, hnews]
  exact (hown.below (Below.refl _ w).drew).lay (l.drop p) j (by rw [List.length_drop]; omega)
 have hk1 : Kept (fun b => b = q) w W1 := by
  rw [← hW1]
  exact (Kept.of_below (Below.refl _ w).drew).trans (kept_lay q news (j * 5) _)
 have hz : ∀ w, (zeroValue 36).run Tryz.prog w = .ok (.agg #[.int .i64 0, .int .i64 0, .int .i64 0, .int .i64 0, .string ⟨#[]⟩]) w := fun w => by kernel_rfl
 obtain ⟨vs, hvs⟩ := run_clear_rowE (P := Tryz.prog) W1 27 36 0 (.agg #[.int .i64 0, .int .i64 0, .int .i64 0, .int .i64 0, .string ⟨#[]⟩]) U hz (by decide) q (n1 * 5) 1 (cap - n1) (by omega)
  (fun i (hi : i < 1 * 5) => (hro.cellE (i := n1 * 5 + i) (by omega)).1) (fun i (hi : i < 1 * 5) => (hro.cellE (i := n1 * 5 + i) (by omega)).2)
 obtain ⟨W2, hW2⟩ : ∃ W, W1.setCells q (n1 * 5) vs = W := ⟨_, rfl⟩
 have hr2 : EdOwn W2 base (.slice (some ⟨q, 0, none⟩) n1 cap) (l.take j ++ l.drop (j + 1)) := by
  have h3 := hro.less n1 (by simp; omega)
  have e : (l.take j ++ l.drop p ++ l.drop (j + (l.drop p).length)).take n1 = l.take j ++ l.drop (j + 1) := by
   rw [List.take_append_of_le_length (by simp; omega), List.take_of_length_le (by simp; omega), hp]
  rw [e] at h3
  rw [← hW2]
  exact h3.cleared vs (n1 * 5) (by simp; omega)
 have hk2 : Kept (fun b => b = q) w W2 := by
  rw [← hW2]
  exact hk1.trans (kept_lay q vs (n1 * 5) _)
 rw [hW2] at hvs
 obtain ⟨i0, hi0, hz0, hz1, hz2⟩ := info_parts (show (Tryz.prog.info? 36).map (fun i => (i.zero, i.size, i.bytes)) = some (some (.agg #[.int .i64 0, .int .i64 0, .int .i64 0, .int .i64 0, .string ⟨#[]⟩]), 5, 48) by kernel_rfl)
 have hjm : j + m = n1 := by omega
 have HI := Lib.hid (And.intro hi0 hz1)
 have HN := Lib.hid (And.intro hnl (And.intro hcc hone))
 have HS := Lib.hid hsp
 have HW1 := Lib.hid hW1
 have HR := Lib.hid (And.intro hr2 hk2)
 have HJ := Lib.hid hjm
 have hn1c : n1 ≤ cap := by omega
 clear hown hnl hcc hone hsp hW1 hro hk1 hz hr2 hk2 hi0 hz0 hz1 hz2 hnews hjm hW2 had hn hln hbq hp h1 hm
 go_enter Tryz.func39, Tryz.ntmps39
 go_wp2_with fail
 go_region_law (refine step_append_roomE rfl (.tmp 22) (.tmp 25) 27 rfl 36 i0 U HI.out.1 HI.out.2 q j cap rfl ad m (cap - p) rfl news HN.out.1 HN.out.2.1 HN.out.2.2 n1 HJ.out hn1c HS.out ?_)
 all_goals
  rw [HW1.out]
  go_wp2_with fail
  go_ret
  exact ⟨rfl, HR.out.1, HR.out.2⟩
end Go.Proofs.YtgdepcnfjmobjaaGreat

/- A text of this claim. -/
namespace Go.Proofs.YtgdepcnfjmobjaaGreat
open Go.RowKit Go.BigFrame
open Tr (Ed)
theorem run_copyE {P : Program} (w : World) (dT sT ty elem : TypeId) (i : TypeInfo) (b o dLen dCap : Nat) (a : Option Addr) (sLen sCap k : Nat) (cs : List Value)
 (hu : P.underlying dT = some (.slice elem)) (hi : P.info? elem = some i) (hk : k = Nat.min sLen dLen) (hn : cs.length = k * i.size)
 (hsrc : 0 < k → ∃ ad, a = some ad ∧ ∀ j v, cs[j]? = some v → w.cell? (ad.add j) = some v) (h1 : ∀ v ∈ cs, v.oneCell' = true)
 (hc : ∀ j, j < cs.length → (w.cell? ⟨b, o + j, none⟩).isSome = true) (hf : ∀ j, j < cs.length → w.frozen? ⟨b, o + j, none⟩ = false) :
 (Builtin.copy_ #[dT, sT] ty #[.slice (some ⟨b, o, none⟩) dLen dCap, .slice a sLen sCap]).run P w = .ok (goInt k) (w.setCells b o cs) := by
 have hst := run_storeCells_cells (P := P) b o cs 0 w (by simpa using hc) (by simpa using hf) h1
 simp only [Nat.add_zero] at hst
 rcases Nat.eq_zero_or_pos k with h0 | h0
 · subst h0
   have : cs = [] := List.length_eq_zero_iff.1 (by rw [hn, Nat.zero_mul])
   subst this
   cases a <;> simp [Builtin.copy_, run_underlying hu, Builtin.lenOf, Builtin.firstCells, sizeOf, typeInfo, hi, ← hk, hst, loadCells, loadCellsFrom]
 · obtain ⟨ad, rfl, hs⟩ := hsrc h0
   have hl := run_loadCells_list (P := P) w ad cs hs
   rw [hn] at hl
   simp [Builtin.copy_, run_underlying hu, Builtin.lenOf, Builtin.firstCells, sizeOf, typeInfo, hi, ← hk, hl, hst]
theorem wp_copyE {P : Program} {o : Oper} {a : Act} {w : World} {K : Act → World → Prop} {Q : Exit → Act → World → Prop} (d s : Operand) (dT sT : TypeId)
 (ho : o.op = .call { callee := .builtin .copy, args := #[d, s], argTypes := #[dT, sT] }) (elem : TypeId) (i : TypeInfo) (hu : P.underlying dT = some (.slice elem)) (hi : P.info? elem = some i)
 (b off dLen dCap : Nat) (sa : Option Addr) (sLen sCap k : Nat) (hd : a.eval d = .slice (some ⟨b, off, none⟩) dLen dCap) (hs : a.eval s = .slice sa sLen sCap) (cs : List Value) (hk : k = Nat.min sLen dLen) (hn : cs.length = k * i.size)
 (hsrc : 0 < k → ∃ ad, sa = some ad ∧ ∀ j v, cs[j]? = some v → w.cell? (ad.add j) = some v) (h1 : ∀ v ∈ cs, v.oneCell' = true)
 (hc : ∀ j, j < cs.length → (w.cell? ⟨b, off + j, none⟩).isSome = true) (hf : ∀ j, j < cs.length → w.frozen? ⟨b, off + j, none⟩ = false)
 (hK : K (a.put o.dst (goInt k)) (w.setCells b off cs)) : Oper.wp P o a w K Q := by
 have hrun := run_copyE (P := P) w dT sT o.type elem i b off dLen dCap sa sLen sCap k cs hu hi hk hn hsrc h1 hc hf
 unfold Oper.wp
 simp [execOp, ho, resolve, invoke, builtin, hd, hs, hrun, Result.andThen]
 exact hK
theorem wpList_append_roomE {P : Program} {w : World} {ops : Array Oper} {rest : List Oper} {o : Oper} {a : Act} {Q : Exit → Act → World → Prop} (hgd : o.guard = none) (s x : Operand) (t : TypeId)
 (ho : o.op = .call { callee := .builtin .append, args := #[s, x], argTypes := #[t, t] }) (e : TypeId) (i : TypeInfo) (ht : P.underlying t = some (.slice e)) (hi : P.info? e = some i) (hi5 : i.size = 5)
 (b n cap : Nat) (hs : a.eval s = .slice (some ⟨b, 0, none⟩) n cap) (sa : Option Addr) (m c : Nat) (hx : a.eval x = .slice sa m c) (hnc : n ≤ cap) (news : List Value) (hn : news.length = m * 5)
 (hsrc : 0 < m → ∃ ad, sa = some ad ∧ ∀ j v, news[j]? = some v → w.cell? (ad.add j) = some v) (h1 : ∀ u ∈ news, u.oneCell' = true)
 (r : Nat) (hr : n + m = r) (hroom : r ≤ cap) (hspare : ∀ j, j < cap * 5 → (w.cell? ⟨b, j, none⟩).isSome = true ∧ w.frozen? ⟨b, j, none⟩ = false)
 (h : wpList P ops Q rest (a.put o.dst (.slice (some ⟨b, 0, none⟩) r cap)) (w.setCells b (n * 5) news)) : wpList P ops Q (o :: rest) a w := by
 subst hr
 refine wpList_plain hgd fun K hK => ?_
 have hrun : (Builtin.append_ #[t, t] o.type #[.slice (some ⟨b, 0, none⟩) n cap, .slice sa m c]).run P w = .ok (.slice (some ⟨b, 0, none⟩) (n + m) cap) (w.setCells b (n * 5) news) := by
  rcases Nat.eq_zero_or_pos m with h0 | h0
  · subst h0
    have : news = [] := List.length_eq_zero_iff.1 (by rw [hn, Nat.zero_mul])
    subst this
    exact append_noneE ht hi o.type (some ⟨b, 0, none⟩) n cap hnc sa c w
  · obtain ⟨ad, rfl, hc⟩ := hsrc h0
    have hrun := run_append_room_cells (P := P) w t o.type e i ht hi b 0 n cap ad m c news (by rw [hi5]; exact hn) hc h1 hroom (fun j hj => by rw [Nat.zero_add]; exact (hspare _ (by rw [hi5]; omega)).1) (fun j hj => by rw [Nat.zero_add]; exact (hspare _ (by rw [hi5]; omega)).2)
    rw [Nat.zero_add, hi5] at hrun
    exact hrun
 unfold Oper.wp
 simp [execOp, ho, resolve, invoke, builtin, hs, hx, hrun, Result.andThen]
 exact hK _ _ h
theorem slice_l_any {P : Program} {t e : TypeId} (U : P.underlying t = some (.slice e)) (hel : P.elem t = e) (hso : ∀ w, (sizeOf e).run P w = .ok 5 w) (q n cap i : Nat) (x : Int) (hx : x = i) (h1 : i ≤ n) (h3 : i < cap) (W : World) :
 (Instr.slice t (.slice (some ⟨q, 0, none⟩) n cap) (some (.int .i64 x)) none none).run P W = .ok (.slice (some ⟨q, i * 5, none⟩) (n - i) (cap - i)) W := by
 subst hx
 rw [run_slice_l (w := W) t _ n cap (by rw [hel]; exact U) .i64 (i : Int) (by omega) (by omega), hel, hso]
 have : ¬ cap = i := by omega
 simp [sliced, Result.andThen, this, addr_plus]
theorem slice_h_any {P : Program} {t e : TypeId} (U : P.underlying t = some (.slice e)) (hel : P.elem t = e) (hso : ∀ w, (sizeOf e).run P w = .ok 5 w) (q n cap i : Nat) (x : Int) (hx : x = i) (h2 : i ≤ cap) (h3 : 0 < cap) (W : World) :
 (Instr.slice t (.slice (some ⟨q, 0, none⟩) n cap) none (some (.int .i64 x)) none).run P W = .ok (.slice (some ⟨q, 0, none⟩) i cap) W := by
 subst hx
 rw [run_slice_h (w := W) t _ n cap (by rw [hel]; exact U) .i64 (i : Int) (by omega) (by omega), hel, hso]
 have : ¬ cap = 0 := by omega
 simp [sliced, Result.andThen, this, addr_plus]
theorem slice_lh_any {P : Program} {t e : TypeId} (U : P.underlying t = some (.slice e)) (hel : P.elem t = e) (hso : ∀ w, (sizeOf e).run P w = .ok 5 w) (q n cap i j : Nat) (x y : Int) (hx : x = i) (hy : y = j) (h1 : i ≤ j) (h2 : j ≤ cap) (h3 : i < cap) (W : World) :
 (Instr.slice t (.slice (some ⟨q, 0, none⟩) n cap) (some (.int .i64 x)) (some (.int .i64 y)) none).run P W = .ok (.slice (some ⟨q, i * 5, none⟩) (j - i) (cap - i)) W := by
 subst hx
 subst hy
 rw [run_slice_lh (w := W) t _ n cap (by rw [hel]; exact U) .i64 .i64 (i : Int) (j : Int) (by omega) (by omega) (by omega), hel, hso]
 have : ¬ cap = i := by omega
 simp [sliced, Result.andThen, this, addr_plus]
end Go.Proofs.YtgdepcnfjmobjaaGreat
