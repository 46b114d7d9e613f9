/- Several texts of this claim in one. -/
import Derived.Test.YtjnfccphodjfiaaGreatMs7
import Derived.Test.YtjnfccphodjfiaaGreatMs2
import Derived.Test.YtjnfccphodjfiaaGreatMs4
namespace Go.Proofs.YtjnfccphodjfiaaGreat
set_option maxHeartbeats 8000000
set_option maxRecDepth 100000
open Go.RowKit Go.BigFrame
open Tr (inR Ed)
structure Srt (l P : List Int) (i : Nat) : Prop where
 perm : P.Perm l
 ord : ∀ (a b : Nat) (x y : Int), a < b → b < i → P[a]? = some x → P[b]? = some y → x ≤ y
structure Ins (l P : List Int) (i j : Nat) : Prop where
 perm : P.Perm l
 jle : j ≤ i
 lo : ∀ (a b : Nat) (x y : Int), a < b → b ≤ i → a ≠ j → b ≠ j → P[a]? = some x → P[b]? = some y → x ≤ y
 hi : ∀ (b : Nat) (x y : Int), j < b → b ≤ i → P[j]? = some x → P[b]? = some y → x ≤ y
theorem Srt.ins {l P : List Int} {i : Nat} (h : Srt l P i) : Ins l P i i :=
 ⟨h.perm, Nat.le_refl _, fun a b x y h1 h2 h3 h4 hx hy => h.ord a b x y h1 (by omega) hx hy, fun b x y h1 h2 _ _ => by omega⟩
theorem Ins.swap {l P : List Int} {i j : Nat} {x y : Int} (h : Ins l P i (j + 1)) (hx : P[j + 1]? = some x) (hy : P[j]? = some y) (hlt : x < y) : Ins l ((P.set (j + 1) y).set j x) i j := by
 obtain ⟨hx1, hx2⟩ := List.getElem?_eq_some_iff.1 hx; obtain ⟨hy1, hy2⟩ := List.getElem?_eq_some_iff.1 hy; have e : ∀ a, ((P.set (j + 1) y).set j x)[a]? = if a = j then some x else if a = j + 1 then some y else P[a]? := fun a => by
  by_cases h1 : a = j
  · subst h1
    rw [if_pos rfl, List.getElem?_set_self (by rw [List.length_set]; exact hy1)]
  · rw [if_neg h1, List.getElem?_set_ne (by omega)]
    by_cases h2 : a = j + 1
    · subst h2
      rw [if_pos rfl, List.getElem?_set_self hx1]
    · rw [if_neg h2, List.getElem?_set_ne (by omega)]
 refine ⟨?_, by have := h.jle; omega, fun a b p q h1 h2 h3 h4 hp hq => ?_, fun b p q h1 h2 hp hq => ?_⟩
 · have hp := @List.set_set_perm Int P (j + 1) j hx1 hy1
   rw [hx2, hy2] at hp; exact hp.trans h.perm
 · rw [e, if_neg h3] at hp
   rw [e, if_neg h4] at hq; by_cases ha : a = j + 1
   · rw [if_pos ha] at hp
     injection hp with hp; subst hp; rw [if_neg (by omega)] at hq; exact h.lo j b y q (by omega) h2 (by omega) (by omega) hy hq
   · rw [if_neg ha] at hp
     by_cases hb : b = j + 1
     · rw [if_pos hb] at hq
       injection hq with hq; subst hq; exact h.lo a j p y (by omega) (by omega) ha (by omega) hp hy
     · rw [if_neg hb] at hq
       exact h.lo a b p q h1 h2 ha hb hp hq
 · rw [e, if_pos rfl] at hp
   injection hp with hp; subst hp; rw [e, if_neg (by omega)] at hq; by_cases hb : b = j + 1
   · rw [if_pos hb] at hq
     injection hq with hq; omega
   · rw [if_neg hb] at hq
     exact h.hi b x q (by omega) h2 hx hq
theorem Ins.stop {l P : List Int} {i j : Nat} (h : Ins l P i j) (hs : ∀ (x y : Int), 0 < j → P[j]? = some x → P[j - 1]? = some y → ¬ x < y) : Srt l P (i + 1) := by
 refine ⟨h.perm, fun a b x y h1 h2 hx hy => ?_⟩; by_cases ha : a = j
 · subst ha
   exact h.hi b x y h1 (by omega) hx hy
 · by_cases hb : b = j
   · subst hb
     obtain ⟨hb1, _⟩ := List.getElem?_eq_some_iff.1 hy; obtain ⟨z, hz⟩ : ∃ z, P[b - 1]? = some z := ⟨_, List.getElem?_eq_getElem (by omega)⟩; have h3 := hs y z (by omega) hy hz; by_cases he : a = b - 1
     · subst he
       rw [hx] at hz; injection hz with hz; omega
     · have := h.lo a (b - 1) x z (by omega) (by have := h.jle; omega) ha (by omega) hx hz
       omega
   · exact h.lo a b x y h1 (by omega) ha hb hx hy
theorem Srt.done {l P : List Int} {n : Nat} (h : Srt l P n) (hn : P.length = n) : P = srt l := by
 have h1 : P.Pairwise (fun x y => x ≤ y) := by
  rw [List.pairwise_iff_getElem]; intro a b ha hb hab; exact h.ord a b _ _ hab (by omega) (List.getElem?_eq_getElem ha) (List.getElem?_eq_getElem hb)
 have h2 : (srt l).Pairwise (fun x y => x ≤ y) := by
  have := List.pairwise_mergeSort (le := fun x y : Int => decide (x ≤ y)) (fun a b c h1 h2 => by
   simp only [decide_eq_true_eq] at h1 h2 ⊢; omega) (fun a b => by
   simp only [Bool.or_eq_true, decide_eq_true_eq]; omega) l
  exact this.imp (fun h => by simpa using h)
 exact List.Perm.eq_of_pairwise (le := fun x y : Int => x ≤ y) (fun a b _ _ h3 h4 => by omega) h1 h2 (h.perm.trans (List.mergeSort_perm _ _).symm)
theorem rmiddle_any (l : List Int) (q cap base n : Nat) (w : World) (hown : Own zC 1 3 w base (.slice (some ⟨q, 0, none⟩) n cap) l) (hn : l.length = n) (h0 : 0 < n) (h1 : n ≤ 1000) :
 Calls Tryz.prog 89 #[.slice (some ⟨q, 0, none⟩) n cap] w fun e w' => e = .returned (.int .i64 (midL l)) ∧ Kept (fun b => b = q) w w' := by
 have HOW := qH hown; have HN := qH hn; clear hown hn; go_enter Tryz.func89, Tryz.ntmps89; go_wp2_with fail
 go_loopw [7] (fun iv wr => ∃ (i : Nat) (P : List Int), iv = .int .i64 i ∧ i ≤ n ∧ Hid (Srt l P i) ∧ Hid (Own zC 1 3 wr base (.slice (some ⟨q, 0, none⟩) n cap) P) ∧ ∃ Z : ExtO (fun b => b = q) w, wr = Z.1) (fun iv _ => n - (intOf iv).toNat)
 case atStart => exact ⟨0, l, rfl, by omega, qH ⟨List.Perm.refl _, fun _ _ _ _ _ h => by omega⟩, HOW, ⟨w, Kept.refl _ _⟩, rfl⟩
 case round =>
  obtain ⟨i, P, rfl, hi, HS, HO, Z, rfl⟩ := hrel; by_cases hlt : i < n
  · have t1 : decide ((i : Int) < (n : Int)) = true := dTt (by omega)
    have t1' : decide (i < n) = true := by simpa using hlt
    go_wp2_with fail
    go_loopw [4] (fun jv wr => ∃ (j : Nat) (P : List Int), jv = .int .i64 j ∧ j ≤ i ∧ Hid (Ins l P i j) ∧ Hid (Own zC 1 3 wr base (.slice (some ⟨q, 0, none⟩) n cap) P) ∧ ∃ Z : ExtO (fun b => b = q) w, wr = Z.1) (fun jv _ => (intOf jv).toNat)
    case atStart => exact ⟨i, P, rfl, Nat.le_refl _, qH HS.out.ins, HO, Z, rfl⟩
    case round =>
     clear HS HO Z P; obtain ⟨j, P, rfl, hj, HI, HO, Z, rfl⟩ := hrel; have hPl : P.length = n := by rw [HI.out.perm.length_eq, HN.out]
     obtain ⟨x, hx⟩ : ∃ x, P[j]? = some x := ⟨_, List.getElem?_eq_getElem (by omega)⟩; have hcx : Z.1.cell? ⟨q, j, none⟩ = some (.int .i64 x) := by
      have h := (HO.out.rw_ zEl).1.on hx 0 _ rfl
      simpa using h
     have hjn : j < n := by omega
     match j with
     | 0 =>
      have HS2 := qH (HI.out.stop (fun _ _ h => by omega)); clear hPl hx; go_wp2_with fail
      go_quiet (fail)
      obtain ⟨Z', hZ'⟩ : ∃ Z' : ExtO (fun b => b = q) w, Z.1.drewN nq = Z'.1 := ⟨⟨Z.1.drewN nq, Z.2.trans ⟨rfl, rfl, rfl, Nat.le_refl _, fun _ _ _ => rfl⟩⟩, rfl⟩; have HO' := qH (show Own zC 1 3 Z'.1 base (.slice (some ⟨q, 0, none⟩) n cap) P from hZ' ▸ HO.out); rw [hZ']; clear hZ' hcx; go_wp2_with fail
      go_roundw
      case rel => exact ⟨i + 1, P, by go_num, by omega, HS2, HO', Z', rfl⟩
      case measure => simp [intOf]; omega
     | j + 1 =>
      obtain ⟨y, hy⟩ : ∃ y, P[j]? = some y := ⟨_, List.getElem?_eq_getElem (by omega)⟩; have hcy : Z.1.cell? ⟨q, j, none⟩ = some (.int .i64 y) := by
       have h := (HO.out.rw_ zEl).1.on hy 0 _ rfl
       simpa using h
      have t2 : decide (((j + 1 : Nat) : Int) > 0) = true := dTt (by omega); have t2' : decide ((0 : Int) < ((j + 1 : Nat) : Int)) = true := dTt (by omega); have t2'' : decide ((0 : Int) < (j : Int) + 1) = true := dTt (by omega); have w1 : IntKind.i64.wrap (((j + 1 : Nat) : Int) - 1) = (j : Int) := by rw [tm_wrap (by omega) (by omega)]; omega
      have w1' : IntKind.i64.wrap ((j : Int) + 1 - 1) = (j : Int) := by rw [tm_wrap (by omega) (by omega)]; omega
      have hjn2 : j < n := by omega
      have b0 : (0 : Int) ≤ (j : Int) + 1 ∧ (j : Int) + 1 < (n : Int) := by omega
      have b1 : (0 : Int) ≤ (j : Int) ∧ (j : Int) < (n : Int) := by omega
      by_cases hlt2 : x < y
      · have t3 : decide (x < y) = true := by rw [decide_eq_true_eq]; exact hlt2
        have HI2 := qH (HI.out.swap hx hy hlt2); have HX := qH (And.intro hx hy); clear hlt2 hPl hx hy; go_wp2_with fail
        go_quiet (fail)
        obtain ⟨Z', hZ'⟩ : ∃ Z' : ExtO (fun b => b = q) w, Z.1.drewN nq = Z'.1 := ⟨⟨Z.1.drewN nq, Z.2.trans ⟨rfl, rfl, rfl, Nat.le_refl _, fun _ _ _ => rfl⟩⟩, rfl⟩; have HO' := qH (show Own zC 1 3 Z'.1 base (.slice (some ⟨q, 0, none⟩) n cap) P from hZ' ▸ HO.out); rw [hZ']; clear hZ' hcx hcy; go_upto_region 7 with (fail); refine held_start (C := fun _ => True) (by kernel_rfl) ?_; obtain ⟨Q0, hQ0⟩ : ∃ Q : World, ({ Z'.1 with drawn := Z'.1.drawn + 1 } : World) = Q := ⟨_, rfl⟩; have hoq : Own zC 1 3 Q0 base (.slice (some ⟨q, 0, none⟩) n cap) P := hQ0 ▸ HO'.out; have hkq : Kept (fun b => b = q) w Q0 := hQ0 ▸ Z'.2.trans ⟨rfl, rfl, rfl, Nat.le_refl _, fun _ _ _ => rfl⟩; rw [hQ0]; have c0 : Q0.cell? ⟨q, j + 1, none⟩ = some (.int .i64 x) := by
         have h := (hoq.rw_ zEl).1.on HX.out.1 0 _ rfl
         simpa using h
        have c1 : Q0.cell? ⟨q, j, none⟩ = some (.int .i64 y) := by
         have h := (hoq.rw_ zEl).1.on HX.out.2 0 _ rfl
         simpa using h
        have f0 := hoq.free (j + 1); obtain ⟨ho1, hk1⟩ := hoq.set zEl (j := 0) HX.out.1 (by decide) (y := y) (u := .int .i64 y) rfl; rw [Nat.mul_one, Nat.add_zero] at ho1 hk1; obtain ⟨W1, hS1⟩ : ∃ z, Q0.setCell ⟨q, j + 1, none⟩ (.int .i64 y) = z := ⟨_, rfl⟩; rw [hS1] at ho1 hk1; have hyj : (P.set (j + 1) y)[j]? = some y := by rw [List.getElem?_set_ne (by omega)]; exact HX.out.2
        have f1 := ho1.free j; have r0 : W1.cell? ⟨q, j, none⟩ = some (.int .i64 y) := by
         have h := (ho1.rw_ zEl).1.on hyj 0 _ rfl
         simpa using h
        obtain ⟨ho2, hk2⟩ := ho1.set zEl (j := 0) hyj (by decide) (y := x) (u := .int .i64 x) rfl; rw [Nat.mul_one, Nat.add_zero] at ho2 hk2; obtain ⟨W2, hS2⟩ : ∃ z, W1.setCell ⟨q, j, none⟩ (.int .i64 x) = z := ⟨_, rfl⟩; rw [hS2] at ho2 hk2; have HO2 := qH ho2; have HK2 := qH ((hkq.trans hk1).trans hk2); have f2 := f0; have f3 := f1; have r1 := r0; clear hQ0 hoq hkq ho1 hk1 ho2 hk2 hyj; refine held_quiet (by kernel_rfl) (fun _ _ d _ _ h => by cases d <;> exact h) trivial [0, 1, 2, 3, 4, 5, 6, 7, 8, 10, 11, 12] 6 _ _ (by kernel_rfl) ?_; change wpQuiet _ _ _ _ (_ :: _ :: _ :: _ :: _ :: _ :: _ :: _ :: _ :: _ :: _ :: _ :: []) _
        repeat go_big_quiet_step (fail)
        refine wpQuiet_nil ?_; refine held_two (i := 9) (j := 13) _ _ rfl rfl (by kernel_rfl) rfl rfl (fun K hK => ?_) (fun K hK => ?_)
        · go_simp
          try rw [if_pos b0]
          try rw [if_pos b1]
          refine hK _ _ trivial ?_; clear hK K
          try simp only [pS]
          refine held_do (i := 13) _ rfl (by kernel_rfl) rfl (fun K hK => ?_); go_simp
          try rw [if_pos b0]
          try rw [if_pos b1]
          refine hK _ _ trivial ?_; clear hK K
          try simp only [pS]
          refine held_do (i := 14) _ rfl (by kernel_rfl) rfl (fun K hK => ?_); go_simp
          try rw [if_pos b0]
          try rw [if_pos b1]
          refine hK _ _ trivial ?_; clear hK K
          try simp only [pS]
          refine held_do (i := 15) _ rfl (by kernel_rfl) rfl (fun K hK => ?_); go_simp
          try rw [if_pos b0]
          try rw [if_pos b1]
          refine hK _ _ trivial ?_; clear hK K
          try simp only [pS]
          refine held_do (i := 16) _ rfl (by kernel_rfl) rfl (fun K hK => ?_); go_simp
          try rw [if_pos b0]
          try rw [if_pos b1]
          refine hK _ _ trivial ?_; clear hK K
          try simp only [pS]
          refine held_do (i := 17) _ rfl (by kernel_rfl) rfl (fun K hK => ?_); go_simp
          try rw [if_pos b0]
          try rw [if_pos b1]
          refine hK _ _ trivial ?_; clear hK K
          try simp only [pS]
          refine wpAnyH_done (by kernel_rfl) ?_ _; clear c0 c1 f0 f1 f2 f3 hS1 hS2 r0 r1; go_wp2_with fail
          go_roundw
          case rel => exact ⟨j, _, rfl, by omega, HI2, HO2, ⟨W2, HK2.out⟩, rfl⟩
          case measure => simp [intOf]
        · go_simp
          try rw [if_pos b0]
          try rw [if_pos b1]
          refine hK _ _ trivial ?_; clear hK K
          try simp only [pS]
          refine held_do (i := 9) _ rfl (by kernel_rfl) rfl (fun K hK => ?_); go_simp
          try rw [if_pos b0]
          try rw [if_pos b1]
          refine hK _ _ trivial ?_; clear hK K
          try simp only [pS]
          refine held_do (i := 14) _ rfl (by kernel_rfl) rfl (fun K hK => ?_); go_simp
          try rw [if_pos b0]
          try rw [if_pos b1]
          refine hK _ _ trivial ?_; clear hK K
          try simp only [pS]
          refine held_do (i := 15) _ rfl (by kernel_rfl) rfl (fun K hK => ?_); go_simp
          try rw [if_pos b0]
          try rw [if_pos b1]
          refine hK _ _ trivial ?_; clear hK K
          try simp only [pS]
          refine held_do (i := 16) _ rfl (by kernel_rfl) rfl (fun K hK => ?_); go_simp
          try rw [if_pos b0]
          try rw [if_pos b1]
          refine hK _ _ trivial ?_; clear hK K
          try simp only [pS]
          refine held_do (i := 17) _ rfl (by kernel_rfl) rfl (fun K hK => ?_); go_simp
          try rw [if_pos b0]
          try rw [if_pos b1]
          refine hK _ _ trivial ?_; clear hK K
          try simp only [pS]
          refine wpAnyH_done (by kernel_rfl) ?_ _; clear c0 c1 f0 f1 f2 f3 hS1 hS2 r0 r1; go_wp2_with fail
          go_roundw
          case rel => exact ⟨j, _, rfl, by omega, HI2, HO2, ⟨W2, HK2.out⟩, rfl⟩
          case measure => simp [intOf]
      · have t3 : decide (x < y) = false := by rw [decide_eq_false_iff_not]; exact hlt2
        have HS2 := qH (HI.out.stop (fun a b _ ha hb => by
         rw [hx] at ha; rw [Nat.add_sub_cancel, hy] at hb; injection ha with ha; injection hb with hb; omega))
        clear hlt2 hPl hx hy; go_wp2_with fail
        go_quiet (fail)
        obtain ⟨Z', hZ'⟩ : ∃ Z' : ExtO (fun b => b = q) w, Z.1.drewN nq = Z'.1 := ⟨⟨Z.1.drewN nq, Z.2.trans ⟨rfl, rfl, rfl, Nat.le_refl _, fun _ _ _ => rfl⟩⟩, rfl⟩; have HO' := qH (show Own zC 1 3 Z'.1 base (.slice (some ⟨q, 0, none⟩) n cap) P from hZ' ▸ HO.out); rw [hZ']; clear hZ' hcx hcy; go_wp2_with fail
        go_roundw
        case rel => exact ⟨i + 1, P, by go_num, by omega, HS2, HO', Z', rfl⟩
        case measure => simp [intOf]; omega
  · have t1 : decide ((i : Int) < (n : Int)) = false := dFf (by omega)
    have t1' : decide (i < n) = false := by simpa using hlt
    obtain rfl : n = i := by omega
    have hPl : P.length = n := by rw [HS.out.perm.length_eq, HN.out]
    have hP := HS.out.done hPl; obtain ⟨mv, hmv⟩ : ∃ z, midL l = z := ⟨_, rfl⟩; have HMV := qH hmv; obtain ⟨md, hmd⟩ : ∃ md, (n - 1) / 2 = md := ⟨_, rfl⟩; have hmid : Z.1.cell? ⟨q, md, none⟩ = some (.int .i64 mv) := by
     have h := (HO.out.rw_ zEl).1.on (show P[md]? = some mv from by rw [hP, ← hmd, ← hmv]; exact mid_at HN.out h0) 0 _ rfl
     simpa using h
    have e1 : IntKind.i64.wrap ((n : Int) - 1) = (n : Int) - 1 := tm_wrap (by omega) (by omega); have e2 : Int.tdiv ((n : Int) - 1) 2 = (md : Int) := by rw [Int.tdiv_eq_ediv_of_nonneg (by omega)]; omega
    have e3 : md < n := by omega
    clear hPl hP hmv hmd hlt; go_wp2_with fail; go_ret; exact ⟨by rw [HMV.out]; rfl, Z.2⟩
theorem r3out_any (n lo hi : Int) (w : World) : Calls Tryz.prog 87 #[.int .i64 n, .int .i64 lo, .int .i64 hi] w fun e w' => e = .returned (.bool (!inR n lo hi)) ∧ w = w' := by
 by_cases h1 : n < lo
 · have t1 : decide (n < lo) = true := by simpa using h1
   have HV := qH (show (!inR n lo hi) = true by simp [inR]; omega); clear h1; go_enter Tryz.func87, Tryz.ntmps87; go_wp2_with fail; go_ret; exact ⟨ret_bool HV.out.symm, rfl⟩
 · have t1 : decide (n < lo) = false := by simpa using h1
   have HV := qH (show (!inR n lo hi) = decide (hi < n) by
    unfold inR; rw [decide_eq_true (show lo ≤ n by omega), Bool.true_and]; by_cases h : hi < n
    · rw [decide_eq_true h, decide_eq_false (by omega)]; rfl
    · rw [decide_eq_false h, decide_eq_true (by omega)]; rfl)
   clear h1; go_enter Tryz.func87, Tryz.ntmps87; go_wp2_with fail; go_ret; exact ⟨ret_bool HV.out.symm, rfl⟩
theorem rlevel_any (A : Acv) (a b c : Option Addr) (ca cb cc : Nat) (nn : Nat) (w : World) (h : ActIn w A a b c) (oA : AcOk A) (hnn : nn ≤ 50) :
 Calls Tryz.prog 72 #[actV A a b c ca cb cc, .int .i64 (nn : Int)] w fun e w' => LvRet { A with sm := levelS A.sm nn } w e w' := by
 obtain ⟨V0, hV0, hb0, hs0, ha0⟩ := alloc_aA w A a b c ca cb cc; obtain ⟨V1, hV1, hb1, hs1, ha1⟩ := alloc_a0 V0; rw [hs0] at ha1; have hA0 := ha0.below hb1; have HB := qH (bStp hb0 hb1); have HSZ := qH (show V1.heap.size = w.heap.size + 2 from by omega); have HIN := qH (h.below HB.out); have HIW := qH h.sm; have HOA := qH oA; have HA1 := qH ha1; have DC := qH (show Calls Tryz.prog 35 #[.agg #[.string A.name, .int .i64 A.sport, .int .i64 A.start, .slice a A.sm.length ca, .slice b A.lp.length cb, .slice c A.tg.length cc]] V1 fun e w'' => e = .returned (.int .i64 0) ∧ Below V1.heap.size V1 w'' from by
  have h := rcheck2_any A a b c ca cb cc V1 HIN.out; unfold actV at h; rw [chkA_zero.2 HOA.out] at h; exact h)
 have DI := qH (fun W => (show Calls Tryz.prog 87 #[.int .i64 (nn : Int), .int .i64 0, .int .i64 50] W fun e w' => e = .returned (.bool false) ∧ W = w' from by
  have h := r3out_any (nn : Int) 0 50 W; rw [show inR (nn : Int) 0 50 = true from inR_iff.2 (by omega)] at h; exact h))
 have HA0 := qH hA0; obtain ⟨g0, g1, g2, g3, g4, g5⟩ := hA0.cell; clear h oA hb0 hb1 ha0 ha1 hA0 hs1; unfold actV; go_enter Tryz.func72, Tryz.ntmps72; go_upto_region 1 with (fail); clear hV0 hV1 hs0; go_wp2_with fail; refine (DC.out).mono ?_; rintro e w1 ⟨rfl, hb1⟩; have HB1 := qH hb1; have DCL := qH (show Calls Tryz.prog 88 #[.agg #[.string A.name, .int .i64 A.sport, .int .i64 A.start, .slice a A.sm.length ca, .slice b A.lp.length cb, .slice c A.tg.length cc]] w1 fun e w'' => CloneRet A w1 e w'' from by
  have h := rcopied3_any A a b c ca cb cc w1 (HIN.out.below hb1) (by have := HOA.out.nsm; omega) (by have := HOA.out.nlp; omega) (by have := HOA.out.ntg; omega); unfold actV at h; exact h)
 obtain ⟨q0, q1, q2, q3, q4, q5⟩ := (HA0.out.below hb1).cell; clear hb1 g0 g1 g2 g3 g4 g5; go_wp2_with fail; refine (DI.out _).mono ?_; rintro e w2 ⟨rfl, rfl⟩; go_wp2_with fail; refine (DCL.out).mono ?_; unfold CloneRet; rintro e w2 ⟨⟨a1, b1, c1, ca1, cb1, cc1, rfl, ho3⟩, hb2⟩; unfold actV; obtain ⟨T, hT⟩ : ∃ T, w2.heap.size = T := ⟨_, rfl⟩; obtain ⟨W, hW, hbW, hsW, haW⟩ := alloc_ac w2 A.name A.sport A.start (.slice a1 A.sm.length ca1) (.slice b1 A.lp.length cb1) (.slice c1 A.tg.length cc1); obtain ⟨D0, hD0⟩ : ∃ D0, w1.heap.size = D0 := ⟨_, rfl⟩; rw [hT] at haW; rw [hD0] at ho3; have HT := qH hT; have HD := qH hD0; have HO3 := qH ho3; have HB2 := qH (show Below w.heap.size w W from bStp (bStp HB.out HB1.out) (bStp hb2 hbW)); have HBV := qH (show Below V1.heap.size V1 W from bStp HB1.out (bStp hb2 hbW)); have HBW := qH hbW; have HSW := qH (show w.heap.size + 2 ≤ D0 ∧ D0 ≤ T ∧ T < W.heap.size from by
  have := HSZ.out; have := HB1.out.size; have := hb2.size; have := haW.lt; omega)
 obtain ⟨ns, hn⟩ : ∃ n, A.sm.length = n := ⟨_, rfl⟩; have HN := qH hn; have hns : ns ≤ 20000 := by have := HOA.out.nsm; omega
 have HSO := qH (show Own smC 7 72 W D0 (.slice a1 ns ca1) A.sm from by
  obtain ⟨B1, B2, hB1, hB2, hos, _, _, _, _⟩ := ho3.ex; rw [hn] at hos; exact hos.below hbW)
 have HAB := qH (show AcB W T A.name A.sport A.start (.slice a1 ns ca1) (.slice b1 A.lp.length cb1) (.slice c1 A.tg.length cc1) from hn ▸ haW); have HBX := qH (HA0.out.below HBV.out); rw [hn] at HBX q3 hW ⊢; clear ho3 hb2 hbW hsW haW hD0 hn q0 q1 q2 q4 q5; obtain ⟨y0, y1, y2, y3, y4, y5⟩ := HAB.out.cell; go_upto_region 7 with (fail); clear hW q3; go_wp2_with fail; clear y0 y1 y2 y3 y4 y5; have HLT := qH (fun q (hq : (Value.slice a1 ns ca1).ownBlock = some q) => show D0 ≤ q ∧ q < T from by
  have h := HSO.out.lt q hq; obtain ⟨B1, B2, hB1, hB2, hos, _, _, _, _⟩ := HO3.out.ex; have h2 := (hos.lt q (by rw [HN.out]; exact hq)).2; rw [HT.out] at h2; exact ⟨h.1, h2⟩)
 go_loopw [25] (fun iv wr => ∃ k : Nat, iv = .int .i64 k ∧ k ≤ ns ∧ Hid (Own smC 7 72 wr D0 (.slice a1 ns ca1) (upI (levS A.sm nn) A.sm k)) ∧ ∃ Z : ExtO (fun q => (Value.slice a1 ns ca1).ownBlock = some q) W, wr = Z.1) (fun iv _ => ns - (intOf iv).toNat)
 case atStart => exact ⟨0, rfl, by omega, qH (by rw [upI_zero]; exact HSO.out), ⟨W, Kept.refl _ _⟩, rfl⟩
 case round =>
  obtain ⟨k, rfl, hk, HO, Z, rfl⟩ := hrel; have hac := HAB.out.kept Z.2 (fun e => by have := (HLT.out T e).2; omega); have hbx := HBX.out.kept Z.2 (fun e => by have := (HLT.out _ e).1; have := HSW.out; omega); by_cases hlt : k < ns
  · have t5 : decide ((k : Int) < (ns : Int)) = true := dTt (by omega)
    have t5' : decide (k < ns) = true := by simpa using hlt
    obtain ⟨x, hx⟩ : ∃ x, A.sm[k]? = some x := ⟨_, List.getElem?_eq_getElem (by rw [HN.out]; exact hlt)⟩; have HX := qH hx; have j3 := hac.cell.2.2.2.1; have x3 := hbx.cell.2.2.2.1; obtain ⟨lo, hlo⟩ : ∃ lo, k - nn = lo := ⟨_, rfl⟩; obtain ⟨hi, hhi⟩ : ∃ hi, min (k + nn + 1) ns = hi := ⟨_, rfl⟩; have e1 : IntKind.i64.wrap ((k : Int) - (nn : Int)) = (k : Int) - (nn : Int) := tm_wrap (by omega) (by omega); have e2 : max (0 : Int) ((k : Int) - (nn : Int)) = (lo : Int) := by omega
    have e3 : IntKind.i64.wrap ((k : Int) + (nn : Int)) = (k : Int) + (nn : Int) := tm_wrap (by omega) (by omega); have h1 : lo ≤ hi := by omega
    have h3 : lo < hi := by omega
    have e6 : ∃ m, hi - lo = m := ⟨_, rfl⟩; obtain ⟨m, e6⟩ := e6; have HMM := qH (show m = min (k + nn + 1) A.sm.length - (k - nn) ∧ 0 < m ∧ m ≤ 101 ∧ k - nn = lo from by rw [HN.out]; omega); obtain ⟨b3, o3, rfl, hb3, hd⟩ := HIW.out.here (by rw [HN.out]; omega); have HC := qH (fun (X : Ext Z.1) (i : Nat) (y : Sm) (hy : A.sm[i]? = some y) (j : Nat) (v : Value) (hv : (smC y)[j]? = some v) => show X.1.cell? ⟨b3, o3 + i * 7 + j, none⟩ = some v from
     bCel X.2 (Z.2.cell (fun e => by have := (HLT.out b3 e).1; have := HSW.out; omega) (bCel HB2.out (hd i y hy j v hv))))
    have hm1 : m ≤ 101 := by have := HMM.out; omega
    have HLO := qH hlo; clear hd hx hlo hac hbx; go_upto_region 11 with (fail); go_wp2_with fail; have HHI := qH (show hi = lo + m ∧ hi ≤ k + nn + 1 ∧ hi ≤ ns ∧ (hi = k + nn + 1 ∨ hi = ns) from by omega); have X3 := Ext.ex x3; clear e1 e2 e6 h1 h3 j3 x3 hhi
    go_loopw [9, 10] (fun vv iv wr => ∃ j : Nat, iv = .int .i64 ((lo + j : Nat) : Int) ∧ j ≤ m ∧ Hid (Own zC 1 3 wr Z.1.heap.size vv ((winZ A.sm nn k).take j)) ∧ ∃ X : Ext Z.1, wr = X.1) (fun _ iv _ => lo + m - (intOf iv).toNat)
    case atStart => exact ⟨0, by rw [Nat.add_zero], by omega, qH (Own.nil _ _ _ _ _), ⟨Z.1, Below.refl _ _⟩, rfl⟩
    case round =>
     obtain ⟨j, rfl, hj, HOW, X, rfl⟩ := hrel; by_cases hlt2 : j < m
     · have hp1 : lo + j < hi := by have := HHI.out; omega
       have hp2 : lo + j < ns := by have := HHI.out; omega
       have hp3 : lo + j ≤ k + nn := by have := HHI.out; omega
       obtain ⟨y, hy⟩ : ∃ y, A.sm[lo + j]? = some y := ⟨_, List.getElem?_eq_getElem (by have := HMM.out; omega)⟩; have HTK := qH (show (winZ A.sm nn k).take (j + 1) = (winZ A.sm nn k).take j ++ [y.z] from winZ_take (by have := HMM.out; omega) (by rw [HLO.out]; exact hy)); have HTL := qH (show ((winZ A.sm nn k).take j).length = j from by rw [List.length_take, winZ_len]; have := HMM.out; omega); have ec := HC.out X (lo + j) y hy 3 _ rfl; obtain ⟨p, hp⟩ : ∃ p, lo + j = p := ⟨_, rfl⟩; rw [hp] at ec hp1 hp2 hp3 ⊢; have HPP := qH hp; have t6 : decide ((p : Int) ≤ (k : Int) + (nn : Int)) = true := dTt (by omega); have t7 : decide ((p : Int) < (ns : Int)) = true := dTt (by omega); have t7' : decide (p < ns) = true := by simpa using hp2
       have x3 := X3 X; obtain ⟨V7, hV7, hb7, hs7, hl7⟩ := alloc_cells X.1 #[.int .i64 y.z] 3; have HC7 := qH (show V7.cell? ⟨X.1.heap.size, 0, none⟩ = some (.int .i64 y.z) from hl7 0 _ rfl); have HO7 := qH (HOW.out.below hb7); have H7 := qH (bStp X.2 hb7); clear hy hb7 hs7 hl7 hp; go_wp2_with (at_builtin; refine append_Z rfl _ _ rfl rfl HO7.out rfl HC7.out (by have := HTL.out; have := HMM.out; omega) H7.out.size (fun g' c3 w8 ho8 hg8 hor => ?_); rw [HTL.out] at ho8 ⊢); have HO8 := qH ho8; have H8 := qH (show Below Z.1.heap.size Z.1 w8 from Kept.below (O := fun q => Z.1.heap.size ≤ q) H7.out (Kept.of_grown hg8 (fun g e _ => (HO7.out.lt g e).1)) H7.out.size (fun q hq e => by omega)); clear ho8 hg8 hor hV7 ec x3; go_wp2_with fail
       go_roundw
       case rel => exact ⟨j + 1, by rw [show lo + (j + 1) = p + 1 from by have := HPP.out; omega]; go_num, by omega, qH (by rw [HTK.out]; exact HO8.out), ⟨w8, H8.out⟩, rfl⟩
       case measure => simp [intOf]; have := HPP.out; omega
     · have hmj : m = j := by omega
       obtain rfl : m = j := hmj; obtain ⟨WZ, hWZ⟩ : ∃ z, winZ A.sm nn k = z := ⟨_, rfl⟩; have hwl : WZ.length = m := by rw [← hWZ, winZ_len]; exact HMM.out.1.symm
       have how := HOW.out; rw [hWZ, List.take_of_length_le (by omega)] at how; obtain ⟨g9, c9, rfl, -, -⟩ := how.open (by have := HMM.out; omega); have DSO := qH (rmiddle_any WZ g9 c9 Z.1.heap.size m); have HOQ := qH how; have HWZ := qH hWZ; have HWL := qH hwl; rw [hwl] at HOQ ⊢; have x3 := X3 X; have J3 := Ext.ex ((HAB.out.kept Z.2 (fun e => by have := (HLT.out T e).2; omega)).cell.2.2.2.1); clear how hWZ hwl hlt2 hj HOW; have hq : (decide (((lo + m : Nat) : Int) ≤ (k : Int) + (nn : Int)) = false) ∨ (decide (((lo + m : Nat) : Int) ≤ (k : Int) + (nn : Int)) = true ∧ decide (((lo + m : Nat) : Int) < (ns : Int)) = false ∧ decide (lo + m < ns) = false) := by
        have := HHI.out; by_cases hh : lo + m ≤ k + nn
        · exact Or.inr ⟨dTt (by omega), dFf (by omega), dFf (by omega)⟩
        · exact Or.inl (dFf (by omega))
       obtain ⟨p, hp⟩ : ∃ p, lo + m = p := ⟨_, rfl⟩; rw [hp] at hq ⊢; clear hp; obtain ⟨mv, hmv⟩ : ∃ z, midL WZ = z := ⟨_, rfl⟩; have HMV := qH hmv; rw [hmv] at DSO; clear hmv; have b0 : (0 : Int) ≤ (k : Int) ∧ (k : Int) < (ns : Int) := by omega
       rcases hq with t6 | ⟨t6, t7, t7'⟩
       all_goals
        go_upto_region 15 with (fail); refine late_start (s := 7) (C := fun w' => ∃ Y : Ext Z.1, w' = Y.1) (by kernel_rfl) ?_; obtain ⟨Q1, hQ1⟩ : ∃ Y : Ext Z.1, ({ X.1 with drawn := X.1.drawn + 1 } : World) = Y.1 := ⟨⟨{ X.1 with drawn := X.1.drawn + 1 }, bStp X.2 ⟨rfl, rfl, rfl, Nat.le_refl _, fun _ _ => rfl⟩⟩, rfl⟩; have HOQ1 := qH (show Own zC 1 3 Q1.1 Z.1.heap.size (.slice (some ⟨g9, 0, none⟩) m c9) WZ from hQ1 ▸ HOQ.out); rw [hQ1]; clear hQ1; refine late_quiet (by kernel_rfl) (fun _ _ d _ _ h => by cases d <;> exact h) ⟨Q1, rfl⟩ [0, 1, 2, 3] 4 _ _ (by kernel_rfl) (by kernel_rfl) ?_; change wpQuiet _ _ _ _ (_ :: _ :: _ :: _ :: []) _
        repeat go_big_quiet_step (fail)
        refine wpQuiet_nil ?_; refine late_do (i := 4) _ rfl (by kernel_rfl) rfl (fun K hK => ?_); go_simp; refine (DSO.out Q1.1 HOQ1.out HWL.out (by have := HMM.out; omega) (by have := HMM.out; omega)).mono ?_; rintro e w6 ⟨rfl, hk6⟩; obtain ⟨Q0, rfl⟩ : ∃ Z' : Ext Z.1, w6 = Z'.1 := ⟨⟨w6, Kept.below Q1.2 hk6 Q1.2.size (fun q hq e => by have := (HOQ1.out.facts).2.2.2; omega)⟩, rfl⟩; refine hK _ _ (fun _ => ⟨Q0, rfl⟩) ?_; clear hK K hk6
        try simp only [pS]
        have hlenU := upI_len (levS A.sm nn) A.sm k; have hat := (upI_at (levS A.sm nn) A.sm k).trans HX.out; obtain ⟨q, c', he, -, hq2⟩ := HO.out.open (by rw [hlenU, HN.out]; omega); injection he with he1 he2 he3; subst he1; subst he3; have ho5 := (HO.out.below (Q0.2) : Own smC 7 72 Q0.1 D0 (.slice (some ⟨q, 0, none⟩) ns ca1) (upI (levS A.sm nn) A.sm k)); have f5 := ho5.free (k * 7 + 3); have c5 : Q0.1.cell? ⟨q, k * 7 + 3, none⟩ = some (.int .i64 x.z) := by
         have h := (ho5.rw_ smEl).1.on hat 3 _ rfl
         simpa using h
        obtain ⟨hos, hks⟩ := ho5.set smEl (j := 3) hat (by decide) (y := levS A.sm nn k x) (u := .int .i64 mv) (by rw [← HMV.out, ← HWZ.out]; rfl); obtain ⟨W9, hW9⟩ : ∃ z, Q0.1.setCell ⟨q, k * 7 + 3, none⟩ (.int .i64 mv) = z := ⟨_, rfl⟩; rw [hW9] at hos hks; rw [upI_set _ _ _ _ HX.out] at hos; have HOS := qH hos; have HKS := qH ((Z.2.trans (Kept.of_below Q0.2)).trans (show Kept (fun x => (Value.slice (some ⟨q, 0, none⟩) ns ca1).ownBlock = some x) Q0.1 W9 from ⟨hks.os, hks.tape, hks.output, hks.size, fun x hx ho => hks.block x hx (fun e => ho (by rw [e]; rfl))⟩)); clear ho5 hos hks hat hlenU he2 hq2; refine late_do (i := 5) _ rfl (by kernel_rfl) rfl (fun K hK => ?_); go_simp
        try rw [if_pos b0]
        refine hK _ _ (fun _ => ⟨Q0, rfl⟩) ?_; clear hK K
        try simp only [pS]
        refine late_do (i := 6) _ rfl (by kernel_rfl) rfl (fun K hK => ?_); go_simp
        try rw [if_pos b0]
        refine hK _ _ (fun _ => ⟨Q0, rfl⟩) ?_; clear hK K
        try simp only [pS]
        refine late_do (i := 7) _ rfl (by kernel_rfl) rfl (fun K hK => ?_); go_simp; refine hK _ _ (nOo rfl) ?_; clear hK K
        try simp only [pS]
        refine late_done (by kernel_rfl) ?_ _; clear c5 f5 hW9 J3 x3 t6; go_wp2_with fail
        go_roundw
        case rel => exact ⟨k + 1, by go_num, by omega, HOS, ⟨W9, HKS.out⟩, rfl⟩
        case measure => simp [intOf]; omega
  · have t5 : decide ((k : Int) < (ns : Int)) = false := dFf (by omega)
    have t5' : decide (k < ns) = false := by simpa using hlt
    obtain rfl : ns = k := by omega
    have hLen : (levelS A.sm nn).length = ns := by unfold levelS; rw [List.length_mapIdx, HN.out]
    have HOF := qH (show Own smC 7 72 Z.1 D0 (.slice a1 ns ca1) (levelS A.sm nn) from by
     have h := HO.out; rw [show upI (levS A.sm nn) A.sm ns = levelS A.sm nn from by rw [← HN.out, upI_all]; rfl] at h; exact h)
    have HLEN := qH hLen; obtain ⟨y0, y1, y2, y3, y4, y5⟩ := hac.cell; have hR := (HA1.out.below HBV.out).kept Z.2 (fun e => by have := (HLT.out _ e).1; have := HSW.out; omega); obtain ⟨r0, r1, r2, r3, r4, r5⟩ := hR.cell; have fr := hR.free; obtain ⟨WF, hWF, haF, hkF⟩ := hR.store A.name A.sport A.start (.slice a1 ns ca1) (.slice b1 A.lp.length cb1) (.slice c1 A.tg.length cc1); have HAF := qH haF; have HKF := qH (hkF (fun q => q = w.heap.size + 1) rfl); have HBF := qH (show Below w.heap.size w WF from by
     have h1 : Below w.heap.size w Z.1 := Kept.below HB2.out Z.2 HB2.out.size (fun q hq e => by have := (HLT.out q e).1; have := HSW.out; omega); exact Kept.below h1 HKF.out h1.size (fun k hk e => by omega))
    have HAI := qH (show ActIn WF { A with sm := levelS A.sm nn } a1 b1 c1 ∧ ∀ g, (a1 = some g ∨ b1 = some g ∨ c1 = some g) → D0 ≤ g.block from by
     obtain ⟨B1, B2, hB1, hB2, hos, hs, hol, hl, hot⟩ := HO3.out.ex; obtain ⟨l1, _, l3⟩ := hol.rw_ lpEl; obtain ⟨t1, _, t3⟩ := hot.rw_ tgEl; have hof : Own smC 7 72 WF D0 (.slice a1 ns ca1) (levelS A.sm nn) := HOF.out.keepO HKF.out (fun q hq e => by have := (HLT.out q hq).1; have := HSW.out; omega); obtain ⟨s1, _, s3⟩ := hof.rw_ smEl; have hsz := HSW.out; have hl1 : ∀ bb off, b1 = some ⟨bb, off, none⟩ → B1 ≤ bb := fun bb off e => (l3 _ e).1
     have hl2 : ∀ bb off, c1 = some ⟨bb, off, none⟩ → B2 ≤ bb := fun bb off e => (t3 _ e).1
     have hap : ∀ q, (Value.slice a1 ns ca1).ownBlock = some q → q < B1 := fun q hq => hs q (by rw [HN.out]; exact hq)
     refine ⟨⟨s1, ((l1.below HBW.out).kept Z.2 (fun bb off e h => by have := hl1 bb off e; have := hap bb h; omega)).kept HKF.out (fun bb off e h => by have := hl1 bb off e; omega), ((t1.below HBW.out).kept Z.2 (fun bb off e h => by have := hl2 bb off e; have := hap bb h; omega)).kept HKF.out (fun bb off e h => by have := hl2 bb off e; omega), HIN.out.name, HIN.out.titles, HIN.out.tags, ?_, HIN.out.nlp, HIN.out.ntg⟩, ?_⟩
     · show ((levelS A.sm nn).length : Int) ≤ _
       rw [HLEN.out]; omega
     · rintro g (e | e | e)
       · exact (s3 _ e).1
       · have := (l3 _ e).1
         omega
       · have := (t3 _ e).1
         omega)
    have HD0 := qH (show w.heap.size ≤ D0 from by have := HSW.out; omega); clear hlt hk hac HO hLen haF hkF hR hbx; go_wp2_with fail; have q := HAF.out.cell; refine bodyPost_ret (v := .tuple #[.agg #[.string A.name, .int .i64 A.sport, .int .i64 A.start, .slice a1 ns ca1, .slice b1 A.lp.length cb1, .slice c1 A.tg.length cc1], .int .i64 0]) (by simp [results, Tryz.results72, go_sem, q]) rfl ⟨HBF.out, a1, b1, c1, ca1, cb1, cc1, ?_, HAI.out.1, fun g hg => Nat.le_trans HD0.out (HAI.out.2 g hg)⟩; unfold actV; simp only [HLEN.out]
theorem rfield_any (s : Sm) (c : Nat) (hc : c ≤ 2) (w : World) : Calls Tryz.prog 90 #[.agg #[.int .i64 s.tm, .int .i64 s.x, .int .i64 s.y, .int .i64 s.z, .int .i64 s.pu, .int .i64 s.po, .int .i64 s.st], .int .i64 (c : Int)] w fun e w' => e = .returned (.int .i64 (getN c s)) ∧ Below w.heap.size w w' := by
 obtain ⟨V0, hV0, hb0, hs0, ha0⟩ := alloc_sm w s; obtain ⟨g0, g1, g2, g3, g4, g5, g6⟩ := ha0.cell; have HB := qH hb0; clear ha0 hb0; have h3 : c = 0 ∨ c = 1 ∨ c = 2 := by omega
 rcases h3 with rfl | rfl | rfl
 all_goals
  clear hc; go_enter Tryz.func90, Tryz.ntmps90; go_wp2_with fail; go_ret; exact ⟨rfl, HB.out⟩
theorem rset_any (q o c : Nat) (hc : c ≤ 2) (v old : Int) (w w1 : World) (hcell : w.cell? ⟨q, o + (4 + c), none⟩ = some (.int .i64 old)) (hf : w.frozen? ⟨q, o + (4 + c), none⟩ = false) (hw : w.setCell ⟨q, o + (4 + c), none⟩ (.int .i64 v) = w1) :
 Calls Tryz.prog 91 #[.pointer (some ⟨q, o, none⟩), .int .i64 (c : Int), .int .i64 v] w fun e w' => e = .returned (.tuple #[]) ∧ w' = w1 := by
 have h3 : c = 0 ∨ c = 1 ∨ c = 2 := by omega
 rcases h3 with rfl | rfl | rfl
 all_goals
  clear hc; simp only [Nat.add_zero, Nat.reduceAdd] at hcell hf hw; go_enter Tryz.func91, Tryz.ntmps91; go_wp2_with fail; exact bodyPost_end (v := .tuple #[]) (by simp [results, Tryz.results91, go_sem]) rfl ⟨rfl, rfl⟩
def outC (gap : Int) (sm : List Sm) : Nat → List Sm
 | 0 => sm
 | c + 1 => passF gap c sm (outC gap sm c)
theorem outC_len (gap : Int) (sm : List Sm) : ∀ c, (outC gap sm c).length = sm.length
 | 0 => rfl
 | c + 1 => by rw [outC, passF_len, outC_len gap sm c]
theorem outC_tm (gap : Int) (sm : List Sm) : ∀ (c j : Nat), ((outC gap sm c)[j]?).map Sm.tm = (sm[j]?).map Sm.tm
 | 0, _ => rfl
 | c + 1, j => by
  rw [outC]; exact (passN_view Sm.tm (fun v s => setN_tm c v s) j).trans (outC_tm gap sm c j)
theorem outC_fill (gap : Int) (sm : List Sm) : outC gap sm 3 = fillA gap sm := rfl
def KT (O : Nat → Prop) (W : World) (p : Addr) (v : Value) : Type := {x : World // Kept O W x ∧ x.cell? p = some v}
theorem rfill_any (A : Acv) (a b c : Option Addr) (ca cb cc : Nat) (nn : Int) (w : World) (h : ActIn w A a b c) (oA : AcOk A) (hnn : 0 ≤ nn ∧ nn ≤ 1000000) :
 Calls Tryz.prog 73 #[actV A a b c ca cb cc, .int .i64 nn] w fun e w' => LvRet { A with sm := fillA nn A.sm } w e w' := by
 obtain ⟨V0, hV0, hb0, hs0, ha0⟩ := alloc_aA w A a b c ca cb cc; obtain ⟨V1, hV1, hb1, hs1, ha1⟩ := alloc_a0 V0; rw [hs0] at ha1; have hA0 := ha0.below hb1; have HB := qH (bStp hb0 hb1); have HSZ := qH (show V1.heap.size = w.heap.size + 2 from by omega); have HIN := qH (h.below HB.out); have HIW := qH h.sm; have HOA := qH oA; have HA1 := qH ha1; have DC := qH (show Calls Tryz.prog 35 #[.agg #[.string A.name, .int .i64 A.sport, .int .i64 A.start, .slice a A.sm.length ca, .slice b A.lp.length cb, .slice c A.tg.length cc]] V1 fun e w'' => e = .returned (.int .i64 0) ∧ Below V1.heap.size V1 w'' from by
  have h := rcheck2_any A a b c ca cb cc V1 HIN.out; unfold actV at h; rw [chkA_zero.2 HOA.out] at h; exact h)
 have DI := qH (fun W => (show Calls Tryz.prog 87 #[.int .i64 nn, .int .i64 0, .int .i64 1000000] W fun e w' => e = .returned (.bool false) ∧ W = w' from by
  have h := r3out_any nn 0 1000000 W; rw [show inR nn 0 1000000 = true from inR_iff.2 (by omega)] at h; exact h))
 have HA0 := qH hA0; obtain ⟨g0, g1, g2, g3, g4, g5⟩ := hA0.cell; clear h oA hb0 hb1 ha0 ha1 hA0 hs1; unfold actV; go_enter Tryz.func73, Tryz.ntmps73; go_upto_region 1 with (fail); clear hV0 hV1 hs0; go_wp2_with fail; refine (DC.out).mono ?_; rintro e w1 ⟨rfl, hb1⟩; have HB1 := qH hb1; have DCL := qH (show Calls Tryz.prog 88 #[.agg #[.string A.name, .int .i64 A.sport, .int .i64 A.start, .slice a A.sm.length ca, .slice b A.lp.length cb, .slice c A.tg.length cc]] w1 fun e w'' => CloneRet A w1 e w'' from by
  have h := rcopied3_any A a b c ca cb cc w1 (HIN.out.below hb1) (by have := HOA.out.nsm; omega) (by have := HOA.out.nlp; omega) (by have := HOA.out.ntg; omega); unfold actV at h; exact h)
 obtain ⟨q0, q1, q2, q3, q4, q5⟩ := (HA0.out.below hb1).cell; clear hb1 g0 g1 g2 g3 g4 g5; go_wp2_with fail; refine (DI.out _).mono ?_; rintro e w2 ⟨rfl, rfl⟩; go_wp2_with fail; refine (DCL.out).mono ?_; unfold CloneRet; rintro e w2 ⟨⟨a1, b1, c1, ca1, cb1, cc1, rfl, ho3⟩, hb2⟩; unfold actV; obtain ⟨T, hT⟩ : ∃ T, w2.heap.size = T := ⟨_, rfl⟩; obtain ⟨W, hW, hbW, hsW, haW⟩ := alloc_ac w2 A.name A.sport A.start (.slice a1 A.sm.length ca1) (.slice b1 A.lp.length cb1) (.slice c1 A.tg.length cc1); obtain ⟨D0, hD0⟩ : ∃ D0, w1.heap.size = D0 := ⟨_, rfl⟩; rw [hT] at haW; rw [hD0] at ho3; have HT := qH hT; have HD := qH hD0; have HO3 := qH ho3; have HB2 := qH (show Below w.heap.size w W from bStp (bStp HB.out HB1.out) (bStp hb2 hbW)); have HBV := qH (show Below V1.heap.size V1 W from bStp HB1.out (bStp hb2 hbW)); have HBW := qH hbW; have HSW := qH (show w.heap.size + 2 ≤ D0 ∧ D0 ≤ T ∧ T < W.heap.size from by
  have := HSZ.out; have := HB1.out.size; have := hb2.size; have := haW.lt; omega)
 obtain ⟨ns, hn⟩ : ∃ n, A.sm.length = n := ⟨_, rfl⟩; have HN := qH hn; have hns : ns ≤ 20000 := by have := HOA.out.nsm; omega
 have HSO := qH (show Own smC 7 72 W D0 (.slice a1 ns ca1) A.sm from by
  obtain ⟨B1, B2, hB1, hB2, hos, _, _, _, _⟩ := ho3.ex; rw [hn] at hos; exact hos.below hbW)
 have HAB := qH (show AcB W T A.name A.sport A.start (.slice a1 ns ca1) (.slice b1 A.lp.length cb1) (.slice c1 A.tg.length cc1) from hn ▸ haW); have HBX := qH (HA0.out.below HBV.out); rw [hn] at HBX q3 hW ⊢; clear ho3 hb2 hbW hsW haW hD0 hn q0 q1 q2 q4 q5; obtain ⟨y0, y1, y2, y3, y4, y5⟩ := HAB.out.cell; have HLT := qH (fun q (hq : (Value.slice a1 ns ca1).ownBlock = some q) => show D0 ≤ q ∧ q < T from by
  have h := HSO.out.lt q hq; obtain ⟨B1, B2, hB1, hB2, hos, _, _, _, _⟩ := HO3.out.ex; have h2 := (hos.lt q (by rw [HN.out]; exact hq)).2; rw [HT.out] at h2; exact ⟨h.1, h2⟩)
 have HPK := qH (fun (c : Nat) (hc : c ≤ 2) => passOk_of HOA.out hc); go_upto_region 7 with (fail); clear hW q3; clear y0 y1 y2 y3 y4 y5; go_wp2_with fail
 go_loopw [8] (fun cv wr => ∃ k : Nat, cv = .int .i64 k ∧ k ≤ 3 ∧ Hid (Own smC 7 72 wr D0 (.slice a1 ns ca1) (outC nn A.sm k)) ∧ ∃ Z : ExtO (fun x => (Value.slice a1 ns ca1).ownBlock = some x) W, wr = Z.1) (fun cv _ => 3 - (intOf cv).toNat)
 case atStart => exact ⟨0, rfl, by omega, HSO, ⟨W, Kept.refl _ _⟩, rfl⟩
 case round =>
  obtain ⟨fc, rfl, hfc, HO, Z, rfl⟩ := hrel; have hac := HAB.out.kept Z.2 (fun e => by have := (HLT.out T e).2; omega); have hbx := HBX.out.kept Z.2 (fun e => by have := (HLT.out _ e).1; have := HSW.out; omega); by_cases hltc : fc < 3
  · have t5 : decide ((fc : Int) < 3) = true := dTt (by omega)
    have HFC := qH (show fc ≤ 2 from by omega); have x3 := hbx.cell.2.2.2.1; have HOL := qH (outC_len nn A.sm fc); have HOT := qH (outC_tm nn A.sm fc); have HON := qH (show outC nn A.sm (fc + 1) = (passN nn fc A.sm (outC nn A.sm fc) ns).1 from by rw [outC]; unfold passF; rw [HN.out]); obtain ⟨out, hout⟩ : ∃ z, outC nn A.sm fc = z := ⟨_, rfl⟩; rw [hout] at HOL HOT HON HO; clear hac hbx hout; go_upto_region 11 with (fail); go_wp2_with fail; clear x3
    go_loopw [9, 32] (fun lv iv wr => ∃ (k : Nat) (R : List Sm) (la : Option Nat), iv = .int .i64 k ∧ k ≤ ns ∧ lv = .int .i64 (laI la) ∧ Hid (passN nn fc A.sm out k = (R, la)) ∧ Hid (Own smC 7 72 wr D0 (.slice a1 ns ca1) R) ∧ ∃ Z : ExtO (fun x => (Value.slice a1 ns ca1).ownBlock = some x) W, wr = Z.1) (fun _ iv _ => ns - (intOf iv).toNat)
    case atStart => exact ⟨0, out, none, rfl, by omega, rfl, qH rfl, HO, Z, rfl⟩
    case round =>
     clear HO Z; obtain ⟨k, R, la, rfl, hk, rfl, HR, HO, Z, rfl⟩ := hrel; have hRl : R.length = ns := by
      have := passN_len nn fc A.sm out k; rw [HR.out, HOL.out, HN.out] at this; exact this
     have HRL := qH hRl; have HRT := qH (fun j : Nat => show (R[j]?).map Sm.tm = (A.sm[j]?).map Sm.tm from by
      have h := @passN_view Int Sm.tm nn fc (fun v s => setN_tm fc v s) A.sm out k j; rw [HR.out] at h; exact h.trans (HOT.out j))
     by_cases hlt : k < ns
     · have t6 : decide ((k : Int) < (ns : Int)) = true := dTt (by omega)
       have t6' : decide (k < ns) = true := by simpa using hlt
       obtain ⟨x, hx⟩ : ∃ x, A.sm[k]? = some x := ⟨_, List.getElem?_eq_getElem (by rw [HN.out]; exact hlt)⟩; obtain ⟨b3, o3, rfl, hb3, hd⟩ := HIW.out.here (by rw [HN.out]; omega); obtain ⟨q, c', he, -, -⟩ := HO.out.open (by rw [hRl]; omega); injection he with he1 he2 he3; subst he1; subst he3; have HC := qH (fun (X : ExtO (fun x => (Value.slice (some ⟨q, 0, none⟩) ns ca1).ownBlock = some x) W) (i : Nat) (y : Sm) (hy : A.sm[i]? = some y) (j : Nat) (v : Value) (hv : (smC y)[j]? = some v) => show X.1.cell? ⟨b3, o3 + i * 7 + j, none⟩ = some v from
        X.2.cell (fun e => by have := (HLT.out b3 e).1; have := HSW.out; omega) (bCel HB2.out (hd i y hy j v hv)))
       have e0 : Z.1.cell? ⟨b3, o3 + k * 7, none⟩ = some (.int .i64 x.tm) := HC.out Z k x hx 0 _ rfl; have e1 : Z.1.cell? ⟨b3, o3 + k * 7 + 1, none⟩ = some (.int .i64 x.x) := HC.out Z k x hx 1 _ rfl; have e2 : Z.1.cell? ⟨b3, o3 + k * 7 + 2, none⟩ = some (.int .i64 x.y) := HC.out Z k x hx 2 _ rfl; have e3 : Z.1.cell? ⟨b3, o3 + k * 7 + 3, none⟩ = some (.int .i64 x.z) := HC.out Z k x hx 3 _ rfl; have e4 : Z.1.cell? ⟨b3, o3 + k * 7 + 4, none⟩ = some (.int .i64 x.pu) := HC.out Z k x hx 4 _ rfl; have e5 : Z.1.cell? ⟨b3, o3 + k * 7 + 5, none⟩ = some (.int .i64 x.po) := HC.out Z k x hx 5 _ rfl; have e6 : Z.1.cell? ⟨b3, o3 + k * 7 + 6, none⟩ = some (.int .i64 x.st) := HC.out Z k x hx 6 _ rfl; have HX := qH hx; obtain ⟨⟨rx0, rx1⟩, rx2, rx3⟩ := (HPK.out fc HFC.out).rng k x hx; obtain ⟨V6, hV6, hb6, hs6, ha6⟩ := alloc_sm Z.1 x; obtain ⟨G, hG⟩ : ∃ G, Z.1.heap.size = G := ⟨_, rfl⟩; rw [hG] at ha6; have HG := qH (show W.heap.size ≤ G from by have := Z.2.size; omega); have HS6 := qH ha6; obtain ⟨Y, hY⟩ : ∃ Y : ExtO (fun x => (Value.slice (some ⟨q, 0, none⟩) ns ca1).ownBlock = some x) W, V6 = Y.1 := ⟨⟨V6, Z.2.trans (Kept.of_below hb6)⟩, rfl⟩; have HOY := qH (show Own smC 7 72 Y.1 D0 (.slice (some ⟨q, 0, none⟩) ns ca1) R from hY ▸ HO.out.below hb6); rw [hY] at HS6; have p := HS6.out.cell; obtain ⟨p0, p1, p2, p3, p4, p5, p6⟩ := p; have DF := qH (fun (s : Sm) W => rfield_any s fc HFC.out W); subst hY; have hG2 : Z.1.heap.size = G := hG; clear hx hd hb3 hb6 hs6 ha6 he2 hRl hltc; go_upto_region 14 with (fail); clear hV6 e0 e1 e2 e3 e4 e5 e6 hG hG2; go_wp2_with fail; refine (DF.out x _).mono ?_; rintro e w7 ⟨rfl, hb7⟩; obtain ⟨nx, hnx⟩ : ∃ z, getN fc x = z := ⟨_, rfl⟩; have HNX := qH hnx; rw [hnx] at rx2 rx3 ⊢; have HS7 := qH (HS6.out.below hb7); obtain ⟨Y7, hY7⟩ : ∃ Y' : ExtO (fun x => (Value.slice (some ⟨q, 0, none⟩) ns ca1).ownBlock = some x) W, w7 = Y'.1 := ⟨⟨w7, Y.2.trans (Kept.of_below hb7)⟩, rfl⟩; have HO7 := qH (show Own smC 7 72 Y7.1 D0 (.slice (some ⟨q, 0, none⟩) ns ca1) R from hY7 ▸ HOY.out.below hb7); subst hY7; clear hb7 hnx p0 p1 p2 p3 p4 p5 p6; by_cases hneg : nx < 0
       · have t7 : decide (nx < 0) = true := by rw [decide_eq_true_eq]; exact hneg
         have HS := qH (show passN nn fc A.sm out (k + 1) = (R, la) from by rw [passN_low HX.out (by rw [HNX.out]; exact hneg)]; exact HR.out); clear hneg; go_wp2_with fail
         go_roundw
         case rel => exact ⟨k + 1, R, la, by go_num, by omega, rfl, HS, HO7, Y7, rfl⟩
         case measure => simp [intOf]; omega
       · have t7 : decide (nx < 0) = false := by rw [decide_eq_false_iff_not]; exact hneg
         have HNG := qH (show ¬ getN fc x < 0 from by rw [HNX.out]; exact hneg); clear hneg; obtain ⟨p0, p1, p2, p3, p4, p5, p6⟩ := HS7.out.cell; have hbx := HBX.out.kept Y7.2 (fun e => by have := (HLT.out _ e).1; have := HSW.out; omega); have x3 := hbx.cell.2.2.2.1
         cases la with
         | none =>
          have HS := qH (passN_first HX.out HNG.out HR.out); unfold laI; go_upto_region 15 with (fail)
          go_quiet (fail)
          obtain ⟨Z2, hZ'⟩ : ∃ Z' : ExtO (fun x => (Value.slice (some ⟨q, 0, none⟩) ns ca1).ownBlock = some x) W, Y7.1.drewN nq = Z'.1 := ⟨⟨Y7.1.drewN nq, Y7.2.trans ⟨rfl, rfl, rfl, Nat.le_refl _, fun _ _ _ => rfl⟩⟩, rfl⟩; have HO' := qH (show Own smC 7 72 Z2.1 D0 (.slice (some ⟨q, 0, none⟩) ns ca1) R from hZ' ▸ HO7.out); rw [hZ']; clear hZ' p0 p1 p2 p3 p4 p5 p6 hbx x3; go_wp2_with fail
          go_roundw
          case rel => exact ⟨k + 1, R, some k, by go_num, by omega, rfl, HS, HO', Z2, rfl⟩
          case measure => simp [intOf]; omega
         | some l0 =>
          obtain ⟨hl0, p, hp, hpn⟩ := passN_last (show (passN nn fc A.sm out k).2 = some l0 by rw [HR.out]); have HP := qH hp; have htp : Y7.1.cell? ⟨b3, o3 + l0 * 7, none⟩ = some (.int .i64 p.tm) := HC.out Y7 l0 p hp 0 _ rfl; obtain ⟨⟨rp0, rp1⟩, rp2, rp3⟩ := (HPK.out fc HFC.out).rng l0 p hp; have hinc : p.tm < x.tm := (HPK.out fc HFC.out).inc l0 k p x hl0 hp HX.out; have t8 : decide ((l0 : Int) ≥ 0) = true := dTt (by omega); have t8' : decide ((0 : Int) ≤ (l0 : Int)) = true := dTt (by omega); have w1' : IntKind.i64.wrap (x.tm - p.tm) = x.tm - p.tm := tm_wrap (by omega) (by omega); have hlk : l0 < ns := by omega
          unfold laI; by_cases hg : x.tm - p.tm ≤ nn
          · have t9 : decide (x.tm - p.tm ≤ nn) = true := by rw [decide_eq_true_eq]; exact hg
            have HS := qH (passN_near HX.out HNG.out HR.out HP.out hg); clear hg hp hpn; go_upto_region 15 with (fail)
            go_quiet (fail)
            obtain ⟨Z2, hZ'⟩ : ∃ Z' : ExtO (fun x => (Value.slice (some ⟨q, 0, none⟩) ns ca1).ownBlock = some x) W, Y7.1.drewN nq = Z'.1 := ⟨⟨Y7.1.drewN nq, Y7.2.trans ⟨rfl, rfl, rfl, Nat.le_refl _, fun _ _ _ => rfl⟩⟩, rfl⟩; have HO2 := qH (show Own smC 7 72 Z2.1 D0 (.slice (some ⟨q, 0, none⟩) ns ca1) R from hZ' ▸ HO7.out); have HS2 := qH (show SmB Z2.1 G x from hZ' ▸ HS7.out); rw [hZ']; clear hZ' p0 p1 p2 p3 p4 p5 p6 hbx x3 htp; have hbx := HBX.out.kept Z2.2 (fun e => by have := (HLT.out _ e).1; have := HSW.out; omega); have x3 := hbx.cell.2.2.2.1; have e0 : Z2.1.cell? ⟨b3, o3 + l0 * 7, none⟩ = some (.int .i64 p.tm) := HC.out Z2 l0 p HP.out 0 _ rfl; have e1 : Z2.1.cell? ⟨b3, o3 + l0 * 7 + 1, none⟩ = some (.int .i64 p.x) := HC.out Z2 l0 p HP.out 1 _ rfl; have e2 : Z2.1.cell? ⟨b3, o3 + l0 * 7 + 2, none⟩ = some (.int .i64 p.y) := HC.out Z2 l0 p HP.out 2 _ rfl; have e3 : Z2.1.cell? ⟨b3, o3 + l0 * 7 + 3, none⟩ = some (.int .i64 p.z) := HC.out Z2 l0 p HP.out 3 _ rfl; have e4 : Z2.1.cell? ⟨b3, o3 + l0 * 7 + 4, none⟩ = some (.int .i64 p.pu) := HC.out Z2 l0 p HP.out 4 _ rfl; have e5 : Z2.1.cell? ⟨b3, o3 + l0 * 7 + 5, none⟩ = some (.int .i64 p.po) := HC.out Z2 l0 p HP.out 5 _ rfl; have e6 : Z2.1.cell? ⟨b3, o3 + l0 * 7 + 6, none⟩ = some (.int .i64 p.st) := HC.out Z2 l0 p HP.out 6 _ rfl; obtain ⟨V8, hV8, hb8, hs8, ha8⟩ := alloc_sm Z2.1 p; obtain ⟨G8, hG8⟩ : ∃ G, Z2.1.heap.size = G := ⟨_, rfl⟩; rw [hG8] at ha8; have HG8 := qH (show W.heap.size ≤ G8 from by have := Z2.2.size; omega); have HP8 := qH ha8; have HX8 := qH (HS2.out.below hb8); have HK8 := qH (Z2.2.trans (Kept.of_below hb8)); have HO8 := qH (show Own smC 7 72 V8 D0 (.slice (some ⟨q, 0, none⟩) ns ca1) (mapR (l0 + 1) (l0 + 1) (fillB fc p x) R) from by rw [mapR_nil]; exact HO2.out.below hb8); have w2 : IntKind.i64.wrap ((l0 : Int) + 1) = ((l0 + 1 : Nat) : Int) := by rw [tm_wrap (by omega) (by omega)]; omega
            clear hb8 hs8 ha8 hbx HO2 HO7 HOY HO; go_upto_region 17 with (fail); clear hV8 e0 e1 e2 e3 e4 e5 e6 x3 hG8; go_wp2_with fail; clear w2
            go_loopw [13] (fun kv wr => ∃ j : Nat, kv = .int .i64 j ∧ l0 + 1 ≤ j ∧ j ≤ k ∧ Hid (Own smC 7 72 wr D0 (.slice (some ⟨q, 0, none⟩) ns ca1) (mapR (l0 + 1) j (fillB fc p x) R)) ∧ ∃ Y' : ExtO (fun x => (Value.slice (some ⟨q, 0, none⟩) ns ca1).ownBlock = some x) V8, wr = Y'.1) (fun kv _ => k - (intOf kv).toNat)
            case atStart => exact ⟨l0 + 1, rfl, by omega, by omega, HO8, ⟨V8, Kept.refl _ _⟩, rfl⟩
            case round =>
             obtain ⟨j, rfl, hj1, hj2, HOJ, J, rfl⟩ := hrel; by_cases hlt2 : j < k
             · have t10 : decide ((j : Int) < (k : Int)) = true := dTt (by omega)
               have t10' : decide (j < k) = true := by simpa using hlt2
               obtain ⟨s, hs⟩ : ∃ s, R[j]? = some s := ⟨_, List.getElem?_eq_getElem (by rw [HRL.out]; omega)⟩; have htm := HRT.out j; rw [hs] at htm; obtain ⟨s0, hs0⟩ : ∃ s0, A.sm[j]? = some s0 := ⟨_, List.getElem?_eq_getElem (by rw [HN.out]; omega)⟩; rw [hs0] at htm; simp only [Option.map_some] at htm; injection htm with htm; have hps : p.tm < s.tm := by rw [htm]; exact (HPK.out fc HFC.out).inc l0 j p s0 (by omega) HP.out hs0
               have hsx : s.tm < x.tm := by rw [htm]; exact (HPK.out fc HFC.out).inc j k s0 x hlt2 hs0 HX.out
               have hm : (mapR (l0 + 1) j (fillB fc p x) R)[j]? = some s := by rw [mapR_here, hs]
               have HMS := qH (mapR_set (fillB fc p x) hj1 hs); have HM := qH hm; have w3 : IntKind.i64.wrap (s.tm - p.tm) = s.tm - p.tm := tm_wrap (by omega) (by omega); have DB := qH (fun W => rbetween_any (getN fc p) (getN fc x) (s.tm - p.tm) (x.tm - p.tm) W ⟨by omega, by omega⟩ ⟨by have := HNX.out; omega, by have := HNX.out; omega⟩ (by omega) (by omega) (by omega) (by omega)); have hj3 : j < ns := by omega
               have HBG := qH (fun g (hg : W.heap.size ≤ g) (e : (Value.slice (some ⟨q, 0, none⟩) ns ca1).ownBlock = some g) => show False from by have := (HLT.out g e).2; have := HSW.out; omega); have hst : J.1.cell? ⟨q, j * 7, none⟩ = some (.int .i64 s.tm) := by
                have h := (HOJ.out.rw_ smEl).1.on hm 0 _ rfl
                simpa using h
               have KP := qH (fun Y : KT (fun x => (Value.slice (some ⟨q, 0, none⟩) ns ca1).ownBlock = some x) V8 ⟨q, j * 7, none⟩ (.int .i64 s.tm) => (HP8.out.kept Y.2.1 (HBG.out G8 HG8.out)).cell); have KX := qH (fun Y : KT (fun x => (Value.slice (some ⟨q, 0, none⟩) ns ca1).ownBlock = some x) V8 ⟨q, j * 7, none⟩ (.int .i64 s.tm) => (HX8.out.kept Y.2.1 (HBG.out G HG.out)).cell); have T0 := fun Y : KT (fun x => (Value.slice (some ⟨q, 0, none⟩) ns ca1).ownBlock = some x) V8 ⟨q, j * 7, none⟩ (.int .i64 s.tm) => Y.2.2
               have T3 := fun Y : KT (fun x => (Value.slice (some ⟨q, 0, none⟩) ns ca1).ownBlock = some x) V8 ⟨q, j * 7, none⟩ (.int .i64 s.tm) => show Y.1.cell? ⟨T, 3, none⟩ = some (.slice (some ⟨q, 0, none⟩) ns ca1) from (HAB.out.kept (HK8.out.trans Y.2.1) (fun e => by have := (HLT.out T e).2; omega)).cell.2.2.2.1
               have P0 := fun Y : KT (fun x => (Value.slice (some ⟨q, 0, none⟩) ns ca1).ownBlock = some x) V8 ⟨q, j * 7, none⟩ (.int .i64 s.tm) => show Y.1.cell? ⟨G8, 0, none⟩ = some (.int .i64 p.tm) from (KP.out Y).1
               have P1 := fun Y : KT (fun x => (Value.slice (some ⟨q, 0, none⟩) ns ca1).ownBlock = some x) V8 ⟨q, j * 7, none⟩ (.int .i64 s.tm) => show Y.1.cell? ⟨G8, 1, none⟩ = some (.int .i64 p.x) from (KP.out Y).2.1
               have P2 := fun Y : KT (fun x => (Value.slice (some ⟨q, 0, none⟩) ns ca1).ownBlock = some x) V8 ⟨q, j * 7, none⟩ (.int .i64 s.tm) => show Y.1.cell? ⟨G8, 2, none⟩ = some (.int .i64 p.y) from (KP.out Y).2.2.1
               have P3 := fun Y : KT (fun x => (Value.slice (some ⟨q, 0, none⟩) ns ca1).ownBlock = some x) V8 ⟨q, j * 7, none⟩ (.int .i64 s.tm) => show Y.1.cell? ⟨G8, 3, none⟩ = some (.int .i64 p.z) from (KP.out Y).2.2.2.1
               have P4 := fun Y : KT (fun x => (Value.slice (some ⟨q, 0, none⟩) ns ca1).ownBlock = some x) V8 ⟨q, j * 7, none⟩ (.int .i64 s.tm) => show Y.1.cell? ⟨G8, 4, none⟩ = some (.int .i64 p.pu) from (KP.out Y).2.2.2.2.1
               have P5 := fun Y : KT (fun x => (Value.slice (some ⟨q, 0, none⟩) ns ca1).ownBlock = some x) V8 ⟨q, j * 7, none⟩ (.int .i64 s.tm) => show Y.1.cell? ⟨G8, 5, none⟩ = some (.int .i64 p.po) from (KP.out Y).2.2.2.2.2.1
               have P6 := fun Y : KT (fun x => (Value.slice (some ⟨q, 0, none⟩) ns ca1).ownBlock = some x) V8 ⟨q, j * 7, none⟩ (.int .i64 s.tm) => show Y.1.cell? ⟨G8, 6, none⟩ = some (.int .i64 p.st) from (KP.out Y).2.2.2.2.2.2
               have X0 := fun Y : KT (fun x => (Value.slice (some ⟨q, 0, none⟩) ns ca1).ownBlock = some x) V8 ⟨q, j * 7, none⟩ (.int .i64 s.tm) => show Y.1.cell? ⟨G, 0, none⟩ = some (.int .i64 x.tm) from (KX.out Y).1
               have X1 := fun Y : KT (fun x => (Value.slice (some ⟨q, 0, none⟩) ns ca1).ownBlock = some x) V8 ⟨q, j * 7, none⟩ (.int .i64 s.tm) => show Y.1.cell? ⟨G, 1, none⟩ = some (.int .i64 x.x) from (KX.out Y).2.1
               have X2 := fun Y : KT (fun x => (Value.slice (some ⟨q, 0, none⟩) ns ca1).ownBlock = some x) V8 ⟨q, j * 7, none⟩ (.int .i64 s.tm) => show Y.1.cell? ⟨G, 2, none⟩ = some (.int .i64 x.y) from (KX.out Y).2.2.1
               have X3 := fun Y : KT (fun x => (Value.slice (some ⟨q, 0, none⟩) ns ca1).ownBlock = some x) V8 ⟨q, j * 7, none⟩ (.int .i64 s.tm) => show Y.1.cell? ⟨G, 3, none⟩ = some (.int .i64 x.z) from (KX.out Y).2.2.2.1
               have X4 := fun Y : KT (fun x => (Value.slice (some ⟨q, 0, none⟩) ns ca1).ownBlock = some x) V8 ⟨q, j * 7, none⟩ (.int .i64 s.tm) => show Y.1.cell? ⟨G, 4, none⟩ = some (.int .i64 x.pu) from (KX.out Y).2.2.2.2.1
               have X5 := fun Y : KT (fun x => (Value.slice (some ⟨q, 0, none⟩) ns ca1).ownBlock = some x) V8 ⟨q, j * 7, none⟩ (.int .i64 s.tm) => show Y.1.cell? ⟨G, 5, none⟩ = some (.int .i64 x.po) from (KX.out Y).2.2.2.2.2.1
               have X6 := fun Y : KT (fun x => (Value.slice (some ⟨q, 0, none⟩) ns ca1).ownBlock = some x) V8 ⟨q, j * 7, none⟩ (.int .i64 s.tm) => show Y.1.cell? ⟨G, 6, none⟩ = some (.int .i64 x.st) from (KX.out Y).2.2.2.2.2.2
               clear hs htm hs0 hm; go_upto_region 20 with (fail); refine held_start (C := fun w' => ∃ Y : KT (fun x => (Value.slice (some ⟨q, 0, none⟩) ns ca1).ownBlock = some x) V8 ⟨q, j * 7, none⟩ (.int .i64 s.tm), w' = Y.1) (by kernel_rfl) ?_; obtain ⟨Q0, hQ0⟩ : ∃ Y : KT (fun x => (Value.slice (some ⟨q, 0, none⟩) ns ca1).ownBlock = some x) V8 ⟨q, j * 7, none⟩ (.int .i64 s.tm), ({ J.1 with drawn := J.1.drawn + 1 } : World) = Y.1 := ⟨⟨{ J.1 with drawn := J.1.drawn + 1 }, J.2.trans ⟨rfl, rfl, rfl, Nat.le_refl _, fun _ _ _ => rfl⟩, hst⟩, rfl⟩; have HOQ := qH (show Own smC 7 72 Q0.1 D0 (.slice (some ⟨q, 0, none⟩) ns ca1) (mapR (l0 + 1) j (fillB fc p x) R) from hQ0 ▸ HOJ.out); rw [hQ0]; clear hQ0
               haveI hne : Nonempty (KT (fun x => (Value.slice (some ⟨q, 0, none⟩) ns ca1).ownBlock = some x) V8 ⟨q, j * 7, none⟩ (.int .i64 s.tm)) := ⟨Q0⟩
               refine held_quiet (by kernel_rfl) (fun _ _ d _ _ h => by cases d <;> exact h) ⟨Q0, rfl⟩ [0, 1, 2, 3, 4, 5, 6, 8, 9, 11, 12, 13, 14, 15, 16, 17, 18, 19, 20, 21, 22, 23, 24] 4 _ _ (by kernel_rfl) ?_; change wpQuiet _ _ _ _ (_ :: _ :: _ :: _ :: _ :: _ :: _ :: _ :: _ :: _ :: _ :: _ :: _ :: _ :: _ :: _ :: _ :: _ :: _ :: _ :: _ :: _ :: _ :: []) _
               repeat go_big_quiet_step (fail)
               refine wpQuiet_nil ?_; refine held_do (i := 7) _ rfl (by kernel_rfl) rfl (fun K hK => ?_); go_simp; refine (DF.out p _).mono ?_; rintro e w6 ⟨rfl, hb6⟩; obtain ⟨Q1, hQ1⟩ : ∃ Y : KT (fun x => (Value.slice (some ⟨q, 0, none⟩) ns ca1).ownBlock = some x) V8 ⟨q, j * 7, none⟩ (.int .i64 s.tm), w6 = Y.1 := ⟨⟨w6, Q0.2.1.trans (Kept.of_below hb6), bCel hb6 Q0.2.2⟩, rfl⟩; have HOQ1 := qH (show Own smC 7 72 Q1.1 D0 (.slice (some ⟨q, 0, none⟩) ns ca1) (mapR (l0 + 1) j (fillB fc p x) R) from hQ1 ▸ HOQ.out.below hb6); subst hQ1; refine hK _ _ ⟨Q1, rfl⟩ ?_; clear hK K hb6
               try simp only [pS]
               refine held_do (i := 10) _ rfl (by kernel_rfl) rfl (fun K hK => ?_); go_simp; refine (DF.out x _).mono ?_; rintro e w6 ⟨rfl, hb6⟩; obtain ⟨Q2, hQ2⟩ : ∃ Y : KT (fun x => (Value.slice (some ⟨q, 0, none⟩) ns ca1).ownBlock = some x) V8 ⟨q, j * 7, none⟩ (.int .i64 s.tm), w6 = Y.1 := ⟨⟨w6, Q1.2.1.trans (Kept.of_below hb6), bCel hb6 Q1.2.2⟩, rfl⟩; have HOQ2 := qH (show Own smC 7 72 Q2.1 D0 (.slice (some ⟨q, 0, none⟩) ns ca1) (mapR (l0 + 1) j (fillB fc p x) R) from hQ2 ▸ HOQ1.out.below hb6); subst hQ2; refine hK _ _ ⟨Q2, rfl⟩ ?_; clear hK K hb6
               try simp only [pS]
               refine held_do (i := 25) _ rfl (by kernel_rfl) rfl (fun K hK => ?_); go_simp; refine (DB.out _).mono ?_; rintro e w6 ⟨rfl, hb6⟩; obtain ⟨Q3, hQ3⟩ : ∃ Y : KT (fun x => (Value.slice (some ⟨q, 0, none⟩) ns ca1).ownBlock = some x) V8 ⟨q, j * 7, none⟩ (.int .i64 s.tm), w6 = Y.1 := ⟨⟨w6, Q2.2.1.trans (Kept.of_below hb6), bCel hb6 Q2.2.2⟩, rfl⟩; have HOQ3 := qH (show Own smC 7 72 Q3.1 D0 (.slice (some ⟨q, 0, none⟩) ns ca1) (mapR (l0 + 1) j (fillB fc p x) R) from hQ3 ▸ HOQ2.out.below hb6); subst hQ3; refine hK _ _ ⟨Q3, rfl⟩ ?_; clear hK K hb6
               try simp only [pS]
               have fq := HOQ3.out.free (j * 7 + (4 + fc)); have cq : Q3.1.cell? ⟨q, j * 7 + (4 + fc), none⟩ = some (.int .i64 (getN fc s)) := by
                have h := (HOQ3.out.rw_ smEl).1.on HM.out (4 + fc) _ (smC_num HFC.out s)
                simpa using h
               obtain ⟨hos, hks⟩ := HOQ3.out.set smEl (j := 4 + fc) HM.out (by have := HFC.out; omega) (y := fillB fc p x s) (u := .int .i64 (betw (getN fc p) (getN fc x) (s.tm - p.tm) (x.tm - p.tm))) (by rw [smC_set HFC.out]; rfl); obtain ⟨W9, hW9⟩ : ∃ z, Q3.1.setCell ⟨q, j * 7 + (4 + fc), none⟩ (.int .i64 (betw (getN fc p) (getN fc x) (s.tm - p.tm) (x.tm - p.tm))) = z := ⟨_, rfl⟩; rw [hW9] at hos hks; have DS := qH (rset_any q (j * 7) fc HFC.out _ _ Q3.1 W9 cq fq hW9); rw [HMS.out] at hos; have HOS := qH hos; have HKS := qH (Q3.2.1.trans (show Kept (fun x => (Value.slice (some ⟨q, 0, none⟩) ns ca1).ownBlock = some x) Q3.1 W9 from ⟨hks.os, hks.tape, hks.output, hks.size, fun x hx ho => hks.block x hx (fun e => ho (by rw [e]; rfl))⟩)); have hst9 : W9.cell? ⟨q, j * 7, none⟩ = some (.int .i64 s.tm) := by
                have hm9 : (mapR (l0 + 1) (j + 1) (fillB fc p x) R)[j]? = some (fillB fc p x s) := by
                 rw [← HMS.out, List.getElem?_set_self (by have := (List.getElem?_eq_some_iff.1 HM.out).1; exact this)]
                have h := (hos.rw_ smEl).1.on hm9 0 _ rfl; rw [show (fillB fc p x s).tm = s.tm from setN_tm fc _ s] at h
                simpa using h
               clear hos hks cq fq hW9; refine held_do (i := 26) _ rfl (by kernel_rfl) rfl (fun K hK => ?_); go_simp; refine (DS.out).mono ?_; rintro e w6 ⟨rfl, rfl⟩; refine hK _ _ ⟨⟨w6, HKS.out, hst9⟩, rfl⟩ ?_; clear hK K
               try simp only [pS]
               refine wpAnyH_done (by kernel_rfl) ?_ _; clear w3 DB DS T0 T3 KP KX P0 P1 P2 P3 P4 P5 P6 X0 X1 X2 X3 X4 X5 X6 hst hst9; go_wp2_with fail
               go_roundw
               case rel => exact ⟨j + 1, by go_num, by omega, by omega, HOS, ⟨w6, HKS.out⟩, rfl⟩
               case measure => simp [intOf]; omega
             · have t10 : decide ((j : Int) < (k : Int)) = false := dFf (by omega)
               have t10' : decide (j < k) = false := by simpa using hlt2
               obtain rfl : k = j := by omega
               clear hlt2; go_wp2_with fail
               go_roundw
               case rel => exact ⟨k + 1, mapR (l0 + 1) k (fillB fc p x) R, some k, by go_num, by omega, rfl, HS, HOJ, ⟨J.1, HK8.out.trans J.2⟩, rfl⟩
               case measure => simp [intOf]; omega
          · have t9 : decide (x.tm - p.tm ≤ nn) = false := by rw [decide_eq_false_iff_not]; exact hg
            have HS := qH (passN_far HX.out HNG.out HR.out HP.out hg); clear hg hp hpn; go_upto_region 15 with (fail)
            go_quiet (fail)
            obtain ⟨Z2, hZ'⟩ : ∃ Z' : ExtO (fun x => (Value.slice (some ⟨q, 0, none⟩) ns ca1).ownBlock = some x) W, Y7.1.drewN nq = Z'.1 := ⟨⟨Y7.1.drewN nq, Y7.2.trans ⟨rfl, rfl, rfl, Nat.le_refl _, fun _ _ _ => rfl⟩⟩, rfl⟩; have HO' := qH (show Own smC 7 72 Z2.1 D0 (.slice (some ⟨q, 0, none⟩) ns ca1) R from hZ' ▸ HO7.out); rw [hZ']; clear hZ' p0 p1 p2 p3 p4 p5 p6 hbx x3 htp; go_wp2_with fail
            go_roundw
            case rel => exact ⟨k + 1, R, some k, by go_num, by omega, rfl, HS, HO', Z2, rfl⟩
            case measure => simp [intOf]; omega
     · have t6 : decide ((k : Int) < (ns : Int)) = false := dFf (by omega)
       have t6' : decide (k < ns) = false := by simpa using hlt
       obtain rfl : ns = k := by omega
       have HF := qH (show Own smC 7 72 Z.1 D0 (.slice a1 ns ca1) (outC nn A.sm (fc + 1)) from by
        rw [HON.out, HR.out]; exact HO.out)
       clear hlt hk hRl; go_wp2_with fail
       go_roundw
       case rel => exact ⟨fc + 1, by go_num, by omega, HF, Z, rfl⟩
       case measure => simp [intOf]; omega
  · have t5 : decide ((fc : Int) < 3) = false := dFf (by omega)
    obtain rfl : fc = 3 := by omega
    have HOF := qH (show Own smC 7 72 Z.1 D0 (.slice a1 ns ca1) (fillA nn A.sm) from by rw [← outC_fill]; exact HO.out); have HLEN := qH (show (fillA nn A.sm).length = ns from by rw [fillA_len, HN.out]); obtain ⟨y0, y1, y2, y3, y4, y5⟩ := hac.cell; have hR := (HA1.out.below HBV.out).kept Z.2 (fun e => by have := (HLT.out _ e).1; have := HSW.out; omega); obtain ⟨r0, r1, r2, r3, r4, r5⟩ := hR.cell; have fr := hR.free; obtain ⟨WF, hWF, haF, hkF⟩ := hR.store A.name A.sport A.start (.slice a1 ns ca1) (.slice b1 A.lp.length cb1) (.slice c1 A.tg.length cc1); have HAF := qH haF; have HKF := qH (hkF (fun q => q = w.heap.size + 1) rfl); have HBF := qH (show Below w.heap.size w WF from by
     have h1 : Below w.heap.size w Z.1 := Kept.below HB2.out Z.2 HB2.out.size (fun q hq e => by have := (HLT.out q e).1; have := HSW.out; omega); exact Kept.below h1 HKF.out h1.size (fun k hk e => by omega))
    have HAI := qH (show ActIn WF { A with sm := fillA nn A.sm } a1 b1 c1 ∧ ∀ g, (a1 = some g ∨ b1 = some g ∨ c1 = some g) → D0 ≤ g.block from by
     obtain ⟨B1, B2, hB1, hB2, hos, hs, hol, hl, hot⟩ := HO3.out.ex; obtain ⟨l1, _, l3⟩ := hol.rw_ lpEl; obtain ⟨t1, _, t3⟩ := hot.rw_ tgEl; have hof : Own smC 7 72 WF D0 (.slice a1 ns ca1) (fillA nn A.sm) := HOF.out.keepO HKF.out (fun q hq e => by have := (HLT.out q hq).1; have := HSW.out; omega); obtain ⟨s1, _, s3⟩ := hof.rw_ smEl; have hsz := HSW.out; have hl1 : ∀ bb off, b1 = some ⟨bb, off, none⟩ → B1 ≤ bb := fun bb off e => (l3 _ e).1
     have hl2 : ∀ bb off, c1 = some ⟨bb, off, none⟩ → B2 ≤ bb := fun bb off e => (t3 _ e).1
     have hap : ∀ q, (Value.slice a1 ns ca1).ownBlock = some q → q < B1 := fun q hq => hs q (by rw [HN.out]; exact hq)
     refine ⟨⟨s1, ((l1.below HBW.out).kept Z.2 (fun bb off e h => by have := hl1 bb off e; have := hap bb h; omega)).kept HKF.out (fun bb off e h => by have := hl1 bb off e; omega), ((t1.below HBW.out).kept Z.2 (fun bb off e h => by have := hl2 bb off e; have := hap bb h; omega)).kept HKF.out (fun bb off e h => by have := hl2 bb off e; omega), HIN.out.name, HIN.out.titles, HIN.out.tags, ?_, HIN.out.nlp, HIN.out.ntg⟩, ?_⟩
     · show ((fillA nn A.sm).length : Int) ≤ _
       rw [HLEN.out]; omega
     · rintro g (e | e | e)
       · exact (s3 _ e).1
       · have := (l3 _ e).1
         omega
       · have := (t3 _ e).1
         omega)
    have HD0 := qH (show w.heap.size ≤ D0 from by have := HSW.out; omega); clear hltc hfc hac HO haF hkF hR hbx; go_wp2_with fail; have q := HAF.out.cell; refine bodyPost_ret (v := .tuple #[.agg #[.string A.name, .int .i64 A.sport, .int .i64 A.start, .slice a1 ns ca1, .slice b1 A.lp.length cb1, .slice c1 A.tg.length cc1], .int .i64 0]) (by simp [results, Tryz.results73, go_sem, q]) rfl ⟨HBF.out, a1, b1, c1, ca1, cb1, cc1, ?_, HAI.out.1, fun g hg => Nat.le_trans HD0.out (HAI.out.2 g hg)⟩; unfold actV; simp only [HLEN.out]
set_option linter.unusedVariables false
def DoR (A : Acv) (x : Ed) (base : Nat) (w : World) (e : Ending) (w' : World) : Prop :=
 Below base w w' ∧ ∃ Z a b c ca cb cc, e = .returned (.tuple #[actV Z a b c ca cb cc, .int .i64 (appE A x)]) ∧ (appE A x = 0 → Z = appZ A x ∧ ActIn w' Z a b c ∧ ∀ q, (a = some q ∨ b = some q ∨ c = some q) → base ≤ q.block)
theorem Own3.actIn {w : World} {base : Nat} {A : Acv} {a b c : Option Addr} {ca cb cc : Nat} (h : Own3 w base A (.slice a A.sm.length ca) (.slice b A.lp.length cb) (.slice c A.tg.length cc)) (ht : ActText A) (oA : AcOk A) :
 ActIn w A a b c ∧ A.sm.length ≤ ca ∧ A.lp.length ≤ cb ∧ A.tg.length ≤ cc ∧ ∀ q, (a = some q ∨ b = some q ∨ c = some q) → base ≤ q.block := by
 obtain ⟨B1, B2, hB1, hB2, h1, _, h2, _, h3⟩ := h.ex; have n1 := oA.nsm; have n2 := oA.nlp; have n3 := oA.ntg; obtain ⟨_, _, e1, k1, _, _⟩ := h1.row smEl; injection e1 with f1 f2 f3; obtain ⟨_, _, e2, k2, _, _⟩ := h2.row lpEl; injection e2 with f4 f5 f6; obtain ⟨_, _, e3, k3, _, _⟩ := h3.row tgEl; injection e3 with f7 f8 f9; exact ⟨⟨(h1.rw_ smEl).1, (h2.rw_ lpEl).1, (h3.rw_ tgEl).1, ht.name, ht.titles, ht.tags, by omega, by omega, by omega⟩, by omega, by omega, by omega, fun q hq => by
  rcases hq with e | e | e
  · exact ((h1.rw_ smEl).2.2 q e).1
  · have := ((h2.rw_ lpEl).2.2 q e).1
    omega
  · have := ((h3.rw_ tgEl).2.2 q e).1
    omega⟩
theorem sm_1 (n f t : Int) (s : ByteArray) (A : Acv) (a b c : Option Addr) (ca cb cc : Nat) (base : Nat) (w : World) (ho : Own3 w base A (.slice a A.sm.length ca) (.slice b A.lp.length cb) (.slice c A.tg.length cc)) (hb : base ≤ w.heap.size) (ht : ActText A) (oA : AcOk A) (hs : s.size ≤ maxLen) (hk : chkE ⟨1, n, f, t, s⟩ = 0) :
 Calls Tryz.prog 74 #[actV A a b c ca cb cc, edV ⟨1, n, f, t, s⟩] w fun e w' => DoR A ⟨1, n, f, t, s⟩ base w e w' := by
 unfold DoR; rw [appE_1 rfl, appZ_1 rfl]; obtain ⟨hI, hca, hcb, hcc, hfr⟩ := ho.actIn ht oA; have HFR := qH hfr; obtain ⟨V0, hV0, hb0, hs0, ha0⟩ := alloc_aA w A a b c ca cb cc; obtain ⟨V1, hV1, hb1, hs1, hl1⟩ := alloc_cells V0 #[.int .i64 1, .int .i64 n, .int .i64 f, .int .i64 t, .string s] 28; obtain ⟨V2, hV2, hb2, hs2, ha2⟩ := alloc_a0 V1; have hs11 : V1.heap.size = w.heap.size + 2 := by omega
 rw [hs0] at hl1; rw [hs11] at ha2; have hA0 := (ha0.below hb1).below hb2; have HB := qH (bStp (bStp hb0 hb1) hb2); have HSZ := qH (show V2.heap.size = w.heap.size + 3 from by omega); have HIW := qH hI; have HIA := qH (hI.below HB.out); have HA0 := qH hA0; have HA2 := qH ha2; have HBS := qH hb; have HOA := qH oA; have HTX := qH ht; have x0 := bCel hb2 (hl1 0 _ rfl); have x1 := bCel hb2 (hl1 1 _ rfl); have x2 := bCel hb2 (hl1 2 _ rfl); have x3 := bCel hb2 (hl1 3 _ rfl); have x4 := bCel hb2 (hl1 4 _ rfl); have HL := qH (And.intro hca (And.intro hcb hcc)); have HX0 := qH x0; obtain ⟨z0, z1, z2, z3, z4, z5⟩ := hA0.cell; have fr := hA0.free; have HSS := qH hs; clear ho hb ht oA hI hb0 hb1 hb2 ha0 ha2 hl1 hA0 hs1 hs2 hca hcb hcc hfr hk; unfold actV; unfold edV; go_enter Tryz.func74, Tryz.ntmps74; go_upto_region 1 with (fail); clear hV0 hV1 hV2 hs0 hs11; have HR := HA2; have hA1 := HA0.out.set0 s; obtain ⟨W1, hW1⟩ : ∃ z, V2.setCell ⟨w.heap.size, 0, none⟩ (.string s) = z := ⟨_, rfl⟩; rw [hW1] at hA1; have hk1 : Kept (fun q => q = w.heap.size) V2 W1 := by rw [← hW1]; exact keep_set (O := fun q => q = w.heap.size) rfl
 have hR := HR.out.kept hk1 (by omega); obtain ⟨y0, y1, y2, y3, y4, y5⟩ := hA1.cell; obtain ⟨r0, r1, r2, r3, r4, r5⟩ := hR.cell; have fr2 := hR.free; obtain ⟨WF, hWF, haF, hkF⟩ := hR.store s A.sport A.start (.slice a A.sm.length ca) (.slice b A.lp.length cb) (.slice c A.tg.length cc); have HAF := qH haF; have HKF := qH (hkF (fun q => q = w.heap.size + 2) rfl); have HK1 := qH hk1; have hx0 := hk1.cell (p := ⟨w.heap.size + 1, 0, none⟩) (by show ¬ (w.heap.size + 1 = w.heap.size); omega) x0; clear haF hkF hR hA1 hk1; have HBF := qH (show Below w.heap.size w WF from by
  have h1 := Kept.below HB.out HK1.out HB.out.size (fun k hk e => by omega); exact Kept.below h1 HKF.out h1.size (fun k hk e => by omega))
 have hnsm := HOA.out.nsm; go_wp2_with fail
 go_loopw [95] (fun iv wr => ∃ i : Nat, iv = .int .i64 i ∧ i ≤ A.sm.length ∧ wr = W1) (fun iv _ => A.sm.length - (intOf iv).toNat)
 case atStart => exact ⟨0, rfl, by omega, by first | rfl | trivial⟩
 case round =>
  obtain ⟨i, rfl, hi, rfl⟩ := hrel; by_cases hlt : i < A.sm.length
  · have t1 : decide ((i : Int) < (A.sm.length : Int)) = true := dTt (by omega)
    have t1' : decide (i < A.sm.length) = true := by simpa using hlt
    obtain ⟨ba, oa, rfl, -, -⟩ := HIW.out.sm.here (by omega); go_wp2_with fail
    go_roundw
    case rel => exact ⟨i + 1, by go_num, by omega, by first | rfl | trivial⟩
    case measure => simp [intOf]; omega
  have t1 : decide ((i : Int) < (A.sm.length : Int)) = false := dFf (by omega); have t1' : decide (i < A.sm.length) = false := by simpa using hlt
  go_wp2_with fail; have q := HAF.out.cell; have hI := HIW.out.below HBF.out; exact bodyPost_ret (v := .tuple #[.agg #[.string s, .int .i64 A.sport, .int .i64 A.start, .slice a A.sm.length ca, .slice b A.lp.length cb, .slice c A.tg.length cc], .int .i64 0]) (by simp [results, Tryz.results74, go_sem, q]) rfl ⟨below_at HBF.out HBS.out (Kept.refl _ _), { A with name := s }, a, b, c, ca, cb, cc, rfl, fun _ => ⟨rfl, ⟨hI.sm, hI.lp, hI.tg, HSS.out, hI.titles, hI.tags, hI.nsm, hI.nlp, hI.ntg⟩, HFR.out⟩⟩
theorem sm_2 (n f t : Int) (s : ByteArray) (A : Acv) (a b c : Option Addr) (ca cb cc : Nat) (base : Nat) (w : World) (ho : Own3 w base A (.slice a A.sm.length ca) (.slice b A.lp.length cb) (.slice c A.tg.length cc)) (hb : base ≤ w.heap.size) (ht : ActText A) (oA : AcOk A) (hs : s.size ≤ maxLen) (hk : chkE ⟨2, n, f, t, s⟩ = 0) :
 Calls Tryz.prog 74 #[actV A a b c ca cb cc, edV ⟨2, n, f, t, s⟩] w fun e w' => DoR A ⟨2, n, f, t, s⟩ base w e w' := by
 unfold DoR; rw [appE_2 rfl, appZ_2 rfl]; obtain ⟨hI, hca, hcb, hcc, hfr⟩ := ho.actIn ht oA; have HFR := qH hfr; obtain ⟨V0, hV0, hb0, hs0, ha0⟩ := alloc_aA w A a b c ca cb cc; obtain ⟨V1, hV1, hb1, hs1, hl1⟩ := alloc_cells V0 #[.int .i64 2, .int .i64 n, .int .i64 f, .int .i64 t, .string s] 28; obtain ⟨V2, hV2, hb2, hs2, ha2⟩ := alloc_a0 V1; have hs11 : V1.heap.size = w.heap.size + 2 := by omega
 rw [hs0] at hl1; rw [hs11] at ha2; have hA0 := (ha0.below hb1).below hb2; have HB := qH (bStp (bStp hb0 hb1) hb2); have HSZ := qH (show V2.heap.size = w.heap.size + 3 from by omega); have HIW := qH hI; have HIA := qH (hI.below HB.out); have HA0 := qH hA0; have HA2 := qH ha2; have HBS := qH hb; have HOA := qH oA; have HTX := qH ht; have x0 := bCel hb2 (hl1 0 _ rfl); have x1 := bCel hb2 (hl1 1 _ rfl); have x2 := bCel hb2 (hl1 2 _ rfl); have x3 := bCel hb2 (hl1 3 _ rfl); have x4 := bCel hb2 (hl1 4 _ rfl); have HL := qH (And.intro hca (And.intro hcb hcc)); have HX0 := qH x0; obtain ⟨z0, z1, z2, z3, z4, z5⟩ := hA0.cell; have fr := hA0.free; clear ho hb ht oA hI hb0 hb1 hb2 ha0 ha2 hl1 hA0 hs1 hs2 hca hcb hcc hfr hk; unfold actV; unfold edV; go_enter Tryz.func74, Tryz.ntmps74; go_upto_region 1 with (fail); clear hV0 hV1 hV2 hs0 hs11; have HR := HA2; have hA1 := HA0.out.set1 n; obtain ⟨W1, hW1⟩ : ∃ z, V2.setCell ⟨w.heap.size, 1, none⟩ (.int .i64 n) = z := ⟨_, rfl⟩; rw [hW1] at hA1; have hk1 : Kept (fun q => q = w.heap.size) V2 W1 := by rw [← hW1]; exact keep_set (O := fun q => q = w.heap.size) rfl
 have hR := HR.out.kept hk1 (by omega); obtain ⟨y0, y1, y2, y3, y4, y5⟩ := hA1.cell; obtain ⟨r0, r1, r2, r3, r4, r5⟩ := hR.cell; have fr2 := hR.free; obtain ⟨WF, hWF, haF, hkF⟩ := hR.store A.name n A.start (.slice a A.sm.length ca) (.slice b A.lp.length cb) (.slice c A.tg.length cc); have HAF := qH haF; have HKF := qH (hkF (fun q => q = w.heap.size + 2) rfl); have HK1 := qH hk1; have hx0 := hk1.cell (p := ⟨w.heap.size + 1, 0, none⟩) (by show ¬ (w.heap.size + 1 = w.heap.size); omega) x0; clear haF hkF hR hA1 hk1; have HBF := qH (show Below w.heap.size w WF from by
  have h1 := Kept.below HB.out HK1.out HB.out.size (fun k hk e => by omega); exact Kept.below h1 HKF.out h1.size (fun k hk e => by omega))
 have hnsm := HOA.out.nsm; go_wp2_with fail
 go_loopw [95] (fun iv wr => ∃ i : Nat, iv = .int .i64 i ∧ i ≤ A.sm.length ∧ wr = W1) (fun iv _ => A.sm.length - (intOf iv).toNat)
 case atStart => exact ⟨0, rfl, by omega, by first | rfl | trivial⟩
 case round =>
  obtain ⟨i, rfl, hi, rfl⟩ := hrel; by_cases hlt : i < A.sm.length
  · have t1 : decide ((i : Int) < (A.sm.length : Int)) = true := dTt (by omega)
    have t1' : decide (i < A.sm.length) = true := by simpa using hlt
    obtain ⟨ba, oa, rfl, -, -⟩ := HIW.out.sm.here (by omega); go_wp2_with fail
    go_roundw
    case rel => exact ⟨i + 1, by go_num, by omega, by first | rfl | trivial⟩
    case measure => simp [intOf]; omega
  have t1 : decide ((i : Int) < (A.sm.length : Int)) = false := dFf (by omega); have t1' : decide (i < A.sm.length) = false := by simpa using hlt
  go_wp2_with fail; have q := HAF.out.cell; have hI := HIW.out.below HBF.out; exact bodyPost_ret (v := .tuple #[.agg #[.string A.name, .int .i64 n, .int .i64 A.start, .slice a A.sm.length ca, .slice b A.lp.length cb, .slice c A.tg.length cc], .int .i64 0]) (by simp [results, Tryz.results74, go_sem, q]) rfl ⟨below_at HBF.out HBS.out (Kept.refl _ _), { A with sport := n }, a, b, c, ca, cb, cc, rfl, fun _ => ⟨rfl, ⟨hI.sm, hI.lp, hI.tg, hI.name, hI.titles, hI.tags, hI.nsm, hI.nlp, hI.ntg⟩, HFR.out⟩⟩
theorem sm_5 (n f t : Int) (s : ByteArray) (A : Acv) (a b c : Option Addr) (ca cb cc : Nat) (base : Nat) (w : World) (ho : Own3 w base A (.slice a A.sm.length ca) (.slice b A.lp.length cb) (.slice c A.tg.length cc)) (hb : base ≤ w.heap.size) (ht : ActText A) (oA : AcOk A) (hs : s.size ≤ maxLen) (hk : chkE ⟨5, n, f, t, s⟩ = 0) :
 Calls Tryz.prog 74 #[actV A a b c ca cb cc, edV ⟨5, n, f, t, s⟩] w fun e w' => DoR A ⟨5, n, f, t, s⟩ base w e w' := by
 unfold DoR; rw [appE_5 rfl, appZ_5 rfl]; obtain ⟨hI, hca, hcb, hcc, hfr⟩ := ho.actIn ht oA; have HFR := qH hfr; obtain ⟨V0, hV0, hb0, hs0, ha0⟩ := alloc_aA w A a b c ca cb cc; obtain ⟨V1, hV1, hb1, hs1, hl1⟩ := alloc_cells V0 #[.int .i64 5, .int .i64 n, .int .i64 f, .int .i64 t, .string s] 28; obtain ⟨V2, hV2, hb2, hs2, ha2⟩ := alloc_a0 V1; have hs11 : V1.heap.size = w.heap.size + 2 := by omega
 rw [hs0] at hl1; rw [hs11] at ha2; have hA0 := (ha0.below hb1).below hb2; have HB := qH (bStp (bStp hb0 hb1) hb2); have HSZ := qH (show V2.heap.size = w.heap.size + 3 from by omega); have HIW := qH hI; have HIA := qH (hI.below HB.out); have HA0 := qH hA0; have HA2 := qH ha2; have HBS := qH hb; have HOA := qH oA; have HTX := qH ht; have x0 := bCel hb2 (hl1 0 _ rfl); have x1 := bCel hb2 (hl1 1 _ rfl); have x2 := bCel hb2 (hl1 2 _ rfl); have x3 := bCel hb2 (hl1 3 _ rfl); have x4 := bCel hb2 (hl1 4 _ rfl); have HL := qH (And.intro hca (And.intro hcb hcc)); have HX0 := qH x0; obtain ⟨z0, z1, z2, z3, z4, z5⟩ := hA0.cell; have fr := hA0.free; obtain ⟨s0, s1⟩ := oA.start; have hr := chk_rng (lo := -86399999999) (hi := 86399999999) (show ¬ ((5 : Int) < 1 ∨ 12 < (5 : Int)) by decide) rfl hk; simp only at hr; have wr : IntKind.i64.wrap (A.start + n) = A.start + n := tm_wrap (by omega) (by omega); clear hr s0 s1; clear ho hb ht oA hI hb0 hb1 hb2 ha0 ha2 hl1 hA0 hs1 hs2 hca hcb hcc hfr hk; unfold actV; unfold edV; go_enter Tryz.func74, Tryz.ntmps74; go_upto_region 1 with (fail); clear hV0 hV1 hV2 hs0 hs11; have HR := HA2; have hA1 := HA0.out.set2 (A.start + n); obtain ⟨W1, hW1⟩ : ∃ z, V2.setCell ⟨w.heap.size, 2, none⟩ (.int .i64 (A.start + n)) = z := ⟨_, rfl⟩; rw [hW1] at hA1; have hk1 : Kept (fun q => q = w.heap.size) V2 W1 := by rw [← hW1]; exact keep_set (O := fun q => q = w.heap.size) rfl
 have hR := HR.out.kept hk1 (by omega); obtain ⟨y0, y1, y2, y3, y4, y5⟩ := hA1.cell; obtain ⟨r0, r1, r2, r3, r4, r5⟩ := hR.cell; have fr2 := hR.free; obtain ⟨WF, hWF, haF, hkF⟩ := hR.store A.name A.sport (A.start + n) (.slice a A.sm.length ca) (.slice b A.lp.length cb) (.slice c A.tg.length cc); have HAF := qH haF; have HKF := qH (hkF (fun q => q = w.heap.size + 2) rfl); have HK1 := qH hk1; have hx0 := hk1.cell (p := ⟨w.heap.size + 1, 0, none⟩) (by show ¬ (w.heap.size + 1 = w.heap.size); omega) x0; clear haF hkF hR hA1 hk1; have HBF := qH (show Below w.heap.size w WF from by
  have h1 := Kept.below HB.out HK1.out HB.out.size (fun k hk e => by omega); exact Kept.below h1 HKF.out h1.size (fun k hk e => by omega))
 have hnsm := HOA.out.nsm; go_wp2_with fail
 go_loopw [95] (fun iv wr => ∃ i : Nat, iv = .int .i64 i ∧ i ≤ A.sm.length ∧ wr = W1) (fun iv _ => A.sm.length - (intOf iv).toNat)
 case atStart => exact ⟨0, rfl, by omega, by first | rfl | trivial⟩
 case round =>
  obtain ⟨i, rfl, hi, rfl⟩ := hrel; by_cases hlt : i < A.sm.length
  · have t1 : decide ((i : Int) < (A.sm.length : Int)) = true := dTt (by omega)
    have t1' : decide (i < A.sm.length) = true := by simpa using hlt
    obtain ⟨ba, oa, rfl, -, -⟩ := HIW.out.sm.here (by omega); go_wp2_with fail
    go_roundw
    case rel => exact ⟨i + 1, by go_num, by omega, by first | rfl | trivial⟩
    case measure => simp [intOf]; omega
  have t1 : decide ((i : Int) < (A.sm.length : Int)) = false := dFf (by omega); have t1' : decide (i < A.sm.length) = false := by simpa using hlt
  go_wp2_with fail; have q := HAF.out.cell; have hI := HIW.out.below HBF.out; exact bodyPost_ret (v := .tuple #[.agg #[.string A.name, .int .i64 A.sport, .int .i64 (A.start + n), .slice a A.sm.length ca, .slice b A.lp.length cb, .slice c A.tg.length cc], .int .i64 0]) (by simp [results, Tryz.results74, go_sem, q]) rfl ⟨below_at HBF.out HBS.out (Kept.refl _ _), { A with start := A.start + n }, a, b, c, ca, cb, cc, rfl, fun _ => ⟨rfl, ⟨hI.sm, hI.lp, hI.tg, hI.name, hI.titles, hI.tags, hI.nsm, hI.nlp, hI.ntg⟩, HFR.out⟩⟩
theorem sm_3 (n f t : Int) (s : ByteArray) (A : Acv) (a b c : Option Addr) (ca cb cc : Nat) (base : Nat) (w : World) (ho : Own3 w base A (.slice a A.sm.length ca) (.slice b A.lp.length cb) (.slice c A.tg.length cc)) (hb : base ≤ w.heap.size) (ht : ActText A) (oA : AcOk A) (hs : s.size ≤ maxLen) (hk : chkE ⟨3, n, f, t, s⟩ = 0) :
 Calls Tryz.prog 74 #[actV A a b c ca cb cc, edV ⟨3, n, f, t, s⟩] w fun e w' => DoR A ⟨3, n, f, t, s⟩ base w e w' := by
 unfold DoR; rw [appE_3 rfl, appZ_3 rfl]; obtain ⟨hI, hca, hcb, hcc, hfr⟩ := ho.actIn ht oA; have HFR := qH hfr; obtain ⟨V0, hV0, hb0, hs0, ha0⟩ := alloc_aA w A a b c ca cb cc; obtain ⟨V1, hV1, hb1, hs1, hl1⟩ := alloc_cells V0 #[.int .i64 3, .int .i64 n, .int .i64 f, .int .i64 t, .string s] 28; obtain ⟨V2, hV2, hb2, hs2, ha2⟩ := alloc_a0 V1; have hs11 : V1.heap.size = w.heap.size + 2 := by omega
 rw [hs0] at hl1; rw [hs11] at ha2; have hA0 := (ha0.below hb1).below hb2; have HB := qH (bStp (bStp hb0 hb1) hb2); have HSZ := qH (show V2.heap.size = w.heap.size + 3 from by omega); have HIW := qH hI; have HIA := qH (hI.below HB.out); have HA0 := qH hA0; have HA2 := qH ha2; have HBS := qH hb; have HOA := qH oA; have HTX := qH ht; have x0 := bCel hb2 (hl1 0 _ rfl); have x1 := bCel hb2 (hl1 1 _ rfl); have x2 := bCel hb2 (hl1 2 _ rfl); have x3 := bCel hb2 (hl1 3 _ rfl); have x4 := bCel hb2 (hl1 4 _ rfl); have HL := qH (And.intro hca (And.intro hcb hcc)); have HX0 := qH x0; obtain ⟨z0, z1, z2, z3, z4, z5⟩ := hA0.cell; have fr := hA0.free; have DT := qH (show Calls Tryz.prog 93 #[.agg #[.string A.name, .int .i64 A.sport, .int .i64 A.start, .slice a A.sm.length ca, .slice b A.lp.length cb, .slice c A.tg.length cc], .string s] V2 fun e w' => e = .returned (.bool (hasT s A.tg)) ∧ Below V2.heap.size V2 w' from by
  have h := rhasTag_any A a b c ca cb cc s V2 HIA.out.tg (by have := oA.ntg; omega); unfold actV at h; exact h)
 have HSS := qH hs; by_cases hh : hasT s A.tg = true
 · have HE := qH (show (if hasT s A.tg = true then (5 : Int) else 0) = 5 from if_pos hh)
   rw [HE.out]; rw [hh] at DT; clear hh; clear ho hb ht oA hI hb0 hb1 hb2 ha0 ha2 hl1 hA0 hs1 hs2 hca hcb hcc hfr hk; unfold actV; unfold edV; go_enter Tryz.func74, Tryz.ntmps74; go_upto_region 1 with (fail); clear hV0 hV1 hV2 hs0 hs11; go_wp2_with fail; refine (DT.out).mono ?_; rintro e w3 ⟨rfl, hb3⟩; have HB3 := qH hb3; have x4' := bCel hb3 x4; have hz := (HA0.out.below hb3).cell; clear z0 z1 z2 z3 z4 z5 fr x0 x1 x2 x3 x4 hb3 DT; clear hz x4'; have hR := HA2.out.below HB3.out; obtain ⟨y0, y1, y2, y3, y4, y5⟩ := (HA0.out.below HB3.out).cell; obtain ⟨r0, r1, r2, r3, r4, r5⟩ := hR.cell; have fr2 := hR.free; obtain ⟨WF, hWF, haF, hkF⟩ := hR.store A.name A.sport A.start (.slice a A.sm.length ca) (.slice b A.lp.length cb) (.slice c A.tg.length cc); have HAF := qH haF; have HKF := qH (hkF (fun q => q = w.heap.size + 2) rfl); have HBF := qH (show Below w.heap.size w WF from by
    have h1 := bStp HB.out HB3.out; exact Kept.below h1 HKF.out h1.size (fun k hk e => by omega))
   clear haF hkF hR; go_wp2_with fail; have q := HAF.out.cell; exact bodyPost_ret (v := .tuple #[.agg #[.string A.name, .int .i64 A.sport, .int .i64 A.start, .slice a A.sm.length ca, .slice b A.lp.length cb, .slice c A.tg.length cc], .int .i64 5]) (by simp [results, Tryz.results74, go_sem, q]) rfl ⟨below_at HBF.out HBS.out (Kept.refl _ _), A, a, b, c, ca, cb, cc, rfl, fun h => by omega⟩
 · have HE := qH (show (if hasT s A.tg = true then (5 : Int) else 0) = 0 from if_neg hh)
   rw [HE.out]; rw [show hasT s A.tg = false from by simpa using hh] at DT; clear hh; clear ho hb ht oA hI hb0 hb1 hb2 ha0 ha2 hl1 hA0 hs1 hs2 hca hcb hcc hfr hk; unfold actV; unfold edV; go_enter Tryz.func74, Tryz.ntmps74; go_upto_region 1 with (fail); clear hV0 hV1 hV2 hs0 hs11; go_wp2_with fail; refine (DT.out).mono ?_; rintro e w3 ⟨rfl, hb3⟩; have HB3 := qH hb3; have x4' := bCel hb3 x4; have hz := (HA0.out.below hb3).cell; clear z0 z1 z2 z3 z4 z5 fr x0 x1 x2 x3 x4 hb3 DT; obtain ⟨z0, z1, z2, z3, z4, z5⟩ := hz; obtain ⟨V7, hV7, hb7, hs7, hl7⟩ := alloc_cells w3 #[.string s] 9; have HB7 := qH (bStp HB3.out hb7); have hT := rTags_any A.tg [s] c (some ⟨w3.heap.size, 0, none⟩) cc 1 V7 ((HIA.out.tg.below HB3.out).below hb7) (one_row s w3.heap.size V7 (by omega) (hl7 0 _ rfl)) (by have := HOA.out.ntg; omega) (by simp) HL.out.2.2 (by simp); have DTG := qH hT; obtain ⟨y0, y1, y2, y3, y4, y5⟩ := (HA0.out.below HB7.out).cell; clear hb7 hs7 hl7 hT; simp only [List.length_singleton] at DTG; go_upto_region 11 with (fail); go_wp2_with fail; refine (DTG.out).mono ?_; rintro e w4 ⟨v, rfl, hov, hb4⟩; obtain ⟨vv, cv, rfl, -, -, -⟩ := hov.row tgEl; obtain ⟨nv, hnv⟩ : ∃ nv, (mergeT A.tg [s]).length = nv := ⟨_, rfl⟩; have HNV := qH hnv; rw [hnv] at hov ⊢; have HB4 := qH (bStp HB7.out hb4); have HOV := qH (show Own tgC 1 9 w4 V2.heap.size (.slice vv nv cv) (mergeT A.tg [s]) from hov.weaken HB7.out.size); have HMT := qH (fun p (hp : p ∈ mergeT A.tg [s]) => show p.size ≤ maxLen from by
    rcases (mergeT_mem _ A.tg [s] rfl p).1 hp with h | h
    · exact HTX.out.tags p h
    · rw [List.mem_singleton.1 h]
      exact HSS.out)
   have HML := qH (show nv ≤ 1000 from by
    have := mergeT_len A.tg [s] _ rfl; simp only [List.length_singleton] at this; have := HOA.out.ntg; have := HNV.out; omega)
   clear hov hnv y0 y1 y2 y3 y4 y5 hb4 x4' DTG hV7 z0 z1 z2 z3 z4 z5; have hA1 := (HA0.out.below HB4.out).set5 (.slice vv nv cv); have fr1 := (HA0.out.below HB4.out).free 5; obtain ⟨y0', y1', y2', y3', y4', y5'⟩ := (HA0.out.below HB4.out).cell; obtain ⟨W1, hW1⟩ : ∃ z, w4.setCell ⟨w.heap.size, 5, none⟩ (.slice vv nv cv) = z := ⟨_, rfl⟩; rw [hW1] at hA1; have hk1 : Kept (fun q => q = w.heap.size) w4 W1 := by rw [← hW1]; exact keep_set (O := fun q => q = w.heap.size) rfl
   have hR := (HA2.out.below HB4.out).kept hk1 (by omega); obtain ⟨y0, y1, y2, y3, y4, y5⟩ := hA1.cell; obtain ⟨r0, r1, r2, r3, r4, r5⟩ := hR.cell; have fr2 := hR.free; obtain ⟨WF, hWF, haF, hkF⟩ := hR.store A.name A.sport A.start (.slice a A.sm.length ca) (.slice b A.lp.length cb) (.slice vv nv cv); have HAF := qH haF; have HKF := qH (hkF (fun q => q = w.heap.size + 2) rfl); have HBF := qH (show Below w.heap.size w WF from by
    have h1 := bStp HB.out HB4.out; have h2 := Kept.below h1 hk1 h1.size (fun k hk e => by omega); exact Kept.below h2 HKF.out h2.size (fun k hk e => by omega))
   have HOF := qH ((HOV.out.keepO hk1 (fun q hq e => by have := (HOV.out.lt q hq).1; have := HSZ.out; omega)).keepO HKF.out (fun q hq e => by have := (HOV.out.lt q hq).1; have := HSZ.out; omega)); have hx0 := hk1.cell (p := ⟨w.heap.size + 1, 0, none⟩) (by show ¬ (w.heap.size + 1 = w.heap.size); omega) (bCel HB4.out HX0.out); clear haF hkF hR hA1 hk1; have hnsm := HOA.out.nsm; go_wp2_with fail
   go_loopw [95] (fun iv wr => ∃ i : Nat, iv = .int .i64 i ∧ i ≤ A.sm.length ∧ wr = W1) (fun iv _ => A.sm.length - (intOf iv).toNat)
   case atStart => exact ⟨0, rfl, by omega, by first | rfl | trivial⟩
   case round =>
    obtain ⟨i, rfl, hi, rfl⟩ := hrel; by_cases hlt : i < A.sm.length
    · have t1 : decide ((i : Int) < (A.sm.length : Int)) = true := dTt (by omega)
      have t1' : decide (i < A.sm.length) = true := by simpa using hlt
      obtain ⟨ba, oa, rfl, -, -⟩ := HIW.out.sm.here (by omega); go_wp2_with fail
      go_roundw
      case rel => exact ⟨i + 1, by go_num, by omega, by first | rfl | trivial⟩
      case measure => simp [intOf]; omega
    have t1 : decide ((i : Int) < (A.sm.length : Int)) = false := dFf (by omega); have t1' : decide (i < A.sm.length) = false := by simpa using hlt
    go_wp2_with fail; have q := HAF.out.cell; have hI := HIW.out.below HBF.out; exact bodyPost_ret (v := .tuple #[.agg #[.string A.name, .int .i64 A.sport, .int .i64 A.start, .slice a A.sm.length ca, .slice b A.lp.length cb, .slice vv nv cv], .int .i64 0]) (by simp [results, Tryz.results74, go_sem, q]) rfl ⟨below_at HBF.out HBS.out (Kept.refl _ _), { A with tg := mergeT A.tg [s] }, a, b, vv, ca, cb, cv, by first | (unfold actV; simp only [HNV.out]) | simp only [HNV.out], fun _ => ⟨rfl, ⟨hI.sm, hI.lp, (HOF.out.rw_ tgEl).1, hI.name, hI.titles, HMT.out, hI.nsm, hI.nlp, by have h1 := HNV.out; have h2 := HML.out; show ((mergeT A.tg [s]).length : Int) ≤ _; omega⟩, fun q hq => by rcases hq with e | e | e <;> first | exact HFR.out q (Or.inl e) | exact HFR.out q (Or.inr (Or.inl e)) | exact HFR.out q (Or.inr (Or.inr e)) | (have h1 := ((HOF.out.rw_ tgEl).2.2 q e).1; have h2 := HSZ.out; have h3 := HBS.out; omega)⟩⟩
theorem sm_4 (n f t : Int) (s : ByteArray) (A : Acv) (a b c : Option Addr) (ca cb cc : Nat) (base : Nat) (w : World) (ho : Own3 w base A (.slice a A.sm.length ca) (.slice b A.lp.length cb) (.slice c A.tg.length cc)) (hb : base ≤ w.heap.size) (ht : ActText A) (oA : AcOk A) (hs : s.size ≤ maxLen) (hk : chkE ⟨4, n, f, t, s⟩ = 0) :
 Calls Tryz.prog 74 #[actV A a b c ca cb cc, edV ⟨4, n, f, t, s⟩] w fun e w' => DoR A ⟨4, n, f, t, s⟩ base w e w' := by
 unfold DoR; rw [appE_4 rfl, appZ_4 rfl]; obtain ⟨hI, hca, hcb, hcc, hfr⟩ := ho.actIn ht oA; have HFR := qH hfr; obtain ⟨V0, hV0, hb0, hs0, ha0⟩ := alloc_aA w A a b c ca cb cc; obtain ⟨V1, hV1, hb1, hs1, hl1⟩ := alloc_cells V0 #[.int .i64 4, .int .i64 n, .int .i64 f, .int .i64 t, .string s] 28; obtain ⟨V2, hV2, hb2, hs2, ha2⟩ := alloc_a0 V1; have hs11 : V1.heap.size = w.heap.size + 2 := by omega
 rw [hs0] at hl1; rw [hs11] at ha2; have hA0 := (ha0.below hb1).below hb2; have HB := qH (bStp (bStp hb0 hb1) hb2); have HSZ := qH (show V2.heap.size = w.heap.size + 3 from by omega); have HIW := qH hI; have HIA := qH (hI.below HB.out); have HA0 := qH hA0; have HA2 := qH ha2; have HBS := qH hb; have HOA := qH oA; have HTX := qH ht; have x0 := bCel hb2 (hl1 0 _ rfl); have x1 := bCel hb2 (hl1 1 _ rfl); have x2 := bCel hb2 (hl1 2 _ rfl); have x3 := bCel hb2 (hl1 3 _ rfl); have x4 := bCel hb2 (hl1 4 _ rfl); have HL := qH (And.intro hca (And.intro hcb hcc)); have HX0 := qH x0; obtain ⟨z0, z1, z2, z3, z4, z5⟩ := hA0.cell; have fr := hA0.free; have DT := qH (show Calls Tryz.prog 93 #[.agg #[.string A.name, .int .i64 A.sport, .int .i64 A.start, .slice a A.sm.length ca, .slice b A.lp.length cb, .slice c A.tg.length cc], .string s] V2 fun e w' => e = .returned (.bool (hasT s A.tg)) ∧ Below V2.heap.size V2 w' from by
  have h := rhasTag_any A a b c ca cb cc s V2 HIA.out.tg (by have := oA.ntg; omega); unfold actV at h; exact h)
 have HSS := qH hs; by_cases hh : hasT s A.tg = true
 · have HE := qH (show (if hasT s A.tg = true then (0 : Int) else 4) = 0 from if_pos hh)
   rw [HE.out]; rw [hh] at DT; clear hh; clear ho hb ht oA hI hb0 hb1 hb2 ha0 ha2 hl1 hA0 hs1 hs2 hca hcb hcc hfr hk; unfold actV; unfold edV; go_enter Tryz.func74, Tryz.ntmps74; go_upto_region 1 with (fail); clear hV0 hV1 hV2 hs0 hs11; go_wp2_with fail; refine (DT.out).mono ?_; rintro e w3 ⟨rfl, hb3⟩; have HB3 := qH hb3; have x4' := bCel hb3 x4; have hz := (HA0.out.below hb3).cell; clear z0 z1 z2 z3 z4 z5 fr x0 x1 x2 x3 x4 hb3 DT; obtain ⟨z0, z1, z2, z3, z4, z5⟩ := hz; have DTG := qH (rwithoutTag_any A.tg c cc s w3 (HIA.out.tg.below HB3.out) (by have := HOA.out.ntg; omega)); go_upto_region 15 with (fail); go_wp2_with fail; refine (DTG.out).mono ?_; rintro e w4 ⟨v, rfl, hov, hb4⟩; obtain ⟨vv, cv, rfl, -, -, -⟩ := hov.row tgEl; obtain ⟨nv, hnv⟩ : ∃ nv, (delT s A.tg).length = nv := ⟨_, rfl⟩; have HNV := qH hnv; rw [hnv] at hov ⊢; have HB4 := qH (bStp HB3.out hb4); have HOV := qH (show Own tgC 1 9 w4 V2.heap.size (.slice vv nv cv) (delT s A.tg) from hov.weaken HB3.out.size); have HMT := qH (fun p (hp : p ∈ delT s A.tg) => show p.size ≤ maxLen from HTX.out.tags p (List.mem_filter.1 hp).1); have HML := qH (show nv ≤ 1000 from by
    have h1 : (delT s A.tg).length ≤ A.tg.length := List.length_filter_le _ _; have := HOA.out.ntg; have := HNV.out; omega)
   clear hov hnv hb4 x4' DTG z0 z1 z2 z3 z4 z5; have hA1 := (HA0.out.below HB4.out).set5 (.slice vv nv cv); have fr1 := (HA0.out.below HB4.out).free 5; obtain ⟨y0', y1', y2', y3', y4', y5'⟩ := (HA0.out.below HB4.out).cell; obtain ⟨W1, hW1⟩ : ∃ z, w4.setCell ⟨w.heap.size, 5, none⟩ (.slice vv nv cv) = z := ⟨_, rfl⟩; rw [hW1] at hA1; have hk1 : Kept (fun q => q = w.heap.size) w4 W1 := by rw [← hW1]; exact keep_set (O := fun q => q = w.heap.size) rfl
   have hR := (HA2.out.below HB4.out).kept hk1 (by omega); obtain ⟨y0, y1, y2, y3, y4, y5⟩ := hA1.cell; obtain ⟨r0, r1, r2, r3, r4, r5⟩ := hR.cell; have fr2 := hR.free; obtain ⟨WF, hWF, haF, hkF⟩ := hR.store A.name A.sport A.start (.slice a A.sm.length ca) (.slice b A.lp.length cb) (.slice vv nv cv); have HAF := qH haF; have HKF := qH (hkF (fun q => q = w.heap.size + 2) rfl); have HBF := qH (show Below w.heap.size w WF from by
    have h1 := bStp HB.out HB4.out; have h2 := Kept.below h1 hk1 h1.size (fun k hk e => by omega); exact Kept.below h2 HKF.out h2.size (fun k hk e => by omega))
   have HOF := qH ((HOV.out.keepO hk1 (fun q hq e => by have := (HOV.out.lt q hq).1; have := HSZ.out; omega)).keepO HKF.out (fun q hq e => by have := (HOV.out.lt q hq).1; have := HSZ.out; omega)); have hx0 := hk1.cell (p := ⟨w.heap.size + 1, 0, none⟩) (by show ¬ (w.heap.size + 1 = w.heap.size); omega) (bCel HB4.out HX0.out); clear haF hkF hR hA1 hk1; have hnsm := HOA.out.nsm; go_wp2_with fail
   go_loopw [95] (fun iv wr => ∃ i : Nat, iv = .int .i64 i ∧ i ≤ A.sm.length ∧ wr = W1) (fun iv _ => A.sm.length - (intOf iv).toNat)
   case atStart => exact ⟨0, rfl, by omega, by first | rfl | trivial⟩
   case round =>
    obtain ⟨i, rfl, hi, rfl⟩ := hrel; by_cases hlt : i < A.sm.length
    · have t1 : decide ((i : Int) < (A.sm.length : Int)) = true := dTt (by omega)
      have t1' : decide (i < A.sm.length) = true := by simpa using hlt
      obtain ⟨ba, oa, rfl, -, -⟩ := HIW.out.sm.here (by omega); go_wp2_with fail
      go_roundw
      case rel => exact ⟨i + 1, by go_num, by omega, by first | rfl | trivial⟩
      case measure => simp [intOf]; omega
    have t1 : decide ((i : Int) < (A.sm.length : Int)) = false := dFf (by omega); have t1' : decide (i < A.sm.length) = false := by simpa using hlt
    go_wp2_with fail; have q := HAF.out.cell; have hI := HIW.out.below HBF.out; exact bodyPost_ret (v := .tuple #[.agg #[.string A.name, .int .i64 A.sport, .int .i64 A.start, .slice a A.sm.length ca, .slice b A.lp.length cb, .slice vv nv cv], .int .i64 0]) (by simp [results, Tryz.results74, go_sem, q]) rfl ⟨below_at HBF.out HBS.out (Kept.refl _ _), { A with tg := delT s A.tg }, a, b, vv, ca, cb, cv, by first | (unfold actV; simp only [HNV.out]) | simp only [HNV.out], fun _ => ⟨rfl, ⟨hI.sm, hI.lp, (HOF.out.rw_ tgEl).1, hI.name, hI.titles, HMT.out, hI.nsm, hI.nlp, by have h1 := HNV.out; have h2 := HML.out; show ((delT s A.tg).length : Int) ≤ _; omega⟩, fun q hq => by rcases hq with e | e | e <;> first | exact HFR.out q (Or.inl e) | exact HFR.out q (Or.inr (Or.inl e)) | exact HFR.out q (Or.inr (Or.inr e)) | (have h1 := ((HOF.out.rw_ tgEl).2.2 q e).1; have h2 := HSZ.out; have h3 := HBS.out; omega)⟩⟩
 · have HE := qH (show (if hasT s A.tg = true then (0 : Int) else 4) = 4 from if_neg hh)
   rw [HE.out]; rw [show hasT s A.tg = false from by simpa using hh] at DT; clear hh; clear ho hb ht oA hI hb0 hb1 hb2 ha0 ha2 hl1 hA0 hs1 hs2 hca hcb hcc hfr hk; unfold actV; unfold edV; go_enter Tryz.func74, Tryz.ntmps74; go_upto_region 1 with (fail); clear hV0 hV1 hV2 hs0 hs11; go_wp2_with fail; refine (DT.out).mono ?_; rintro e w3 ⟨rfl, hb3⟩; have HB3 := qH hb3; have x4' := bCel hb3 x4; have hz := (HA0.out.below hb3).cell; clear z0 z1 z2 z3 z4 z5 fr x0 x1 x2 x3 x4 hb3 DT; clear hz x4'; have hR := HA2.out.below HB3.out; obtain ⟨y0, y1, y2, y3, y4, y5⟩ := (HA0.out.below HB3.out).cell; obtain ⟨r0, r1, r2, r3, r4, r5⟩ := hR.cell; have fr2 := hR.free; obtain ⟨WF, hWF, haF, hkF⟩ := hR.store A.name A.sport A.start (.slice a A.sm.length ca) (.slice b A.lp.length cb) (.slice c A.tg.length cc); have HAF := qH haF; have HKF := qH (hkF (fun q => q = w.heap.size + 2) rfl); have HBF := qH (show Below w.heap.size w WF from by
    have h1 := bStp HB.out HB3.out; exact Kept.below h1 HKF.out h1.size (fun k hk e => by omega))
   clear haF hkF hR; go_wp2_with fail; have q := HAF.out.cell; exact bodyPost_ret (v := .tuple #[.agg #[.string A.name, .int .i64 A.sport, .int .i64 A.start, .slice a A.sm.length ca, .slice b A.lp.length cb, .slice c A.tg.length cc], .int .i64 4]) (by simp [results, Tryz.results74, go_sem, q]) rfl ⟨below_at HBF.out HBS.out (Kept.refl _ _), A, a, b, c, ca, cb, cc, rfl, fun h => by omega⟩
theorem sm_11 (n f t : Int) (s : ByteArray) (A : Acv) (a b c : Option Addr) (ca cb cc : Nat) (base : Nat) (w : World) (ho : Own3 w base A (.slice a A.sm.length ca) (.slice b A.lp.length cb) (.slice c A.tg.length cc)) (hb : base ≤ w.heap.size) (ht : ActText A) (oA : AcOk A) (hs : s.size ≤ maxLen) (hk : chkE ⟨11, n, f, t, s⟩ = 0) :
 Calls Tryz.prog 74 #[actV A a b c ca cb cc, edV ⟨11, n, f, t, s⟩] w fun e w' => DoR A ⟨11, n, f, t, s⟩ base w e w' := by
 unfold DoR; rw [appE_11 rfl, appZ_11 rfl]; obtain ⟨hI, hca, hcb, hcc, hfr⟩ := ho.actIn ht oA; have HFR := qH hfr; obtain ⟨V0, hV0, hb0, hs0, ha0⟩ := alloc_aA w A a b c ca cb cc; obtain ⟨V1, hV1, hb1, hs1, hl1⟩ := alloc_cells V0 #[.int .i64 11, .int .i64 n, .int .i64 f, .int .i64 t, .string s] 28; obtain ⟨V2, hV2, hb2, hs2, ha2⟩ := alloc_a0 V1; have hs11 : V1.heap.size = w.heap.size + 2 := by omega
 rw [hs0] at hl1; rw [hs11] at ha2; have hA0 := (ha0.below hb1).below hb2; have HB := qH (bStp (bStp hb0 hb1) hb2); have HSZ := qH (show V2.heap.size = w.heap.size + 3 from by omega); have HIW := qH hI; have HIA := qH (hI.below HB.out); have HA0 := qH hA0; have HA2 := qH ha2; have HBS := qH hb; have HOA := qH oA; have HTX := qH ht; have x0 := bCel hb2 (hl1 0 _ rfl); have x1 := bCel hb2 (hl1 1 _ rfl); have x2 := bCel hb2 (hl1 2 _ rfl); have x3 := bCel hb2 (hl1 3 _ rfl); have x4 := bCel hb2 (hl1 4 _ rfl); have HL := qH (And.intro hca (And.intro hcb hcc)); have HX0 := qH x0; obtain ⟨z0, z1, z2, z3, z4, z5⟩ := hA0.cell; have fr := hA0.free; have HSS := qH hs; clear ho hb ht oA hI hb0 hb1 hb2 ha0 ha2 hl1 hA0 hs1 hs2 hca hcb hcc hfr hk; have DL := qH (rwithLap_any A.lp ⟨f, t, s⟩ b cb V2 HIA.out.lp (by have := HOA.out.nlp; omega) HL.out.2.1); unfold actV; unfold edV; go_enter Tryz.func74, Tryz.ntmps74; go_upto_region 1 with (fail); clear hV0 hV1 hV2 hs0 hs11; go_upto_region 17 with (fail); go_wp2_with fail; refine (DL.out).mono ?_; rintro e w4 ⟨v, rfl, hov, hb4⟩; obtain ⟨vv, cv, rfl, -, -, -⟩ := hov.row lpEl; obtain ⟨nv, hnv⟩ : ∃ nv, (putL ⟨f, t, s⟩ A.lp).length = nv := ⟨_, rfl⟩; have HNV := qH hnv; rw [hnv] at hov ⊢; have HB4 := qH hb4; have HOV := qH hov; have HMT := qH (fun p (hp : p ∈ putL ⟨f, t, s⟩ A.lp) => show p.s.size ≤ maxLen from by
  rcases putL_mem hp with rfl | h
  · exact HSS.out
  · exact HTX.out.titles p h)
 have HML := qH (show nv ≤ 1000 from by
  have h1 := putL_len ⟨f, t, s⟩ A.lp; have := HOA.out.nlp; have := HNV.out; omega)
 clear hov hnv hb4 x0 x1 x2 x3 x4 DL z0 z1 z2 z3 z4 z5 fr; have hA1 := (HA0.out.below HB4.out).set4 (.slice vv nv cv); have fr1 := (HA0.out.below HB4.out).free 4; obtain ⟨y0', y1', y2', y3', y4', y5'⟩ := (HA0.out.below HB4.out).cell; obtain ⟨W1, hW1⟩ : ∃ z, w4.setCell ⟨w.heap.size, 4, none⟩ (.slice vv nv cv) = z := ⟨_, rfl⟩; rw [hW1] at hA1; have hk1 : Kept (fun q => q = w.heap.size) w4 W1 := by rw [← hW1]; exact keep_set (O := fun q => q = w.heap.size) rfl
 have hR := (HA2.out.below HB4.out).kept hk1 (by omega); obtain ⟨y0, y1, y2, y3, y4, y5⟩ := hA1.cell; obtain ⟨r0, r1, r2, r3, r4, r5⟩ := hR.cell; have fr2 := hR.free; obtain ⟨WF, hWF, haF, hkF⟩ := hR.store A.name A.sport A.start (.slice a A.sm.length ca) (.slice vv nv cv) (.slice c A.tg.length cc); have HAF := qH haF; have HKF := qH (hkF (fun q => q = w.heap.size + 2) rfl); have HBF := qH (show Below w.heap.size w WF from by
  have h1 := bStp HB.out HB4.out; have h2 := Kept.below h1 hk1 h1.size (fun k hk e => by omega); exact Kept.below h2 HKF.out h2.size (fun k hk e => by omega))
 have HOF := qH ((HOV.out.keepO hk1 (fun q hq e => by have := (HOV.out.lt q hq).1; have := HSZ.out; omega)).keepO HKF.out (fun q hq e => by have := (HOV.out.lt q hq).1; have := HSZ.out; omega)); have hx0 := hk1.cell (p := ⟨w.heap.size + 1, 0, none⟩) (by show ¬ (w.heap.size + 1 = w.heap.size); omega) (bCel HB4.out HX0.out); clear haF hkF hR hA1 hk1; have hnsm := HOA.out.nsm; go_wp2_with fail
 go_loopw [95] (fun iv wr => ∃ i : Nat, iv = .int .i64 i ∧ i ≤ A.sm.length ∧ wr = W1) (fun iv _ => A.sm.length - (intOf iv).toNat)
 case atStart => exact ⟨0, rfl, by omega, by first | rfl | trivial⟩
 case round =>
  obtain ⟨i, rfl, hi, rfl⟩ := hrel; by_cases hlt : i < A.sm.length
  · have t1 : decide ((i : Int) < (A.sm.length : Int)) = true := dTt (by omega)
    have t1' : decide (i < A.sm.length) = true := by simpa using hlt
    obtain ⟨ba, oa, rfl, -, -⟩ := HIW.out.sm.here (by omega); go_wp2_with fail
    go_roundw
    case rel => exact ⟨i + 1, by go_num, by omega, by first | rfl | trivial⟩
    case measure => simp [intOf]; omega
  have t1 : decide ((i : Int) < (A.sm.length : Int)) = false := dFf (by omega); have t1' : decide (i < A.sm.length) = false := by simpa using hlt
  go_wp2_with fail; have q := HAF.out.cell; have hI := HIW.out.below HBF.out; exact bodyPost_ret (v := .tuple #[.agg #[.string A.name, .int .i64 A.sport, .int .i64 A.start, .slice a A.sm.length ca, .slice vv nv cv, .slice c A.tg.length cc], .int .i64 0]) (by simp [results, Tryz.results74, go_sem, q]) rfl ⟨below_at HBF.out HBS.out (Kept.refl _ _), { A with lp := putL ⟨f, t, s⟩ A.lp }, a, vv, c, ca, cv, cc, by first | (unfold actV; simp only [HNV.out]) | simp only [HNV.out], fun _ => ⟨rfl, ⟨hI.sm, (HOF.out.rw_ lpEl).1, hI.tg, hI.name, HMT.out, hI.tags, hI.nsm, by have h1 := HNV.out; have h2 := HML.out; show ((putL ⟨f, t, s⟩ A.lp).length : Int) ≤ _; omega, hI.ntg⟩, fun q hq => by rcases hq with e | e | e <;> first | exact HFR.out q (Or.inl e) | exact HFR.out q (Or.inr (Or.inl e)) | exact HFR.out q (Or.inr (Or.inr e)) | (have h1 := ((HOF.out.rw_ lpEl).2.2 q e).1; have h2 := HSZ.out; have h3 := HBS.out; omega)⟩⟩
set_option linter.unusedVariables false
theorem sm_6 (n f t : Int) (s : ByteArray) (A : Acv) (a b c : Option Addr) (ca cb cc : Nat) (base : Nat) (w : World) (ho : Own3 w base A (.slice a A.sm.length ca) (.slice b A.lp.length cb) (.slice c A.tg.length cc)) (hb : base ≤ w.heap.size) (ht : ActText A) (oA : AcOk A) (hs : s.size ≤ maxLen) (hk : chkE ⟨6, n, f, t, s⟩ = 0) :
 Calls Tryz.prog 74 #[actV A a b c ca cb cc, edV ⟨6, n, f, t, s⟩] w fun e w' => DoR A ⟨6, n, f, t, s⟩ base w e w' := by
 unfold DoR; rw [appE_6 rfl, appZ_6 rfl]; obtain ⟨hI, hca, hcb, hcc, hfr⟩ := ho.actIn ht oA; have HFR := qH hfr; obtain ⟨V0, hV0, hb0, hs0, ha0⟩ := alloc_aA w A a b c ca cb cc; obtain ⟨V1, hV1, hb1, hs1, hl1⟩ := alloc_cells V0 #[.int .i64 6, .int .i64 n, .int .i64 f, .int .i64 t, .string s] 28; obtain ⟨V2, hV2, hb2, hs2, ha2⟩ := alloc_a0 V1; have hs11 : V1.heap.size = w.heap.size + 2 := by omega
 rw [hs0] at hl1; rw [hs11] at ha2; have hA0 := (ha0.below hb1).below hb2; have HB := qH (bStp (bStp hb0 hb1) hb2); have HSZ := qH (show V2.heap.size = w.heap.size + 3 from by omega); have HIW := qH hI; have HIA := qH (hI.below HB.out); have HA0 := qH hA0; have HA2 := qH ha2; have HBS := qH hb; have HOA := qH oA; have HTX := qH ht; have x0 := bCel hb2 (hl1 0 _ rfl); have x1 := bCel hb2 (hl1 1 _ rfl); have x2 := bCel hb2 (hl1 2 _ rfl); have x3 := bCel hb2 (hl1 3 _ rfl); have x4 := bCel hb2 (hl1 4 _ rfl); have HL := qH (And.intro hca (And.intro hcb hcc)); have HX0 := qH x0; obtain ⟨z0, z1, z2, z3, z4, z5⟩ := hA0.cell; have fr := hA0.free; have hr := chk_rng (lo := -200000) (hi := 200000) (show ¬ ((6 : Int) < 1 ∨ 12 < (6 : Int)) by decide) rfl hk; simp only at hr; obtain ⟨B1, B2, hB1, hB2, hos, hsB, hol, hlB, hot⟩ := ho.ex; have HOS := qH hos; have HRW := qH (show ∀ (WX : World), Kept (fun q => (Value.slice a A.sm.length ca).ownBlock = some q) V2 WX → Rw lpC 3 WX b A.lp ∧ Rw tgC 1 WX c A.tg from fun WX hk => by
  obtain ⟨l1, _, l3⟩ := hol.rw_ lpEl; obtain ⟨t1, _, t3⟩ := hot.rw_ tgEl; have hl1 : ∀ bb off, b = some ⟨bb, off, none⟩ → B1 ≤ bb := fun bb off e => (l3 _ e).1
  have hl2 : ∀ bb off, c = some ⟨bb, off, none⟩ → B2 ≤ bb := fun bb off e => (t3 _ e).1
  exact ⟨(l1.below HB.out).kept hk (fun bb off e h => by have := hl1 bb off e; have := hsB bb h; omega), (t1.below HB.out).kept hk (fun bb off e h => by have := hl2 bb off e; have := hsB bb h; omega)⟩)
 have HLT := qH (fun q (hq : (Value.slice a A.sm.length ca).ownBlock = some q) => show base ≤ q ∧ q < w.heap.size from hos.lt q hq); obtain ⟨ns, hn⟩ : ∃ n, A.sm.length = n := ⟨_, rfl⟩; have HN := qH hn; have hns : ns ≤ 20000 := by have := oA.nsm; omega
 have HSO := qH (show Own smC 7 72 V2 base (.slice a ns ca) A.sm from hn ▸ hos.below HB.out); rw [hn] at hV0 z3 HA0 HLT HRW; clear ho hb ht oA hI hb0 hb1 hb2 ha0 ha2 hl1 hA0 hs1 hs2 hca hcb hcc hfr hk hos hsB hol hlB hot hB1 hB2; unfold actV; rw [hn]; clear hn; unfold edV; go_enter Tryz.func74, Tryz.ntmps74; go_upto_region 1 with (fail); clear hV0 hV1 hV2 hs0 hs11; go_wp2_with fail; clear z0 z1 z2 z3 z4 z5 fr
 go_loopw [95] (fun iv wr => ∃ k : Nat, iv = .int .i64 k ∧ k ≤ ns ∧ Hid (Own smC 7 72 wr base (.slice a ns ca) ((A.sm.take k).map (raiseS n) ++ A.sm.drop k)) ∧ ∃ Z : ExtO (fun q => (Value.slice a ns ca).ownBlock = some q) V2, wr = Z.1) (fun iv _ => ns - (intOf iv).toNat)
 case atStart => exact ⟨0, rfl, by omega, qH HSO.out, ⟨V2, Kept.refl _ _⟩, rfl⟩
 case round =>
  obtain ⟨k, rfl, hk, HO, Z, rfl⟩ := hrel; have hac := HA0.out.kept Z.2 (fun e => by have := (HLT.out _ e).2; omega); have hx0 := Z.2.cell (p := ⟨w.heap.size + 1, 0, none⟩) (fun e => by have := (HLT.out _ e).2; simp only at this; omega) x0; have hx1 := Z.2.cell (p := ⟨w.heap.size + 1, 1, none⟩) (fun e => by have := (HLT.out _ e).2; simp only at this; omega) x1; by_cases hlt : k < ns
  · have t5 : decide ((k : Int) < (ns : Int)) = true := dTt (by omega)
    have t5' : decide (k < ns) = true := by simpa using hlt
    obtain ⟨x, hx⟩ : ∃ x, A.sm[k]? = some x := ⟨_, List.getElem?_eq_getElem (by rw [HN.out]; exact hlt)⟩; obtain ⟨-, -, hxr⟩ := HOA.out.sm.upto k x hx; obtain ⟨-, -, hz0, hz1⟩ := range_xyz hxr; have hat := at_upto (raiseS n) A.sm k x hx; have HUP := qH (map_upto (raiseS n) A.sm k x hx); have hlen := len_upto (raiseS n) A.sm k (by rw [HN.out]; exact hk); obtain ⟨q, c', he, -, -⟩ := HO.out.open (by rw [hlen, HN.out]; omega); injection he with he1 he2 he3; subst he1; subst he3; have hcell : Z.1.cell? ⟨q, k * 7 + 3, none⟩ = some (.int .i64 x.z) := by
     have := (HO.out.rw_ smEl).1.on hat 3 _ rfl
     simpa using this
    have j3 := hac.cell.2.2.2.1; have HAT := qH hat; clear hx hxr hat hlen he2 hac; have wr : IntKind.i64.wrap (x.z + n) = x.z + n := tm_wrap (by omega) (by omega); go_upto_region 27 with (fail); have C3 := Ext.ex hcell; have X1 := Ext.ex hx1; refine late_start (s := 9) (C := fun w' => ∃ Y : Ext Z.1, w' = Y.1) (by kernel_rfl) ?_; obtain ⟨Q0, hQ0⟩ : ∃ Y : Ext Z.1, ({ Z.1 with drawn := Z.1.drawn + 1 } : World) = Y.1 := ⟨⟨{ Z.1 with drawn := Z.1.drawn + 1 }, ⟨rfl, rfl, rfl, Nat.le_refl _, fun _ _ => rfl⟩⟩, rfl⟩; rw [hQ0]; clear hQ0 hx0 hx1 j3; refine late_quiet (by kernel_rfl) (fun _ _ d _ _ h => by cases d <;> exact h) ⟨Q0, rfl⟩ [0, 4, 5] 7 _ _ (by kernel_rfl) (by kernel_rfl) ?_; change wpQuiet _ _ _ _ (_ :: _ :: _ :: []) _
    repeat go_big_quiet_step (fail)
    refine wpQuiet_nil ?_; refine late_do (i := 1) _ rfl (by kernel_rfl) rfl (fun K hK => ?_); go_simp; refine hK _ _ (fun _ => ⟨Q0, rfl⟩) ?_; clear hK K
    try simp only [pS]
    refine late_quiet (by kernel_rfl) (fun _ _ d _ _ h => by cases d <;> exact h) ⟨Q0, rfl⟩ [2, 3] 4 _ _ (by kernel_rfl) (by kernel_rfl) ?_; change wpQuiet _ _ _ _ (_ :: _ :: []) _
    repeat go_big_quiet_step (fail)
    refine wpQuiet_nil ?_; refine late_quiet (by kernel_rfl) (fun _ _ d _ _ h => by cases d <;> exact h) ⟨Q0, rfl⟩ [6] 3 _ _ (by kernel_rfl) (by kernel_rfl) ?_; change wpQuiet _ _ _ _ (_ :: []) _
    repeat go_big_quiet_step (fail)
    refine wpQuiet_nil ?_; refine late_do (i := 7) _ rfl (by kernel_rfl) rfl (fun K hK => ?_); go_simp; refine hK _ _ (fun _ => ⟨Q0, rfl⟩) ?_; clear hK K
    try simp only [pS]
    refine late_quiet (by kernel_rfl) (fun _ _ d _ _ h => by cases d <;> exact h) ⟨Q0, rfl⟩ [8] 1 _ _ (by kernel_rfl) (by kernel_rfl) ?_; change wpQuiet _ _ _ _ (_ :: []) _
    repeat go_big_quiet_step (fail)
    refine wpQuiet_nil ?_; have hoq := HO.out.below Q0.2; have fq := hoq.free (k * 7 + 3); have cq := bCel Q0.2 hcell; obtain ⟨hos, hks⟩ := hoq.set smEl (j := 3) HAT.out (by decide) (y := (raiseS n) x) (u := .int .i64 (x.z + n)) rfl; obtain ⟨W9, hW9⟩ : ∃ z, Q0.1.setCell ⟨q, k * 7 + 3, none⟩ (.int .i64 (x.z + n)) = z := ⟨_, rfl⟩; rw [hW9] at hos hks; rw [HUP.out] at hos; have HOS := qH hos; have HKS := qH ((Z.2.trans (Kept.of_below Q0.2)).trans (show Kept (fun x => (Value.slice (some ⟨q, 0, none⟩) ns ca).ownBlock = some x) Q0.1 W9 from ⟨hks.os, hks.tape, hks.output, hks.size, fun x hx ho => hks.block x hx (fun e => ho (by rw [e]; rfl))⟩)); clear hoq hos hks; refine late_do (i := 9) _ rfl (by kernel_rfl) rfl (fun K hK => ?_); go_simp; refine hK _ _ (nOo rfl) ?_; clear hK K
    try simp only [pS]
    refine late_done (by kernel_rfl) ?_ _; clear cq fq hW9 C3 X1 hcell; have hx0' := HKS.out.cell (p := ⟨w.heap.size + 1, 0, none⟩) (fun e => by have := (HLT.out _ e).2; simp only at this; omega) x0; have hx1' := HKS.out.cell (p := ⟨w.heap.size + 1, 1, none⟩) (fun e => by have := (HLT.out _ e).2; simp only at this; omega) x1; go_wp2_with fail
    go_roundw
    case rel => exact ⟨k + 1, by go_num, by omega, HOS, ⟨W9, HKS.out⟩, rfl⟩
    case measure => simp [intOf]; omega
  · have t5 : decide ((k : Int) < (ns : Int)) = false := dFf (by omega)
    have t5' : decide (k < ns) = false := by simpa using hlt
    obtain rfl : ns = k := by omega
    have HOF := qH (show Own smC 7 72 Z.1 base (.slice a ns ca) (A.sm.map (raiseS n)) from by
     have h := HO.out; have e : (A.sm.take ns).map (raiseS n) ++ A.sm.drop ns = A.sm.map (raiseS n) := by rw [← HN.out, List.take_length, List.drop_length, List.append_nil]
     rw [e] at h; exact h)
    have HLEN := qH (show (A.sm.map (raiseS n)).length = ns from by rw [List.length_map, HN.out]); obtain ⟨y0, y1, y2, y3, y4, y5⟩ := hac.cell; have hR := HA2.out.kept Z.2 (fun e => by have := (HLT.out _ e).2; omega); obtain ⟨r0, r1, r2, r3, r4, r5⟩ := hR.cell; have fr2 := hR.free; obtain ⟨WF, hWF, haF, hkF⟩ := hR.store A.name A.sport A.start (.slice a ns ca) (.slice b A.lp.length cb) (.slice c A.tg.length cc); have HAF := qH haF; have HKF := qH (hkF (fun q => q = w.heap.size + 2) rfl); have HBF := qH (show Below base w WF from by
     have h1 : Kept (fun q => base ≤ q) V2 WF := ⟨HKF.out.os.trans Z.2.os, HKF.out.tape.trans Z.2.tape, HKF.out.output.trans Z.2.output, Nat.le_trans Z.2.size HKF.out.size, fun q hq ho => (HKF.out.block q (Nat.lt_of_lt_of_le hq Z.2.size) (fun e => ho (by have := HBS.out; omega))).trans (Z.2.block q hq (fun e => ho (HLT.out q e).1))⟩; exact below_at HB.out HBS.out h1)
    have HAI := qH (show ActIn WF { A with sm := A.sm.map (raiseS n) } a b c from by
     obtain ⟨l1, l2⟩ := HRW.out Z.1 Z.2; have hof := HOF.out.keepO HKF.out (fun q hq e => by have := (HLT.out q hq).2; omega); have hb' : ∀ {α : Type} {C : α → List Value} {m : Nat} {y : Option Addr} {ll : List α}, Rw C m w y ll → Rw C m Z.1 y ll → Rw C m WF y ll := fun h0 h1 => ⟨fun hp => by
      obtain ⟨bb, off, e, hbb, _⟩ := h0.here hp; subst e; exact (h1.kept HKF.out (fun b2 off2 e2 => by injection e2 with e2; injection e2 with e3 e4; omega)).here hp⟩
     exact ⟨(hof.rw_ smEl).1, hb' HIW.out.lp l1, hb' HIW.out.tg l2, HIW.out.name, HIW.out.titles, HIW.out.tags, by show ((A.sm.map (raiseS n)).length : Int) ≤ _; rw [HLEN.out]; omega, HIW.out.nlp, HIW.out.ntg⟩)
    clear hlt hk hac HO haF hkF hR; go_wp2_with fail; have q := HAF.out.cell; exact bodyPost_ret (v := .tuple #[.agg #[.string A.name, .int .i64 A.sport, .int .i64 A.start, .slice a ns ca, .slice b A.lp.length cb, .slice c A.tg.length cc], .int .i64 0]) (by simp [results, Tryz.results74, go_sem, q]) rfl ⟨HBF.out, { A with sm := A.sm.map (raiseS n) }, a, b, c, ca, cb, cc, by first | (unfold actV; simp only [HLEN.out]) | simp only [HLEN.out], fun _ => ⟨rfl, HAI.out, HFR.out⟩⟩
theorem sm_7_1 (f t : Int) (s : ByteArray) (A : Acv) (a b c : Option Addr) (ca cb cc : Nat) (base : Nat) (w : World) (ho : Own3 w base A (.slice a A.sm.length ca) (.slice b A.lp.length cb) (.slice c A.tg.length cc)) (hb : base ≤ w.heap.size) (ht : ActText A) (oA : AcOk A) (hs : s.size ≤ maxLen) (hk : chkE ⟨7, 1, f, t, s⟩ = 0) :
 Calls Tryz.prog 74 #[actV A a b c ca cb cc, edV ⟨7, 1, f, t, s⟩] w fun e w' => DoR A ⟨7, 1, f, t, s⟩ base w e w' := by
 unfold DoR; rw [appE_7 rfl, appZ_7 rfl]; obtain ⟨hI, hca, hcb, hcc, hfr⟩ := ho.actIn ht oA; have HFR := qH hfr; obtain ⟨V0, hV0, hb0, hs0, ha0⟩ := alloc_aA w A a b c ca cb cc; obtain ⟨V1, hV1, hb1, hs1, hl1⟩ := alloc_cells V0 #[.int .i64 7, .int .i64 1, .int .i64 f, .int .i64 t, .string s] 28; obtain ⟨V2, hV2, hb2, hs2, ha2⟩ := alloc_a0 V1; have hs11 : V1.heap.size = w.heap.size + 2 := by omega
 rw [hs0] at hl1; rw [hs11] at ha2; have hA0 := (ha0.below hb1).below hb2; have HB := qH (bStp (bStp hb0 hb1) hb2); have HSZ := qH (show V2.heap.size = w.heap.size + 3 from by omega); have HIW := qH hI; have HIA := qH (hI.below HB.out); have HA0 := qH hA0; have HA2 := qH ha2; have HBS := qH hb; have HOA := qH oA; have HTX := qH ht; have x0 := bCel hb2 (hl1 0 _ rfl); have x1 := bCel hb2 (hl1 1 _ rfl); have x2 := bCel hb2 (hl1 2 _ rfl); have x3 := bCel hb2 (hl1 3 _ rfl); have x4 := bCel hb2 (hl1 4 _ rfl); have HL := qH (And.intro hca (And.intro hcb hcc)); have HX0 := qH x0; obtain ⟨z0, z1, z2, z3, z4, z5⟩ := hA0.cell; have fr := hA0.free; obtain ⟨B1, B2, hB1, hB2, hos, hsB, hol, hlB, hot⟩ := ho.ex; have HOS := qH hos; have HRW := qH (show ∀ (WX : World), Kept (fun q => (Value.slice a A.sm.length ca).ownBlock = some q) V2 WX → Rw lpC 3 WX b A.lp ∧ Rw tgC 1 WX c A.tg from fun WX hk => by
  obtain ⟨l1, _, l3⟩ := hol.rw_ lpEl; obtain ⟨t1, _, t3⟩ := hot.rw_ tgEl; have hl1 : ∀ bb off, b = some ⟨bb, off, none⟩ → B1 ≤ bb := fun bb off e => (l3 _ e).1
  have hl2 : ∀ bb off, c = some ⟨bb, off, none⟩ → B2 ≤ bb := fun bb off e => (t3 _ e).1
  exact ⟨(l1.below HB.out).kept hk (fun bb off e h => by have := hl1 bb off e; have := hsB bb h; omega), (t1.below HB.out).kept hk (fun bb off e h => by have := hl2 bb off e; have := hsB bb h; omega)⟩)
 have HLT := qH (fun q (hq : (Value.slice a A.sm.length ca).ownBlock = some q) => show base ≤ q ∧ q < w.heap.size from hos.lt q hq); obtain ⟨ns, hn⟩ : ∃ n, A.sm.length = n := ⟨_, rfl⟩; have HN := qH hn; have hns : ns ≤ 20000 := by have := oA.nsm; omega
 have HSO := qH (show Own smC 7 72 V2 base (.slice a ns ca) A.sm from hn ▸ hos.below HB.out); rw [hn] at hV0 z3 HA0 HLT HRW; clear ho hb ht oA hI hb0 hb1 hb2 ha0 ha2 hl1 hA0 hs1 hs2 hca hcb hcc hfr hk hos hsB hol hlB hot hB1 hB2; unfold actV; rw [hn]; clear hn; unfold edV; go_enter Tryz.func74, Tryz.ntmps74; go_upto_region 1 with (fail); clear hV0 hV1 hV2 hs0 hs11; go_wp2_with fail; clear z0 z1 z2 z3 z4 z5 fr
 go_loopw [95] (fun iv wr => ∃ k : Nat, iv = .int .i64 k ∧ k ≤ ns ∧ Hid (Own smC 7 72 wr base (.slice a ns ca) ((A.sm.take k).map (clearS 1) ++ A.sm.drop k)) ∧ ∃ Z : ExtO (fun q => (Value.slice a ns ca).ownBlock = some q) V2, wr = Z.1) (fun iv _ => ns - (intOf iv).toNat)
 case atStart => exact ⟨0, rfl, by omega, qH HSO.out, ⟨V2, Kept.refl _ _⟩, rfl⟩
 case round =>
  obtain ⟨k, rfl, hk, HO, Z, rfl⟩ := hrel; have hac := HA0.out.kept Z.2 (fun e => by have := (HLT.out _ e).2; omega); have hx0 := Z.2.cell (p := ⟨w.heap.size + 1, 0, none⟩) (fun e => by have := (HLT.out _ e).2; simp only at this; omega) x0; have hx1 := Z.2.cell (p := ⟨w.heap.size + 1, 1, none⟩) (fun e => by have := (HLT.out _ e).2; simp only at this; omega) x1; by_cases hlt : k < ns
  · have t5 : decide ((k : Int) < (ns : Int)) = true := dTt (by omega)
    have t5' : decide (k < ns) = true := by simpa using hlt
    obtain ⟨x, hx⟩ : ∃ x, A.sm[k]? = some x := ⟨_, List.getElem?_eq_getElem (by rw [HN.out]; exact hlt)⟩; obtain ⟨-, -, hxr⟩ := HOA.out.sm.upto k x hx; obtain ⟨-, -, hz0, hz1⟩ := range_xyz hxr; have hat := at_upto (clearS 1) A.sm k x hx; have HUP := qH (map_upto (clearS 1) A.sm k x hx); have hlen := len_upto (clearS 1) A.sm k (by rw [HN.out]; exact hk); obtain ⟨q, c', he, -, -⟩ := HO.out.open (by rw [hlen, HN.out]; omega); injection he with he1 he2 he3; subst he1; subst he3; have hcell : Z.1.cell? ⟨q, k * 7 + 4, none⟩ = some (.int .i64 x.pu) := by
     have := (HO.out.rw_ smEl).1.on hat 4 _ rfl
     simpa using this
    have j3 := hac.cell.2.2.2.1; have HAT := qH hat; clear hx hxr hat hlen he2 hac; have hoq := HO.out.below (Below.refl Z.1.heap.size Z.1); have fq := hoq.free (k * 7 + 4); have cq := bCel (Below.refl Z.1.heap.size Z.1) hcell; obtain ⟨hos, hks⟩ := hoq.set smEl (j := 4) HAT.out (by decide) (y := (clearS 1) x) (u := .int .i64 (-1)) (by simp [clearS, smC]); obtain ⟨W9, hW9⟩ : ∃ z, Z.1.setCell ⟨q, k * 7 + 4, none⟩ (.int .i64 (-1)) = z := ⟨_, rfl⟩; rw [hW9] at hos hks; rw [HUP.out] at hos; have HOS := qH hos; have HKS := qH ((Z.2.trans (Kept.of_below (Below.refl Z.1.heap.size Z.1))).trans (show Kept (fun x => (Value.slice (some ⟨q, 0, none⟩) ns ca).ownBlock = some x) Z.1 W9 from ⟨hks.os, hks.tape, hks.output, hks.size, fun x hx ho => hks.block x hx (fun e => ho (by rw [e]; rfl))⟩)); clear hoq hos hks; go_wp2_with fail
    go_roundw
    case rel => exact ⟨k + 1, by go_num, by omega, HOS, ⟨W9, HKS.out⟩, rfl⟩
    case measure => simp [intOf]; omega
  · have t5 : decide ((k : Int) < (ns : Int)) = false := dFf (by omega)
    have t5' : decide (k < ns) = false := by simpa using hlt
    obtain rfl : ns = k := by omega
    have HOF := qH (show Own smC 7 72 Z.1 base (.slice a ns ca) (A.sm.map (clearS 1)) from by
     have h := HO.out; have e : (A.sm.take ns).map (clearS 1) ++ A.sm.drop ns = A.sm.map (clearS 1) := by rw [← HN.out, List.take_length, List.drop_length, List.append_nil]
     rw [e] at h; exact h)
    have HLEN := qH (show (A.sm.map (clearS 1)).length = ns from by rw [List.length_map, HN.out]); obtain ⟨y0, y1, y2, y3, y4, y5⟩ := hac.cell; have hR := HA2.out.kept Z.2 (fun e => by have := (HLT.out _ e).2; omega); obtain ⟨r0, r1, r2, r3, r4, r5⟩ := hR.cell; have fr2 := hR.free; obtain ⟨WF, hWF, haF, hkF⟩ := hR.store A.name A.sport A.start (.slice a ns ca) (.slice b A.lp.length cb) (.slice c A.tg.length cc); have HAF := qH haF; have HKF := qH (hkF (fun q => q = w.heap.size + 2) rfl); have HBF := qH (show Below base w WF from by
     have h1 : Kept (fun q => base ≤ q) V2 WF := ⟨HKF.out.os.trans Z.2.os, HKF.out.tape.trans Z.2.tape, HKF.out.output.trans Z.2.output, Nat.le_trans Z.2.size HKF.out.size, fun q hq ho => (HKF.out.block q (Nat.lt_of_lt_of_le hq Z.2.size) (fun e => ho (by have := HBS.out; omega))).trans (Z.2.block q hq (fun e => ho (HLT.out q e).1))⟩; exact below_at HB.out HBS.out h1)
    have HAI := qH (show ActIn WF { A with sm := A.sm.map (clearS 1) } a b c from by
     obtain ⟨l1, l2⟩ := HRW.out Z.1 Z.2; have hof := HOF.out.keepO HKF.out (fun q hq e => by have := (HLT.out q hq).2; omega); have hb' : ∀ {α : Type} {C : α → List Value} {m : Nat} {y : Option Addr} {ll : List α}, Rw C m w y ll → Rw C m Z.1 y ll → Rw C m WF y ll := fun h0 h1 => ⟨fun hp => by
      obtain ⟨bb, off, e, hbb, _⟩ := h0.here hp; subst e; exact (h1.kept HKF.out (fun b2 off2 e2 => by injection e2 with e2; injection e2 with e3 e4; omega)).here hp⟩
     exact ⟨(hof.rw_ smEl).1, hb' HIW.out.lp l1, hb' HIW.out.tg l2, HIW.out.name, HIW.out.titles, HIW.out.tags, by show ((A.sm.map (clearS 1)).length : Int) ≤ _; rw [HLEN.out]; omega, HIW.out.nlp, HIW.out.ntg⟩)
    clear hlt hk hac HO haF hkF hR; go_wp2_with fail; have q := HAF.out.cell; exact bodyPost_ret (v := .tuple #[.agg #[.string A.name, .int .i64 A.sport, .int .i64 A.start, .slice a ns ca, .slice b A.lp.length cb, .slice c A.tg.length cc], .int .i64 0]) (by simp [results, Tryz.results74, go_sem, q]) rfl ⟨HBF.out, { A with sm := A.sm.map (clearS 1) }, a, b, c, ca, cb, cc, by first | (unfold actV; simp only [HLEN.out]) | simp only [HLEN.out], fun _ => ⟨rfl, HAI.out, HFR.out⟩⟩
theorem sm_7_2 (f t : Int) (s : ByteArray) (A : Acv) (a b c : Option Addr) (ca cb cc : Nat) (base : Nat) (w : World) (ho : Own3 w base A (.slice a A.sm.length ca) (.slice b A.lp.length cb) (.slice c A.tg.length cc)) (hb : base ≤ w.heap.size) (ht : ActText A) (oA : AcOk A) (hs : s.size ≤ maxLen) (hk : chkE ⟨7, 2, f, t, s⟩ = 0) :
 Calls Tryz.prog 74 #[actV A a b c ca cb cc, edV ⟨7, 2, f, t, s⟩] w fun e w' => DoR A ⟨7, 2, f, t, s⟩ base w e w' := by
 unfold DoR; rw [appE_7 rfl, appZ_7 rfl]; obtain ⟨hI, hca, hcb, hcc, hfr⟩ := ho.actIn ht oA; have HFR := qH hfr; obtain ⟨V0, hV0, hb0, hs0, ha0⟩ := alloc_aA w A a b c ca cb cc; obtain ⟨V1, hV1, hb1, hs1, hl1⟩ := alloc_cells V0 #[.int .i64 7, .int .i64 2, .int .i64 f, .int .i64 t, .string s] 28; obtain ⟨V2, hV2, hb2, hs2, ha2⟩ := alloc_a0 V1; have hs11 : V1.heap.size = w.heap.size + 2 := by omega
 rw [hs0] at hl1; rw [hs11] at ha2; have hA0 := (ha0.below hb1).below hb2; have HB := qH (bStp (bStp hb0 hb1) hb2); have HSZ := qH (show V2.heap.size = w.heap.size + 3 from by omega); have HIW := qH hI; have HIA := qH (hI.below HB.out); have HA0 := qH hA0; have HA2 := qH ha2; have HBS := qH hb; have HOA := qH oA; have HTX := qH ht; have x0 := bCel hb2 (hl1 0 _ rfl); have x1 := bCel hb2 (hl1 1 _ rfl); have x2 := bCel hb2 (hl1 2 _ rfl); have x3 := bCel hb2 (hl1 3 _ rfl); have x4 := bCel hb2 (hl1 4 _ rfl); have HL := qH (And.intro hca (And.intro hcb hcc)); have HX0 := qH x0; obtain ⟨z0, z1, z2, z3, z4, z5⟩ := hA0.cell; have fr := hA0.free; obtain ⟨B1, B2, hB1, hB2, hos, hsB, hol, hlB, hot⟩ := ho.ex; have HOS := qH hos; have HRW := qH (show ∀ (WX : World), Kept (fun q => (Value.slice a A.sm.length ca).ownBlock = some q) V2 WX → Rw lpC 3 WX b A.lp ∧ Rw tgC 1 WX c A.tg from fun WX hk => by
  obtain ⟨l1, _, l3⟩ := hol.rw_ lpEl; obtain ⟨t1, _, t3⟩ := hot.rw_ tgEl; have hl1 : ∀ bb off, b = some ⟨bb, off, none⟩ → B1 ≤ bb := fun bb off e => (l3 _ e).1
  have hl2 : ∀ bb off, c = some ⟨bb, off, none⟩ → B2 ≤ bb := fun bb off e => (t3 _ e).1
  exact ⟨(l1.below HB.out).kept hk (fun bb off e h => by have := hl1 bb off e; have := hsB bb h; omega), (t1.below HB.out).kept hk (fun bb off e h => by have := hl2 bb off e; have := hsB bb h; omega)⟩)
 have HLT := qH (fun q (hq : (Value.slice a A.sm.length ca).ownBlock = some q) => show base ≤ q ∧ q < w.heap.size from hos.lt q hq); obtain ⟨ns, hn⟩ : ∃ n, A.sm.length = n := ⟨_, rfl⟩; have HN := qH hn; have hns : ns ≤ 20000 := by have := oA.nsm; omega
 have HSO := qH (show Own smC 7 72 V2 base (.slice a ns ca) A.sm from hn ▸ hos.below HB.out); rw [hn] at hV0 z3 HA0 HLT HRW; clear ho hb ht oA hI hb0 hb1 hb2 ha0 ha2 hl1 hA0 hs1 hs2 hca hcb hcc hfr hk hos hsB hol hlB hot hB1 hB2; unfold actV; rw [hn]; clear hn; unfold edV; go_enter Tryz.func74, Tryz.ntmps74; go_upto_region 1 with (fail); clear hV0 hV1 hV2 hs0 hs11; go_wp2_with fail; clear z0 z1 z2 z3 z4 z5 fr
 go_loopw [95] (fun iv wr => ∃ k : Nat, iv = .int .i64 k ∧ k ≤ ns ∧ Hid (Own smC 7 72 wr base (.slice a ns ca) ((A.sm.take k).map (clearS 2) ++ A.sm.drop k)) ∧ ∃ Z : ExtO (fun q => (Value.slice a ns ca).ownBlock = some q) V2, wr = Z.1) (fun iv _ => ns - (intOf iv).toNat)
 case atStart => exact ⟨0, rfl, by omega, qH HSO.out, ⟨V2, Kept.refl _ _⟩, rfl⟩
 case round =>
  obtain ⟨k, rfl, hk, HO, Z, rfl⟩ := hrel; have hac := HA0.out.kept Z.2 (fun e => by have := (HLT.out _ e).2; omega); have hx0 := Z.2.cell (p := ⟨w.heap.size + 1, 0, none⟩) (fun e => by have := (HLT.out _ e).2; simp only at this; omega) x0; have hx1 := Z.2.cell (p := ⟨w.heap.size + 1, 1, none⟩) (fun e => by have := (HLT.out _ e).2; simp only at this; omega) x1; by_cases hlt : k < ns
  · have t5 : decide ((k : Int) < (ns : Int)) = true := dTt (by omega)
    have t5' : decide (k < ns) = true := by simpa using hlt
    obtain ⟨x, hx⟩ : ∃ x, A.sm[k]? = some x := ⟨_, List.getElem?_eq_getElem (by rw [HN.out]; exact hlt)⟩; obtain ⟨-, -, hxr⟩ := HOA.out.sm.upto k x hx; obtain ⟨-, -, hz0, hz1⟩ := range_xyz hxr; have hat := at_upto (clearS 2) A.sm k x hx; have HUP := qH (map_upto (clearS 2) A.sm k x hx); have hlen := len_upto (clearS 2) A.sm k (by rw [HN.out]; exact hk); obtain ⟨q, c', he, -, -⟩ := HO.out.open (by rw [hlen, HN.out]; omega); injection he with he1 he2 he3; subst he1; subst he3; have hcell : Z.1.cell? ⟨q, k * 7 + 5, none⟩ = some (.int .i64 x.po) := by
     have := (HO.out.rw_ smEl).1.on hat 5 _ rfl
     simpa using this
    have j3 := hac.cell.2.2.2.1; have HAT := qH hat; clear hx hxr hat hlen he2 hac; have hoq := HO.out.below (Below.refl Z.1.heap.size Z.1); have fq := hoq.free (k * 7 + 5); have cq := bCel (Below.refl Z.1.heap.size Z.1) hcell; obtain ⟨hos, hks⟩ := hoq.set smEl (j := 5) HAT.out (by decide) (y := (clearS 2) x) (u := .int .i64 (-1)) (by simp [clearS, smC]); obtain ⟨W9, hW9⟩ : ∃ z, Z.1.setCell ⟨q, k * 7 + 5, none⟩ (.int .i64 (-1)) = z := ⟨_, rfl⟩; rw [hW9] at hos hks; rw [HUP.out] at hos; have HOS := qH hos; have HKS := qH ((Z.2.trans (Kept.of_below (Below.refl Z.1.heap.size Z.1))).trans (show Kept (fun x => (Value.slice (some ⟨q, 0, none⟩) ns ca).ownBlock = some x) Z.1 W9 from ⟨hks.os, hks.tape, hks.output, hks.size, fun x hx ho => hks.block x hx (fun e => ho (by rw [e]; rfl))⟩)); clear hoq hos hks; go_wp2_with fail
    go_roundw
    case rel => exact ⟨k + 1, by go_num, by omega, HOS, ⟨W9, HKS.out⟩, rfl⟩
    case measure => simp [intOf]; omega
  · have t5 : decide ((k : Int) < (ns : Int)) = false := dFf (by omega)
    have t5' : decide (k < ns) = false := by simpa using hlt
    obtain rfl : ns = k := by omega
    have HOF := qH (show Own smC 7 72 Z.1 base (.slice a ns ca) (A.sm.map (clearS 2)) from by
     have h := HO.out; have e : (A.sm.take ns).map (clearS 2) ++ A.sm.drop ns = A.sm.map (clearS 2) := by rw [← HN.out, List.take_length, List.drop_length, List.append_nil]
     rw [e] at h; exact h)
    have HLEN := qH (show (A.sm.map (clearS 2)).length = ns from by rw [List.length_map, HN.out]); obtain ⟨y0, y1, y2, y3, y4, y5⟩ := hac.cell; have hR := HA2.out.kept Z.2 (fun e => by have := (HLT.out _ e).2; omega); obtain ⟨r0, r1, r2, r3, r4, r5⟩ := hR.cell; have fr2 := hR.free; obtain ⟨WF, hWF, haF, hkF⟩ := hR.store A.name A.sport A.start (.slice a ns ca) (.slice b A.lp.length cb) (.slice c A.tg.length cc); have HAF := qH haF; have HKF := qH (hkF (fun q => q = w.heap.size + 2) rfl); have HBF := qH (show Below base w WF from by
     have h1 : Kept (fun q => base ≤ q) V2 WF := ⟨HKF.out.os.trans Z.2.os, HKF.out.tape.trans Z.2.tape, HKF.out.output.trans Z.2.output, Nat.le_trans Z.2.size HKF.out.size, fun q hq ho => (HKF.out.block q (Nat.lt_of_lt_of_le hq Z.2.size) (fun e => ho (by have := HBS.out; omega))).trans (Z.2.block q hq (fun e => ho (HLT.out q e).1))⟩; exact below_at HB.out HBS.out h1)
    have HAI := qH (show ActIn WF { A with sm := A.sm.map (clearS 2) } a b c from by
     obtain ⟨l1, l2⟩ := HRW.out Z.1 Z.2; have hof := HOF.out.keepO HKF.out (fun q hq e => by have := (HLT.out q hq).2; omega); have hb' : ∀ {α : Type} {C : α → List Value} {m : Nat} {y : Option Addr} {ll : List α}, Rw C m w y ll → Rw C m Z.1 y ll → Rw C m WF y ll := fun h0 h1 => ⟨fun hp => by
      obtain ⟨bb, off, e, hbb, _⟩ := h0.here hp; subst e; exact (h1.kept HKF.out (fun b2 off2 e2 => by injection e2 with e2; injection e2 with e3 e4; omega)).here hp⟩
     exact ⟨(hof.rw_ smEl).1, hb' HIW.out.lp l1, hb' HIW.out.tg l2, HIW.out.name, HIW.out.titles, HIW.out.tags, by show ((A.sm.map (clearS 2)).length : Int) ≤ _; rw [HLEN.out]; omega, HIW.out.nlp, HIW.out.ntg⟩)
    clear hlt hk hac HO haF hkF hR; go_wp2_with fail; have q := HAF.out.cell; exact bodyPost_ret (v := .tuple #[.agg #[.string A.name, .int .i64 A.sport, .int .i64 A.start, .slice a ns ca, .slice b A.lp.length cb, .slice c A.tg.length cc], .int .i64 0]) (by simp [results, Tryz.results74, go_sem, q]) rfl ⟨HBF.out, { A with sm := A.sm.map (clearS 2) }, a, b, c, ca, cb, cc, by first | (unfold actV; simp only [HLEN.out]) | simp only [HLEN.out], fun _ => ⟨rfl, HAI.out, HFR.out⟩⟩
theorem sm_7_3 (f t : Int) (s : ByteArray) (A : Acv) (a b c : Option Addr) (ca cb cc : Nat) (base : Nat) (w : World) (ho : Own3 w base A (.slice a A.sm.length ca) (.slice b A.lp.length cb) (.slice c A.tg.length cc)) (hb : base ≤ w.heap.size) (ht : ActText A) (oA : AcOk A) (hs : s.size ≤ maxLen) (hk : chkE ⟨7, 3, f, t, s⟩ = 0) :
 Calls Tryz.prog 74 #[actV A a b c ca cb cc, edV ⟨7, 3, f, t, s⟩] w fun e w' => DoR A ⟨7, 3, f, t, s⟩ base w e w' := by
 unfold DoR; rw [appE_7 rfl, appZ_7 rfl]; obtain ⟨hI, hca, hcb, hcc, hfr⟩ := ho.actIn ht oA; have HFR := qH hfr; obtain ⟨V0, hV0, hb0, hs0, ha0⟩ := alloc_aA w A a b c ca cb cc; obtain ⟨V1, hV1, hb1, hs1, hl1⟩ := alloc_cells V0 #[.int .i64 7, .int .i64 3, .int .i64 f, .int .i64 t, .string s] 28; obtain ⟨V2, hV2, hb2, hs2, ha2⟩ := alloc_a0 V1; have hs11 : V1.heap.size = w.heap.size + 2 := by omega
 rw [hs0] at hl1; rw [hs11] at ha2; have hA0 := (ha0.below hb1).below hb2; have HB := qH (bStp (bStp hb0 hb1) hb2); have HSZ := qH (show V2.heap.size = w.heap.size + 3 from by omega); have HIW := qH hI; have HIA := qH (hI.below HB.out); have HA0 := qH hA0; have HA2 := qH ha2; have HBS := qH hb; have HOA := qH oA; have HTX := qH ht; have x0 := bCel hb2 (hl1 0 _ rfl); have x1 := bCel hb2 (hl1 1 _ rfl); have x2 := bCel hb2 (hl1 2 _ rfl); have x3 := bCel hb2 (hl1 3 _ rfl); have x4 := bCel hb2 (hl1 4 _ rfl); have HL := qH (And.intro hca (And.intro hcb hcc)); have HX0 := qH x0; obtain ⟨z0, z1, z2, z3, z4, z5⟩ := hA0.cell; have fr := hA0.free; obtain ⟨B1, B2, hB1, hB2, hos, hsB, hol, hlB, hot⟩ := ho.ex; have HOS := qH hos; have HRW := qH (show ∀ (WX : World), Kept (fun q => (Value.slice a A.sm.length ca).ownBlock = some q) V2 WX → Rw lpC 3 WX b A.lp ∧ Rw tgC 1 WX c A.tg from fun WX hk => by
  obtain ⟨l1, _, l3⟩ := hol.rw_ lpEl; obtain ⟨t1, _, t3⟩ := hot.rw_ tgEl; have hl1 : ∀ bb off, b = some ⟨bb, off, none⟩ → B1 ≤ bb := fun bb off e => (l3 _ e).1
  have hl2 : ∀ bb off, c = some ⟨bb, off, none⟩ → B2 ≤ bb := fun bb off e => (t3 _ e).1
  exact ⟨(l1.below HB.out).kept hk (fun bb off e h => by have := hl1 bb off e; have := hsB bb h; omega), (t1.below HB.out).kept hk (fun bb off e h => by have := hl2 bb off e; have := hsB bb h; omega)⟩)
 have HLT := qH (fun q (hq : (Value.slice a A.sm.length ca).ownBlock = some q) => show base ≤ q ∧ q < w.heap.size from hos.lt q hq); obtain ⟨ns, hn⟩ : ∃ n, A.sm.length = n := ⟨_, rfl⟩; have HN := qH hn; have hns : ns ≤ 20000 := by have := oA.nsm; omega
 have HSO := qH (show Own smC 7 72 V2 base (.slice a ns ca) A.sm from hn ▸ hos.below HB.out); rw [hn] at hV0 z3 HA0 HLT HRW; clear ho hb ht oA hI hb0 hb1 hb2 ha0 ha2 hl1 hA0 hs1 hs2 hca hcb hcc hfr hk hos hsB hol hlB hot hB1 hB2; unfold actV; rw [hn]; clear hn; unfold edV; go_enter Tryz.func74, Tryz.ntmps74; go_upto_region 1 with (fail); clear hV0 hV1 hV2 hs0 hs11; go_wp2_with fail; clear z0 z1 z2 z3 z4 z5 fr
 go_loopw [95] (fun iv wr => ∃ k : Nat, iv = .int .i64 k ∧ k ≤ ns ∧ Hid (Own smC 7 72 wr base (.slice a ns ca) ((A.sm.take k).map (clearS 3) ++ A.sm.drop k)) ∧ ∃ Z : ExtO (fun q => (Value.slice a ns ca).ownBlock = some q) V2, wr = Z.1) (fun iv _ => ns - (intOf iv).toNat)
 case atStart => exact ⟨0, rfl, by omega, qH HSO.out, ⟨V2, Kept.refl _ _⟩, rfl⟩
 case round =>
  obtain ⟨k, rfl, hk, HO, Z, rfl⟩ := hrel; have hac := HA0.out.kept Z.2 (fun e => by have := (HLT.out _ e).2; omega); have hx0 := Z.2.cell (p := ⟨w.heap.size + 1, 0, none⟩) (fun e => by have := (HLT.out _ e).2; simp only at this; omega) x0; have hx1 := Z.2.cell (p := ⟨w.heap.size + 1, 1, none⟩) (fun e => by have := (HLT.out _ e).2; simp only at this; omega) x1; by_cases hlt : k < ns
  · have t5 : decide ((k : Int) < (ns : Int)) = true := dTt (by omega)
    have t5' : decide (k < ns) = true := by simpa using hlt
    obtain ⟨x, hx⟩ : ∃ x, A.sm[k]? = some x := ⟨_, List.getElem?_eq_getElem (by rw [HN.out]; exact hlt)⟩; obtain ⟨-, -, hxr⟩ := HOA.out.sm.upto k x hx; obtain ⟨-, -, hz0, hz1⟩ := range_xyz hxr; have hat := at_upto (clearS 3) A.sm k x hx; have HUP := qH (map_upto (clearS 3) A.sm k x hx); have hlen := len_upto (clearS 3) A.sm k (by rw [HN.out]; exact hk); obtain ⟨q, c', he, -, -⟩ := HO.out.open (by rw [hlen, HN.out]; omega); injection he with he1 he2 he3; subst he1; subst he3; have hcell : Z.1.cell? ⟨q, k * 7 + 6, none⟩ = some (.int .i64 x.st) := by
     have := (HO.out.rw_ smEl).1.on hat 6 _ rfl
     simpa using this
    have j3 := hac.cell.2.2.2.1; have HAT := qH hat; clear hx hxr hat hlen he2 hac; have hoq := HO.out.below (Below.refl Z.1.heap.size Z.1); have fq := hoq.free (k * 7 + 6); have cq := bCel (Below.refl Z.1.heap.size Z.1) hcell; obtain ⟨hos, hks⟩ := hoq.set smEl (j := 6) HAT.out (by decide) (y := (clearS 3) x) (u := .int .i64 (-1)) (by simp [clearS, smC]); obtain ⟨W9, hW9⟩ : ∃ z, Z.1.setCell ⟨q, k * 7 + 6, none⟩ (.int .i64 (-1)) = z := ⟨_, rfl⟩; rw [hW9] at hos hks; rw [HUP.out] at hos; have HOS := qH hos; have HKS := qH ((Z.2.trans (Kept.of_below (Below.refl Z.1.heap.size Z.1))).trans (show Kept (fun x => (Value.slice (some ⟨q, 0, none⟩) ns ca).ownBlock = some x) Z.1 W9 from ⟨hks.os, hks.tape, hks.output, hks.size, fun x hx ho => hks.block x hx (fun e => ho (by rw [e]; rfl))⟩)); clear hoq hos hks; go_wp2_with fail
    go_roundw
    case rel => exact ⟨k + 1, by go_num, by omega, HOS, ⟨W9, HKS.out⟩, rfl⟩
    case measure => simp [intOf]; omega
  · have t5 : decide ((k : Int) < (ns : Int)) = false := dFf (by omega)
    have t5' : decide (k < ns) = false := by simpa using hlt
    obtain rfl : ns = k := by omega
    have HOF := qH (show Own smC 7 72 Z.1 base (.slice a ns ca) (A.sm.map (clearS 3)) from by
     have h := HO.out; have e : (A.sm.take ns).map (clearS 3) ++ A.sm.drop ns = A.sm.map (clearS 3) := by rw [← HN.out, List.take_length, List.drop_length, List.append_nil]
     rw [e] at h; exact h)
    have HLEN := qH (show (A.sm.map (clearS 3)).length = ns from by rw [List.length_map, HN.out]); obtain ⟨y0, y1, y2, y3, y4, y5⟩ := hac.cell; have hR := HA2.out.kept Z.2 (fun e => by have := (HLT.out _ e).2; omega); obtain ⟨r0, r1, r2, r3, r4, r5⟩ := hR.cell; have fr2 := hR.free; obtain ⟨WF, hWF, haF, hkF⟩ := hR.store A.name A.sport A.start (.slice a ns ca) (.slice b A.lp.length cb) (.slice c A.tg.length cc); have HAF := qH haF; have HKF := qH (hkF (fun q => q = w.heap.size + 2) rfl); have HBF := qH (show Below base w WF from by
     have h1 : Kept (fun q => base ≤ q) V2 WF := ⟨HKF.out.os.trans Z.2.os, HKF.out.tape.trans Z.2.tape, HKF.out.output.trans Z.2.output, Nat.le_trans Z.2.size HKF.out.size, fun q hq ho => (HKF.out.block q (Nat.lt_of_lt_of_le hq Z.2.size) (fun e => ho (by have := HBS.out; omega))).trans (Z.2.block q hq (fun e => ho (HLT.out q e).1))⟩; exact below_at HB.out HBS.out h1)
    have HAI := qH (show ActIn WF { A with sm := A.sm.map (clearS 3) } a b c from by
     obtain ⟨l1, l2⟩ := HRW.out Z.1 Z.2; have hof := HOF.out.keepO HKF.out (fun q hq e => by have := (HLT.out q hq).2; omega); have hb' : ∀ {α : Type} {C : α → List Value} {m : Nat} {y : Option Addr} {ll : List α}, Rw C m w y ll → Rw C m Z.1 y ll → Rw C m WF y ll := fun h0 h1 => ⟨fun hp => by
      obtain ⟨bb, off, e, hbb, _⟩ := h0.here hp; subst e; exact (h1.kept HKF.out (fun b2 off2 e2 => by injection e2 with e2; injection e2 with e3 e4; omega)).here hp⟩
     exact ⟨(hof.rw_ smEl).1, hb' HIW.out.lp l1, hb' HIW.out.tg l2, HIW.out.name, HIW.out.titles, HIW.out.tags, by show ((A.sm.map (clearS 3)).length : Int) ≤ _; rw [HLEN.out]; omega, HIW.out.nlp, HIW.out.ntg⟩)
    clear hlt hk hac HO haF hkF hR; go_wp2_with fail; have q := HAF.out.cell; exact bodyPost_ret (v := .tuple #[.agg #[.string A.name, .int .i64 A.sport, .int .i64 A.start, .slice a ns ca, .slice b A.lp.length cb, .slice c A.tg.length cc], .int .i64 0]) (by simp [results, Tryz.results74, go_sem, q]) rfl ⟨HBF.out, { A with sm := A.sm.map (clearS 3) }, a, b, c, ca, cb, cc, by first | (unfold actV; simp only [HLEN.out]) | simp only [HLEN.out], fun _ => ⟨rfl, HAI.out, HFR.out⟩⟩
set_option linter.unusedVariables false
theorem wp_append_Lps {o : Oper} {a : Act} {K : Act → World → Prop} {Q : Exit → Act → World → Prop} {w : World} (s x : Operand)
 (ho : o.op = .call { callee := .builtin .append, args := #[s, x], argTypes := #[23, 23] }) {base : Nat} {v : Value} {l : List Lp} (hs : a.eval s = v) (hown : Own lpC 3 75 w base v l)
 {ad : Option Addr} {m : List Lp} {n k : Nat} (hx : a.eval x = .slice ad n k) (hm : m.length = n) (hr : Rw lpC 3 w ad m) (hn : l.length + n ≤ 1000000) (hb : base ≤ w.heap.size)
 (h : ∀ v' w', Own lpC 3 75 w' base v' (l ++ m) → w.grownBy w' v.ownBlock → K (a.put o.dst v') w') : o.wp Tryz.prog a w K Q := by
 obtain ⟨i0, hi0, hy0, hy1, hy2⟩ := info_parts infoLp.out; rcases Nat.eq_zero_or_pos n with h0 | h0
 · subst h0
   have hm0 : m = [] := List.length_eq_zero_iff.1 hm; subst hm0; obtain ⟨av, cv, rfl, hlc, _, _⟩ := hown.row lpEl; refine Lib.wp_append_run w s x _ _ ho _ _ hs hx _ _ (append_noneT underLp.out hi0 _ av l.length cv hlc ad k w) (h _ _ ?_ (grown_self _ _)); rw [List.append_nil]; exact hown
 · obtain ⟨b, off, rfl, _, _⟩ := hr.here (by omega)
   refine wp_append_lies w s x 23 ho base 75 i0 (.agg #[.int .i64 0, .int .i64 0, .string ⟨#[]⟩]) 3 32 underLp.out hi0 hy0 hy1 hy2 rfl (by decide) v l.length (l.flatMap lpC) hs hown ⟨b, off, none⟩ n k (m.flatMap lpC) hx (by rw [lpEl.flat, hm]) (hr.flat lpEl) (lpEl.ones m) h0 (by unfold maxLen; omega) (by omega) hb _ rfl ?_; intro g' c' w' k1 k2 k3 _; refine h _ w' ?_ k2; unfold Own; rw [List.length_append, List.flatMap_append, hm]; exact k1
theorem Rw.take_ {α : Type} {C : α → List Value} {k : Nat} {w : World} {a : Option Addr} {l : List α} (h : Rw C k w a l) (n : Nat) : Rw C k w a (l.take n) :=
 ⟨fun hp => by
  obtain ⟨b, o, e, hb, hc⟩ := h.here (by rw [List.length_take] at hp; omega); exact ⟨b, o, e, hb, fun i x hx j v hv => hc i x (by
   rw [List.getElem?_take] at hx
   split at hx
   · exact hx
   · cases hx) j v hv⟩⟩
theorem Rw.drop_ {α : Type} {C : α → List Value} {k : Nat} {w : World} {b o : Nat} {l : List α} (h : Rw C k w (some ⟨b, o, none⟩) l) (n : Nat) : Rw C k w (some ⟨b, o + n * k, none⟩) (l.drop n) :=
 ⟨fun hp => by
  obtain ⟨b', o', e, hb, hc⟩ := h.here (by rw [List.length_drop] at hp; omega); injection e with e; injection e with e1 e2; subst e1 e2; exact ⟨b, o + n * k, rfl, hb, fun i x hx j v hv => by
   rw [List.getElem?_drop] at hx; have := hc (n + i) x hx j v hv; rw [Nat.add_mul] at this; rw [show o + n * k + i * k + j = o + (n * k + i * k) + j by omega]; exact this⟩⟩
theorem sm_12 (n f t : Int) (s : ByteArray) (A : Acv) (a b c : Option Addr) (ca cb cc : Nat) (base : Nat) (w : World) (ho : Own3 w base A (.slice a A.sm.length ca) (.slice b A.lp.length cb) (.slice c A.tg.length cc)) (hb : base ≤ w.heap.size) (ht : ActText A) (oA : AcOk A) (hs : s.size ≤ maxLen) (hk : chkE ⟨12, n, f, t, s⟩ = 0) :
 Calls Tryz.prog 74 #[actV A a b c ca cb cc, edV ⟨12, n, f, t, s⟩] w fun e w' => DoR A ⟨12, n, f, t, s⟩ base w e w' := by
 unfold DoR; rw [appE_12 rfl, appZ_12 rfl]; obtain ⟨hI, hca, hcb, hcc, hfr⟩ := ho.actIn ht oA; have HFR := qH hfr; obtain ⟨V0, hV0, hb0, hs0, ha0⟩ := alloc_aA w A a b c ca cb cc; obtain ⟨V1, hV1, hb1, hs1, hl1⟩ := alloc_cells V0 #[.int .i64 12, .int .i64 n, .int .i64 f, .int .i64 t, .string s] 28; obtain ⟨V2, hV2, hb2, hs2, ha2⟩ := alloc_a0 V1; have hs11 : V1.heap.size = w.heap.size + 2 := by omega
 rw [hs0] at hl1; rw [hs11] at ha2; have hA0 := (ha0.below hb1).below hb2; have HB := qH (bStp (bStp hb0 hb1) hb2); have HSZ := qH (show V2.heap.size = w.heap.size + 3 from by omega); have HIW := qH hI; have HIA := qH (hI.below HB.out); have HA0 := qH hA0; have HA2 := qH ha2; have HBS := qH hb; have HOA := qH oA; have HTX := qH ht; have x0 := bCel hb2 (hl1 0 _ rfl); have x1 := bCel hb2 (hl1 1 _ rfl); have x2 := bCel hb2 (hl1 2 _ rfl); have x3 := bCel hb2 (hl1 3 _ rfl); have x4 := bCel hb2 (hl1 4 _ rfl); have HL := qH (And.intro hca (And.intro hcb hcc)); have HX0 := qH x0; obtain ⟨z0, z1, z2, z3, z4, z5⟩ := hA0.cell; have fr := hA0.free; have hr := chk_rng (lo := 0) (hi := 199) (show ¬ ((12 : Int) < 1 ∨ 12 < (12 : Int)) by decide) rfl hk; simp only at hr; obtain ⟨m, rfl⟩ : ∃ m : Nat, n = (m : Int) := ⟨n.toNat, by omega⟩; have hm199 : m ≤ 199 := by omega
 clear hr; obtain ⟨nl, hnl⟩ : ∃ nl, A.lp.length = nl := ⟨_, rfl⟩; have HNL := qH hnl; have hnl2 : nl ≤ 200 := by have := oA.nlp; omega
 by_cases hh : (nl : Int) ≤ (m : Int)
 · have HE := qH (show (if (A.lp.length : Int) ≤ (m : Int) then (4 : Int) else 0) = 4 from if_pos (by rw [hnl]; exact hh))
   rw [HE.out]; have t0 : decide ((m : Int) ≥ (nl : Int)) = true := by rw [decide_eq_true_eq]; exact hh
   have t0' : decide ((nl : Int) ≤ (m : Int)) = true := by rw [decide_eq_true_eq]; exact hh
   have t0'' : decide (nl ≤ m) = true := dTt (by omega); clear hh; clear ho hb ht oA hI hb0 hb1 hb2 ha0 ha2 hl1 hA0 hs1 hs2 hca hcb hcc hfr hk; rw [hnl] at hV0 z4; unfold actV; rw [hnl]; clear hnl; unfold edV; go_enter Tryz.func74, Tryz.ntmps74; go_upto_region 1 with (fail); clear hV0 hV1 hV2 hs0 hs11; go_upto_region 20 with (fail); clear x0 x1 x2 x3 x4 z0 z1 z2 z3 z4 z5 fr; rw [← HNL.out]; have hR := HA2.out.below (Below.refl V2.heap.size V2); obtain ⟨y0, y1, y2, y3, y4, y5⟩ := (HA0.out.below (Below.refl V2.heap.size V2)).cell; obtain ⟨r0, r1, r2, r3, r4, r5⟩ := hR.cell; have fr2 := hR.free; obtain ⟨WF, hWF, haF, hkF⟩ := hR.store A.name A.sport A.start (.slice a A.sm.length ca) (.slice b A.lp.length cb) (.slice c A.tg.length cc); have HAF := qH haF; have HKF := qH (hkF (fun q => q = w.heap.size + 2) rfl); have HBF := qH (show Below w.heap.size w WF from by
    have h1 := bStp HB.out (Below.refl V2.heap.size V2); exact Kept.below h1 HKF.out h1.size (fun k hk e => by omega))
   clear haF hkF hR; go_wp2_with fail; have q := HAF.out.cell; exact bodyPost_ret (v := .tuple #[.agg #[.string A.name, .int .i64 A.sport, .int .i64 A.start, .slice a A.sm.length ca, .slice b A.lp.length cb, .slice c A.tg.length cc], .int .i64 4]) (by simp [results, Tryz.results74, go_sem, q]) rfl ⟨below_at HBF.out HBS.out (Kept.refl _ _), A, a, b, c, ca, cb, cc, by first | rfl | (unfold actV; rfl), fun h => by omega⟩
 · have HE := qH (show (if (A.lp.length : Int) ≤ (m : Int) then (4 : Int) else 0) = 0 from if_neg (by rw [hnl]; exact hh))
   rw [HE.out]; have t0 : decide ((m : Int) ≥ (nl : Int)) = false := by rw [decide_eq_false_iff_not]; exact hh
   have t0' : decide ((nl : Int) ≤ (m : Int)) = false := by rw [decide_eq_false_iff_not]; exact hh
   have t0'' : decide (nl ≤ m) = false := dFf (by omega); have hml : m < nl := by omega
   have hmc : nl ≤ cb := by omega
   have hmc2 : m ≤ cb := by omega
   have hmc3 : m + 1 ≤ nl := by omega
   have hmc4 : m + 1 ≤ cb := by omega
   have w1 : IntKind.i64.wrap ((m : Int) + 1) = ((m + 1 : Nat) : Int) := by rw [tm_wrap (by omega) (by omega)]; omega
   clear hh; obtain ⟨b4, o4, rfl, hb4, -⟩ := hI.lp.here (by omega); obtain ⟨m1, hm1⟩ : ∃ z, m + 1 = z := ⟨_, rfl⟩; have HM1 := qH hm1; rw [hm1] at w1 hmc3 hmc4; clear ho hb ht oA hI hb0 hb1 hb2 ha0 ha2 hl1 hA0 hs1 hs2 hca hcb hcc hfr hk hm1; rw [hnl] at hV0 z4; have z4' := z4; unfold actV; rw [hnl]; clear hnl; unfold edV; go_enter Tryz.func74, Tryz.ntmps74; go_upto_region 1 with (fail); clear hV0 hV1 hV2 hs0 hs11; go_upto_region 21 with (fail); have X1 := Ext.ex x1; have Z4 := Ext.ex z4; refine late_start (s := 14) (C := fun w' => ∃ Y : Ext V2, w' = Y.1) (by kernel_rfl) ?_; obtain ⟨Q0, hQ0⟩ : ∃ Y : Ext V2, ({ V2 with drawn := V2.drawn + 1 } : World) = Y.1 := ⟨⟨{ V2 with drawn := V2.drawn + 1 }, ⟨rfl, rfl, rfl, Nat.le_refl _, fun _ _ => rfl⟩⟩, rfl⟩; rw [hQ0]; clear hQ0 x1 z4; refine late_quiet (by kernel_rfl) (fun _ _ d _ _ h => by cases d <;> exact h) ⟨Q0, rfl⟩ [0, 1, 2, 3, 6, 7, 8, 9] 7 _ _ (by kernel_rfl) (by kernel_rfl) ?_; change wpQuiet _ _ _ _ (_ :: _ :: _ :: _ :: _ :: _ :: _ :: _ :: []) _
   repeat go_big_quiet_step (fail)
   refine wpQuiet_nil ?_; refine late_quiet (by kernel_rfl) (fun _ _ d _ _ h => by cases d <;> exact h) ⟨Q0, rfl⟩ [4, 10] 5 _ _ (by kernel_rfl) (by kernel_rfl) ?_; change wpQuiet _ _ _ _ (_ :: _ :: []) _
   repeat go_big_quiet_step (fail)
   refine wpQuiet_nil ?_; refine late_quiet (by kernel_rfl) (fun _ _ d _ _ h => by cases d <;> exact h) ⟨Q0, rfl⟩ [11] 4 _ _ (by kernel_rfl) (by kernel_rfl) ?_; change wpQuiet _ _ _ _ (_ :: []) _
   repeat go_big_quiet_step (fail)
   refine wpQuiet_nil ?_; obtain ⟨pz, hpz⟩ : ∃ z : Option Addr, (if cb = m1 then (some ⟨b4, o4, none⟩ : Option Addr) else some ⟨b4, o4 + m1 * 3, none⟩) = z := ⟨_, rfl⟩; rw [hpz]; have HPZ := qH (fun (X : Ext V2) => show Rw lpC 3 X.1 pz (A.lp.drop m1) from by
    rw [← hpz]; by_cases hz : cb = m1
    · rw [if_pos hz, show A.lp.drop m1 = [] from List.drop_eq_nil_of_le (by have := HNL.out; omega)]
      exact Rw.nil_
    · rw [if_neg hz]
      exact (HIA.out.lp.below X.2).drop_ m1)
   clear hpz; refine late_do (i := 5) _ rfl (by kernel_rfl) rfl (fun K hK => ?_); refine wp_append_Lps (l := []) (base := V2.heap.size) (m := A.lp.take m) _ _ rfl rfl (Own.nil _ _ _ _ _) rfl (by rw [List.length_take, HNL.out]; omega) ((HIA.out.lp.below Q0.2).take_ m) (by simp; omega) Q0.2.size (fun v5 w5 ho5 hg5 => ?_); rw [List.nil_append] at ho5; have hb5 : Below V2.heap.size V2 w5 := Kept.below (O := fun _ => False) Q0.2 (Kept.of_grown hg5 (fun g e _ => by cases e)) Q0.2.size (fun k hk e => e.elim); obtain ⟨Q5, rfl⟩ : ∃ Y : Ext V2, w5 = Y.1 := ⟨⟨w5, hb5⟩, rfl⟩; have HO5 := qH ho5; refine hK _ _ (fun _ => ⟨Q5, rfl⟩) ?_; clear hK K ho5 hg5 hb5
   try simp only [pS]
   refine late_do (i := 12) _ rfl (by kernel_rfl) rfl (fun K hK => ?_); refine wp_append_Lps (m := A.lp.drop m1) _ _ rfl rfl HO5.out rfl (by rw [List.length_drop, HNL.out]) (HPZ.out Q5) (by rw [List.length_take]; omega) Q5.2.size (fun v6 w6 ho6 hg6 => ?_); have hb6 : Below V2.heap.size V2 w6 := Kept.below (O := fun q => V2.heap.size ≤ q) Q5.2 (Kept.of_grown hg6 (fun g e _ => (HO5.out.lt g e).1)) Q5.2.size (fun k hk e => by omega); obtain ⟨vv, cv, rfl, -, -, -⟩ := ho6.row lpEl; obtain ⟨nv, hnv⟩ : ∃ nv, (A.lp.take m ++ A.lp.drop m1).length = nv := ⟨_, rfl⟩; have HNV0 := qH hnv; rw [hnv] at ho6 ⊢; obtain ⟨Q6, rfl⟩ : ∃ Y : Ext V2, w6 = Y.1 := ⟨⟨w6, hb6⟩, rfl⟩; have HOV := qH ho6; refine hK _ _ (fun _ => ⟨Q6, rfl⟩) ?_; clear hK K ho6 hg6 hb6 hnv
   try simp only [pS]
   refine late_do (i := 13) _ rfl (by kernel_rfl) rfl (fun K hK => ?_); go_simp; refine hK _ _ (fun _ => ⟨Q6, rfl⟩) ?_; clear hK K
   try simp only [pS]
   have HTM := qH (show ((m : Int)).toNat = m ∧ m1 = m + 1 from ⟨Int.toNat_natCast m, HM1.out.symm⟩); have HNV := qH (show (A.lp.take ((m : Int)).toNat ++ A.lp.drop (((m : Int)).toNat + 1)).length = nv from by rw [HTM.out.1, ← HTM.out.2]; exact HNV0.out); have HMT := qH (fun p (hp : p ∈ A.lp.take ((m : Int)).toNat ++ A.lp.drop (((m : Int)).toNat + 1)) => show p.s.size ≤ maxLen from by
    rcases List.mem_append.1 hp with h | h
    · exact HTX.out.titles p (List.mem_of_mem_take h)
    · exact HTX.out.titles p (List.mem_of_mem_drop h))
   have HML := qH (show nv ≤ 1000 from by
    have h1 := HNV0.out; rw [List.length_append, List.length_take, List.length_drop] at h1; have := HNL.out; omega)
   clear fr x0 x2 x3 x4 z0 z1 z2 z3 z5 z4' Z4 X1; have hA1 := (HA0.out.below Q6.2).set4 (.slice vv nv cv); have fr1 := (HA0.out.below Q6.2).free 4; obtain ⟨y0', y1', y2', y3', y4', y5'⟩ := (HA0.out.below Q6.2).cell; obtain ⟨W1, hW1⟩ : ∃ z, Q6.1.setCell ⟨w.heap.size, 4, none⟩ (.slice vv nv cv) = z := ⟨_, rfl⟩; rw [hW1] at hA1; have hk1 : Kept (fun q => q = w.heap.size) Q6.1 W1 := by rw [← hW1]; exact keep_set (O := fun q => q = w.heap.size) rfl
   have hR := (HA2.out.below Q6.2).kept hk1 (by omega); obtain ⟨y0, y1, y2, y3, y4, y5⟩ := hA1.cell; obtain ⟨r0, r1, r2, r3, r4, r5⟩ := hR.cell; have fr2 := hR.free; obtain ⟨WF, hWF, haF, hkF⟩ := hR.store A.name A.sport A.start (.slice a A.sm.length ca) (.slice vv nv cv) (.slice c A.tg.length cc); have HAF := qH haF; have HKF := qH (hkF (fun q => q = w.heap.size + 2) rfl); have HBF := qH (show Below w.heap.size w WF from by
    have h1 := bStp HB.out Q6.2; have h2 := Kept.below h1 hk1 h1.size (fun k hk e => by omega); exact Kept.below h2 HKF.out h2.size (fun k hk e => by omega))
   have HOF := qH ((HOV.out.keepO hk1 (fun q hq e => by have := (HOV.out.lt q hq).1; have := HSZ.out; omega)).keepO HKF.out (fun q hq e => by have := (HOV.out.lt q hq).1; have := HSZ.out; omega)); have hx0 := hk1.cell (p := ⟨w.heap.size + 1, 0, none⟩) (by show ¬ (w.heap.size + 1 = w.heap.size); omega) (bCel Q6.2 HX0.out); clear haF hkF hR hA1 hk1; refine late_do (i := 14) _ rfl (by kernel_rfl) rfl (fun K hK => ?_); go_simp; refine hK _ _ (nOo rfl) ?_; clear hK K
   try simp only [pS]
   refine late_done (by kernel_rfl) ?_ _; clear hW1 fr1 y0' y1' y2' y3' y4' y5'; have hnsm := HOA.out.nsm; go_wp2_with fail
   go_loopw [95] (fun iv wr => ∃ i : Nat, iv = .int .i64 i ∧ i ≤ A.sm.length ∧ wr = W1) (fun iv _ => A.sm.length - (intOf iv).toNat)
   case atStart => exact ⟨0, rfl, by omega, by first | rfl | trivial⟩
   case round =>
    obtain ⟨i, rfl, hi, rfl⟩ := hrel; by_cases hlt : i < A.sm.length
    · have t1 : decide ((i : Int) < (A.sm.length : Int)) = true := dTt (by omega)
      have t1' : decide (i < A.sm.length) = true := by simpa using hlt
      obtain ⟨ba, oa, rfl, -, -⟩ := HIW.out.sm.here (by omega); go_wp2_with fail
      go_roundw
      case rel => exact ⟨i + 1, by go_num, by omega, by first | rfl | trivial⟩
      case measure => simp [intOf]; omega
    have t1 : decide ((i : Int) < (A.sm.length : Int)) = false := dFf (by omega); have t1' : decide (i < A.sm.length) = false := by simpa using hlt
    go_wp2_with fail; have q := HAF.out.cell; have hI := HIW.out.below HBF.out; exact bodyPost_ret (v := .tuple #[.agg #[.string A.name, .int .i64 A.sport, .int .i64 A.start, .slice a A.sm.length ca, .slice vv nv cv, .slice c A.tg.length cc], .int .i64 0]) (by simp [results, Tryz.results74, go_sem, q]) rfl ⟨below_at HBF.out HBS.out (Kept.refl _ _), { A with lp := A.lp.take ((m : Int)).toNat ++ A.lp.drop (((m : Int)).toNat + 1) }, a, vv, c, ca, cv, cc, by first | (unfold actV; simp only [HNV.out]) | simp only [HNV.out], fun _ => ⟨rfl, ⟨hI.sm, by have h := (HOF.out.rw_ lpEl).1; rw [HTM.out.2] at h; rw [HTM.out.1]; exact h, hI.tg, hI.name, HMT.out, hI.tags, hI.nsm, by have h1 := HNV.out; have h2 := HML.out; show ((A.lp.take ((m : Int)).toNat ++ A.lp.drop (((m : Int)).toNat + 1)).length : Int) ≤ _; omega, hI.ntg⟩, fun q hq => by rcases hq with e | e | e <;> first | exact HFR.out q (Or.inl e) | exact HFR.out q (Or.inr (Or.inl e)) | exact HFR.out q (Or.inr (Or.inr e)) | (have h1 := ((HOF.out.rw_ lpEl).2.2 q e).1; have h2 := HSZ.out; have h3 := HBS.out; omega)⟩⟩
open Tr (Ed inR)
def usesNB (k : Int) : Bool := !usesT k && !usesS k
theorem rn_any (k : Int) (w : World) : Calls Tryz.prog 39 #[.int .i64 k] w fun e w' => e = .returned (.bool (usesNB k)) ∧ w = w' := by
 have DT := qH (rtext_any k); have DS := qH (rspan_any k); unfold usesNB; generalize usesT k = bt at *; generalize usesS k = bs at *
 cases bt
 · go_enter Tryz.func39, Tryz.ntmps39
   go_wp2_with fail; refine (DT.out _).mono ?_; rintro e w1 ⟨rfl, rfl⟩; go_wp2_with fail; refine (DS.out _).mono ?_; rintro e w1 ⟨rfl, rfl⟩; go_wp2_with fail; go_ret; exact ⟨ret_bool (by simp), rfl⟩
 · go_enter Tryz.func39, Tryz.ntmps39
   go_wp2_with fail; refine (DT.out _).mono ?_; rintro e w1 ⟨rfl, rfl⟩; go_wp2_with fail; go_ret; exact ⟨ret_bool (by simp), rfl⟩
def loE (k : Int) : Int := if k = 5 then -86399999999 else if k = 6 then -200000 else if k = 7 then 1 else 0
def hiE (k : Int) : Int := if k = 5 then 86399999999 else if k = 6 then 200000 else if k = 7 then 3 else if k = 9 then 50 else if k = 10 then 1000000 else 199
theorem rbounds_any (k : Int) (w : World) : Calls Tryz.prog 43 #[.int .i64 k] w fun e w' => e = .returned (.tuple #[.int .i64 (loE k), .int .i64 (hiE k)]) ∧ w = w' := by
 by_cases h : k = 5 ∨ k = 6 ∨ k = 7 ∨ k = 9 ∨ k = 10
 · rcases h with rfl | rfl | rfl | rfl | rfl
   all_goals
    go_enter Tryz.func43, Tryz.ntmps43; go_wp2_with fail; go_ret2; exact ⟨rfl, rfl⟩
 · have b5 : (k == 5) = false := beqF (by omega)
   have b6 : (k == 6) = false := beqF (by omega); have b7 : (k == 7) = false := beqF (by omega); have b9 : (k == 9) = false := beqF (by omega); have b10 : (k == 10) = false := beqF (by omega); have H1 := qH (show loE k = 0 by unfold loE; rw [if_neg (by omega), if_neg (by omega), if_neg (by omega)]); have H2 := qH (show hiE k = 199 by unfold hiE; rw [if_neg (by omega), if_neg (by omega), if_neg (by omega), if_neg (by omega), if_neg (by omega)]); clear h; go_enter Tryz.func43, Tryz.ntmps43; go_wp2_with fail; go_ret2; exact ⟨by rw [H1.out, H2.out]; rfl, rfl⟩
theorem rlap_any (s : ByteArray) (w : World) (hs : s.size ≤ maxLen) :
 Calls Tryz.prog 42 #[.string s] w fun e w' => e = .returned (.bool (titleB s)) ∧ w = w' := by
 unfold maxLen at hs; by_cases h6 : s.size ≤ 60
 · have t4 : decide ((60 : Int) < (s.size : Int)) = false := dFf (by omega)
   have t4' : decide (60 < s.size) = false := dFf (by omega); have H6 := qH h6; clear h6; go_enter Tryz.func42, Tryz.ntmps42; go_wp2_with fail
   go_loop [3] (fun iv => ∃ (k : Nat), iv = .int .i64 k ∧ k ≤ s.size ∧ Hid (allT s k = true)) (fun iv => s.size - (intOf iv).toNat)
   case atStart => exact ⟨0, rfl, by omega, qH rfl⟩
   case round =>
    obtain ⟨k, rfl, hk, HA⟩ := hrel; by_cases hlt : k < s.size
    · have t3 : decide ((k : Int) < (s.size : Int)) = true := dTt (by omega)
      have t3' : decide (k < s.size) = true := by simpa using hlt
      have hub : (s[k].toNat : Int) ≤ 255 := by have := s[k].toNat_lt; omega
      have OKN := qH (fun (h1 : 32 ≤ s[k].toNat) (h2 : s[k].toNat ≤ 126) => allT_step hlt HA.out h1 h2); have BADN := qH (fun (h : ¬ (32 ≤ s[k].toNat ∧ s[k].toNat ≤ 126)) => titleB_bad hlt h); by_cases c1 : 32 ≤ s[k].toNat
      · have d1 : decide ((s[k].toNat : Int) < 32) = false := dFf (by omega)
        have d1' : decide (s[k].toNat < 32) = false := dFf (by omega); by_cases c2 : s[k].toNat ≤ 126
        · have d2 : decide ((126 : Int) < (s[k].toNat : Int)) = false := dFf (by omega)
          have d2' : decide (126 < s[k].toNat) = false := dFf (by omega); have HF := qH (OKN.out c1 c2); clear OKN BADN c1 c2; go_wp2_with fail
          go_round
          case rel => exact ⟨k + 1, by go_num, by omega, HF⟩
          case measure => simp [intOf]; omega
        · have d2 : decide ((126 : Int) < (s[k].toNat : Int)) = true := dTt (by omega)
          have d2' : decide (126 < s[k].toNat) = true := dTt (by omega); have HF := qH (BADN.out (fun h => c2 h.2)); clear OKN BADN c1 c2; go_wp2_with fail; go_ret; exact ⟨ret_bool HF.out.symm, rfl⟩
      · have d1 : decide ((s[k].toNat : Int) < 32) = true := dTt (by omega)
        have d1' : decide (s[k].toNat < 32) = true := dTt (by omega); have HF := qH (BADN.out (fun h => c1 h.1)); clear OKN BADN c1; go_wp2_with fail; go_ret; exact ⟨ret_bool HF.out.symm, rfl⟩
    · have t3 : decide ((k : Int) < (s.size : Int)) = false := dFf (by omega)
      have t3' : decide (k < s.size) = false := by simpa using hlt
      have HF := qH (show titleB s = true from (titleB_of (by have := HA.out; rwa [show k = s.size by omega] at this)).trans (decide_eq_true H6.out)); clear hlt; go_wp2_with fail; go_ret; exact ⟨ret_bool HF.out.symm, rfl⟩
 · have t4 : decide ((60 : Int) < (s.size : Int)) = true := dTt (by omega)
   have t4' : decide (60 < s.size) = true := dTt (by omega); have HF := qH (show titleB s = false by unfold titleB; rw [decide_eq_false h6, Bool.false_and]); clear h6; go_enter Tryz.func42, Tryz.ntmps42; go_wp2_with fail; go_ret; exact ⟨ret_bool HF.out.symm, rfl⟩
open Tr (Ed inR united bef)
theorem neT {n m : Int} (h : n ≠ m) : (n != m) = true := bTt h
end Go.Proofs.YtjnfccphodjfiaaGreat
