/- Several texts of this claim in one. -/
import Derived.Test.YtgdepcnfjmobjaaGreatMg5
import Derived.Test.YtgdepcnfjmobjaaGreatMg3
/- A text of this claim. -/
namespace Go.Proofs.YtgdepcnfjmobjaaGreat
open Go.RowKit Go.BigFrame
open Tr (inR Ed)
theorem lowL_halved : ∀ {l : List Lp} {n : Int} {i : Nat}, l.Pairwise (fun p q => p.f < q.f) → i ≤ l.length → (∀ s : Lp, 0 < i → l[i - 1]? = some s → s.f < n) → (∀ s : Lp, l[i]? = some s → n ≤ s.f) → lowL n l = i
 | [], n, i, _, hi, _, _ => by
  simp only [List.length_nil] at hi
  rw [lowL]
  omega
 | p :: l, n, i, hs, hi, h1, h2 => by
  have hs' := List.pairwise_cons.1 hs
  rw [lowL]
  match i, hi, h1, h2 with
  | 0, _, _, h2 =>
   rw [if_neg (by have := h2 p rfl; omega)]
  | i + 1, hi, h1, h2 =>
   have hp : p.f < n := by
    match i, h1 with
    | 0, h1 => exact h1 p (by omega) rfl
    | i + 1, h1 =>
     simp only [List.length_cons] at hi
     have hlt : i < l.length := by omega
     have h3 := h1 l[i] (by omega) (by
      show (p :: l)[i + 1]? = _
      rw [List.getElem?_cons_succ]
      exact List.getElem?_eq_getElem hlt)
     have h4 := hs'.1 l[i] (List.getElem_mem hlt)
     omega
   have h := lowL_halved (i := i) (n := n) hs'.2 (by simp only [List.length_cons] at hi; omega) (fun s h0 hs => by
    match i, h0, hs with
    | i + 1, _, hs => exact h1 s (by omega) hs) (fun s hs => h2 s (by rw [List.getElem?_cons_succ]; exact hs))
   rw [if_pos hp, h]
theorem lapCmp_any (s : Lp) (n : Int) (w : World) : Calls Tryz.prog 139 #[lpV s, .int .i64 n] w fun e w' => e = .returned (.int .i64 (Lib.compareInt s.f n)) ∧ Below w.heap.size w w' := by
 have D := Lib.hid (fun W => Tryz.cmp_Compare_int s.f n W)
 unfold lpV
 generalize Lib.compareInt s.f n = r at *
 go_enter Tryz.func139, Tryz.ntmps139
 go_wp2_with fail
 refine (D.out _).mono ?_
 rintro e w1 ⟨rfl, hw⟩
 have HB := Lib.hid (show Below w.heap.size w w1 from hw ▸ below_al w _)
 clear hw
 go_wp2_with fail
 go_ret
 exact ⟨rfl, HB.out⟩
def foundL (l : List Lp) (n : Int) : Bool := match l[lowL n l]? with
 | some s => decide (s.f = n)
 | none => false
set_option maxHeartbeats 4000000 in
set_option maxRecDepth 100000 in
theorem searchL_any (a : Option Addr) (l : List Lp) (c : Nat) (x : Int) (w : World) (hr : Rw lpC 3 w a l) (ho : l.Pairwise (fun p q => p.f < q.f)) (hl : l.length ≤ 20000) :
 Calls Tryz.prog 138 #[.slice a l.length c, .int .i64 x, .func (.func 139) #[] #[]] w fun e w' => e = .returned (.tuple #[.int .i64 (lowL x l), .bool (foundL l x)]) ∧ Below w.heap.size w w' := by
 have HR := Lib.hid hr
 have HO := Lib.hid ho
 have DZ := Lib.hid (fun (s : Lp) (W : World) => lapCmp_any s x W)
 have crun : ∀ (args : Array Value) (W : World), Sem.run Tryz.prog (callFunc 139 args) W = .ok (.enter 139 args) W := fun _ _ => by kernel_rfl
 obtain ⟨n, hn⟩ : ∃ n, l.length = n := ⟨_, rfl⟩
 have HN := Lib.hid hn
 rw [hn] at hl ⊢
 clear hr ho hn
 unfold lpV at DZ
 go_enter Tryz.func138, Tryz.ntmps138
 go_wp2_with fail
 go_loopw [9, 10] (fun iv jv wr => ∃ (i j : Nat), iv = .int .i64 i ∧ jv = .int .i64 j ∧ i ≤ j ∧ j ≤ n ∧ Hid ((∀ s : Lp, 0 < i → l[i - 1]? = some s → s.f < x) ∧ (∀ s : Lp, l[j]? = some s → x ≤ s.f)) ∧ ∃ X : Ext w, wr = X.1) (fun iv jv _ => (intOf jv).toNat - (intOf iv).toNat)
 case atStart => exact ⟨0, n, rfl, rfl, by omega, by omega, Lib.hid ⟨fun s h => by omega, fun s h => by rw [List.getElem?_eq_none (by rw [HN.out]; exact Nat.le_refl _)] at h; cases h⟩, ⟨w, Below.refl _ _⟩, rfl⟩
 case round =>
  obtain ⟨i, j, rfl, rfl, hij, hj, HE, X, rfl⟩ := hrel
  by_cases hlt : i < j
  · have t1 : decide ((i : Int) < (j : Int)) = true := by rw [decide_eq_true_eq]; omega
    have t1' : decide (i < j) = true := by simpa using hlt
    obtain ⟨k, hk⟩ : ∃ k : Nat, (i + j) / 2 = k := ⟨_, rfl⟩
    have ek : ((i : Int) + (j : Int)) / 2 = (k : Int) := by omega
    have hki : i ≤ k := by omega
    have hkj : k < j := by omega
    have hkn : k < n := by omega
    have hb1 : (i : Int) ≤ 20000 := by omega
    have hb2 : (j : Int) ≤ 20000 := by omega
    have hb3 : (k : Int) ≤ 20000 := by omega
    obtain ⟨s, hx⟩ : ∃ s, l[k]? = some s := ⟨_, List.getElem?_eq_getElem (by rw [HN.out]; exact hkn)⟩
    have HX := Lib.hid (HR.out.below X.2)
    obtain ⟨ba, oa, rfl, hba, hc⟩ := HX.out.at hx
    have c0 : X.1.cell? ⟨ba, oa + k * 3, none⟩ = some (.int .i64 s.f) := hc 0 _ rfl
    have c1 := hc 1 _ rfl
    have c2 := hc 2 _ rfl
    have D := Lib.hid (DZ.out s)
    have t3 := cmpI_lt s.f x
    have HHX := Lib.hid hx
    generalize Lib.compareInt s.f x = cv at D t3
    clear hk hc hx
    by_cases hs : s.f < x
    · rw [decide_eq_true hs] at t3
      have HH := Lib.hid (show (∀ z : Lp, 0 < k + 1 → l[k + 1 - 1]? = some z → z.f < x) ∧ (∀ z : Lp, l[j]? = some z → x ≤ z.f) from ⟨fun z _ hz => by
       rw [Nat.add_sub_cancel, HHX.out] at hz
       injection hz with hz
       subst hz
       exact hs, HE.out.2⟩)
      clear hs HE
      go_wp2_with fail
      refine (D.out _).mono ?_
      rintro e w1 ⟨rfl, hb⟩
      obtain ⟨Z, rfl⟩ : ∃ Z : Ext w, w1 = Z.1 := ⟨⟨w1, below_step X.2 hb⟩, rfl⟩
      clear hb
      go_wp2_with fail
      go_roundw
      case rel => exact ⟨k + 1, j, by go_num, rfl, by omega, hj, HH, Z, rfl⟩
      case measure => simp [intOf]; omega
    · rw [decide_eq_false hs] at t3
      have HH := Lib.hid (show (∀ z : Lp, 0 < i → l[i - 1]? = some z → z.f < x) ∧ (∀ z : Lp, l[k]? = some z → x ≤ z.f) from ⟨HE.out.1, fun z hz => by
       rw [HHX.out] at hz
       injection hz with hz
       subst hz
       omega⟩)
      clear hs HE
      go_wp2_with fail
      refine (D.out _).mono ?_
      rintro e w1 ⟨rfl, hb⟩
      obtain ⟨Z, rfl⟩ : ∃ Z : Ext w, w1 = Z.1 := ⟨⟨w1, below_step X.2 hb⟩, rfl⟩
      clear hb
      go_wp2_with fail
      go_roundw
      case rel => exact ⟨i, k, rfl, rfl, hki, by omega, HH, Z, rfl⟩
      case measure => simp [intOf]; omega
  · have t1 : decide ((i : Int) < (j : Int)) = false := by rw [decide_eq_false_iff_not]; omega
    have t1' : decide (i < j) = false := by simpa using hlt
    obtain rfl : i = j := by omega
    have HL := Lib.hid (lowL_halved HO.out (by rw [HN.out]; exact hj) HE.out.1 HE.out.2)
    clear HE hlt hij
    by_cases hin : i < n
    · have t2 : decide ((i : Int) < (n : Int)) = true := by rw [decide_eq_true_eq]; omega
      have t2' : decide (i < n) = true := by simpa using hin
      obtain ⟨s, hx⟩ : ∃ s, l[i]? = some s := ⟨_, List.getElem?_eq_getElem (by rw [HN.out]; exact hin)⟩
      have HX := Lib.hid (HR.out.below X.2)
      obtain ⟨ba, oa, rfl, hba, hc⟩ := HX.out.at hx
      have c0 : X.1.cell? ⟨ba, oa + i * 3, none⟩ = some (.int .i64 s.f) := hc 0 _ rfl
      have c1 := hc 1 _ rfl
      have c2 := hc 2 _ rfl
      have D := Lib.hid (DZ.out s)
      have t3 := cmpI_eq s.f x
      have HF := Lib.hid (show foundL l x = decide (s.f = x) by unfold foundL; rw [HL.out, hx])
      generalize Lib.compareInt s.f x = cv at D t3
      generalize decide (s.f = x) = bf at t3 HF
      clear hc hx
      go_wp2_with fail
      refine (D.out _).mono ?_
      rintro e w1 ⟨rfl, hb⟩
      have HB := Lib.hid (below_step X.2 hb)
      clear hb
      go_wp2_with fail
      go_ret2
      exact ⟨by rw [HL.out, HF.out]; rfl, HB.out⟩
    · have t2 : decide ((i : Int) < (n : Int)) = false := by rw [decide_eq_false_iff_not]; omega
      have t2' : decide (i < n) = false := by simpa using hin
      have HF := Lib.hid (show foundL l x = false by unfold foundL; rw [HL.out, List.getElem?_eq_none (by rw [HN.out]; omega)])
      have HX := Lib.hid X.2
      clear hin
      go_wp2_with fail
      go_ret2
      exact ⟨by rw [HL.out, HF.out]; rfl, HX.out⟩
set_option maxHeartbeats 8000000 in
set_option maxRecDepth 100000 in
theorem ap_11 (f t : Int) (s : ByteArray) (A : Acv) (base g : Nat) (w : World) (hM : Mine w base g A) (oA : AcOk A) (hb : base ≤ w.heap.size) :
 Calls Tryz.prog 134 #[edV ⟨11, 0, f, t, s⟩, .pointer (some ⟨g, 0, none⟩)] w fun e w' => Below base w w' ∧ e = .returned (.int .i64 0) ∧ Mine w' base g { A with lp := putP ⟨f, t, s⟩ A.lp } := by
 obtain ⟨⟨a, b, c, ca, cb, cc, h0, h1, h2, h3⟩, hg⟩ := hM
 obtain ⟨V0, hV0, hb0, hs0, hl0⟩ := alloc_cells w #[.int .i64 11, .int .i64 0, .int .i64 f, .int .i64 t, .string s] 89
 have HB := Lib.hid hb0
 have HBS := Lib.hid hb
 have HG := Lib.hid hg
 have H0 := Lib.hid (h0.below hb0)
 have H1 := Lib.hid (h1.below hb0)
 have H2 := Lib.hid (h2.below hb0)
 have H3 := Lib.hid (h3.below hb0)
 have H2W := Lib.hid h2
 have HOA := Lib.hid oA
 have HLS := Lib.hid (lp_sorted oA.lp)
 have hnt := oA.nlp
 have x0 := hl0 0 _ rfl
 have x1 := hl0 1 _ rfl
 have x2 := hl0 2 _ rfl
 have G0 := Ext.ex (hl0 0 _ rfl)
 have G1 := Ext.ex (hl0 1 _ rfl)
 have G2 := Ext.ex (hl0 2 _ rfl)
 have G3 := Ext.ex (hl0 3 _ rfl)
 have G4 := Ext.ex (hl0 4 _ rfl)
 have A5 := Ext.ex H0.out.cell.2.2.2.2.1
 have DB := Lib.hid (fun X : Ext V0 => X.calls (searchL_any b A.lp cb f X.1 ((h2.rw_ lpEl).1.below (below_step HB.out X.2)) (lp_sorted oA.lp) (by omega)))
 have hlow := lowL_le f A.lp
 obtain ⟨k, hk⟩ : ∃ k, lowL f A.lp = k := ⟨_, rfl⟩
 obtain ⟨fd, hfd⟩ : ∃ k, foundL A.lp f = k := ⟨_, rfl⟩
 rw [hk, hfd] at DB
 rw [hk] at hlow
 have HPP := Lib.hid (show putP ⟨f, t, s⟩ A.lp = A.lp.take k ++ [⟨f, t, s⟩] ++ A.lp.drop k from by unfold putP; rw [hk])
 obtain ⟨nt, hn⟩ : ∃ n, A.lp.length = n := ⟨_, rfl⟩
 have HN := Lib.hid hn
 rw [hn] at DB A5 hlow hnt
 clear hb hg h0 h1 h2 h3 oA hb0 hl0 hk hn hfd
 unfold edV
 go_enter Tryz.func134, Tryz.ntmps134
 go_upto_region 6 with (fail)
 clear hV0
 refine wp_region_ext (W := V0) ⟨V0, Below.refl _ _⟩ (by kernel_rfl) (by kernel_rfl) ?_
 repeat go_big_quiet_step (exact DB.out _)
 refine wpQuiet_nil ?_
 rintro _ ⟨Y, rfl⟩
 have HAY := Lib.hid (H0.out.below Y.2)
 have HWY := Lib.hid (below_step HB.out Y.2)
 have HNO := Lib.hid (fun (Z : ExtO (fun q => (Value.slice b nt cb).ownBlock = some q) Y.1) => show Z.1.cell? ⟨g, 4, none⟩ = some (.slice b nt cb) from Z.2.cell (p := ⟨g, 4, none⟩) (fun e => (HAY.out.ne' (H2.out.below Y.2) (by decide) g (by rw [HN.out]; exact e)) rfl) (A5 Y))
 have hbx : ∀ (i : Nat) (v : Value), Y.1.cell? ⟨w.heap.size, i, none⟩ = some v → ∀ Z : ExtO (fun q => (Value.slice b nt cb).ownBlock = some q) Y.1, Z.1.cell? ⟨w.heap.size, i, none⟩ = some v := fun i v h Z => Z.2.cell (p := ⟨w.heap.size, i, none⟩) (fun e => by
  have := (H2W.out.lt w.heap.size (by rw [HN.out]; exact e)).2
  omega) h
 have A5' := HNO.out
 have G2' := hbx 2 _ (G2 Y)
 have G3' := hbx 3 _ (G3 Y)
 have G4' := hbx 4 _ (G4 Y)
 clear DB hbx x0 x1 x2
 go_upto_region 7 with (fail)
 clear A5 G4 G0 G2 G3 G1
 refine late_start (s := 17) (C := fun w' => ∃ Z : ExtO (fun q => (Value.slice b nt cb).ownBlock = some q) Y.1, w' = Z.1) (by kernel_rfl) ?_
 obtain ⟨Q0, hQ0⟩ : ∃ Z : Ext Y.1, ({ Y.1 with drawn := Y.1.drawn + 1 } : World) = Z.1 := ⟨⟨{ Y.1 with drawn := Y.1.drawn + 1 }, ⟨rfl, rfl, rfl, Nat.le_refl _, fun _ _ => rfl⟩⟩, rfl⟩
 rw [hQ0]
 clear hQ0
 refine late_quiet (by kernel_rfl) (fun _ _ d _ _ h => by cases d <;> exact h) ⟨⟨Q0.1, Kept.of_below Q0.2⟩, rfl⟩ [0, 1, 2, 3, 4, 5, 6, 7, 8, 9, 10, 11, 12] 5 _ _ (by kernel_rfl) (by kernel_rfl) ?_
 change wpQuiet _ _ _ _ (_ :: _ :: _ :: _ :: _ :: _ :: _ :: _ :: _ :: _ :: _ :: _ :: _ :: []) _
 repeat go_big_quiet_step (fail)
 refine wpQuiet_nil ?_
 refine late_do (i := 13) _ rfl (by kernel_rfl) rfl (fun K hK => ?_)
 go_simp
 obtain ⟨V7, hV7⟩ : ∃ V, Q0.1.alloc (.cells #[.int .i64 f, .int .i64 t, .string s] 57) = V := ⟨_, rfl⟩
 rw [hV7]
 have hb7 : Below Q0.1.heap.size Q0.1 V7 := hV7 ▸ below_al _ _
 have h7 : V7.heap[Q0.1.heap.size]? = some (.cells (lpC ⟨f, t, s⟩).toArray 57 (0, 0)) := hV7 ▸ heap_alloc_new Q0.1 _
 have hB7 : Below Y.1.heap.size Y.1 V7 := below_step Q0.2 hb7
 have h37 := (H2.out.below Y.2).below hB7
 rw [HN.out] at h37
 have DI := Lib.hid (insertLp_any A.lp base b nt cb k ⟨f, t, s⟩ Q0.1.heap.size V7 h37 (by omega) hlow h7 (fun e => by have := ((H2.out.below Y.2).lt _ (by rw [HN.out]; exact e)).2; have := Q0.2.size; omega) (by have := HBS.out; have := HWY.out.size; have := hB7.size; omega))
 have HB7 := Lib.hid hB7
 refine hK _ _ (fun _ => ⟨⟨V7, Kept.of_below hB7⟩, rfl⟩) ?_
 clear hK K hV7 hb7 h7 hB7 h37
 try simp only [Act.put, List.setIfInBounds_toArray, List.set_cons_zero, List.set_cons_succ]
 refine late_do (i := 14) _ rfl (by kernel_rfl) rfl (fun K hK => ?_)
 go_simp
 refine (DI.out).mono ?_
 rintro e w8 ⟨v8, rfl, ho8, hg8⟩
 obtain ⟨a7, c7, rfl, -, -, -⟩ := ho8.row lpEl
 have hk8 : Kept (fun q => (Value.slice b nt cb).ownBlock = some q) V7 w8 := Kept.of_grown hg8 (fun q e _ => e)
 have HK8 := Lib.hid ((Kept.of_below HB7.out).trans hk8)
 have HO8 := Lib.hid ho8
 refine hK _ _ (fun _ => ⟨⟨w8, HK8.out⟩, rfl⟩) ?_
 clear hK K hg8 ho8 hk8
 try simp only [Act.put, List.setIfInBounds_toArray, List.set_cons_zero, List.set_cons_succ]
 refine late_quiet (by kernel_rfl) (fun _ _ d _ _ h => by cases d <;> exact h) ⟨⟨w8, HK8.out⟩, rfl⟩ [15, 16] 1 _ _ (by kernel_rfl) (by kernel_rfl) ?_
 change wpQuiet _ _ _ _ (_ :: _ :: []) _
 repeat go_big_quiet_step (fail)
 refine wpQuiet_nil ?_
 have hlen : (A.lp.take k ++ [(⟨f, t, s⟩ : Lp)] ++ A.lp.drop k).length = nt + 1 := by rw [List.length_append, List.length_append, List.length_take, List.length_drop, List.length_singleton, HN.out]; omega
 rw [hlen]
 have hA8 := HAY.out.kept HK8.out (fun e => (HAY.out.ne' (H2.out.below Y.2) (by decide) g (by rw [HN.out]; exact e)) rfl)
 have c5 := hA8.cell.2.2.2.2.1
 have f5 := hA8.free 4
 have hA9 := hA8.set4 (.slice a7 (nt + 1) c7)
 obtain ⟨W9, hW9⟩ : ∃ z, w8.setCell ⟨g, 4, none⟩ (.slice a7 (nt + 1) c7) = z := ⟨_, rfl⟩
 rw [hW9] at hA9
 have hk9 : Kept (fun q => q = g) w8 W9 := by rw [← hW9]; exact keep_set (O := fun q => q = g) rfl
 have hs8 := (H1.out.below Y.2).keepO HK8.out (fun q hq e => (H1.out.below Y.2).apart (H2.out.below Y.2) (by decide) q hq (by rw [HN.out]; exact e))
 have hl8 := (H3.out.below Y.2).keepO HK8.out (fun q hq e => (H3.out.below Y.2).apart (H2.out.below Y.2) (by decide) q hq (by rw [HN.out]; exact e))
 have HS9 := Lib.hid (hs8.keepO hk9 (fun q hq e => (hA8.ne' hs8 (by decide) q hq) e))
 have HT9 := Lib.hid (hl8.keepO hk9 (fun q hq e => (hA8.ne' hl8 (by decide) q hq) e))
 have HL9 := Lib.hid (show Own lpC 3 57 W9 base (.slice a7 (putP ⟨f, t, s⟩ A.lp).length c7) (putP ⟨f, t, s⟩ A.lp) from by
  have h := HO8.out.keepO hk9 (fun q hq e => (hA8.ne' HO8.out (by decide) q hq) e)
  rw [HPP.out]
  exact h)
 have HA9 := Lib.hid (show AcB W9 g A.name A.sport A.start (.slice a A.sm.length ca) (.slice a7 (putP ⟨f, t, s⟩ A.lp).length c7) (.slice c A.tg.length cc) from by rw [HPP.out, hlen]; exact hA9)
 have HKF := Lib.hid (show Kept (fun q => base ≤ q) Y.1 W9 from by
  have h1 : Kept (fun q => base ≤ q) Y.1 w8 := ⟨HK8.out.os, HK8.out.tape, HK8.out.output, HK8.out.size, fun q hq ho => HK8.out.block q hq (fun e => ho ((H2.out.lt q (by rw [HN.out]; exact e)).1))⟩
  exact h1.trans (kept_ge HG.out hk9))
 clear hA8 hA9 hk9 hs8 hl8 hlen
 refine late_do (i := 17) _ rfl (by kernel_rfl) rfl (fun K hK => ?_)
 go_simp
 refine hK _ _ (fun h => nomatch (show true = false from h)) ?_
 clear hK K
 try simp only [Act.put, List.setIfInBounds_toArray, List.set_cons_zero, List.set_cons_succ]
 refine late_done (by kernel_rfl) ?_ _
 clear c5 f5 hW9
 go_wp2_with fail
 go_ret
 exact ⟨below_at HWY.out HBS.out HKF.out, rfl, ⟨⟨a, a7, c, ca, c7, cc, HA9.out, HS9.out, HL9.out, HT9.out⟩, HG.out⟩⟩
set_option maxHeartbeats 8000000 in
set_option maxRecDepth 100000 in
theorem ap_12 (n f t : Int) (s : ByteArray) (A : Acv) (base g : Nat) (w : World) (hM : Mine w base g A) (oA : AcOk A) (hb : base ≤ w.heap.size) (hn : 0 ≤ n ∧ n ≤ 199) :
 Calls Tryz.prog 134 #[edV ⟨12, n, f, t, s⟩, .pointer (some ⟨g, 0, none⟩)] w fun e w' => ApR A ⟨12, n, f, t, s⟩ base g w e w' := by
 unfold ApR
 rw [appE_12 rfl, appZ_12 rfl]
 simp only
 obtain ⟨⟨a, b, c, ca, cb, cc, h0, h1, h2, h3⟩, hg⟩ := hM
 obtain ⟨V0, hV0, hb0, hs0, hl0⟩ := alloc_cells w #[.int .i64 12, .int .i64 n, .int .i64 f, .int .i64 t, .string s] 89
 have HB := Lib.hid hb0
 have HBS := Lib.hid hb
 have HG := Lib.hid hg
 have H0 := Lib.hid (h0.below hb0)
 have H1 := Lib.hid (h1.below hb0)
 have H2 := Lib.hid (h2.below hb0)
 have H3 := Lib.hid (h3.below hb0)
 have H2W := Lib.hid h2
 have HOA := Lib.hid oA
 have HLS := Lib.hid (lp_sorted oA.lp)
 have hnt := oA.nlp
 have x0 := hl0 0 _ rfl
 have x1 := hl0 1 _ rfl
 have x2 := hl0 2 _ rfl
 have G0 := Ext.ex (hl0 0 _ rfl)
 have G1 := Ext.ex (hl0 1 _ rfl)
 have G2 := Ext.ex (hl0 2 _ rfl)
 have G3 := Ext.ex (hl0 3 _ rfl)
 have G4 := Ext.ex (hl0 4 _ rfl)
 have A5 := Ext.ex H0.out.cell.2.2.2.2.1
 obtain ⟨nt, hN⟩ : ∃ n, A.lp.length = n := ⟨_, rfl⟩
 obtain ⟨k, hk⟩ : ∃ k : Nat, n = (k : Int) := ⟨n.toNat, by omega⟩
 have HN := Lib.hid hN
 rw [hN] at A5 hnt ⊢
 have hkn : k ≤ 199 := by omega
 have htk : n.toNat = k := by omega
 rw [htk]
 subst hk
 have hgt : decide ((nt : Int) ≤ (k : Int)) = decide (nt ≤ k) := by rw [Bool.eq_iff_iff, decide_eq_true_eq, decide_eq_true_eq]; omega
 clear hb hg h0 h1 h2 h3 oA hb0 hl0 hN hn htk
 unfold edV
 by_cases hge : nt ≤ k
 · have t1 : decide ((nt : Int) ≤ (k : Int)) = true := by rw [decide_eq_true_eq]; omega
   have t1' : decide (nt ≤ k) = true := by rw [decide_eq_true_eq]; omega
   rw [if_pos (by omega)]
   clear hgt
   go_enter Tryz.func134, Tryz.ntmps134
   go_upto_region 9 with (fail)
   clear hV0
   refine wp_region_ext (W := V0) ⟨V0, Below.refl _ _⟩ (by kernel_rfl) (by kernel_rfl) ?_
   repeat go_big_quiet_step (fail)
   refine wpQuiet_nil ?_
   rintro _ ⟨Y, rfl⟩
   have HWY := Lib.hid (below_step HB.out Y.2)
   go_wp2_with fail
   go_ret
   exact ⟨below_at HWY.out HBS.out (Kept.refl _ _), rfl, fun h => absurd h (by simp)⟩
 · have t1 : decide ((nt : Int) ≤ (k : Int)) = false := by rw [decide_eq_false_iff_not]; omega
   have t1' : decide (nt ≤ k) = false := by rw [decide_eq_false_iff_not]; omega
   rw [if_neg (by omega)]
   clear hgt
   go_enter Tryz.func134, Tryz.ntmps134
   go_upto_region 9 with (fail)
   clear hV0
   refine wp_region_ext (W := V0) ⟨V0, Below.refl _ _⟩ (by kernel_rfl) (by kernel_rfl) ?_
   repeat go_big_quiet_step (fail)
   refine wpQuiet_nil ?_
   rintro _ ⟨Y, rfl⟩
   have HAY := Lib.hid (H0.out.below Y.2)
   have HWY := Lib.hid (below_step HB.out Y.2)
   obtain ⟨q, c', he, hq1, hq2⟩ := (H2.out.below Y.2).open (by rw [HN.out]; omega)
   rw [HN.out] at he
   injection he with e1 e2 e3
   subst e1
   have h3Y := H2.out.below Y.2
   rw [HN.out] at h3Y
   have DD := deleteLp_any A.lp base q cb k (k + 1) nt (nt - 1)
   have H3Y := Lib.hid h3Y
   have hgq : g ≠ q := fun e => (HAY.out.ne' h3Y (by decide) q rfl) e.symm
   have HGQ := Lib.hid hgq
   have HWQ := Lib.hid (show q < w.heap.size from (H2W.out.lt q (by rw [HN.out]; rfl)).2)
   have HNO := Lib.hid (fun (Z : ExtO (fun x => x = q) Y.1) => show Z.1.cell? ⟨g, 4, none⟩ = some (.slice (some ⟨q, 0, none⟩) nt cb) from Z.2.cell (p := ⟨g, 4, none⟩) HGQ.out (A5 Y))
   have HN1 := Lib.hid (fun (Z : ExtO (fun x => x = q) Y.1) => show Z.1.cell? ⟨w.heap.size, 1, none⟩ = some (.int .i64 (k : Int)) from Z.2.cell (p := ⟨w.heap.size, 1, none⟩) (fun e => by have := HWQ.out; simp only at e; omega) (G1 Y))
   have G1' := HN1.out
   have A5' := HNO.out
   clear hge hq1 hq2 e2 e3 h3Y hgq A5 G0 G1 G2 G3 G4 x0 x1 x2
   go_upto_region 11 with (fail)
   refine late_start (s := 13) (C := fun w' => ∃ Z : ExtO (fun x => x = q) Y.1, w' = Z.1) (by kernel_rfl) ?_
   obtain ⟨Q0, hQ0⟩ : ∃ Z : Ext Y.1, ({ Y.1 with drawn := Y.1.drawn + 1 } : World) = Z.1 := ⟨⟨{ Y.1 with drawn := Y.1.drawn + 1 }, ⟨rfl, rfl, rfl, Nat.le_refl _, fun _ _ => rfl⟩⟩, rfl⟩
   rw [hQ0]
   clear hQ0
   refine late_quiet (by kernel_rfl) (fun _ _ d _ _ h => by cases d <;> exact h) ⟨⟨Q0.1, Kept.of_below Q0.2⟩, rfl⟩ [0, 1, 2, 3, 4, 5, 6, 7, 8, 9] 4 _ _ (by kernel_rfl) (by kernel_rfl) ?_
   change wpQuiet _ _ _ _ (_ :: _ :: _ :: _ :: _ :: _ :: _ :: _ :: _ :: _ :: []) _
   repeat go_big_quiet_step (fail)
   refine wpQuiet_nil ?_
   have DD := DD Q0.1 (H3Y.out.below Q0.2) (by rw [HN.out]; omega) (by have := t1'; simp at this; omega) rfl (by have := t1'; simp at this; omega)
   rw [show ((k + 1 : Nat) : Int) = (k : Int) + 1 by omega] at DD
   refine late_do (i := 10) _ rfl (by kernel_rfl) rfl (fun K hK => ?_)
   go_simp
   refine DD.mono ?_
   rintro e w8 ⟨rfl, ho8, hk8⟩
   have HO8 := Lib.hid ho8
   have HK8 := Lib.hid ((Kept.of_below Q0.2).trans hk8)
   refine hK _ _ (fun _ => ⟨⟨w8, HK8.out⟩, rfl⟩) ?_
   clear hK K ho8 hk8 DD
   try simp only [Act.put, List.setIfInBounds_toArray, List.set_cons_zero, List.set_cons_succ]
   refine late_quiet (by kernel_rfl) (fun _ _ d _ _ h => by cases d <;> exact h) ⟨⟨w8, HK8.out⟩, rfl⟩ [11, 12] 1 _ _ (by kernel_rfl) (by kernel_rfl) ?_
   change wpQuiet _ _ _ _ (_ :: _ :: []) _
   repeat go_big_quiet_step (fail)
   refine wpQuiet_nil ?_
   have hA8 := HAY.out.kept HK8.out HGQ.out
   have c5 := hA8.cell.2.2.2.2.1
   have f5 := hA8.free 4
   have hA9 := hA8.set4 (.slice (some ⟨q, 0, none⟩) (nt - 1) cb)
   obtain ⟨W9, hW9⟩ : ∃ z, w8.setCell ⟨g, 4, none⟩ (.slice (some ⟨q, 0, none⟩) (nt - 1) cb) = z := ⟨_, rfl⟩
   rw [hW9] at hA9
   have hk9 : Kept (fun q => q = g) w8 W9 := by rw [← hW9]; exact keep_set (O := fun q => q = g) rfl
   have hs8 := (H1.out.below Y.2).keepO HK8.out (fun x hx e => (H1.out.below Y.2).apart H3Y.out (by decide) x hx (by rw [e]; rfl))
   have hl8 := (H3.out.below Y.2).keepO HK8.out (fun x hx e => (H3.out.below Y.2).apart H3Y.out (by decide) x hx (by rw [e]; rfl))
   have HS9 := Lib.hid (hs8.keepO hk9 (fun x hx e => (hA8.ne' hs8 (by decide) x hx) e))
   have HT9 := Lib.hid (hl8.keepO hk9 (fun x hx e => (hA8.ne' hl8 (by decide) x hx) e))
   have hlen : (A.lp.take k ++ A.lp.drop (k + 1)).length = nt - 1 := by rw [List.length_append, List.length_take, List.length_drop, HN.out]; have := t1'; simp at this; omega
   obtain ⟨a7, ha7⟩ : ∃ z, some (⟨q, 0, none⟩ : Addr) = z := ⟨_, rfl⟩
   obtain ⟨c7, hc7⟩ : ∃ z, cb = z := ⟨_, rfl⟩
   have HL9 := Lib.hid (show Own lpC 3 57 W9 base (.slice a7 (A.lp.take k ++ A.lp.drop (k + 1)).length c7) (A.lp.take k ++ A.lp.drop (k + 1)) from by
    have h := HO8.out.keepO hk9 (fun x hx e => (hA8.ne' HO8.out (by decide) x hx) e)
    rw [hlen, ← ha7, ← hc7]
    exact h)
   have HA9 := Lib.hid (show AcB W9 g A.name A.sport A.start (.slice a A.sm.length ca) (.slice a7 (A.lp.take k ++ A.lp.drop (k + 1)).length c7) (.slice c A.tg.length cc) from by rw [hlen, ← ha7, ← hc7]; exact hA9)
   have HKF := Lib.hid (show Kept (fun x => base ≤ x) Y.1 W9 from by
    have h1 : Kept (fun x => base ≤ x) Y.1 w8 := kept_ge (H3Y.out.lt q rfl).1 HK8.out
    exact h1.trans (kept_ge HG.out hk9))
   clear hA8 hA9 hk9 hs8 hl8 hlen ha7 hc7
   refine late_do (i := 13) _ rfl (by kernel_rfl) rfl (fun K hK => ?_)
   go_simp
   refine hK _ _ (fun h => nomatch (show true = false from h)) ?_
   clear hK K
   try simp only [Act.put, List.setIfInBounds_toArray, List.set_cons_zero, List.set_cons_succ]
   refine late_done (by kernel_rfl) ?_ _
   clear c5 f5 hW9
   go_wp2_with fail
   go_ret
   exact ⟨below_at HWY.out HBS.out HKF.out, rfl, ⟨⟨a, a7, c, ca, c7, cc, HA9.out, HS9.out, HL9.out, HT9.out⟩, HG.out⟩⟩
end Go.Proofs.YtgdepcnfjmobjaaGreat

/- A text of this claim. -/
namespace Go.Proofs.YtgdepcnfjmobjaaGreat
open Go.RowKit Go.BigFrame
open Tr (inR Ed)
theorem own_one {α : Type} {C : α → List Value} {k : Nat} {e : TypeId} (E : El C k) (w : World) (x : α) {base : Nat} (hb : base ≤ w.heap.size) : Own C k e (w.alloc (.cells (C x).toArray e)) base (.slice (some ⟨w.heap.size, 0, none⟩) 1 1) [x] := by
 have h1 : ([x].flatMap C) = C x := List.append_nil _
 have h2 := E.len x
 exact ⟨by rw [h1, h2]; simp, Or.inr ⟨w.heap.size, 1, (C x).toArray, rfl, hb, heap_alloc_new w _, Nat.le_refl _, by unfold maxLen; omega, by simp [h2], by rw [h1, List.length_singleton, Nat.one_mul, ← h2]; simp⟩⟩
theorem ActRet.move {Z : Acv} {w w1 w' w'' : World} {e : Ending} {r : Nat} (h : ActRet Z w1 e w') (hb : Below w.heap.size w w'') (hw : w.heap.size ≤ w1.heap.size) (hk : Kept (fun q => q = r) w' w'') (hr : r < w1.heap.size) : ActRet Z w e w'' := by
 obtain ⟨_, er, he, h⟩ := h
 refine ⟨hb, er, he, ?_⟩
 rcases h with ⟨h1, h2⟩ | ⟨h1, a, b, c, ca, cb, cc, h2, h3, h4⟩
 · exact Or.inl ⟨h1, h2⟩
 · exact Or.inr ⟨h1, a, b, c, ca, cb, cc, h2, h3.kept hk (fun g hg e => by have := h4 g hg; omega), fun g hg => by have := h4 g hg; omega⟩
theorem ActRet.gen' {Z : Acv} {w w' : World} {e : Ending} (h : ActRet Z w e w') : Below w.heap.size w w' ∧ ∃ (nm : ByteArray) (sp st : Int) (a b c : Option Addr) (na nb nc ca cb cc : Nat), e = .returned (.tuple #[.agg #[.string nm, .int .i64 sp, .int .i64 st, .slice a na ca, .slice b nb cb, .slice c nc cc], .int .i64 (chkA Z)]) := by
 obtain ⟨hb, er, her, h⟩ := h
 rw [her]
 rcases h with ⟨_, rfl⟩ | ⟨rfl, a, b, c, ca, cb, cc, rfl, _⟩
 · exact ⟨hb, _, _, _, _, _, _, _, _, _, _, _, _, rfl⟩
 · exact ⟨hb, _, _, _, _, _, _, _, _, _, _, _, _, rfl⟩
def inP (f t : Int) (s : Sm) : Bool := decide (f < s.tm) && decide (s.tm < t)
theorem cutL_eq (l : List Sm) (f t : Int) : cutL l f t = whereS l f :: l.filter (inP f t) ++ [whereS l t] := rfl
theorem inP_snoc {l : List Sm} {k : Nat} {x : Sm} {f t : Int} (hx : l[k]? = some x) : (l.take (k + 1)).filter (inP f t) = (l.take k).filter (inP f t) ++ (if inP f t x = true then [x] else []) := by
 rw [List.take_add_one, hx, List.filter_append]
 congr 1
 simp only [Option.toList_some, List.filter_cons, List.filter_nil]
theorem where_tm {start n : Int} {l : List Sm} (ho : SmOk start l) (hne : 0 < l.length) (h0 : 0 ≤ n) (h1 : n ≤ spanS l) : (whereS l n).tm = n := by
 obtain ⟨q, hq, h | ⟨_, _, j, p, _, _, _, h⟩⟩ := where_cases ho hne h0 h1
 · rw [h.2.1]
   exact h.1
 · rw [h]
   rfl
structure CutOk (A : Acv) (f t : Int) : Prop where
 ne : 0 < A.sm.length
 f0 : 0 ≤ f
 ft : f < t
 ts : t ≤ spanS A.sm
theorem CutOk.len {A : Acv} {f t : Int} (h : CutOk A f t) (oA : AcOk A) : (cutL A.sm f t).length ≤ A.sm.length := by
 have hsm := oA.sm
 obtain ⟨h1, h2, h3, h4⟩ := h
 rw [cutL_eq]
 obtain ⟨x, l, hl⟩ : ∃ x l, A.sm = x :: l := by
  cases e : A.sm with
  | nil => rw [e] at h1; simp at h1
  | cons x l => exact ⟨x, l, rfl⟩
 have hx : x.tm = 0 := hsm.first x (by rw [hl]; rfl)
 have hx2 : inP f t x = false := by unfold inP; rw [hx]; simp; omega
 rcases List.eq_nil_or_concat l with rfl | ⟨m, y, rfl⟩
 · have := spanS_last (l := A.sm) (s := x) (by rw [hl]; rfl)
   omega
 · have hy := spanS_last (l := A.sm) (s := y) (by rw [hl]; simp)
   have hy2 : inP f t y = false := by unfold inP; simp; omega
   rw [hl, List.filter_cons_of_neg (by rw [hx2]; simp), List.concat_eq_append, List.filter_append, List.filter_cons_of_neg (by rw [hy2]; simp), List.filter_nil, List.append_nil]
   have := List.length_filter_le (inP f t) m
   simp only [List.length_append, List.length_cons, List.length_nil]
   omega
theorem CutOk.range {A : Acv} {f t : Int} (h : CutOk A f t) (oA : AcOk A) : ∀ s, s ∈ cutL A.sm f t → 0 ≤ s.tm ∧ s.tm ≤ 1000000 := fun s hs => by
 have hsp := spanS_range oA.sm
 obtain ⟨h1, h2, h3, h4⟩ := h
 rw [cutL_eq, List.cons_append] at hs
 rcases List.mem_cons.1 hs with rfl | hs
 · rw [where_tm oA.sm h1 h2 (by omega)]
   omega
 · rcases List.mem_append.1 hs with hs | hs
   · exact ok_each oA.sm s (List.mem_filter.1 hs).1
   · rw [List.mem_singleton.1 hs, where_tm oA.sm h1 (by omega) h4]
     omega
theorem cutE_ok {A : Acv} {f t : Int} (h : CutOk A f t) : cutE A f t = chkA (partA A (cutL A.sm f t) f) := by
 unfold cutE
 rw [if_neg (by have := h.ne; omega), if_neg (by have := h.f0; have := h.ft; have := h.ts; omega)]
def CutRet (A : Acv) (f t : Int) (w : World) (e : Ending) (w' : World) : Prop :=
 (CutOk A f t ∧ ActRet (partA A (cutL A.sm f t) f) w e w') ∨ (¬ CutOk A f t ∧ cutE A f t ≠ 0 ∧ e = .returned (.tuple #[ac0, .int .i64 (cutE A f t)]) ∧ Below w.heap.size w w')
set_option maxHeartbeats 16000000 in
set_option maxRecDepth 100000 in
theorem cut_any (A : Acv) (a b c : Option Addr) (ca cb cc : Nat) (f t : Int) (w : World) (h : ActIn w A a b c) (oA : AcOk A) :
 Calls Tryz.prog 137 #[actV A a b c ca cb cc, .int .i64 f, .int .i64 t] w fun e w' => CutRet A f t w e w' := by
 obtain ⟨V0, hV0, hb0, hs0, ha0⟩ := alloc_ac w A.name A.sport A.start (.slice a A.sm.length ca) (.slice b A.lp.length cb) (.slice c A.tg.length cc)
 obtain ⟨V1, hV1, hb1, hs1, ha1⟩ := alloc_ac V0 ⟨#[]⟩ 0 0 (.slice none 0 0) (.slice none 0 0) (.slice none 0 0)
 rw [hs0] at ha1
 have hA0 := ha0.below hb1
 have HB := Lib.hid (below_step hb0 hb1)
 have HSZ := Lib.hid (show V1.heap.size = w.heap.size + 2 from by omega)
 have HIN := Lib.hid (h.below HB.out)
 have HOA := Lib.hid oA
 have HA1 := Lib.hid ha1
 have DC := Lib.hid (fun X : Ext V1 => show Calls Tryz.prog 14 #[.agg #[.string A.name, .int .i64 A.sport, .int .i64 A.start, .slice a A.sm.length ca, .slice b A.lp.length cb, .slice c A.tg.length cc]] X.1 fun e w'' => e = .returned (.int .i64 0) ∧ ∃ Y : Ext V1, w'' = Y.1 from by
  have h := check_any A a b c ca cb cc X.1 (HIN.out.below X.2)
  unfold ChkG actV at h
  rw [chkA_zero.2 HOA.out] at h
  exact X.calls h)
 have DS := Lib.hid (fun X : Ext V1 => show Calls Tryz.prog 27 #[.agg #[.string A.name, .int .i64 A.sport, .int .i64 A.start, .slice a A.sm.length ca, .slice b A.lp.length cb, .slice c A.tg.length cc]] X.1 fun e w'' => e = .returned (.int .i64 (spanS A.sm)) ∧ ∃ Y : Ext V1, w'' = Y.1 from by
  have h := span_any A a b c ca cb cc X.1 (HIN.out.sm.below X.2) (by have := HOA.out.nsm; omega)
  unfold actV at h
  exact X.calls h)
 obtain ⟨g0, g1, g2, g3, g4, g5⟩ := hA0.cell
 have A0 := Ext.ex g0
 have A1 := Ext.ex g1
 have A2 := Ext.ex g2
 have A3 := Ext.ex g3
 have A4 := Ext.ex g4
 have A5 := Ext.ex g5
 obtain ⟨sp, hsp⟩ : ∃ z, spanS A.sm = z := ⟨_, rfl⟩
 have HSP := Lib.hid hsp
 rw [hsp] at DS
 have hspr := spanS_range oA.sm
 rw [hsp] at hspr
 clear h oA hb0 hb1 ha0 ha1 hA0 hs1 g0 g1 g2 g3 g4 g5 hsp
 unfold actV
 by_cases hz : A.sm.length = 0
 case pos =>
  have t0 : ((A.sm.length : Int) == 0) = true := by rw [hz]; rfl
  have t0' : (A.sm.length == 0) = true := by rw [hz]; rfl
  have HE := Lib.hid (show ¬ CutOk A f t ∧ cutE A f t = 13 from ⟨fun h => by have := h.ne; omega, by unfold cutE; rw [if_pos hz]⟩)
  clear hz
  go_enter Tryz.func137, Tryz.ntmps137
  go_upto_region 1 with (fail)
  clear hV0 hV1 hs0
  refine ext_wp (W := V1) fun X => ?_
  go_wp2_with fail
  refine (DC.out X).mono ?_
  rintro e w1 ⟨rfl, Y, rfl⟩
  obtain ⟨WF, hWF, haF, hkF⟩ := (HA1.out.below Y.2).store ⟨#[]⟩ 0 0 (.slice none 0 0) (.slice none 0 0) (.slice none 0 0)
  have HAF := Lib.hid haF
  have HBF := Lib.hid (show Below w.heap.size w WF from
   have h1 := below_step HB.out Y.2
   Kept.below h1 (hkF (fun b => b = w.heap.size + 1) rfl) h1.size (fun k hk e => by omega))
  obtain ⟨r0, r1, r2, r3, r4, r5⟩ := (HA1.out.below Y.2).cell
  have fr := (HA1.out.below Y.2).free
  clear haF hkF
  go_wp2_with fail
  have q := HAF.out.cell
  exact bodyPost_ret (v := .tuple #[ac0, .int .i64 13]) (by simp [results, Tryz.results137, go_sem, q, ac0]) rfl (Or.inr ⟨HE.out.1, by rw [HE.out.2]; omega, by rw [HE.out.2], HBF.out⟩)
 have t0 : ((A.sm.length : Int) == 0) = false := by rw [beq_eq_false_iff_ne]; omega
 have t0' : (A.sm.length == 0) = false := by rw [beq_eq_false_iff_ne]; omega
 by_cases hr : f < 0 ∨ t ≤ f ∨ sp < t
 case pos =>
  have HE := Lib.hid (show ¬ CutOk A f t ∧ cutE A f t = 9 from ⟨fun h => by have := h.f0; have := h.ft; have := h.ts; have := HSP.out; omega, by unfold cutE; rw [if_neg hz, HSP.out, if_pos hr]⟩)
  by_cases h1 : f < 0
  · have u1 : decide (f < 0) = true := by rw [decide_eq_true_eq]; exact h1
    clear hr
    go_enter Tryz.func137, Tryz.ntmps137
    go_upto_region 1 with (fail)
    clear hV0 hV1 hs0
    refine ext_wp (W := V1) fun X => ?_
    go_wp2_with fail
    refine (DC.out X).mono ?_
    rintro e w1 ⟨rfl, Y, rfl⟩
    obtain ⟨WF, hWF, haF, hkF⟩ := (HA1.out.below Y.2).store ⟨#[]⟩ 0 0 (.slice none 0 0) (.slice none 0 0) (.slice none 0 0)
    have HAF := Lib.hid haF
    have HBF := Lib.hid (show Below w.heap.size w WF from
     have h1 := below_step HB.out Y.2
     Kept.below h1 (hkF (fun b => b = w.heap.size + 1) rfl) h1.size (fun k hk e => by omega))
    obtain ⟨r0, r1, r2, r3, r4, r5⟩ := (HA1.out.below Y.2).cell
    have fr := (HA1.out.below Y.2).free
    clear haF hkF
    go_wp2_with fail
    have q := HAF.out.cell
    exact bodyPost_ret (v := .tuple #[ac0, .int .i64 9]) (by simp [results, Tryz.results137, go_sem, q, ac0]) rfl (Or.inr ⟨HE.out.1, by rw [HE.out.2]; omega, by rw [HE.out.2], HBF.out⟩)
  · have u1 : decide (f < 0) = false := by rw [decide_eq_false_iff_not]; exact h1
    by_cases h2 : t ≤ f
    · have u2 : decide (t ≤ f) = true := by rw [decide_eq_true_eq]; exact h2
      clear hr
      go_enter Tryz.func137, Tryz.ntmps137
      go_upto_region 1 with (fail)
      clear hV0 hV1 hs0
      refine ext_wp (W := V1) fun X => ?_
      go_wp2_with fail
      refine (DC.out X).mono ?_
      rintro e w1 ⟨rfl, Y, rfl⟩
      obtain ⟨WF, hWF, haF, hkF⟩ := (HA1.out.below Y.2).store ⟨#[]⟩ 0 0 (.slice none 0 0) (.slice none 0 0) (.slice none 0 0)
      have HAF := Lib.hid haF
      have HBF := Lib.hid (show Below w.heap.size w WF from
       have h1 := below_step HB.out Y.2
       Kept.below h1 (hkF (fun b => b = w.heap.size + 1) rfl) h1.size (fun k hk e => by omega))
      obtain ⟨r0, r1, r2, r3, r4, r5⟩ := (HA1.out.below Y.2).cell
      have fr := (HA1.out.below Y.2).free
      clear haF hkF
      go_wp2_with fail
      have q := HAF.out.cell
      exact bodyPost_ret (v := .tuple #[ac0, .int .i64 9]) (by simp [results, Tryz.results137, go_sem, q, ac0]) rfl (Or.inr ⟨HE.out.1, by rw [HE.out.2]; omega, by rw [HE.out.2], HBF.out⟩)
    · have u2 : decide (t ≤ f) = false := by rw [decide_eq_false_iff_not]; exact h2
      have u3 : decide (sp < t) = true := by rw [decide_eq_true_eq]; omega
      clear hr
      go_enter Tryz.func137, Tryz.ntmps137
      go_upto_region 1 with (fail)
      clear hV0 hV1 hs0
      refine ext_wp (W := V1) fun X => ?_
      go_wp2_with fail
      refine (DC.out X).mono ?_
      rintro e w1 ⟨rfl, Y, rfl⟩
      go_wp2_with fail
      refine (DS.out Y).mono ?_
      rintro e w1 ⟨rfl, Y2, rfl⟩
      obtain ⟨WF, hWF, haF, hkF⟩ := (HA1.out.below Y2.2).store ⟨#[]⟩ 0 0 (.slice none 0 0) (.slice none 0 0) (.slice none 0 0)
      have HAF := Lib.hid haF
      have HBF := Lib.hid (show Below w.heap.size w WF from
       have h1 := below_step HB.out Y2.2
       Kept.below h1 (hkF (fun b => b = w.heap.size + 1) rfl) h1.size (fun k hk e => by omega))
      obtain ⟨r0, r1, r2, r3, r4, r5⟩ := (HA1.out.below Y2.2).cell
      have fr := (HA1.out.below Y2.2).free
      clear haF hkF
      go_wp2_with fail
      have q := HAF.out.cell
      exact bodyPost_ret (v := .tuple #[ac0, .int .i64 9]) (by simp [results, Tryz.results137, go_sem, q, ac0]) rfl (Or.inr ⟨HE.out.1, by rw [HE.out.2]; omega, by rw [HE.out.2], HBF.out⟩)
 have HCK := Lib.hid (show CutOk A f t from ⟨by omega, by omega, by omega, by have := HSP.out; omega⟩)
 have u1 : decide (f < 0) = false := by rw [decide_eq_false_iff_not]; omega
 have u2 : decide (t ≤ f) = false := by rw [decide_eq_false_iff_not]; omega
 have u3 : decide (sp < t) = false := by rw [decide_eq_false_iff_not]; omega
 have DW := Lib.hid (fun (X : Ext V1) (n : Int) (h0 : 0 ≤ n) (h1 : n ≤ sp) => show Calls Tryz.prog 142 #[.agg #[.string A.name, .int .i64 A.sport, .int .i64 A.start, .slice a A.sm.length ca, .slice b A.lp.length cb, .slice c A.tg.length cc], .int .i64 n] X.1 fun e w'' => e = .returned (smV (whereS A.sm n)) ∧ Below X.1.heap.size X.1 w'' from by
  have h := where_any A a b c ca cb cc n X.1 (HIN.out.sm.below X.2) HOA.out.sm HOA.out.nsm HCK.out.ne h0 (by rw [HSP.out]; exact h1)
  unfold actV at h
  exact h)
 have hft : (0 ≤ f ∧ f < t) ∧ t ≤ sp := by omega
 clear hr
 go_enter Tryz.func137, Tryz.ntmps137
 go_upto_region 1 with (fail)
 clear hV0 hV1 hs0
 refine ext_wp (W := V1) fun X => ?_
 go_wp2_with fail
 refine (DC.out X).mono ?_
 rintro e w1 ⟨rfl, Y, rfl⟩
 go_wp2_with fail
 refine (DS.out Y).mono ?_
 rintro e w1 ⟨rfl, Y2, rfl⟩
 obtain ⟨u, hu⟩ : ∃ z, whereS A.sm f = z := ⟨_, rfl⟩
 have d1 := DW.out Y2 f (by omega) (by omega)
 rw [hu] at d1
 have D1 := Lib.hid d1
 clear d1
 have HU := Lib.hid hu
 clear hu
 go_wp2_with fail
 refine (D1.out).mono ?_
 rintro e w3 ⟨rfl, hb3⟩
 obtain ⟨Y3, rfl⟩ : ∃ Y3 : Ext V1, w3 = Y3.1 := ⟨⟨w3, below_step Y2.2 hb3⟩, rfl⟩
 unfold smV
 obtain ⟨V4, hV4⟩ : ∃ V, Y3.1.alloc (.cells #[.int .i64 u.tm, .int .i64 u.x, .int .i64 u.y, .int .i64 u.z, .int .i64 u.pu, .int .i64 u.po, .int .i64 u.st] 54) = V := ⟨_, rfl⟩
 have ho4 : Own smC 7 54 V4 Y3.1.heap.size (.slice (some ⟨Y3.1.heap.size, 0, none⟩) 1 1) [u] := hV4 ▸ own_one smEl Y3.1 u (Nat.le_refl _)
 have hb4 : Below Y3.1.heap.size Y3.1 V4 := hV4 ▸ below_al _ _
 obtain ⟨n, hn⟩ : ∃ n, A.sm.length = n := ⟨_, rfl⟩
 have HN := Lib.hid hn
 have hn2 : n ≤ 20000 := by have := HOA.out.nsm; omega
 have HO4 := Lib.hid ho4
 have HB4 := Lib.hid hb4
 have HC := Lib.hid (fun (X : Ext Y3.1) (p : Addr) (v : Value) (h : V1.cell? p = some v) => show X.1.cell? p = some v from below_cell (below_step Y3.2 X.2) h)
 have a3 : V4.cell? ⟨w.heap.size, 3, none⟩ = some (.slice a A.sm.length ca) := A3 ⟨V4, below_step Y3.2 hb4⟩
 obtain ⟨NB, hNB⟩ : ∃ q, Y3.1.heap.size = q := ⟨_, rfl⟩
 have HNB := Lib.hid hNB
 rw [hNB] at HO4
 rw [hn] at A3 a3
 clear hb3 ho4 hb4 t0 t0' u1 u2 u3 hz Y2 D1 DC DS hn
 go_wp2_with fail
 clear hV4 hNB a3
 go_loopw [9, 46] (fun vv iv wr => ∃ k : Nat, iv = .int .i64 k ∧ k ≤ n ∧ Hid (Own smC 7 54 wr NB vv (u :: (A.sm.take k).filter (inP f t))) ∧ ∃ X : Ext Y3.1, wr = X.1) (fun _ iv _ => n - (intOf iv).toNat)
 case atStart => exact ⟨0, rfl, by omega, Lib.hid HO4.out, ⟨V4, HB4.out⟩, rfl⟩
 case round =>
  clear HO4
  obtain ⟨k, rfl, hk, HOW, X, rfl⟩ := hrel
  have HLE := Lib.hid (show (u :: (A.sm.take k).filter (inP f t)).length ≤ 20001 from by
   have := List.length_filter_le (inP f t) (A.sm.take k)
   have h2 : (A.sm.take k).length ≤ k := by rw [List.length_take]; omega
   rw [List.length_cons]
   omega)
  by_cases hlt : k < n
  · have t2 : decide ((k : Int) < (n : Int)) = true := by rw [decide_eq_true_eq]; omega
    have t2' : decide (k < n) = true := by simpa using hlt
    obtain ⟨x, hx⟩ : ∃ x, A.sm[k]? = some x := ⟨_, List.getElem?_eq_getElem (by rw [HN.out]; exact hlt)⟩
    have HSN := Lib.hid (inP_snoc (f := f) (t := t) hx)
    obtain ⟨b3, o3, rfl, hb3, hd⟩ := HIN.out.sm.at hx
    have e0 := HC.out X ⟨b3, o3 + k * 7, none⟩ (.int .i64 x.tm) (hd 0 _ rfl)
    have e1 := HC.out X ⟨b3, o3 + k * 7 + 1, none⟩ (.int .i64 x.x) (hd 1 _ rfl)
    have e2 := HC.out X ⟨b3, o3 + k * 7 + 2, none⟩ (.int .i64 x.y) (hd 2 _ rfl)
    have e3 := HC.out X ⟨b3, o3 + k * 7 + 3, none⟩ (.int .i64 x.z) (hd 3 _ rfl)
    have e4 := HC.out X ⟨b3, o3 + k * 7 + 4, none⟩ (.int .i64 x.pu) (hd 4 _ rfl)
    have e5 := HC.out X ⟨b3, o3 + k * 7 + 5, none⟩ (.int .i64 x.po) (hd 5 _ rfl)
    have e6 := HC.out X ⟨b3, o3 + k * 7 + 6, none⟩ (.int .i64 x.st) (hd 6 _ rfl)
    obtain ⟨V6, hV6, hb6, hs6, ha6⟩ := alloc_sm X.1 x
    obtain ⟨q0, q1, q2, q3, q4, q5, q6⟩ := ha6.cell
    have H6 := Lib.hid (below_step X.2 hb6)
    have HO6 := Lib.hid (HOW.out.below hb6)
    clear hx hb3 hd hb6 hs6 ha6
    by_cases c1 : f < x.tm
    · have v1 : decide (f < x.tm) = true := by rw [decide_eq_true_eq]; exact c1
      by_cases c2 : x.tm < t
      · have v2 : decide (x.tm < t) = true := by rw [decide_eq_true_eq]; exact c2
        have HIP := Lib.hid (show inP f t x = true from by unfold inP; rw [v1, v2]; rfl)
        obtain ⟨V7, hV7, hb7, hs7, hl7⟩ := alloc_cells V6 #[.int .i64 x.tm, .int .i64 x.x, .int .i64 x.y, .int .i64 x.z, .int .i64 x.pu, .int .i64 x.po, .int .i64 x.st] 54
        have HC7 := Lib.hid (fun j u (hj : (smC x)[j]? = some u) => show V7.cell? ⟨V6.heap.size, j, none⟩ = some u from hl7 j u (by rw [← hj]; simp [smC]))
        have HO7 := Lib.hid (HO6.out.below hb7)
        have H7 := Lib.hid (below_step H6.out hb7)
        clear c1 c2 hb7 hs7 hl7
        go_wp2_with (at_builtin; refine append_Sm rfl _ _ rfl rfl HO7.out (p := x) rfl HC7.out (by have := HLE.out; omega) (by have := H7.out.size; have := HNB.out; omega) (fun g' c3 w8 ho8 hg8 hor => ?_))
        have HO8 := Lib.hid ho8
        have H8 := Lib.hid (show Below Y3.1.heap.size Y3.1 w8 from Kept.below (O := fun q => NB ≤ q) H7.out (Kept.of_grown hg8 (fun g e _ => (HO7.out.lt g e).1)) H7.out.size (fun q hq e => by have := HNB.out; omega))
        clear ho8 hg8 hor hV6 hV7
        go_roundw
        case rel => exact ⟨k + 1, by go_num, by omega, Lib.hid (by rw [HSN.out, if_pos HIP.out]; exact HO8.out), ⟨w8, H8.out⟩, rfl⟩
        case measure => simp [intOf]; omega
      · have v2 : decide (x.tm < t) = false := by rw [decide_eq_false_iff_not]; exact c2
        have HIP := Lib.hid (show ¬ inP f t x = true from by unfold inP; rw [v1, v2]; simp)
        clear c1 c2
        go_wp2_with fail
        go_roundw
        case rel => exact ⟨k + 1, by go_num, by omega, Lib.hid (by rw [HSN.out, if_neg HIP.out, List.append_nil]; exact HO6.out), ⟨V6, H6.out⟩, rfl⟩
        case measure => simp [intOf]; omega
    · have v1 : decide (f < x.tm) = false := by rw [decide_eq_false_iff_not]; exact c1
      have HIP := Lib.hid (show ¬ inP f t x = true from by unfold inP; rw [v1]; simp)
      clear c1
      go_wp2_with fail
      go_roundw
      case rel => exact ⟨k + 1, by go_num, by omega, Lib.hid (by rw [HSN.out, if_neg HIP.out, List.append_nil]; exact HO6.out), ⟨V6, H6.out⟩, rfl⟩
      case measure => simp [intOf]; omega
  · have t2 : decide ((k : Int) < (n : Int)) = false := by rw [decide_eq_false_iff_not]; omega
    have t2' : decide (k < n) = false := by simpa using hlt
    obtain rfl : n = k := by omega
    obtain ⟨L1, hL1⟩ : ∃ z, u :: A.sm.filter (inP f t) = z := ⟨_, rfl⟩
    have ho := HOW.out
    rw [show A.sm.take n = A.sm from by rw [← HN.out]; exact List.take_length, hL1] at ho
    have hle := HLE.out
    rw [show A.sm.take n = A.sm from by rw [← HN.out]; exact List.take_length, hL1] at hle
    obtain ⟨asl, cs', rfl, -, -, -⟩ := ho.row smEl
    have HO := Lib.hid ho
    have HLE := Lib.hid hle
    obtain ⟨v, hv⟩ : ∃ z, whereS A.sm t = z := ⟨_, rfl⟩
    have HCL := Lib.hid (show L1 ++ [v] = cutL A.sm f t from by rw [← hL1, ← hv, cutL_eq, HU.out])
    have DV := Lib.hid (fun (Z : Ext Y3.1) => show Calls Tryz.prog 142 #[.agg #[.string A.name, .int .i64 A.sport, .int .i64 A.start, .slice a n ca, .slice b A.lp.length cb, .slice c A.tg.length cc], .int .i64 t] Z.1 fun e w'' => e = .returned (smV v) ∧ Below Z.1.heap.size Z.1 w'' from by
     have h := DW.out ⟨Z.1, below_step Y3.2 Z.2⟩ t (by omega) (by omega)
     rw [hv, HN.out] at h
     exact h)
    have B0 := Ext.ex (A0 ⟨Y3.1, Y3.2⟩)
    have B1 := Ext.ex (A1 ⟨Y3.1, Y3.2⟩)
    have B2 := Ext.ex (A2 ⟨Y3.1, Y3.2⟩)
    have B3 := Ext.ex (A3 ⟨Y3.1, Y3.2⟩)
    have B4 := Ext.ex (A4 ⟨Y3.1, Y3.2⟩)
    have B5 := Ext.ex (A5 ⟨Y3.1, Y3.2⟩)
    clear hlt hk HOW ho hle hL1 hv A0 A1 A2 A3 A4 A5
    unfold smV at DV
    go_upto_region 15 with (fail)
    refine late_start (s := 11) (C := fun w' => ∃ Z : Ext Y3.1, w' = Z.1) (by kernel_rfl) ?_
    obtain ⟨Q0, hQ0⟩ : ∃ Z : Ext Y3.1, ({ X.1 with drawn := X.1.drawn + 1 } : World) = Z.1 := ⟨⟨{ X.1 with drawn := X.1.drawn + 1 }, below_step X.2 ⟨rfl, rfl, rfl, Nat.le_refl _, fun _ _ => rfl⟩⟩, rfl⟩
    have HOQ := Lib.hid (show Own smC 7 54 Q0.1 NB (.slice asl L1.length cs') L1 from hQ0 ▸ HO.out.below ⟨rfl, rfl, rfl, Nat.le_refl _, fun _ _ => rfl⟩)
    rw [hQ0]
    clear hQ0
    refine late_quiet (by kernel_rfl) (fun _ _ d _ _ h => by cases d <;> exact h) ⟨Q0, rfl⟩ [0, 1, 2, 3, 7] 8 _ _ (by kernel_rfl) (by kernel_rfl) ?_
    change wpQuiet _ _ _ _ (_ :: _ :: _ :: _ :: _ :: []) _
    repeat go_big_quiet_step (fail)
    refine wpQuiet_nil ?_
    refine late_do (i := 4) _ rfl (by kernel_rfl) rfl (fun K hK => ?_)
    go_simp
    refine (DV.out Q0).mono ?_
    rintro e w6 ⟨rfl, hb6⟩
    obtain ⟨Q6, rfl⟩ : ∃ Z : Ext Y3.1, w6 = Z.1 := ⟨⟨w6, below_step Q0.2 hb6⟩, rfl⟩
    have HO6 := Lib.hid (HOQ.out.below hb6)
    refine hK _ _ (fun _ => ⟨Q6, rfl⟩) ?_
    clear hK K hb6
    try simp only [Act.put, List.setIfInBounds_toArray, List.set_cons_zero, List.set_cons_succ]
    refine late_do (i := 5) _ rfl (by kernel_rfl) rfl (fun K hK => ?_)
    go_simp
    obtain ⟨V7, hV7, hb7, hs7, hl7⟩ := alloc_cells Q6.1 #[.int .i64 v.tm, .int .i64 v.x, .int .i64 v.y, .int .i64 v.z, .int .i64 v.pu, .int .i64 v.po, .int .i64 v.st] 54
    rw [hV7]
    have HC7 := Lib.hid (fun j u (hj : (smC v)[j]? = some u) => show V7.cell? ⟨Q6.1.heap.size, j, none⟩ = some u from hl7 j u (by rw [← hj]; simp [smC]))
    have HO7 := Lib.hid (HO6.out.below hb7)
    have H7 := Lib.hid (below_step Q6.2 hb7)
    refine hK _ _ (fun _ => ⟨⟨V7, H7.out⟩, rfl⟩) ?_
    clear hK K hV7 hb7 hs7 hl7
    try simp only [Act.put, List.setIfInBounds_toArray, List.set_cons_zero, List.set_cons_succ]
    refine late_do (i := 6) _ rfl (by kernel_rfl) rfl (fun K hK => ?_)
    refine wp_append_Sm _ _ rfl rfl HO7.out (p := v) rfl HC7.out (by have := HLE.out; omega) (by have := H7.out.size; have := HNB.out; omega) (fun g' c3 w8 ho8 hg8 hor => ?_)
    try simp only [Act.put, List.setIfInBounds_toArray, List.set_cons_zero, List.set_cons_succ]
    have HO8 := Lib.hid ho8
    have H8 := Lib.hid (show Below Y3.1.heap.size Y3.1 w8 from Kept.below (O := fun q => NB ≤ q) H7.out (Kept.of_grown hg8 (fun g e _ => (HO7.out.lt g e).1)) H7.out.size (fun q hq e => by have := HNB.out; omega))
    refine hK _ _ (fun _ => ⟨⟨w8, H8.out⟩, rfl⟩) ?_
    clear hK K ho8 hg8 hor
    try simp only [Act.put, List.setIfInBounds_toArray, List.set_cons_zero, List.set_cons_succ]
    have DP := Lib.hid (show Calls Tryz.prog 143 #[.agg #[.string A.name, .int .i64 A.sport, .int .i64 A.start, .slice a n ca, .slice b A.lp.length cb, .slice c A.tg.length cc], .slice (some ⟨g', 0, none⟩) (L1.length + 1) c3, .int .i64 f] w8 fun e w'' => ActRet (partA A (cutL A.sm f t) f) w8 e w'' from by
     have h := part_any A a b c ca cb cc (cutL A.sm f t) (some ⟨g', 0, none⟩) c3 f w8 (HIN.out.below (below_step Y3.2 H8.out)) HOA.out (by rw [← HCL.out]; exact (HO8.out.rw_ smEl).1) (by have := HCK.out.len HOA.out; have := HOA.out.nsm; omega) (HCK.out.range HOA.out) (by omega) (by omega)
     rw [← HCL.out, List.length_append, List.length_singleton, HCL.out] at h
     unfold actV at h
     rw [HN.out] at h
     exact h)
    refine late_do (i := 8) _ rfl (by kernel_rfl) rfl (fun K hK => ?_)
    go_simp
    refine (DP.out).mono ?_
    rintro e w9 hret
    have HRET := Lib.hid hret
    obtain ⟨hb9, nm, sp', st', za, zb, zc, na, nb, nc, zca, zcb, zcc, rfl⟩ := hret.gen'
    have H9 := Lib.hid (below_step H8.out hb9)
    refine hK _ _ (fun _ => ⟨⟨w9, H9.out⟩, rfl⟩) ?_
    clear hK K hret hb9
    try simp only [Act.put, List.setIfInBounds_toArray, List.set_cons_zero, List.set_cons_succ]
    refine late_quiet (by kernel_rfl) (fun _ _ d _ _ h => by cases d <;> exact h) ⟨⟨w9, H9.out⟩, rfl⟩ [9, 10] 2 _ _ (by kernel_rfl) (by kernel_rfl) ?_
    change wpQuiet _ _ _ _ (_ :: _ :: []) _
    repeat go_big_quiet_step (fail)
    refine wpQuiet_nil ?_
    have hR9 := HA1.out.below (below_step Y3.2 H9.out)
    obtain ⟨er, her⟩ : ∃ z, chkA (partA A (cutL A.sm f t) f) = z := ⟨_, rfl⟩
    rw [her]
    have HER := Lib.hid her
    obtain ⟨r0, r1, r2, r3, r4, r5⟩ := hR9.cell
    have fr := hR9.free
    obtain ⟨WF, hWF, haF, hkF⟩ := hR9.store nm sp' st' (.slice za na zca) (.slice zb nb zcb) (.slice zc nc zcc)
    have HAF := Lib.hid haF
    have HKF := Lib.hid (hkF (fun q => q = w.heap.size + 1) rfl)
    clear haF hkF hR9 her
    refine late_do (i := 11) _ rfl (by kernel_rfl) rfl (fun K hK => ?_)
    go_simp
    refine hK _ _ (fun h => nomatch (show true = false from h)) ?_
    clear hK K
    try simp only [Act.put, List.setIfInBounds_toArray, List.set_cons_zero, List.set_cons_succ]
    refine late_do (i := 12) _ rfl (by kernel_rfl) rfl (fun K hK => ?_)
    go_simp
    refine hK _ _ (fun h => nomatch (show true = false from h)) ?_
    clear hK K
    try simp only [Act.put, List.setIfInBounds_toArray, List.set_cons_zero, List.set_cons_succ]
    refine late_done (by kernel_rfl) ?_ _
    have HBF := Lib.hid (show Below w.heap.size w WF from by
     have h1 := below_step HB.out (below_step Y3.2 H9.out)
     exact Kept.below h1 HKF.out h1.size (fun k hk e => by omega))
    clear hWF r0 r1 r2 r3 r4 r5 fr
    go_wp2_with fail
    have q := HAF.out.cell
    refine bodyPost_ret (v := .tuple #[.agg #[.string nm, .int .i64 sp', .int .i64 st', .slice za na zca, .slice zb nb zcb, .slice zc nc zcc], .int .i64 er]) (by simp [results, Tryz.results137, go_sem, q]) rfl (Or.inl ⟨HCK.out, ?_⟩)
    have hh := HRET.out
    rw [HER.out] at hh
    have hs := HSZ.out
    have h3 := Y3.2.size
    have h8 := H8.out.size
    exact hh.move HBF.out (by omega) HKF.out (by omega)
end Go.Proofs.YtgdepcnfjmobjaaGreat

/- A text of this claim. -/
namespace Go.Proofs.YtgdepcnfjmobjaaGreat
open Go.RowKit Go.BigFrame
open Tr (inR)
end Go.Proofs.YtgdepcnfjmobjaaGreat

/- A text of this claim. -/
namespace Go.Proofs.YtgdepcnfjmobjaaGreat
open Go.RowKit Go.BigFrame
open Tr (inR)
end Go.Proofs.YtgdepcnfjmobjaaGreat

/- A text of this claim. -/
namespace Go.Proofs.YtgdepcnfjmobjaaGreat
open Go.RowKit Go.BigFrame
open Go.Sort Go.Lib
def zC (z : Int) : List Value := [.int .i64 z]
theorem zEl : El zC 1 := ⟨fun _ => rfl, by decide, fun x v hv => by
 simp only [zC, List.mem_cons, List.not_mem_nil, or_false] at hv
 subst hv
 rfl⟩
theorem append_Z {ops : Array Oper} {rest : List Oper} {o : Oper} {a : Act} {Q : Exit → Act → World → Prop} {w : World} (hgd : o.guard = none) (s x : Operand)
 (ho : o.op = .call { callee := .builtin .append, args := #[s, x], argTypes := #[117, 117] }) {base : Nat} {v : Value} {l : List Int} (hs : a.eval s = v) (hown : Own zC 1 3 w base v l)
 {g : Nat} {p : Int} (hx : a.eval x = .slice (some ⟨g, 0, none⟩) 1 1) (h0 : w.cell? ⟨g, 0, none⟩ = some (.int .i64 p)) (hn : l.length ≤ 1000000) (hb : base ≤ w.heap.size)
 (h : ∀ g' c' w', Own zC 1 3 w' base (.slice (some ⟨g', 0, none⟩) (l.length + 1) c') (l ++ [p]) → w.grownBy w' v.ownBlock → (v.ownBlock = some g' ∨ g' = w.heap.size) → wpList Tryz.prog ops Q rest (a.put o.dst (.slice (some ⟨g', 0, none⟩) (l.length + 1) c')) w') : wpList Tryz.prog ops Q (o :: rest) a w := by
 obtain ⟨i0, hi0, hy0, hy1, hy2⟩ := info_parts (show (Tryz.prog.info? 3).map (fun i => (i.zero, i.size, i.bytes)) = some (some (.int .i64 0), 1, 8) by kernel_rfl)
 refine wpList_append_lies w hgd s x 117 ho base 3 i0 (.int .i64 0) 1 8 Tryz.underlying117 hi0 hy0 hy1 hy2 rfl (by decide) v l.length (l.flatMap zC) hs hown ⟨g, 0, none⟩ 1 1 (zC p) hx rfl (fun j u hu => ?_) (fun u hu => ?_) (by decide) (by unfold maxLen; omega) (by omega) hb _ rfl ?_
 · rw [addr_plus, Nat.zero_add]
   match j, hu with
   | 0, hu => exact h0.trans hu
   | n + 1, hu => cases hu
 · simp only [zC, List.mem_cons, List.not_mem_nil, or_false] at hu
   subst hu
   rfl
 · intro g' c' w' k1 k2 k3 _
   refine h g' c' w' ?_ k2 k3
   unfold Own
   rw [List.length_append, List.flatMap_append, show ([p].flatMap zC) = zC p from List.append_nil _]
   exact k1
theorem flatZ (l : List Int) : l.flatMap zC = l.map (Value.int .i64) := by
 induction l with
 | nil => rfl
 | cons a l ih => rw [List.flatMap_cons, List.map_cons, ih]; rfl
theorem holdsZ {w : World} {base q c : Nat} {l : List Int} (h : Own zC 1 3 w base (.slice (some ⟨q, 0, none⟩) l.length c) l) : Holds (Value.int .i64) w q 0 l.toArray := by
 intro j hj
 have hjl : j < l.length := by simpa using hj
 obtain ⟨hr, _, _⟩ := h.rw_ zEl
 refine ⟨?_, by rw [Nat.zero_add]; exact h.free j⟩
 have hc := hr.on (List.getElem?_eq_getElem hjl) 0 _ rfl
 rw [Nat.mul_one, Nat.add_zero] at hc
 rw [hc]
 have : l.toArray[j]! = l[j] := by
  rw [getElem!_pos _ j hj]
  simp
 rw [this]
def srt (l : List Int) : List Int := l.mergeSort fun x y => decide (x ≤ y)
theorem srt_len (l : List Int) : (srt l).length = l.length := List.length_mergeSort l
set_option maxHeartbeats 1000000 in
theorem sortZ_any (l : List Int) (a : Option Addr) (cap base : Nat) (w : World) (hown : Own zC 1 3 w base (.slice a l.length cap) l) (hl : l.length ≤ 1000000) :
 Calls Tryz.prog 109 #[.slice a l.length cap] w fun e w' =>
  e = .returned (.tuple #[]) ∧ Own zC 1 3 w' base (.slice a l.length cap) (srt l) ∧ w.grownBy w' (Value.slice a l.length cap).ownBlock := by
 by_cases h0 : l = []
 · subst h0
   have h := Tryz.slices_Sort_int_none a cap w
   change Calls Tryz.prog 109 _ w _ at h
   refine h.mono ?_
   rintro e w' ⟨rfl, rfl⟩
   exact ⟨rfl, by simpa [srt] using hown, ⟨rfl, rfl, rfl, Nat.le_refl _, fun _ _ _ => rfl⟩⟩
 · obtain ⟨q, c, he, _, hq⟩ := hown.open (List.length_pos_iff.2 h0)
   injection he with e1 e2 e3
   subst e1 e3
   have h := Tryz.slices_Sort_int q 0 cap l w (holdsZ hown) hq (by omega)
   refine h.mono ?_
   rintro e w' ⟨rfl, m, os, rfl⟩
   have hlen := srt_len l
   unfold srt at *
   obtain ⟨S, hS⟩ : ∃ S, l.mergeSort (fun x y => decide (x ≤ y)) = S := ⟨_, rfl⟩
   rw [hS] at hlen ⊢
   rw [putRow_map]
   obtain ⟨k1, k2⟩ := own_put hown (S.toArray.map (Value.int .i64)) (by simp [hlen]) m os
   rw [show (S.toArray.map (Value.int .i64)).toList = S.flatMap zC from by rw [flatZ]; simp] at k1
   refine ⟨rfl, ?_, k2⟩
   unfold Own
   rw [hlen]
   exact k1
def upI {α : Type} (F : Nat → α → α) (l : List α) (k : Nat) : List α := l.mapIdx fun i x => if i < k then F i x else x
section
variable {α : Type} (F : Nat → α → α) (l : List α)
theorem upI_zero : upI F l 0 = l := by
 unfold upI
 apply List.ext_getElem?
 intro i
 rw [List.getElem?_mapIdx]
 cases l[i]? <;> simp
theorem upI_all : upI F l l.length = l.mapIdx F := by
 unfold upI
 apply List.ext_getElem?
 intro i
 rw [List.getElem?_mapIdx, List.getElem?_mapIdx]
 cases h : l[i]? with
 | none => rfl
 | some x => simp [(List.getElem?_eq_some_iff.1 h).1]
theorem upI_len (k : Nat) : (upI F l k).length = l.length := by
 unfold upI
 rw [List.length_mapIdx]
theorem upI_at (k : Nat) : (upI F l k)[k]? = l[k]? := by
 unfold upI
 rw [List.getElem?_mapIdx]
 cases l[k]? <;> simp
theorem upI_set (k : Nat) (x : α) (hx : l[k]? = some x) : (upI F l k).set k (F k x) = upI F l (k + 1) := by
 apply List.ext_getElem?
 intro i
 rw [List.getElem?_set]
 have hk := (List.getElem?_eq_some_iff.1 hx).1
 unfold upI
 rw [List.getElem?_mapIdx, List.getElem?_mapIdx, List.length_mapIdx]
 by_cases e : k = i
 · subst e
   rw [if_pos rfl, if_pos hk, hx]
   simp
 · rw [if_neg e]
   cases h : l[i]? with
   | none => rfl
   | some y =>
    simp only [Option.map_some]
    congr 1
    by_cases h2 : i < k
    · rw [if_pos h2, if_pos (by omega)]
    · rw [if_neg h2, if_neg (by omega)]
end
def LvRet (Z : Acv) (w : World) (e : Ending) (w' : World) : Prop :=
 Below w.heap.size w w' ∧ ∃ a b c ca cb cc, e = .returned (.tuple #[actV Z a b c ca cb cc, .int .i64 0]) ∧ ActIn w' Z a b c ∧ ∀ g, (a = some g ∨ b = some g ∨ c = some g) → w.heap.size ≤ g.block
end Go.Proofs.YtgdepcnfjmobjaaGreat

/- A text of this claim. -/
namespace Go.Proofs.YtgdepcnfjmobjaaGreat
open Go.RowKit Go.BigFrame
open Tr (inR Ed)
theorem winZ_len (l : List Sm) (w i : Nat) : (winZ l w i).length = min (i + w + 1) l.length - (i - w) := by
 unfold winZ
 rw [List.length_map, List.length_drop, List.length_take]
 omega
theorem winZ_take {l : List Sm} {w i j : Nat} {x : Sm} (hj : j < min (i + w + 1) l.length - (i - w)) (hx : l[i - w + j]? = some x) : (winZ l w i).take (j + 1) = (winZ l w i).take j ++ [x.z] := by
 rw [List.take_add_one]
 congr 1
 unfold winZ
 rw [List.getElem?_map, List.getElem?_drop, List.getElem?_take_of_lt (by omega), hx]
 rfl
theorem mid_at {zs : List Int} {m : Nat} (h : zs.length = m) (h0 : 0 < m) : (srt zs)[(m - 1) / 2]? = some (midL zs) := by
 have hl := srt_len zs
 unfold midL srt at *
 rw [h] at hl ⊢
 rw [List.getElem?_eq_getElem (by rw [hl]; omega), List.getD_eq_getElem?_getD, List.getElem?_eq_getElem (by rw [hl]; omega)]
 rfl
set_option maxHeartbeats 16000000 in
set_option maxRecDepth 100000 in
theorem level_any (A : Acv) (a b c : Option Addr) (ca cb cc : Nat) (nn : Nat) (w : World) (h : ActIn w A a b c) (oA : AcOk A) (hca : A.sm.length ≤ ca) (hnn : nn ≤ 50) :
 Calls Tryz.prog 106 #[actV A a b c ca cb cc, .int .i64 (nn : Int)] w fun e w' => LvRet { A with sm := levelS A.sm nn } w e w' := by
 obtain ⟨V0, hV0, hb0, hs0, ha0⟩ := alloc_ac w A.name A.sport A.start (.slice a A.sm.length ca) (.slice b A.lp.length cb) (.slice c A.tg.length cc)
 obtain ⟨V1, hV1, hb1, hs1, ha1⟩ := alloc_ac V0 ⟨#[]⟩ 0 0 (.slice none 0 0) (.slice none 0 0) (.slice none 0 0)
 rw [hs0] at ha1
 have hA0 := ha0.below hb1
 have HB := Lib.hid (below_step hb0 hb1)
 have HSZ := Lib.hid (show V1.heap.size = w.heap.size + 2 from by omega)
 have HIN := Lib.hid (h.below HB.out)
 have HIW := Lib.hid h.sm
 have HOA := Lib.hid oA
 have HA1 := Lib.hid ha1
 have DC := Lib.hid (show Calls Tryz.prog 14 #[.agg #[.string A.name, .int .i64 A.sport, .int .i64 A.start, .slice a A.sm.length ca, .slice b A.lp.length cb, .slice c A.tg.length cc]] V1 fun e w'' => e = .returned (.int .i64 0) ∧ Below V1.heap.size V1 w'' from by
  have h := check_any A a b c ca cb cc V1 HIN.out
  unfold ChkG actV at h
  rw [chkA_zero.2 HOA.out] at h
  exact h)
 have DI := Lib.hid (fun W => (show Calls Tryz.prog 108 #[.int .i64 (nn : Int), .int .i64 0, .int .i64 50] W fun e w' => e = .returned (.bool true) ∧ W = w' from by
  have h := kin_any (nn : Int) 0 50 W
  rw [show inR (nn : Int) 0 50 = true from inR_iff.2 (by omega)] at h
  exact h))
 have HA0 := Lib.hid hA0
 obtain ⟨g0, g1, g2, g3, g4, g5⟩ := hA0.cell
 clear h oA hb0 hb1 ha0 ha1 hA0 hs1
 unfold actV
 go_enter Tryz.func106, Tryz.ntmps106
 go_upto_region 1 with (fail)
 clear hV0 hV1 hs0
 go_wp2_with fail
 refine (DC.out).mono ?_
 rintro e w1 ⟨rfl, hb1⟩
 have HB1 := Lib.hid hb1
 have DCL := Lib.hid (show Calls Tryz.prog 15 #[.agg #[.string A.name, .int .i64 A.sport, .int .i64 A.start, .slice a A.sm.length ca, .slice b A.lp.length cb, .slice c A.tg.length cc]] w1 fun e w'' => CloneRet A w1 e w'' from by
  have h := cloneA_any A a b c ca cb cc w1 (HIN.out.below hb1) (by have := HOA.out.nsm; omega) (by have := HOA.out.nlp; omega) (by have := HOA.out.ntg; omega)
  unfold actV at h
  exact h)
 obtain ⟨q0, q1, q2, q3, q4, q5⟩ := (HA0.out.below hb1).cell
 clear hb1 g0 g1 g2 g3 g4 g5
 go_wp2_with fail
 refine (DI.out _).mono ?_
 rintro e w2 ⟨rfl, rfl⟩
 go_wp2_with fail
 refine (DCL.out).mono ?_
 unfold CloneRet
 rintro e w2 ⟨⟨a1, b1, c1, ca1, cb1, cc1, rfl, ho3⟩, hb2⟩
 unfold actV
 obtain ⟨T, hT⟩ : ∃ T, w2.heap.size = T := ⟨_, rfl⟩
 obtain ⟨W, hW, hbW, hsW, haW⟩ := alloc_ac w2 A.name A.sport A.start (.slice a1 A.sm.length ca1) (.slice b1 A.lp.length cb1) (.slice c1 A.tg.length cc1)
 obtain ⟨D0, hD0⟩ : ∃ D0, w1.heap.size = D0 := ⟨_, rfl⟩
 rw [hT] at haW
 rw [hD0] at ho3
 have HT := Lib.hid hT
 have HD := Lib.hid hD0
 have HO3 := Lib.hid ho3
 have HB2 := Lib.hid (show Below w.heap.size w W from below_step (below_step HB.out HB1.out) (below_step hb2 hbW))
 have HBV := Lib.hid (show Below V1.heap.size V1 W from below_step HB1.out (below_step hb2 hbW))
 have HBW := Lib.hid hbW
 have HSW := Lib.hid (show w.heap.size + 2 ≤ D0 ∧ D0 ≤ T ∧ T < W.heap.size from by
  have := HSZ.out
  have := HB1.out.size
  have := hb2.size
  have := haW.lt
  omega)
 obtain ⟨ns, hn⟩ : ∃ n, A.sm.length = n := ⟨_, rfl⟩
 have HN := Lib.hid hn
 have hns : ns ≤ 20000 := by have := HOA.out.nsm; omega
 have HSO := Lib.hid (show Own smC 7 54 W D0 (.slice a1 ns ca1) A.sm from by
  obtain ⟨B1, B2, hB1, hB2, hos, _, _, _, _⟩ := ho3.ex
  rw [hn] at hos
  exact hos.below hbW)
 have HAB := Lib.hid (show AcB W T A.name A.sport A.start (.slice a1 ns ca1) (.slice b1 A.lp.length cb1) (.slice c1 A.tg.length cc1) from hn ▸ haW)
 have HBX := Lib.hid (HA0.out.below HBV.out)
 rw [hn] at hca HBX q3 hW ⊢
 clear ho3 hb2 hbW hsW haW hD0 hn q0 q1 q2 q4 q5
 obtain ⟨y0, y1, y2, y3, y4, y5⟩ := HAB.out.cell
 go_upto_region 7 with (fail)
 clear hW q3
 go_wp2_with fail
 clear y0 y1 y2 y3 y4 y5
 have HLT := Lib.hid (fun q (hq : (Value.slice a1 ns ca1).ownBlock = some q) => show D0 ≤ q ∧ q < T from by
  have h := HSO.out.lt q hq
  obtain ⟨B1, B2, hB1, hB2, hos, _, _, _, _⟩ := HO3.out.ex
  have h2 := (hos.lt q (by rw [HN.out]; exact hq)).2
  rw [HT.out] at h2
  exact ⟨h.1, h2⟩)
 go_loopw [27] (fun iv wr => ∃ k : Nat, iv = .int .i64 k ∧ k ≤ ns ∧ Hid (Own smC 7 54 wr D0 (.slice a1 ns ca1) (upI (levS A.sm nn) A.sm k)) ∧ ∃ Z : ExtO (fun q => (Value.slice a1 ns ca1).ownBlock = some q) W, wr = Z.1) (fun iv _ => ns - (intOf iv).toNat)
 case atStart => exact ⟨0, rfl, by omega, Lib.hid (by rw [upI_zero]; exact HSO.out), ⟨W, Kept.refl _ _⟩, rfl⟩
 case round =>
  obtain ⟨k, rfl, hk, HO, Z, rfl⟩ := hrel
  have hac := HAB.out.kept Z.2 (fun e => by have := (HLT.out T e).2; omega)
  have hbx := HBX.out.kept Z.2 (fun e => by have := (HLT.out _ e).1; have := HSW.out; omega)
  by_cases hlt : k < ns
  · have t5 : decide ((k : Int) < (ns : Int)) = true := by rw [decide_eq_true_eq]; omega
    have t5' : decide (k < ns) = true := by simpa using hlt
    obtain ⟨x, hx⟩ : ∃ x, A.sm[k]? = some x := ⟨_, List.getElem?_eq_getElem (by rw [HN.out]; exact hlt)⟩
    have HX := Lib.hid hx
    have j3 := hac.cell.2.2.2.1
    have x3 := hbx.cell.2.2.2.1
    obtain ⟨lo, hlo⟩ : ∃ lo, k - nn = lo := ⟨_, rfl⟩
    obtain ⟨hi, hhi⟩ : ∃ hi, min (k + nn + 1) ns = hi := ⟨_, rfl⟩
    have e1 : IntKind.i64.wrap ((k : Int) - (nn : Int)) = (k : Int) - (nn : Int) := tm_wrap (by omega) (by omega)
    have e2 : max ((k : Int) - (nn : Int)) 0 = (lo : Int) := by omega
    have e3 : IntKind.i64.wrap ((k : Int) + (nn : Int)) = (k : Int) + (nn : Int) := tm_wrap (by omega) (by omega)
    have e4 : IntKind.i64.wrap ((k : Int) + (nn : Int) + 1) = (k : Int) + (nn : Int) + 1 := tm_wrap (by omega) (by omega)
    have e5 : min ((k : Int) + (nn : Int) + 1) (ns : Int) = (hi : Int) := by omega
    have h1 : lo ≤ hi := by omega
    have h2 : hi ≤ ca := by omega
    have h3 : lo < hi := by omega
    have e6 : ∃ m, hi - lo = m := ⟨_, rfl⟩
    obtain ⟨m, e6⟩ := e6
    have HMM := Lib.hid (show m = min (k + nn + 1) A.sm.length - (k - nn) ∧ 0 < m ∧ m ≤ 101 ∧ k - nn = lo from by rw [HN.out]; omega)
    obtain ⟨b3, o3, rfl, hb3, hd⟩ := HIW.out.here (by rw [HN.out]; omega)
    have HC := Lib.hid (fun (X : Ext Z.1) (i : Nat) (y : Sm) (hy : A.sm[i]? = some y) (j : Nat) (v : Value) (hv : (smC y)[j]? = some v) => show X.1.cell? ⟨b3, o3 + i * 7 + j, none⟩ = some v from
     below_cell X.2 (Z.2.cell (fun e => by have := (HLT.out b3 e).1; have := HSW.out; omega) (below_cell HB2.out (hd i y hy j v hv))))
    have hm1 : m ≤ 101 := by have := HMM.out; omega
    have HLO := Lib.hid hlo
    clear hd hx hlo hhi hac hbx
    go_upto_region 11 with (fail)
    go_wp2_with fail
    clear e1 e2 e3 e4 e5 e6 h1 h2 h3 j3 x3
    go_loopw [9, 46] (fun vv iv wr => ∃ j : Nat, iv = .int .i64 j ∧ j ≤ m ∧ Hid (Own zC 1 3 wr Z.1.heap.size vv ((winZ A.sm nn k).take j)) ∧ ∃ X : Ext Z.1, wr = X.1) (fun _ iv _ => m - (intOf iv).toNat)
    case atStart => exact ⟨0, rfl, by omega, Lib.hid (Own.nil _ _ _ _ _), ⟨Z.1, Below.refl _ _⟩, rfl⟩
    case round =>
     obtain ⟨j, rfl, hj, HOW, X, rfl⟩ := hrel
     by_cases hlt2 : j < m
     · have t6 : decide ((j : Int) < (m : Int)) = true := by rw [decide_eq_true_eq]; omega
       have t6' : decide (j < m) = true := by simpa using hlt2
       obtain ⟨y, hy⟩ : ∃ y, A.sm[lo + j]? = some y := ⟨_, List.getElem?_eq_getElem (by have := HMM.out; omega)⟩
       have HTK := Lib.hid (show (winZ A.sm nn k).take (j + 1) = (winZ A.sm nn k).take j ++ [y.z] from winZ_take (by have := HMM.out; omega) (by rw [HLO.out]; exact hy))
       have HTL := Lib.hid (show ((winZ A.sm nn k).take j).length = j from by rw [List.length_take, winZ_len]; have := HMM.out; omega)
       have e0 : X.1.cell? ⟨b3, o3 + lo * 7 + j * 7, none⟩ = some (.int .i64 y.tm) := by have h := HC.out X (lo + j) y hy 0 _ rfl; rw [show o3 + (lo + j) * 7 + 0 = o3 + lo * 7 + j * 7 by omega] at h; exact h
       have e1 : X.1.cell? ⟨b3, o3 + lo * 7 + j * 7 + 1, none⟩ = some (.int .i64 y.x) := by have h := HC.out X (lo + j) y hy 1 _ rfl; rw [show o3 + (lo + j) * 7 + 1 = o3 + lo * 7 + j * 7 + 1 by omega] at h; exact h
       have e2 : X.1.cell? ⟨b3, o3 + lo * 7 + j * 7 + 2, none⟩ = some (.int .i64 y.y) := by have h := HC.out X (lo + j) y hy 2 _ rfl; rw [show o3 + (lo + j) * 7 + 2 = o3 + lo * 7 + j * 7 + 2 by omega] at h; exact h
       have e3 : X.1.cell? ⟨b3, o3 + lo * 7 + j * 7 + 3, none⟩ = some (.int .i64 y.z) := by have h := HC.out X (lo + j) y hy 3 _ rfl; rw [show o3 + (lo + j) * 7 + 3 = o3 + lo * 7 + j * 7 + 3 by omega] at h; exact h
       have e4 : X.1.cell? ⟨b3, o3 + lo * 7 + j * 7 + 4, none⟩ = some (.int .i64 y.pu) := by have h := HC.out X (lo + j) y hy 4 _ rfl; rw [show o3 + (lo + j) * 7 + 4 = o3 + lo * 7 + j * 7 + 4 by omega] at h; exact h
       have e5 : X.1.cell? ⟨b3, o3 + lo * 7 + j * 7 + 5, none⟩ = some (.int .i64 y.po) := by have h := HC.out X (lo + j) y hy 5 _ rfl; rw [show o3 + (lo + j) * 7 + 5 = o3 + lo * 7 + j * 7 + 5 by omega] at h; exact h
       have e6 : X.1.cell? ⟨b3, o3 + lo * 7 + j * 7 + 6, none⟩ = some (.int .i64 y.st) := by have h := HC.out X (lo + j) y hy 6 _ rfl; rw [show o3 + (lo + j) * 7 + 6 = o3 + lo * 7 + j * 7 + 6 by omega] at h; exact h
       obtain ⟨V6, hV6, hb6, hs6, ha6⟩ := alloc_sm X.1 y
       have p3 := ha6.cell.2.2.2.1
       obtain ⟨V7, hV7, hb7, hs7, hl7⟩ := alloc_cells V6 #[.int .i64 y.z] 3
       have HC7 := Lib.hid (show V7.cell? ⟨V6.heap.size, 0, none⟩ = some (.int .i64 y.z) from hl7 0 _ rfl)
       have HO7 := Lib.hid ((HOW.out.below hb6).below hb7)
       have H7 := Lib.hid (below_step (below_step X.2 hb6) hb7)
       clear hy hb6 hs6 ha6 hb7 hs7 hl7
       go_wp2_with (at_builtin; refine append_Z rfl _ _ rfl rfl HO7.out rfl HC7.out (by have := HTL.out; have := HMM.out; omega) H7.out.size (fun g' c3 w8 ho8 hg8 hor => ?_); rw [HTL.out] at ho8 ⊢)
       have HO8 := Lib.hid ho8
       have H8 := Lib.hid (show Below Z.1.heap.size Z.1 w8 from Kept.below (O := fun q => Z.1.heap.size ≤ q) H7.out (Kept.of_grown hg8 (fun g e _ => (HO7.out.lt g e).1)) H7.out.size (fun q hq e => by omega))
       clear ho8 hg8 hor hV6 hV7 p3
       go_wp2_with fail
       go_roundw
       case rel => exact ⟨j + 1, by go_num, by omega, Lib.hid (by rw [HTK.out]; exact HO8.out), ⟨w8, H8.out⟩, rfl⟩
       case measure => simp [intOf]; omega
     · have t6 : decide ((j : Int) < (m : Int)) = false := by rw [decide_eq_false_iff_not]; omega
       have t6' : decide (j < m) = false := by simpa using hlt2
       obtain rfl : m = j := by omega
       obtain ⟨WZ, hWZ⟩ : ∃ z, winZ A.sm nn k = z := ⟨_, rfl⟩
       have hwl : WZ.length = m := by rw [← hWZ, winZ_len]; exact HMM.out.1.symm
       have how := HOW.out
       rw [hWZ, List.take_of_length_le (by omega)] at how
       obtain ⟨g9, c9, rfl, -, -⟩ := how.open (by have := HMM.out; omega)
       have DSO := Lib.hid (sortZ_any WZ (some ⟨g9, 0, none⟩) c9 Z.1.heap.size X.1 how (by have := HMM.out; omega))
       have HOQ := Lib.hid how
       have HWZ := Lib.hid hWZ
       have HWL := Lib.hid hwl
       rw [hwl] at DSO ⊢
       clear how hWZ hwl hlt2 hj HOW
       go_wp2_with fail
       refine (DSO.out).mono ?_
       rintro e w5 ⟨rfl, ho5, hg5⟩
       have hb5 : Below Z.1.heap.size Z.1 w5 := Kept.below (O := fun q => Z.1.heap.size ≤ q) X.2 (Kept.of_grown hg5 (fun g e _ => by have := (HOQ.out.lt g (by rw [HWL.out]; exact e)).1; exact this)) X.2.size (fun q hq e => by omega)
       obtain ⟨mv, hmv⟩ : ∃ z, midL WZ = z := ⟨_, rfl⟩
       have HMV := Lib.hid hmv
       have hmid : w5.cell? ⟨g9, (m - 1) / 2, none⟩ = some (.int .i64 mv) := by
        have h := (ho5.rw_ zEl).1.on (mid_at HWL.out (by have := HMM.out; omega)) 0 _ rfl
        rw [hmv, Nat.mul_one, Nat.add_zero, Nat.zero_add] at h
        exact h
       obtain ⟨Y5, rfl⟩ : ∃ Y : Ext Z.1, w5 = Y.1 := ⟨⟨w5, hb5⟩, rfl⟩
       have hac5 := (HAB.out.kept Z.2 (fun e => by have := (HLT.out T e).2; omega)).below Y5.2
       have j3 := hac5.cell.2.2.2.1
       have J3 := Ext.ex j3
       have MID := Ext.ex hmid
       have e1 : IntKind.i64.wrap ((m : Int) - 1) = (m : Int) - 1 := tm_wrap (by omega) (by omega)
       obtain ⟨md, hmd⟩ : ∃ md, (m - 1) / 2 = md := ⟨_, rfl⟩
       have e2 : Int.tdiv ((m : Int) - 1) 2 = (md : Int) := by have := HMM.out; rw [Int.tdiv_eq_ediv_of_nonneg (by omega)]; omega
       have e3 : md < m := by have := HMM.out; omega
       rw [hmd] at MID
       clear hmv hmid j3 hac5 ho5 hg5 hb5 hmd
       go_upto_region 17 with (fail)
       refine late_start (s := 12) (C := fun w' => ∃ Y : Ext Y5.1, w' = Y.1) (by kernel_rfl) ?_
       obtain ⟨Q0, hQ0⟩ : ∃ Y : Ext Y5.1, ({ Y5.1 with drawn := Y5.1.drawn + 1 } : World) = Y.1 := ⟨⟨{ Y5.1 with drawn := Y5.1.drawn + 1 }, ⟨rfl, rfl, rfl, Nat.le_refl _, fun _ _ => rfl⟩⟩, rfl⟩
       rw [hQ0]
       clear hQ0
       refine late_quiet (by kernel_rfl) (fun _ _ d _ _ h => by cases d <;> exact h) ⟨Q0, rfl⟩ [0, 1, 2, 3, 4] 8 _ _ (by kernel_rfl) (by kernel_rfl) ?_
       change wpQuiet _ _ _ _ (_ :: _ :: _ :: _ :: _ :: []) _
       repeat go_big_quiet_step (fail)
       refine wpQuiet_nil ?_
       refine late_do (i := 5) _ rfl (by kernel_rfl) rfl (fun K hK => ?_)
       go_simp
       refine hK _ _ (fun _ => ⟨Q0, rfl⟩) ?_
       clear hK K
       try simp only [Act.put, List.setIfInBounds_toArray, List.set_cons_zero, List.set_cons_succ]
       refine late_quiet (by kernel_rfl) (fun _ _ d _ _ h => by cases d <;> exact h) ⟨Q0, rfl⟩ [6, 7] 5 _ _ (by kernel_rfl) (by kernel_rfl) ?_
       change wpQuiet _ _ _ _ (_ :: _ :: []) _
       repeat go_big_quiet_step (fail)
       refine wpQuiet_nil ?_
       refine late_quiet (by kernel_rfl) (fun _ _ d _ _ h => by cases d <;> exact h) ⟨Q0, rfl⟩ [8, 9] 3 _ _ (by kernel_rfl) (by kernel_rfl) ?_
       change wpQuiet _ _ _ _ (_ :: _ :: []) _
       repeat go_big_quiet_step (fail)
       refine wpQuiet_nil ?_
       have hlenU := upI_len (levS A.sm nn) A.sm k
       have hat := (upI_at (levS A.sm nn) A.sm k).trans HX.out
       obtain ⟨q, c', he, -, hq2⟩ := HO.out.open (by rw [hlenU, HN.out]; omega)
       injection he with he1 he2 he3
       subst he1
       subst he3
       have ho5 := (HO.out.below (below_step Y5.2 Q0.2) : Own smC 7 54 Q0.1 D0 (.slice (some ⟨q, 0, none⟩) ns ca1) (upI (levS A.sm nn) A.sm k))
       have f5 := ho5.free (k * 7 + 3)
       have c5 : Q0.1.cell? ⟨q, k * 7 + 3, none⟩ = some (.int .i64 x.z) := by
        have h := (ho5.rw_ smEl).1.on hat 3 _ rfl
        simpa using h
       obtain ⟨hos, hks⟩ := ho5.set smEl (j := 3) hat (by decide) (y := levS A.sm nn k x) (u := .int .i64 mv) (by rw [← HMV.out, ← HWZ.out]; rfl)
       obtain ⟨W9, hW9⟩ : ∃ z, Q0.1.setCell ⟨q, k * 7 + 3, none⟩ (.int .i64 mv) = z := ⟨_, rfl⟩
       rw [hW9] at hos hks
       rw [upI_set _ _ _ _ HX.out] at hos
       have HOS := Lib.hid hos
       have HKS := Lib.hid (((Z.2.trans (Kept.of_below Y5.2)).trans (Kept.of_below Q0.2)).trans (show Kept (fun x => (Value.slice (some ⟨q, 0, none⟩) ns ca1).ownBlock = some x) Q0.1 W9 from ⟨hks.os, hks.tape, hks.output, hks.size, fun x hx ho => hks.block x hx (fun e => ho (by rw [e]; rfl))⟩))
       clear ho5 hos hks hat hlenU he2 hq2
       refine late_quiet (by kernel_rfl) (fun _ _ d _ _ h => by cases d <;> exact h) ⟨Q0, rfl⟩ [10, 11] 1 _ _ (by kernel_rfl) (by kernel_rfl) ?_
       change wpQuiet _ _ _ _ (_ :: _ :: []) _
       repeat go_big_quiet_step (fail)
       refine wpQuiet_nil ?_
       refine late_do (i := 12) _ rfl (by kernel_rfl) rfl (fun K hK => ?_)
       go_simp
       refine hK _ _ (fun h => nomatch (show true = false from h)) ?_
       clear hK K
       try simp only [Act.put, List.setIfInBounds_toArray, List.set_cons_zero, List.set_cons_succ]
       refine late_done (by kernel_rfl) ?_ _
       clear c5 f5 hW9 J3 MID e1 e2 e3
       go_wp2_with fail
       go_roundw
       case rel => exact ⟨k + 1, by go_num, by omega, HOS, ⟨W9, HKS.out⟩, rfl⟩
       case measure => simp [intOf]; omega
  · have t5 : decide ((k : Int) < (ns : Int)) = false := by rw [decide_eq_false_iff_not]; omega
    have t5' : decide (k < ns) = false := by simpa using hlt
    obtain rfl : ns = k := by omega
    have hLen : (levelS A.sm nn).length = ns := by unfold levelS; rw [List.length_mapIdx, HN.out]
    have HOF := Lib.hid (show Own smC 7 54 Z.1 D0 (.slice a1 ns ca1) (levelS A.sm nn) from by
     have h := HO.out
     rw [show upI (levS A.sm nn) A.sm ns = levelS A.sm nn from by rw [← HN.out, upI_all]; rfl] at h
     exact h)
    have HLEN := Lib.hid hLen
    obtain ⟨y0, y1, y2, y3, y4, y5⟩ := hac.cell
    have hR := (HA1.out.below HBV.out).kept Z.2 (fun e => by have := (HLT.out _ e).1; have := HSW.out; omega)
    obtain ⟨r0, r1, r2, r3, r4, r5⟩ := hR.cell
    have fr := hR.free
    obtain ⟨WF, hWF, haF, hkF⟩ := hR.store A.name A.sport A.start (.slice a1 ns ca1) (.slice b1 A.lp.length cb1) (.slice c1 A.tg.length cc1)
    have HAF := Lib.hid haF
    have HKF := Lib.hid (hkF (fun q => q = w.heap.size + 1) rfl)
    have HBF := Lib.hid (show Below w.heap.size w WF from by
     have h1 : Below w.heap.size w Z.1 := Kept.below HB2.out Z.2 HB2.out.size (fun q hq e => by have := (HLT.out q e).1; have := HSW.out; omega)
     exact Kept.below h1 HKF.out h1.size (fun k hk e => by omega))
    have HAI := Lib.hid (show ActIn WF { A with sm := levelS A.sm nn } a1 b1 c1 ∧ ∀ g, (a1 = some g ∨ b1 = some g ∨ c1 = some g) → D0 ≤ g.block from by
     obtain ⟨B1, B2, hB1, hB2, hos, hs, hol, hl, hot⟩ := HO3.out.ex
     obtain ⟨l1, _, l3⟩ := hol.rw_ lpEl
     obtain ⟨t1, _, t3⟩ := hot.rw_ tgEl
     have hof : Own smC 7 54 WF D0 (.slice a1 ns ca1) (levelS A.sm nn) := HOF.out.keepO HKF.out (fun q hq e => by have := (HLT.out q hq).1; have := HSW.out; omega)
     obtain ⟨s1, _, s3⟩ := hof.rw_ smEl
     have hsz := HSW.out
     have hl1 : ∀ bb off, b1 = some ⟨bb, off, none⟩ → B1 ≤ bb := fun bb off e => (l3 _ e).1
     have hl2 : ∀ bb off, c1 = some ⟨bb, off, none⟩ → B2 ≤ bb := fun bb off e => (t3 _ e).1
     have hap : ∀ q, (Value.slice a1 ns ca1).ownBlock = some q → q < B1 := fun q hq => hs q (by rw [HN.out]; exact hq)
     refine ⟨⟨s1, ((l1.below HBW.out).kept Z.2 (fun bb off e h => by have := hl1 bb off e; have := hap bb h; omega)).kept HKF.out (fun bb off e h => by have := hl1 bb off e; omega), ((t1.below HBW.out).kept Z.2 (fun bb off e h => by have := hl2 bb off e; have := hap bb h; omega)).kept HKF.out (fun bb off e h => by have := hl2 bb off e; omega), HIN.out.name, HIN.out.titles, HIN.out.tags, ?_, HIN.out.nlp, HIN.out.ntg⟩, ?_⟩
     · show ((levelS A.sm nn).length : Int) ≤ _
       rw [HLEN.out]
       omega
     · rintro g (e | e | e)
       · exact (s3 _ e).1
       · have := (l3 _ e).1
         omega
       · have := (t3 _ e).1
         omega)
    have HD0 := Lib.hid (show w.heap.size ≤ D0 from by have := HSW.out; omega)
    clear hlt hk hac HO hLen haF hkF hR hbx
    go_wp2_with fail
    have q := HAF.out.cell
    refine bodyPost_ret (v := .tuple #[.agg #[.string A.name, .int .i64 A.sport, .int .i64 A.start, .slice a1 ns ca1, .slice b1 A.lp.length cb1, .slice c1 A.tg.length cc1], .int .i64 0]) (by simp [results, Tryz.results106, go_sem, q]) rfl ⟨HBF.out, a1, b1, c1, ca1, cb1, cc1, ?_, HAI.out.1, fun g hg => Nat.le_trans HD0.out (HAI.out.2 g hg)⟩
    unfold actV
    simp only [HLEN.out]
end Go.Proofs.YtgdepcnfjmobjaaGreat

/- A text of this claim. -/
namespace Go.Proofs.YtgdepcnfjmobjaaGreat
open Go.RowKit Go.BigFrame
theorem mapR_at (lo hi : Nat) (f : Sm → Sm) (l : List Sm) (j : Nat) : (mapR lo hi f l)[j]? = (l[j]?).map fun s => if lo ≤ j ∧ j < hi then f s else s := by
 unfold mapR
 rw [List.getElem?_mapIdx]
theorem mapR_nil (lo : Nat) (f : Sm → Sm) (l : List Sm) : mapR lo lo f l = l := by
 apply List.ext_getElem?
 intro j
 rw [mapR_at]
 cases l[j]? with
 | none => rfl
 | some s => simp only [Option.map_some]; rw [if_neg (by omega)]
theorem mapR_here (lo k : Nat) (f : Sm → Sm) (l : List Sm) : (mapR lo k f l)[k]? = l[k]? := by
 rw [mapR_at]
 cases l[k]? with
 | none => rfl
 | some s => simp only [Option.map_some]; rw [if_neg (by omega)]
theorem mapR_set {lo k : Nat} (f : Sm → Sm) {l : List Sm} {s : Sm} (h : lo ≤ k) (hs : l[k]? = some s) : (mapR lo k f l).set k (f s) = mapR lo (k + 1) f l := by
 apply List.ext_getElem?
 intro j
 rw [List.getElem?_set, mapR_at, mapR_at, mapR_len]
 have hk := (List.getElem?_eq_some_iff.1 hs).1
 by_cases e : k = j
 · subst e
   rw [if_pos rfl, if_pos hk, hs]
   simp only [Option.map_some]
   rw [if_pos (by omega)]
 · rw [if_neg e]
   cases l[j]? with
   | none => rfl
   | some y =>
    simp only [Option.map_some]
    by_cases h2 : lo ≤ j ∧ j < k
    · rw [if_pos h2, if_pos (by omega)]
    · rw [if_neg h2, if_neg (by omega)]
theorem setN_tm (c : Nat) (v : Int) (s : Sm) : (setN c v s).tm = s.tm := by
 unfold setN
 split
 · rfl
 · split <;> rfl
theorem getN_other {c d : Nat} (hc : c ≤ 2) (hd : d ≤ 2) (h : d ≠ c) (v : Int) (s : Sm) : getN d (setN c v s) = getN d s := by
 have h1 : c = 0 ∨ c = 1 ∨ c = 2 := by omega
 have h2 : d = 0 ∨ d = 1 ∨ d = 2 := by omega
 rcases h1 with rfl | rfl | rfl <;> rcases h2 with rfl | rfl | rfl <;> first | exact absurd rfl h | rfl
theorem passN_low {gap : Int} {c : Nat} {src out : List Sm} {i : Nat} {q : Sm} (hq : src[i]? = some q) (h : getN c q < 0) : passN gap c src out (i + 1) = passN gap c src out i := by
 rw [passN, hq]
 simp only
 rw [if_pos h]
theorem passN_first {gap : Int} {c : Nat} {src out R : List Sm} {i : Nat} {q : Sm} (hq : src[i]? = some q) (h : ¬ getN c q < 0) (hr : passN gap c src out i = (R, none)) : passN gap c src out (i + 1) = (R, some i) := by
 rw [passN, hq]
 simp only
 rw [if_neg h, hr]
theorem passN_far {gap : Int} {c : Nat} {src out R : List Sm} {i l : Nat} {p q : Sm} (hq : src[i]? = some q) (h : ¬ getN c q < 0) (hr : passN gap c src out i = (R, some l)) (hp : src[l]? = some p) (hg : ¬ q.tm - p.tm ≤ gap) : passN gap c src out (i + 1) = (R, some i) := by
 rw [passN, hq]
 simp only
 rw [if_neg h, hr]
 simp only
 rw [hp]
 simp only
 rw [if_neg hg]
theorem passN_near {gap : Int} {c : Nat} {src out R : List Sm} {i l : Nat} {p q : Sm} (hq : src[i]? = some q) (h : ¬ getN c q < 0) (hr : passN gap c src out i = (R, some l)) (hp : src[l]? = some p) (hg : q.tm - p.tm ≤ gap) : passN gap c src out (i + 1) = (mapR (l + 1) i (fillB c p q) R, some i) := by
 rw [passN, hq]
 simp only
 rw [if_neg h, hr]
 simp only
 rw [hp]
 simp only
 rw [if_pos hg]
theorem passN_last {gap : Int} {c : Nat} {src out : List Sm} : ∀ {i l : Nat}, (passN gap c src out i).2 = some l → l < i ∧ ∃ p, src[l]? = some p ∧ ¬ getN c p < 0
 | 0, _, h => by rw [passN] at h; cases h
 | i + 1, l, h => by
  cases hq : src[i]? with
  | none =>
   rw [passN, hq] at h
   obtain ⟨h1, h2⟩ := passN_last h
   exact ⟨by omega, h2⟩
  | some q =>
   by_cases h0 : getN c q < 0
   · rw [passN_low hq h0] at h
     obtain ⟨h1, h2⟩ := passN_last h
     exact ⟨by omega, h2⟩
   · have : (passN gap c src out (i + 1)).2 = some i := by
      rw [passN, hq]
      simp only
      rw [if_neg h0]
      split
      · rfl
      · split
        · rfl
        · split <;> rfl
     rw [this] at h
     injection h with h
     subst h
     exact ⟨by omega, q, hq, h0⟩
theorem passN_keep {gap : Int} {c : Nat} {src out : List Sm} : ∀ {i : Nat}, (∀ j, i ≤ j → (passN gap c src out i).1[j]? = out[j]?) ∧ ∀ l, (passN gap c src out i).2 = some l → (passN gap c src out i).1[l]? = out[l]?
 | 0 => ⟨fun _ _ => rfl, fun _ h => by rw [passN] at h; cases h⟩
 | i + 1 => by
  obtain ⟨ih1, ih2⟩ := @passN_keep gap c src out i
  cases hq : src[i]? with
  | none =>
   rw [show passN gap c src out (i + 1) = passN gap c src out i by rw [passN, hq]]
   exact ⟨fun j hj => ih1 j (by omega), ih2⟩
  | some q =>
   by_cases h0 : getN c q < 0
   · rw [passN_low hq h0]
     exact ⟨fun j hj => ih1 j (by omega), ih2⟩
   · cases hr : passN gap c src out i with
     | mk R la =>
      rw [hr] at ih1 ih2
      cases la with
      | none =>
       rw [passN_first hq h0 hr]
       exact ⟨fun j hj => ih1 j (by omega), fun l hl => by injection hl with hl; subst hl; exact ih1 _ (Nat.le_refl _)⟩
      | some l =>
       obtain ⟨hl, p, hp, _⟩ := passN_last (show (passN gap c src out i).2 = some l by rw [hr])
       by_cases hg : q.tm - p.tm ≤ gap
       · rw [passN_near hq h0 hr hp hg]
         have hm : ∀ j, i ≤ j → (mapR (l + 1) i (fillB c p q) R)[j]? = out[j]? := fun j hj => by
          rw [mapR_at, ih1 j hj]
          cases out[j]? with
          | none => rfl
          | some s => simp only [Option.map_some]; rw [if_neg (by omega)]
         exact ⟨fun j hj => hm j (by omega), fun k hk => by injection hk with hk; subst hk; exact hm _ (Nat.le_refl _)⟩
       · rw [passN_far hq h0 hr hp hg]
         exact ⟨fun j hj => ih1 j (by omega), fun k hk => by injection hk with hk; subst hk; exact ih1 _ (Nat.le_refl _)⟩
theorem passN_view {β : Type} (V : Sm → β) {gap : Int} {c : Nat} (hV : ∀ v s, V (setN c v s) = V s) {src out : List Sm} : ∀ {i : Nat} (j : Nat), ((passN gap c src out i).1[j]?).map V = (out[j]?).map V
 | 0, _ => rfl
 | i + 1, j => by
  have ih := @passN_view β V gap c hV src out i j
  cases hq : src[i]? with
  | none =>
   rw [show passN gap c src out (i + 1) = passN gap c src out i by rw [passN, hq]]
   exact ih
  | some q =>
   by_cases h0 : getN c q < 0
   · rw [passN_low hq h0]
     exact ih
   · cases hr : passN gap c src out i with
     | mk R la =>
      rw [hr] at ih
      cases la with
      | none =>
       rw [passN_first hq h0 hr]
       exact ih
      | some l =>
       obtain ⟨hl, p, hp, _⟩ := passN_last (show (passN gap c src out i).2 = some l by rw [hr])
       by_cases hg : q.tm - p.tm ≤ gap
       · rw [passN_near hq h0 hr hp hg]
         rw [← ih]
         show ((mapR (l + 1) i (fillB c p q) R)[j]?).map V = (R[j]?).map V
         rw [mapR_at]
         cases R[j]? with
         | none => rfl
         | some s =>
          simp only [Option.map_some]
          split
          · unfold fillB
            rw [hV]
          · rfl
       · rw [passN_far hq h0 hr hp hg]
         exact ih
theorem fillB_same {c : Nat} {p p' q q' : Sm} (h1 : (p.tm, getN c p) = (p'.tm, getN c p')) (h2 : (q.tm, getN c q) = (q'.tm, getN c q')) : fillB c p q = fillB c p' q' := by
 injection h1 with a1 a2
 injection h2 with b1 b2
 funext s
 unfold fillB
 rw [a1, a2, b1, b2]
theorem passN_src {gap : Int} {c : Nat} {src src' out : List Sm} (h : ∀ j : Nat, (src[j]?).map (fun s => (s.tm, getN c s)) = (src'[j]?).map (fun s => (s.tm, getN c s))) : ∀ i, passN gap c src out i = passN gap c src' out i
 | 0 => rfl
 | i + 1 => by
  have ih := passN_src (gap := gap) (out := out) h i
  have hi := h i
  rw [passN, passN, ih]
  cases hq : src[i]? with
  | none =>
   cases hq' : src'[i]? with
   | none => rfl
   | some q' => rw [hq, hq'] at hi; cases hi
  | some q =>
   cases hq' : src'[i]? with
   | none => rw [hq, hq'] at hi; cases hi
   | some q' =>
    rw [hq, hq'] at hi
    simp only [Option.map_some] at hi
    injection hi with hi
    have e1 : q.tm = q'.tm := congrArg Prod.fst hi
    have e2 : getN c q = getN c q' := congrArg Prod.snd hi
    simp only
    rw [e2]
    split
    · rfl
    · cases hr : (passN gap c src' out i).2 with
      | none => rfl
      | some l =>
       simp only
       have hl := h l
       cases hp : src[l]? with
       | none =>
        cases hp' : src'[l]? with
        | none => rfl
        | some p' => rw [hp, hp'] at hl; cases hl
       | some p =>
        cases hp' : src'[l]? with
        | none => rw [hp, hp'] at hl; cases hl
        | some p' =>
         rw [hp, hp'] at hl
         simp only [Option.map_some] at hl
         injection hl with hl
         have e3 : p.tm = p'.tm := congrArg Prod.fst hl
         simp only
         rw [fillB_same hl hi, e1, e3]
def pass (gap : Int) (c : Nat) (l : List Sm) : List Sm := passF gap c l l
theorem pass_view {β : Type} (V : Sm → β) {gap : Int} {c : Nat} (hV : ∀ v s, V (setN c v s) = V s) (l : List Sm) (j : Nat) : ((pass gap c l)[j]?).map V = (l[j]?).map V := passN_view V hV j
theorem pass_len (gap : Int) (c : Nat) (l : List Sm) : (pass gap c l).length = l.length := passF_len _ _ _ _
theorem fillA_pass (gap : Int) (sm : List Sm) : fillA gap sm = pass gap 2 (pass gap 1 (pass gap 0 sm)) := by
 have v1 : ∀ (v : Int) (s : Sm), (fun s : Sm => (s.tm, getN 1 s)) (setN 0 v s) = (fun s : Sm => (s.tm, getN 1 s)) s := fun v s => rfl
 have v2 : ∀ (v : Int) (s : Sm), (fun s : Sm => (s.tm, getN 2 s)) (setN 0 v s) = (fun s : Sm => (s.tm, getN 2 s)) s := fun v s => rfl
 have v3 : ∀ (v : Int) (s : Sm), (fun s : Sm => (s.tm, getN 2 s)) (setN 1 v s) = (fun s : Sm => (s.tm, getN 2 s)) s := fun v s => rfl
 have e1 : passF gap 1 sm (pass gap 0 sm) = pass gap 1 (pass gap 0 sm) := by
  show (passN gap 1 sm (pass gap 0 sm) sm.length).1 = (passN gap 1 (pass gap 0 sm) (pass gap 0 sm) (pass gap 0 sm).length).1
  rw [pass_len, passN_src (fun j => (pass_view _ v1 sm j).symm)]
 have e2 : passF gap 2 sm (pass gap 1 (pass gap 0 sm)) = pass gap 2 (pass gap 1 (pass gap 0 sm)) := by
  show (passN gap 2 sm (pass gap 1 (pass gap 0 sm)) sm.length).1 = (passN gap 2 (pass gap 1 (pass gap 0 sm)) (pass gap 1 (pass gap 0 sm)) (pass gap 1 (pass gap 0 sm)).length).1
  rw [pass_len, pass_len, passN_src (fun j => ((pass_view _ v3 (pass gap 0 sm) j).trans (pass_view _ v2 sm j)).symm)]
 unfold fillA
 rw [show passF gap 0 sm sm = pass gap 0 sm from rfl, e1, e2]
theorem smC_num {c : Nat} (hc : c ≤ 2) (s : Sm) : (smC s)[4 + c]? = some (.int .i64 (getN c s)) := by
 have h1 : c = 0 ∨ c = 1 ∨ c = 2 := by omega
 rcases h1 with rfl | rfl | rfl <;> rfl
theorem smC_set {c : Nat} (hc : c ≤ 2) (s : Sm) (v : Int) : (smC s).set (4 + c) (.int .i64 v) = smC (setN c v s) := by
 have h1 : c = 0 ∨ c = 1 ∨ c = 2 := by omega
 rcases h1 with rfl | rfl | rfl <;> rfl
structure PassOk (c : Nat) (l : List Sm) : Prop where
 len : l.length ≤ 20000
 inc : ∀ (i j : Nat) (p q : Sm), i < j → l[i]? = some p → l[j]? = some q → p.tm < q.tm
 rng : ∀ (i : Nat) (p : Sm), l[i]? = some p → (0 ≤ p.tm ∧ p.tm ≤ 1000000) ∧ -100000000 ≤ getN c p ∧ getN c p ≤ 100000000
theorem PassOk.of {c : Nat} {l l' : List Sm} (h : PassOk c l) (hl : l'.length = l.length) (hv : ∀ j : Nat, (l'[j]?).map (fun s => (s.tm, getN c s)) = (l[j]?).map (fun s => (s.tm, getN c s))) : PassOk c l' := by
 have k : ∀ (i : Nat) (p : Sm), l'[i]? = some p → ∃ p', l[i]? = some p' ∧ p.tm = p'.tm ∧ getN c p = getN c p' := fun i p hp => by
  have h1 := hv i
  rw [hp] at h1
  cases hq : l[i]? with
  | none => rw [hq] at h1; cases h1
  | some q =>
   rw [hq] at h1
   simp only [Option.map_some] at h1
   injection h1 with h1
   exact ⟨q, rfl, congrArg Prod.fst h1, congrArg Prod.snd h1⟩
 refine ⟨by rw [hl]; exact h.len, fun i j p q hij hp hq => ?_, fun i p hp => ?_⟩
 · obtain ⟨p', hp', e1, _⟩ := k i p hp
   obtain ⟨q', hq', e2, _⟩ := k j q hq
   rw [e1, e2]
   exact h.inc i j p' q' hij hp' hq'
 · obtain ⟨p', hp', e1, e2⟩ := k i p hp
   rw [e1, e2]
   exact h.rng i p' hp'
theorem PassOk.pass {c d : Nat} (hc : c ≤ 2) (hd : d ≤ 2) (hne : c ≠ d) {gap : Int} {l : List Sm} (h : PassOk c l) : PassOk c (pass gap d l) := by
 refine h.of (pass_len _ _ _) (pass_view _ (fun v s => ?_) l)
 show ((setN d v s).tm, getN c (setN d v s)) = (s.tm, getN c s)
 rw [setN_tm, getN_other hd hc hne]
end Go.Proofs.YtgdepcnfjmobjaaGreat

/- A text of this claim. -/
namespace Go.Proofs.YtgdepcnfjmobjaaGreat
open Go.RowKit Go.BigFrame
open Tr (inR Ed)
set_option maxHeartbeats 1000000 in
theorem fat_any (b o : Nat) (t : Int) (w : World) (h : w.cell? ⟨b, o, none⟩ = some (.int .i64 t)) : Calls Tryz.prog 110 #[.pointer (some ⟨b, o, none⟩)] w fun e w' => e = .returned (.int .i64 t) ∧ w' = w := by
 go_enter Tryz.func110, Tryz.ntmps110
 go_wp2_with fail
 go_ret
 exact ⟨rfl, rfl⟩
set_option maxHeartbeats 1000000 in
theorem fnum_0 (b o : Nat) (w : World) : Calls Tryz.prog 112 #[.pointer (some ⟨b, o, none⟩)] w fun e w' => e = .returned (.pointer (some ⟨b, o + (4 + 0), none⟩)) ∧ w' = w := by
 go_enter Tryz.func112, Tryz.ntmps112
 go_wp2_with fail
 go_ret
 exact ⟨rfl, rfl⟩
set_option maxHeartbeats 1000000 in
theorem fnum_1 (b o : Nat) (w : World) : Calls Tryz.prog 113 #[.pointer (some ⟨b, o, none⟩)] w fun e w' => e = .returned (.pointer (some ⟨b, o + (4 + 1), none⟩)) ∧ w' = w := by
 go_enter Tryz.func113, Tryz.ntmps113
 go_wp2_with fail
 go_ret
 exact ⟨rfl, rfl⟩
set_option maxHeartbeats 1000000 in
theorem fnum_2 (b o : Nat) (w : World) : Calls Tryz.prog 114 #[.pointer (some ⟨b, o, none⟩)] w fun e w' => e = .returned (.pointer (some ⟨b, o + (4 + 2), none⟩)) ∧ w' = w := by
 go_enter Tryz.func114, Tryz.ntmps114
 go_wp2_with fail
 go_ret
 exact ⟨rfl, rfl⟩
def laI : Option Nat → Int
 | none => -1
 | some l => l
set_option maxHeartbeats 16000000 in
set_option maxRecDepth 100000 in
theorem fill_any (c : Nat) (hc : c ≤ 2) (fn : Nat) (hcf : ∀ (args : Array Value) (W : World), Sem.run Tryz.prog (callFunc fn args) W = .ok (.enter fn args) W) (DN0 : ∀ (b o : Nat) (w : World), Calls Tryz.prog fn #[.pointer (some ⟨b, o, none⟩)] w fun e w' => e = .returned (.pointer (some ⟨b, o + (4 + c), none⟩)) ∧ w' = w)
 (gap : Int) (l : List Sm) (a : Option Addr) (cap base : Nat) (w : World) (hown : Own smC 7 54 w base (.slice a l.length cap) l) (hok : PassOk c l) :
 Calls Tryz.prog 111 #[.slice a l.length cap, .int .i64 gap, .func (.func 110) #[] #[], .func (.func fn) #[] #[]] w fun e w' =>
  e = .returned (.tuple #[]) ∧ Own smC 7 54 w' base (.slice a l.length cap) (pass gap c l) ∧ Kept (fun x => (Value.slice a l.length cap).ownBlock = some x) w w' := by
 have DN := Lib.hid DN0
 have HOK := Lib.hid hok
 have HC := Lib.hid hc
 obtain ⟨n, hn⟩ : ∃ n, l.length = n := ⟨_, rfl⟩
 have hn2 : n ≤ 20000 := by have := hok.len; omega
 have HN := Lib.hid hn
 rw [hn] at hown ⊢
 have HOW := Lib.hid hown
 clear hown hok DN0 hn hc
 go_enter Tryz.func111, Tryz.ntmps111
 go_wp2_with fail
 go_loopw [8, 15] (fun lv iv wr => ∃ (k : Nat) (R : List Sm) (la : Option Nat), iv = .int .i64 k ∧ k ≤ n ∧ lv = .int .i64 (laI la) ∧ Hid (passN gap c l l k = (R, la)) ∧ Hid (Own smC 7 54 wr base (.slice a n cap) R) ∧ ∃ Z : ExtO (fun x => (Value.slice a n cap).ownBlock = some x) w, wr = Z.1) (fun _ iv _ => n - (intOf iv).toNat)
 case atStart => exact ⟨0, l, none, rfl, by omega, rfl, Lib.hid rfl, Lib.hid HOW.out, ⟨w, Kept.refl _ _⟩, rfl⟩
 case round =>
  obtain ⟨k, R, la, rfl, hk, rfl, HR, HO, Z, rfl⟩ := hrel
  have hRl : R.length = n := by
   have := passN_len gap c l l k
   rw [HR.out, HN.out] at this
   exact this
  have HRL := Lib.hid hRl
  by_cases hlt : k < n
  · have t5 : decide ((k : Int) < (n : Int)) = true := by rw [decide_eq_true_eq]; omega
    have t5' : decide (k < n) = true := by simpa using hlt
    obtain ⟨x, hx⟩ : ∃ x, l[k]? = some x := ⟨_, List.getElem?_eq_getElem (by rw [HN.out]; exact hlt)⟩
    have hRx : R[k]? = some x := by
     have := (@passN_keep gap c l l k).1 k (Nat.le_refl _)
     rw [HR.out] at this
     rw [this]
     exact hx
    obtain ⟨q, c', he, hbq, hqs⟩ := HO.out.open (by rw [hRl]; omega)
    injection he with he1 he2 he3
    subst he1
    subst he3
    have hcx : Z.1.cell? ⟨q, k * 7 + (4 + c), none⟩ = some (.int .i64 (getN c x)) := by
     have h := (HO.out.rw_ smEl).1.on hRx (4 + c) _ (smC_num HC.out x)
     simpa using h
    have htx : Z.1.cell? ⟨q, k * 7, none⟩ = some (.int .i64 x.tm) := by
     have h := (HO.out.rw_ smEl).1.on hRx 0 _ rfl
     simpa using h
    have HX := Lib.hid hx
    have HRX := Lib.hid hRx
    obtain ⟨⟨rx0, rx1⟩, rx2, rx3⟩ := HOK.out.rng k x hx
    obtain ⟨nx, hnx⟩ : ∃ z, getN c x = z := ⟨_, rfl⟩
    have HNX := Lib.hid hnx
    rw [hnx] at hcx rx2 rx3
    clear hx hRx hRl he2 hbq hqs hnx
    go_upto_region 4 with (fail)
    go_wp2_with fail
    refine (DN.out _ _ _).mono ?_
    rintro e w1 ⟨rfl, rfl⟩
    by_cases hneg : nx < 0
    · have t6 : decide (nx < 0) = true := by rw [decide_eq_true_eq]; exact hneg
      have HS := Lib.hid (show passN gap c l l (k + 1) = (R, la) from by rw [passN_low HX.out (by rw [HNX.out]; exact hneg)]; exact HR.out)
      clear hneg
      go_wp2_with fail
      go_roundw
      case rel => exact ⟨k + 1, R, la, by go_num, by omega, rfl, HS, HO, ⟨Z.1, Z.2⟩, rfl⟩
      case measure => simp [intOf]; omega
    · have t6 : decide (nx < 0) = false := by rw [decide_eq_false_iff_not]; exact hneg
      have HNG := Lib.hid (show ¬ getN c x < 0 from by rw [HNX.out]; exact hneg)
      clear hneg
      cases la with
      | none =>
       have HS := Lib.hid (passN_first HX.out HNG.out HR.out)
       unfold laI
       go_upto_region 5 with (fail)
       go_quiet (fail)
       obtain ⟨Z', hZ'⟩ : ∃ Z' : ExtO (fun x => (Value.slice (some ⟨q, 0, none⟩) n cap).ownBlock = some x) w, Z.1.drewN nq = Z'.1 := ⟨⟨Z.1.drewN nq, Z.2.trans ⟨rfl, rfl, rfl, Nat.le_refl _, fun _ _ _ => rfl⟩⟩, rfl⟩
       have HO' := Lib.hid (show Own smC 7 54 Z'.1 base (.slice (some ⟨q, 0, none⟩) n cap) R from hZ' ▸ HO.out)
       rw [hZ']
       clear hZ' hcx htx
       go_wp2_with fail
       go_roundw
       case rel => exact ⟨k + 1, R, some k, by go_num, by omega, rfl, HS, HO', Z', rfl⟩
       case measure => simp [intOf]; omega
      | some l0 =>
       obtain ⟨hl0, p, hp, hpn⟩ := passN_last (show (passN gap c l l k).2 = some l0 by rw [HR.out])
       have hRp : R[l0]? = some p := by
        have := (@passN_keep gap c l l k).2 l0 (by rw [HR.out])
        rw [HR.out] at this
        rw [this]
        exact hp
       have hcp : Z.1.cell? ⟨q, l0 * 7 + (4 + c), none⟩ = some (.int .i64 (getN c p)) := by
        have h := (HO.out.rw_ smEl).1.on hRp (4 + c) _ (smC_num HC.out p)
        simpa using h
       have htp : Z.1.cell? ⟨q, l0 * 7, none⟩ = some (.int .i64 p.tm) := by
        have h := (HO.out.rw_ smEl).1.on hRp 0 _ rfl
        simpa using h
       have HP := Lib.hid hp
       obtain ⟨⟨rp0, rp1⟩, rp2, rp3⟩ := HOK.out.rng l0 p hp
       have hinc : p.tm < x.tm := HOK.out.inc l0 k p x hl0 hp HX.out
       have HT1 := Lib.hid htp
       have HT2 := Lib.hid htx
       have t7 : decide ((l0 : Int) ≥ 0) = true := by rw [decide_eq_true_eq]; omega
       have t7' : decide ((0 : Int) ≤ (l0 : Int)) = true := by rw [decide_eq_true_eq]; omega
       have w1 : IntKind.i64.wrap (x.tm - p.tm) = x.tm - p.tm := tm_wrap (by omega) (by omega)
       have hlk : l0 < n := by omega
       obtain ⟨np, hnp⟩ : ∃ z, getN c p = z := ⟨_, rfl⟩
       have HNP := Lib.hid hnp
       rw [hnp] at hcp rp2 rp3
       clear hRp hp hpn hnp
       unfold laI
       by_cases hg : x.tm - p.tm ≤ gap
       · have t8 : decide (x.tm - p.tm ≤ gap) = true := by rw [decide_eq_true_eq]; exact hg
         have HG := Lib.hid hg
         have HS := Lib.hid (passN_near HX.out HNG.out HR.out HP.out hg)
         clear hg
         go_upto_region 5 with (fail)
         go_quiet (first | exact Calls.quiet_of_same (fat_any _ _ _ _ HT2.out) | exact Calls.quiet_of_same (fat_any _ _ _ _ HT1.out))
         obtain ⟨Z', hZ'⟩ : ∃ Z' : ExtO (fun x => (Value.slice (some ⟨q, 0, none⟩) n cap).ownBlock = some x) w, Z.1.drewN nq = Z'.1 := ⟨⟨Z.1.drewN nq, Z.2.trans ⟨rfl, rfl, rfl, Nat.le_refl _, fun _ _ _ => rfl⟩⟩, rfl⟩
         have HO' := Lib.hid (show Own smC 7 54 Z'.1 base (.slice (some ⟨q, 0, none⟩) n cap) R from hZ' ▸ HO.out)
         rw [hZ']
         have hcx' : Z'.1.cell? ⟨q, k * 7 + (4 + c), none⟩ = some (.int .i64 nx) := hZ' ▸ hcx
         have hcp' : Z'.1.cell? ⟨q, l0 * 7 + (4 + c), none⟩ = some (.int .i64 np) := hZ' ▸ hcp
         clear hZ' hcx htx hcp htp
         go_upto_region 6 with (fail)
         go_quiet (exact Calls.quiet_of_same (DN.out _ _ _))
         obtain ⟨Y, hY⟩ : ∃ Y : ExtO (fun x => (Value.slice (some ⟨q, 0, none⟩) n cap).ownBlock = some x) w, Z'.1.drewN nq = Y.1 := ⟨⟨Z'.1.drewN nq, Z'.2.trans ⟨rfl, rfl, rfl, Nat.le_refl _, fun _ _ _ => rfl⟩⟩, rfl⟩
         have HOY := Lib.hid (show Own smC 7 54 Y.1 base (.slice (some ⟨q, 0, none⟩) n cap) (mapR (l0 + 1) (l0 + 1) (fillB c p x) R) from by rw [mapR_nil]; exact hY ▸ HO'.out)
         rw [hY]
         clear hY hcx' hcp'
         have w2 : IntKind.i64.wrap ((l0 : Int) + 1) = ((l0 + 1 : Nat) : Int) := by rw [tm_wrap (by omega) (by omega)]; omega
         go_wp2_with fail
         clear HO HO' w2
         go_loopw [12] (fun kv wr => ∃ j : Nat, kv = .int .i64 j ∧ l0 + 1 ≤ j ∧ j ≤ k ∧ Hid (Own smC 7 54 wr base (.slice (some ⟨q, 0, none⟩) n cap) (mapR (l0 + 1) j (fillB c p x) R)) ∧ ∃ Y' : ExtO (fun x => (Value.slice (some ⟨q, 0, none⟩) n cap).ownBlock = some x) w, wr = Y'.1) (fun kv _ => k - (intOf kv).toNat)
         case atStart => exact ⟨l0 + 1, rfl, by omega, by omega, HOY, Y, rfl⟩
         case round =>
          obtain ⟨j, rfl, hj1, hj2, HOJ, J, rfl⟩ := hrel
          by_cases hlt2 : j < k
          · have t9 : decide ((j : Int) < (k : Int)) = true := by rw [decide_eq_true_eq]; omega
            have t9' : decide (j < k) = true := by simpa using hlt2
            obtain ⟨s, hs⟩ : ∃ s, R[j]? = some s := ⟨_, List.getElem?_eq_getElem (by rw [HRL.out]; omega)⟩
            have htm := @passN_view Int Sm.tm gap c (fun v s => setN_tm c v s) l l k j
            rw [HR.out, hs] at htm
            obtain ⟨s0, hs0⟩ : ∃ s0, l[j]? = some s0 := ⟨_, List.getElem?_eq_getElem (by rw [HN.out]; omega)⟩
            rw [hs0] at htm
            simp only [Option.map_some] at htm
            injection htm with htm
            have hps : p.tm < s.tm := by rw [htm]; exact HOK.out.inc l0 j p s0 (by omega) HP.out hs0
            have hsx : s.tm < x.tm := by rw [htm]; exact HOK.out.inc j k s0 x hlt2 hs0 HX.out
            have hm : (mapR (l0 + 1) j (fillB c p x) R)[j]? = some s := by rw [mapR_here, hs]
            have hml : (mapR (l0 + 1) j (fillB c p x) R)[l0]? = some p := by
             rw [mapR_at]
             have := (@passN_keep gap c l l k).2 l0 (by rw [HR.out])
             rw [HR.out] at this
             rw [this, HP.out]
             simp only [Option.map_some]
             rw [if_neg (by omega)]
            have hmk : (mapR (l0 + 1) j (fillB c p x) R)[k]? = some x := by
             rw [mapR_at, HRX.out]
             simp only [Option.map_some]
             rw [if_neg (by omega)]
            have T1 := Lib.hid (Ext.ex (show J.1.cell? ⟨q, l0 * 7, none⟩ = some (.int .i64 p.tm) from by
             have h := (HOJ.out.rw_ smEl).1.on hml 0 _ rfl
             simpa using h))
            have T2 := Lib.hid (Ext.ex (show J.1.cell? ⟨q, k * 7, none⟩ = some (.int .i64 x.tm) from by
             have h := (HOJ.out.rw_ smEl).1.on hmk 0 _ rfl
             simpa using h))
            have T3 := Lib.hid (Ext.ex (show J.1.cell? ⟨q, j * 7, none⟩ = some (.int .i64 s.tm) from by
             have h := (HOJ.out.rw_ smEl).1.on hm 0 _ rfl
             simpa using h))
            have hcs : J.1.cell? ⟨q, j * 7 + (4 + c), none⟩ = some (.int .i64 (getN c s)) := by
             have h := (HOJ.out.rw_ smEl).1.on hm (4 + c) _ (smC_num HC.out s)
             simpa using h
            have HMS := Lib.hid (mapR_set (fillB c p x) hj1 hs)
            have HM := Lib.hid hm
            have w3 : IntKind.i64.wrap (s.tm - p.tm) = s.tm - p.tm := tm_wrap (by omega) (by omega)
            have DB := Lib.hid (fun W => between_any np nx (s.tm - p.tm) (x.tm - p.tm) W ⟨by omega, by omega⟩ ⟨by omega, by omega⟩ (by omega) (by omega) (by omega) (by omega))
            have hj3 : j < n := by omega
            clear hs htm hs0 hm hml hmk
            go_upto_region 10 with (fail)
            refine late_start (s := 31) (C := fun w' => ∃ Y : Ext J.1, w' = Y.1) (by kernel_rfl) ?_
            obtain ⟨Q0, hQ0⟩ : ∃ Y : Ext J.1, ({ J.1 with drawn := J.1.drawn + 1 } : World) = Y.1 := ⟨⟨{ J.1 with drawn := J.1.drawn + 1 }, ⟨rfl, rfl, rfl, Nat.le_refl _, fun _ _ => rfl⟩⟩, rfl⟩
            rw [hQ0]
            clear hQ0
            refine late_quiet (by kernel_rfl) (fun _ _ d _ _ h => by cases d <;> exact h) ⟨Q0, rfl⟩ [0, 1, 2, 3, 5, 6, 7, 8, 9, 10, 12, 13, 14, 15, 18, 19, 20, 21, 23, 24, 25, 26] 10 _ _ (by kernel_rfl) (by kernel_rfl) ?_
            change wpQuiet _ _ _ _ (_ :: _ :: _ :: _ :: _ :: _ :: _ :: _ :: _ :: _ :: _ :: _ :: _ :: _ :: _ :: _ :: _ :: _ :: _ :: _ :: _ :: _ :: []) _
            repeat go_big_quiet_step (fail)
            refine wpQuiet_nil ?_
            refine late_do (i := 4) _ rfl (by kernel_rfl) rfl (fun K hK => ?_)
            go_simp
            refine (DN.out _ _ _).mono ?_
            rintro e w6 ⟨rfl, rfl⟩
            refine hK _ _ (fun _ => ⟨Q0, rfl⟩) ?_
            clear hK K
            try simp only [Act.put, List.setIfInBounds_toArray, List.set_cons_zero, List.set_cons_succ]
            refine late_do (i := 11) _ rfl (by kernel_rfl) rfl (fun K hK => ?_)
            go_simp
            refine (fat_any _ _ _ _ (T3.out Q0)).mono ?_
            rintro e w6 ⟨rfl, rfl⟩
            refine hK _ _ (fun _ => ⟨Q0, rfl⟩) ?_
            clear hK K
            try simp only [Act.put, List.setIfInBounds_toArray, List.set_cons_zero, List.set_cons_succ]
            refine late_do (i := 16) _ rfl (by kernel_rfl) rfl (fun K hK => ?_)
            go_simp
            refine (fat_any _ _ _ _ (T1.out Q0)).mono ?_
            rintro e w6 ⟨rfl, rfl⟩
            refine hK _ _ (fun _ => ⟨Q0, rfl⟩) ?_
            clear hK K
            try simp only [Act.put, List.setIfInBounds_toArray, List.set_cons_zero, List.set_cons_succ]
            refine late_quiet (by kernel_rfl) (fun _ _ d _ _ h => by cases d <;> exact h) ⟨Q0, rfl⟩ [17] 6 _ _ (by kernel_rfl) (by kernel_rfl) ?_
            change wpQuiet _ _ _ _ (_ :: []) _
            repeat go_big_quiet_step (fail)
            refine wpQuiet_nil ?_
            refine late_do (i := 22) _ rfl (by kernel_rfl) rfl (fun K hK => ?_)
            go_simp
            refine (fat_any _ _ _ _ (T2.out Q0)).mono ?_
            rintro e w6 ⟨rfl, rfl⟩
            refine hK _ _ (fun _ => ⟨Q0, rfl⟩) ?_
            clear hK K
            try simp only [Act.put, List.setIfInBounds_toArray, List.set_cons_zero, List.set_cons_succ]
            refine late_do (i := 27) _ rfl (by kernel_rfl) rfl (fun K hK => ?_)
            go_simp
            refine (fat_any _ _ _ _ (T1.out Q0)).mono ?_
            rintro e w6 ⟨rfl, rfl⟩
            refine hK _ _ (fun _ => ⟨Q0, rfl⟩) ?_
            clear hK K
            try simp only [Act.put, List.setIfInBounds_toArray, List.set_cons_zero, List.set_cons_succ]
            refine late_quiet (by kernel_rfl) (fun _ _ d _ _ h => by cases d <;> exact h) ⟨Q0, rfl⟩ [28] 3 _ _ (by kernel_rfl) (by kernel_rfl) ?_
            change wpQuiet _ _ _ _ (_ :: []) _
            repeat go_big_quiet_step (fail)
            refine wpQuiet_nil ?_
            refine late_do (i := 29) _ rfl (by kernel_rfl) rfl (fun K hK => ?_)
            go_simp
            refine (DB.out _).mono ?_
            rintro e w6 ⟨rfl, hb6⟩
            obtain ⟨Q6, rfl⟩ : ∃ Z : Ext J.1, w6 = Z.1 := ⟨⟨w6, below_step Q0.2 hb6⟩, rfl⟩
            refine hK _ _ (fun _ => ⟨Q6, rfl⟩) ?_
            clear hK K
            try simp only [Act.put, List.setIfInBounds_toArray, List.set_cons_zero, List.set_cons_succ]
            refine late_do (i := 30) _ rfl (by kernel_rfl) rfl (fun K hK => ?_)
            go_simp
            refine hK _ _ (fun _ => ⟨Q6, rfl⟩) ?_
            clear hK K
            try simp only [Act.put, List.setIfInBounds_toArray, List.set_cons_zero, List.set_cons_succ]
            have hoq := HOJ.out.below Q6.2
            have fq := hoq.free (j * 7 + (4 + c))
            have cq := below_cell Q6.2 hcs
            obtain ⟨hos, hks⟩ := hoq.set smEl (j := 4 + c) HM.out (by have := HC.out; omega) (y := fillB c p x s) (u := .int .i64 (betw np nx (s.tm - p.tm) (x.tm - p.tm))) (by rw [smC_set HC.out]; unfold fillB; rw [HNP.out, HNX.out])
            obtain ⟨W9, hW9⟩ : ∃ z, Q6.1.setCell ⟨q, j * 7 + (4 + c), none⟩ (.int .i64 (betw np nx (s.tm - p.tm) (x.tm - p.tm))) = z := ⟨_, rfl⟩
            rw [hW9] at hos hks
            rw [HMS.out] at hos
            have HOS := Lib.hid hos
            have HKS := Lib.hid ((J.2.trans (Kept.of_below Q6.2)).trans (show Kept (fun x => (Value.slice (some ⟨q, 0, none⟩) n cap).ownBlock = some x) Q6.1 W9 from ⟨hks.os, hks.tape, hks.output, hks.size, fun x hx ho => hks.block x hx (fun e => ho (by rw [e]; rfl))⟩))
            clear hoq hos hks
            refine late_do (i := 31) _ rfl (by kernel_rfl) rfl (fun K hK => ?_)
            go_simp
            refine hK _ _ (fun h => nomatch (show true = false from h)) ?_
            clear hK K
            try simp only [Act.put, List.setIfInBounds_toArray, List.set_cons_zero, List.set_cons_succ]
            refine late_done (by kernel_rfl) ?_ _
            clear cq fq hW9 hcs w3 T1 T2 T3 DB
            go_wp2_with fail
            go_roundw
            case rel => exact ⟨j + 1, by go_num, by omega, by omega, HOS, ⟨W9, HKS.out⟩, rfl⟩
            case measure => simp [intOf]; omega
          · have t9 : decide ((j : Int) < (k : Int)) = false := by rw [decide_eq_false_iff_not]; omega
            have t9' : decide (j < k) = false := by simpa using hlt2
            obtain rfl : k = j := by omega
            clear hlt2
            go_wp2_with fail
            go_roundw
            case rel => exact ⟨k + 1, mapR (l0 + 1) k (fillB c p x) R, some k, by go_num, by omega, rfl, HS, HOJ, J, rfl⟩
            case measure => simp [intOf]; omega
       · have t8 : decide (x.tm - p.tm ≤ gap) = false := by rw [decide_eq_false_iff_not]; exact hg
         have HS := Lib.hid (passN_far HX.out HNG.out HR.out HP.out hg)
         clear hg
         go_upto_region 5 with (fail)
         go_quiet (first | exact Calls.quiet_of_same (fat_any _ _ _ _ HT2.out) | exact Calls.quiet_of_same (fat_any _ _ _ _ HT1.out))
         obtain ⟨Z', hZ'⟩ : ∃ Z' : ExtO (fun x => (Value.slice (some ⟨q, 0, none⟩) n cap).ownBlock = some x) w, Z.1.drewN nq = Z'.1 := ⟨⟨Z.1.drewN nq, Z.2.trans ⟨rfl, rfl, rfl, Nat.le_refl _, fun _ _ _ => rfl⟩⟩, rfl⟩
         have HO' := Lib.hid (show Own smC 7 54 Z'.1 base (.slice (some ⟨q, 0, none⟩) n cap) R from hZ' ▸ HO.out)
         rw [hZ']
         clear hZ' hcx htx hcp htp
         go_wp2_with fail
         go_roundw
         case rel => exact ⟨k + 1, R, some k, by go_num, by omega, rfl, HS, HO', Z', rfl⟩
         case measure => simp [intOf]; omega
  · have t5 : decide ((k : Int) < (n : Int)) = false := by rw [decide_eq_false_iff_not]; omega
    have t5' : decide (k < n) = false := by simpa using hlt
    obtain rfl : n = k := by omega
    have HF := Lib.hid (show Own smC 7 54 Z.1 base (.slice a n cap) (pass gap c l) from by
     have h : pass gap c l = R := by
      show (passN gap c l l l.length).1 = R
      rw [HN.out, HR.out]
     rw [h]
     exact HO.out)
    clear hlt hk
    go_wp2_with fail
    exact bodyPost_end (v := .tuple #[]) (by simp [results, Tryz.results111, go_sem]) rfl ⟨rfl, HF.out, Z.2⟩
end Go.Proofs.YtgdepcnfjmobjaaGreat

/- A text of this claim. -/
namespace Go.Proofs.YtgdepcnfjmobjaaGreat
open Go.RowKit Go.BigFrame
open Tr (inR Ed)
theorem passOk_of {A : Acv} (h : AcOk A) {c : Nat} (hc : c ≤ 2) : PassOk c A.sm := by
 refine ⟨h.nsm, fun i j p q hij hp hq => h.sm.lt hij hp hq, fun i p hp => ?_⟩
 obtain ⟨h1, _, h2⟩ := h.sm.upto i p hp
 have h0 := h.sm.nonneg hp
 unfold rangeS at h2
 simp only [Bool.and_eq_true, inR_iff] at h2
 have h3 : c = 0 ∨ c = 1 ∨ c = 2 := by omega
 rcases h3 with rfl | rfl | rfl
 · show _ ∧ -100000000 ≤ p.pu ∧ p.pu ≤ 100000000
   omega
 · show _ ∧ -100000000 ≤ p.po ∧ p.po ≤ 100000000
   omega
 · show _ ∧ -100000000 ≤ p.st ∧ p.st ≤ 100000000
   omega
theorem cf_0 (args : Array Value) (W : World) : Sem.run Tryz.prog (callFunc 112 args) W = .ok (.enter 112 args) W := by
 kernel_rfl
theorem cf_1 (args : Array Value) (W : World) : Sem.run Tryz.prog (callFunc 113 args) W = .ok (.enter 113 args) W := by
 kernel_rfl
theorem cf_2 (args : Array Value) (W : World) : Sem.run Tryz.prog (callFunc 114 args) W = .ok (.enter 114 args) W := by
 kernel_rfl
set_option maxHeartbeats 16000000 in
set_option maxRecDepth 100000 in
theorem tfill_any (A : Acv) (a b c : Option Addr) (ca cb cc : Nat) (nn : Int) (w : World) (h : ActIn w A a b c) (oA : AcOk A) (hnn : 0 ≤ nn ∧ nn ≤ 1000000) :
 Calls Tryz.prog 107 #[actV A a b c ca cb cc, .int .i64 nn] w fun e w' => LvRet { A with sm := fillA nn A.sm } w e w' := by
 obtain ⟨V0, hV0, hb0, hs0, ha0⟩ := alloc_ac w A.name A.sport A.start (.slice a A.sm.length ca) (.slice b A.lp.length cb) (.slice c A.tg.length cc)
 obtain ⟨V1, hV1, hb1, hs1, ha1⟩ := alloc_ac V0 ⟨#[]⟩ 0 0 (.slice none 0 0) (.slice none 0 0) (.slice none 0 0)
 rw [hs0] at ha1
 have hA0 := ha0.below hb1
 have HB := Lib.hid (below_step hb0 hb1)
 have HSZ := Lib.hid (show V1.heap.size = w.heap.size + 2 from by omega)
 have HIN := Lib.hid (h.below HB.out)
 have HIW := Lib.hid h.sm
 have HOA := Lib.hid oA
 have HA1 := Lib.hid ha1
 have DC := Lib.hid (show Calls Tryz.prog 14 #[.agg #[.string A.name, .int .i64 A.sport, .int .i64 A.start, .slice a A.sm.length ca, .slice b A.lp.length cb, .slice c A.tg.length cc]] V1 fun e w'' => e = .returned (.int .i64 0) ∧ Below V1.heap.size V1 w'' from by
  have h := check_any A a b c ca cb cc V1 HIN.out
  unfold ChkG actV at h
  rw [chkA_zero.2 HOA.out] at h
  exact h)
 have DI := Lib.hid (fun W => (show Calls Tryz.prog 108 #[.int .i64 nn, .int .i64 0, .int .i64 1000000] W fun e w' => e = .returned (.bool true) ∧ W = w' from by
  have h := kin_any nn 0 1000000 W
  rw [show inR nn 0 1000000 = true from inR_iff.2 (by omega)] at h
  exact h))
 have HA0 := Lib.hid hA0
 obtain ⟨g0, g1, g2, g3, g4, g5⟩ := hA0.cell
 clear h oA hb0 hb1 ha0 ha1 hA0 hs1
 unfold actV
 go_enter Tryz.func107, Tryz.ntmps107
 go_upto_region 1 with (fail)
 clear hV0 hV1 hs0
 go_wp2_with fail
 refine (DC.out).mono ?_
 rintro e w1 ⟨rfl, hb1⟩
 have HB1 := Lib.hid hb1
 have DCL := Lib.hid (show Calls Tryz.prog 15 #[.agg #[.string A.name, .int .i64 A.sport, .int .i64 A.start, .slice a A.sm.length ca, .slice b A.lp.length cb, .slice c A.tg.length cc]] w1 fun e w'' => CloneRet A w1 e w'' from by
  have h := cloneA_any A a b c ca cb cc w1 (HIN.out.below hb1) (by have := HOA.out.nsm; omega) (by have := HOA.out.nlp; omega) (by have := HOA.out.ntg; omega)
  unfold actV at h
  exact h)
 obtain ⟨q0, q1, q2, q3, q4, q5⟩ := (HA0.out.below hb1).cell
 clear hb1 g0 g1 g2 g3 g4 g5
 go_wp2_with fail
 refine (DI.out _).mono ?_
 rintro e w2 ⟨rfl, rfl⟩
 go_wp2_with fail
 refine (DCL.out).mono ?_
 unfold CloneRet
 rintro e w2 ⟨⟨a1, b1, c1, ca1, cb1, cc1, rfl, ho3⟩, hb2⟩
 unfold actV
 obtain ⟨T, hT⟩ : ∃ T, w2.heap.size = T := ⟨_, rfl⟩
 obtain ⟨W, hW, hbW, hsW, haW⟩ := alloc_ac w2 A.name A.sport A.start (.slice a1 A.sm.length ca1) (.slice b1 A.lp.length cb1) (.slice c1 A.tg.length cc1)
 obtain ⟨D0, hD0⟩ : ∃ D0, w1.heap.size = D0 := ⟨_, rfl⟩
 rw [hT] at haW
 rw [hD0] at ho3
 have HT := Lib.hid hT
 have HD := Lib.hid hD0
 have HO3 := Lib.hid ho3
 have HB2 := Lib.hid (show Below w.heap.size w W from below_step (below_step HB.out HB1.out) (below_step hb2 hbW))
 have HBV := Lib.hid (show Below V1.heap.size V1 W from below_step HB1.out (below_step hb2 hbW))
 have HBW := Lib.hid hbW
 have HSW := Lib.hid (show w.heap.size + 2 ≤ D0 ∧ D0 ≤ T ∧ T < W.heap.size from by
  have := HSZ.out
  have := HB1.out.size
  have := hb2.size
  have := haW.lt
  omega)
 obtain ⟨ns, hn⟩ : ∃ n, A.sm.length = n := ⟨_, rfl⟩
 have HN := Lib.hid hn
 have hns : ns ≤ 20000 := by have := HOA.out.nsm; omega
 have HSO := Lib.hid (show Own smC 7 54 W D0 (.slice a1 ns ca1) A.sm from by
  obtain ⟨B1, B2, hB1, hB2, hos, _, _, _, _⟩ := ho3.ex
  rw [hn] at hos
  exact hos.below hbW)
 have HAB := Lib.hid (show AcB W T A.name A.sport A.start (.slice a1 ns ca1) (.slice b1 A.lp.length cb1) (.slice c1 A.tg.length cc1) from hn ▸ haW)
 have HBX := Lib.hid (HA0.out.below HBV.out)
 rw [hn] at HBX q3 hW ⊢
 clear ho3 hb2 hbW hsW haW hD0 hn q0 q1 q2 q4 q5
 obtain ⟨y0, y1, y2, y3, y4, y5⟩ := HAB.out.cell
 have HLT := Lib.hid (fun q (hq : (Value.slice a1 ns ca1).ownBlock = some q) => show D0 ≤ q ∧ q < T from by
  have h := HSO.out.lt q hq
  obtain ⟨B1, B2, hB1, hB2, hos, _, _, _, _⟩ := HO3.out.ex
  have h2 := (hos.lt q (by rw [HN.out]; exact hq)).2
  rw [HT.out] at h2
  exact ⟨h.1, h2⟩)
 have hp0 := passOk_of HOA.out (c := 0) (by omega)
 have hp1 := (passOk_of HOA.out (c := 1) (by omega)).pass (d := 0) (gap := nn) (by omega) (by omega) (by omega)
 have hp2 := ((passOk_of HOA.out (c := 2) (by omega)).pass (d := 0) (gap := nn) (by omega) (by omega) (by omega)).pass (d := 1) (gap := nn) (by omega) (by omega) (by omega)
 obtain ⟨l1, hl1⟩ : ∃ z, pass nn 0 A.sm = z := ⟨_, rfl⟩
 obtain ⟨l2, hl2⟩ : ∃ z, pass nn 1 l1 = z := ⟨_, rfl⟩
 rw [hl1] at hp1 hp2
 rw [hl2] at hp2
 have n1 : l1.length = ns := by rw [← hl1, pass_len, HN.out]
 have n2 : l2.length = ns := by rw [← hl2, pass_len, n1]
 have HL1 := Lib.hid hl1
 have HL2 := Lib.hid hl2
 have D1 := Lib.hid (show Calls Tryz.prog 111 #[.slice a1 ns ca1, .int .i64 nn, .func (.func 110) #[] #[], .func (.func 112) #[] #[]] W fun e w' => e = .returned (.tuple #[]) ∧ Own smC 7 54 w' D0 (.slice a1 ns ca1) l1 ∧ Kept (fun x => (Value.slice a1 ns ca1).ownBlock = some x) W w' from by
  have h := fill_any 0 (by omega) _ cf_0 fnum_0 nn A.sm a1 ca1 D0 W (by rw [HN.out]; exact HSO.out) hp0
  rw [HN.out, HL1.out] at h
  exact h)
 have D2 := Lib.hid (fun (Z : World) (ho : Own smC 7 54 Z D0 (.slice a1 ns ca1) l1) => show Calls Tryz.prog 111 #[.slice a1 ns ca1, .int .i64 nn, .func (.func 110) #[] #[], .func (.func 113) #[] #[]] Z fun e w' => e = .returned (.tuple #[]) ∧ Own smC 7 54 w' D0 (.slice a1 ns ca1) l2 ∧ Kept (fun x => (Value.slice a1 ns ca1).ownBlock = some x) Z w' from by
  have h := fill_any 1 (by omega) _ cf_1 fnum_1 nn l1 a1 ca1 D0 Z (by rw [n1]; exact ho) hp1
  rw [n1, HL2.out] at h
  exact h)
 have D3 := Lib.hid (fun (Z : World) (ho : Own smC 7 54 Z D0 (.slice a1 ns ca1) l2) => show Calls Tryz.prog 111 #[.slice a1 ns ca1, .int .i64 nn, .func (.func 110) #[] #[], .func (.func 114) #[] #[]] Z fun e w' => e = .returned (.tuple #[]) ∧ Own smC 7 54 w' D0 (.slice a1 ns ca1) (fillA nn A.sm) ∧ Kept (fun x => (Value.slice a1 ns ca1).ownBlock = some x) Z w' from by
  have h := fill_any 2 (by omega) _ cf_2 fnum_2 nn l2 a1 ca1 D0 Z (by rw [n2]; exact ho) hp2
  rw [n2, ← HL2.out, ← HL1.out, ← fillA_pass] at h
  exact h)
 clear hp0 hp1 hp2 hl1 hl2 n1 n2
 go_upto_region 7 with (fail)
 clear hW q3
 go_upto_region 8 with (fail)
 go_wp2_with fail
 refine (D1.out).mono ?_
 rintro e z1 ⟨rfl, ho1, hk1⟩
 have hacZ := HAB.out.kept hk1 (fun e => by have := (HLT.out T e).2; omega)
 have HOZ := Lib.hid ho1
 have HKZ := Lib.hid hk1
 clear y0 y1 y2 y3 y4 y5
 obtain ⟨y0, y1, y2, y3, y4, y5⟩ := hacZ.cell
 clear ho1 hk1
 go_wp2_with fail
 refine (D2.out _ HOZ.out).mono ?_
 rintro e z2 ⟨rfl, ho2, hk2⟩
 have hacY := hacZ.kept hk2 (fun e => by have := (HLT.out T e).2; omega)
 have HOY := Lib.hid ho2
 have HKY := Lib.hid (HKZ.out.trans hk2)
 clear y0 y1 y2 y3 y4 y5 ho2 hk2 hacZ
 obtain ⟨y0, y1, y2, y3, y4, y5⟩ := hacY.cell
 go_wp2_with fail
 refine (D3.out _ HOY.out).mono ?_
 rintro e z3 ⟨rfl, ho3, hk3⟩
 have hac := hacY.kept hk3 (fun e => by have := (HLT.out T e).2; omega)
 have HOF := Lib.hid ho3
 obtain ⟨Z, rfl⟩ : ∃ Z : ExtO (fun q => (Value.slice a1 ns ca1).ownBlock = some q) W, z3 = Z.1 := ⟨⟨z3, HKY.out.trans hk3⟩, rfl⟩
 clear y0 y1 y2 y3 y4 y5 ho3 hk3 hacY D1 D2 D3
 have HLEN := Lib.hid (show (fillA nn A.sm).length = ns from by rw [fillA_len, HN.out])
 obtain ⟨y0, y1, y2, y3, y4, y5⟩ := hac.cell
 have hR := (HA1.out.below HBV.out).kept Z.2 (fun e => by have := (HLT.out _ e).1; have := HSW.out; omega)
 obtain ⟨r0, r1, r2, r3, r4, r5⟩ := hR.cell
 have fr := hR.free
 obtain ⟨WF, hWF, haF, hkF⟩ := hR.store A.name A.sport A.start (.slice a1 ns ca1) (.slice b1 A.lp.length cb1) (.slice c1 A.tg.length cc1)
 have HAF := Lib.hid haF
 have HKF := Lib.hid (hkF (fun q => q = w.heap.size + 1) rfl)
 have HBF := Lib.hid (show Below w.heap.size w WF from by
  have h1 : Below w.heap.size w Z.1 := Kept.below HB2.out Z.2 HB2.out.size (fun q hq e => by have := (HLT.out q e).1; have := HSW.out; omega)
  exact Kept.below h1 HKF.out h1.size (fun k hk e => by omega))
 have HAI := Lib.hid (show ActIn WF { A with sm := fillA nn A.sm } a1 b1 c1 ∧ ∀ g, (a1 = some g ∨ b1 = some g ∨ c1 = some g) → D0 ≤ g.block from by
  obtain ⟨B1, B2, hB1, hB2, hos, hs, hol, hl, hot⟩ := HO3.out.ex
  obtain ⟨l1, _, l3⟩ := hol.rw_ lpEl
  obtain ⟨t1, _, t3⟩ := hot.rw_ tgEl
  have hof : Own smC 7 54 WF D0 (.slice a1 ns ca1) (fillA nn A.sm) := HOF.out.keepO HKF.out (fun q hq e => by have := (HLT.out q hq).1; have := HSW.out; omega)
  obtain ⟨s1, _, s3⟩ := hof.rw_ smEl
  have hsz := HSW.out
  have hl1 : ∀ bb off, b1 = some ⟨bb, off, none⟩ → B1 ≤ bb := fun bb off e => (l3 _ e).1
  have hl2 : ∀ bb off, c1 = some ⟨bb, off, none⟩ → B2 ≤ bb := fun bb off e => (t3 _ e).1
  have hap : ∀ q, (Value.slice a1 ns ca1).ownBlock = some q → q < B1 := fun q hq => hs q (by rw [HN.out]; exact hq)
  refine ⟨⟨s1, ((l1.below HBW.out).kept Z.2 (fun bb off e h => by have := hl1 bb off e; have := hap bb h; omega)).kept HKF.out (fun bb off e h => by have := hl1 bb off e; omega), ((t1.below HBW.out).kept Z.2 (fun bb off e h => by have := hl2 bb off e; have := hap bb h; omega)).kept HKF.out (fun bb off e h => by have := hl2 bb off e; omega), HIN.out.name, HIN.out.titles, HIN.out.tags, ?_, HIN.out.nlp, HIN.out.ntg⟩, ?_⟩
  · show ((fillA nn A.sm).length : Int) ≤ _
    rw [HLEN.out]
    omega
  · rintro g (e | e | e)
    · exact (s3 _ e).1
    · have := (l3 _ e).1
      omega
    · have := (t3 _ e).1
      omega)
 have HD0 := Lib.hid (show w.heap.size ≤ D0 from by have := HSW.out; omega)
 clear hac haF hkF hR
 go_wp2_with fail
 have q := HAF.out.cell
 refine bodyPost_ret (v := .tuple #[.agg #[.string A.name, .int .i64 A.sport, .int .i64 A.start, .slice a1 ns ca1, .slice b1 A.lp.length cb1, .slice c1 A.tg.length cc1], .int .i64 0]) (by simp [results, Tryz.results107, go_sem, q]) rfl ⟨HBF.out, a1, b1, c1, ca1, cb1, cc1, ?_, HAI.out.1, fun g hg => Nat.le_trans HD0.out (HAI.out.2 g hg)⟩
 unfold actV
 simp only [HLEN.out]
end Go.Proofs.YtgdepcnfjmobjaaGreat

/- A text of this claim. -/
namespace Go.Proofs.YtgdepcnfjmobjaaGreat
open Go.RowKit Go.BigFrame
open Tr (inR Ed)
def Lies (w : World) (base g : Nat) (Z : Acv) : Prop :=
 ∃ a b c ca cb cc, AcB w g Z.name Z.sport Z.start (.slice a Z.sm.length ca) (.slice b Z.lp.length cb) (.slice c Z.tg.length cc) ∧ ActIn w Z a b c ∧ (∀ q, (a = some q ∨ b = some q ∨ c = some q) → base ≤ q.block)
def LiR (A : Acv) (x : Ed) (base g : Nat) (w : World) (e : Ending) (w' : World) : Prop :=
 Below base w w' ∧ e = .returned (.int .i64 (appE A x)) ∧ (appE A x = 0 → Lies w' base g (appZ A x))
theorem Mine.lies {w : World} {base g : Nat} {Z : Acv} (h : Mine w base g Z) (ht : ActText Z) (l1 : Z.sm.length ≤ 1000000) (l2 : Z.lp.length ≤ 1000000) (l3 : Z.tg.length ≤ 1000000) : Lies w base g Z := by
 obtain ⟨a, b, c, ca, cb, cc, h1, h2, _, h4⟩ := h.actIn ht l1 l2 l3
 exact ⟨a, b, c, ca, cb, cc, h1, h2, fun q hq => (h4 q hq).1⟩
theorem ApR.lies {A : Acv} {x : Ed} {base g : Nat} {w : World} {e : Ending} {w' : World} (h : ApR A x base g w e w') (hk : chkE x = 0) (hA : AcOk A) (ht : ActText A) (hx : x.s.size ≤ maxLen) : LiR A x base g w e w' := by
 obtain ⟨h1, h2, h3⟩ := h
 obtain ⟨l1, l2, l3⟩ := appZ_len hk hA
 exact ⟨h1, h2, fun h0 => (h3 h0).lies (appZ_text hk ht hx) (by omega) (by omega) (by omega)⟩
theorem late_two {P : Program} {Q : Exit → Act → World → Prop} {C : World → Prop} {s : Nat} {l : List Oper} {i j fuel : Nat} {listed : Array Bool} {a : Act} {w : World} (oi oj : Oper) (hi : nth l i = some oi) (hj : nth l j = some oj) (hr : Region.ready .any l.toArray listed = [i, j])
 (hwi : Region.wanted oi (yielded l.toArray a.tmps) = true) (hwj : Region.wanted oj (yielded l.toArray a.tmps) = true)
 (h1 : ∀ K : Act → World → Prop, (∀ a' w', ((listed.setIfInBounds i true).getD s true = false → C w') → wpAnyS P l.toArray Q s C fuel (listed.setIfInBounds i true) a' w' → K a' w') → oi.wp P a w K Q)
 (h2 : ∀ K : Act → World → Prop, (∀ a' w', ((listed.setIfInBounds j true).getD s true = false → C w') → wpAnyS P l.toArray Q s C fuel (listed.setIfInBounds j true) a' w' → K a' w') → oj.wp P a w K Q) : wpAnyS P l.toArray Q s C (fuel + 1) listed a w := by
 rw [nth_eq] at hi hj
 refine ⟨fun h0 => absurd (hr ▸ h0) (by simp), fun q hq => ?_⟩
 rw [hr] at hq
 simp only [List.mem_cons, List.not_mem_nil, or_false] at hq
 rcases hq with rfl | rfl
 · unfold wpOp
   simp only [hi, hwi, if_true]
   exact Or.inl (h1 _ fun a' w' h3 h4 => ⟨h3, h4⟩)
 · unfold wpOp
   simp only [hj, hwj, if_true]
   exact Or.inl (h2 _ fun a' w' h3 h4 => ⟨h3, h4⟩)
set_option maxHeartbeats 8000000 in
set_option maxRecDepth 100000 in
theorem ap_9 (n f t : Int) (s : ByteArray) (A : Acv) (base g : Nat) (w : World) (hM : Mine w base g A) (oA : AcOk A) (ht : ActText A) (hb : base ≤ w.heap.size) (hn : 0 ≤ n ∧ n ≤ 50) :
 Calls Tryz.prog 103 #[edV ⟨9, n, f, t, s⟩, .pointer (some ⟨g, 0, none⟩)] w fun e w' => LiR A ⟨9, n, f, t, s⟩ base g w e w' := by
 unfold LiR
 obtain ⟨a, b, c, ca, cb, cc, h0, h1, hca, hfr⟩ := hM.actIn ht (by have := oA.nsm; omega) (by have := oA.nlp; omega) (by have := oA.ntg; omega)
 have hg := hM.hg
 obtain ⟨V0, hV0, hb0, hs0, hl0⟩ := alloc_cells w #[.int .i64 9, .int .i64 n, .int .i64 f, .int .i64 t, .string s] 88
 have HB := Lib.hid hb0
 have HBS := Lib.hid hb
 have HG := Lib.hid hg
 have H0 := Lib.hid (h0.below hb0)
 have H1 := Lib.hid (h1.below hb0)
 have HOA := Lib.hid oA
 have HT := Lib.hid ht
 have HGL := Lib.hid h0.lt
 have HFR := Lib.hid (show ∀ q, (a = some q ∨ b = some q ∨ c = some q) → base ≤ q.block ∧ q.block ≠ g from hfr)
 have x0 := hl0 0 _ rfl
 have x1 := hl0 1 _ rfl
 have x2 := hl0 2 _ rfl
 have x3 := hl0 3 _ rfl
 obtain ⟨c0, c1, c2, c3, c4, c5⟩ := H0.out.cell
 obtain ⟨nn, rfl⟩ : ∃ nn : Nat, n = (nn : Int) := ⟨n.toNat, by omega⟩
 have DL := Lib.hid (fun X : Ext V0 => level_any A a b c ca cb cc nn X.1 (H1.out.below X.2) oA hca (by omega))
 have HE := Lib.hid (show appE A ⟨9, (nn : Int), f, t, s⟩ = 0 ∧ appZ A ⟨9, (nn : Int), f, t, s⟩ = { A with sm := levelS A.sm nn } from ⟨appE_9 rfl, by rw [appZ_9 rfl]; rfl⟩)
 rw [HE.out.1, HE.out.2]
 have HVS := Lib.hid hs0
 clear hb hg h0 h1 oA ht hb0 hl0 hM hfr
 unfold actV at DL
 unfold edV
 have X0 := Ext.ex x0
 have X1 := Ext.ex x1
 have X2 := Ext.ex x2
 have X3 := Ext.ex x3
 have C0 := Ext.ex c0
 have C1 := Ext.ex c1
 have C2 := Ext.ex c2
 have C3 := Ext.ex c3
 have C4 := Ext.ex c4
 have C5 := Ext.ex c5
 go_enter Tryz.func103, Tryz.ntmps103
 go_upto_region 2 with (fail)
 clear hV0 hs0 c0 c1 c2 c3 c4 c5 x0 x1 x2 x3
 refine late_start (s := 11) (C := fun w' => ∃ Y : Ext V0, w' = Y.1) (by kernel_rfl) ?_
 obtain ⟨Q0, hQ0⟩ : ∃ Y : Ext V0, ({ V0 with drawn := V0.drawn + 1 } : World) = Y.1 := ⟨⟨{ V0 with drawn := V0.drawn + 1 }, ⟨rfl, rfl, rfl, Nat.le_refl _, fun _ _ => rfl⟩⟩, rfl⟩
 rw [hQ0]
 clear hQ0
 refine late_quiet (by kernel_rfl) (fun _ _ d _ _ h => by cases d <;> exact h) ⟨Q0, rfl⟩ [0, 1, 4, 5] 9 _ _ (by kernel_rfl) (by kernel_rfl) ?_
 change wpQuiet _ _ _ _ (_ :: _ :: _ :: _ :: []) _
 repeat go_big_quiet_step (fail)
 refine wpQuiet_nil ?_
 refine late_do (i := 2) _ rfl (by kernel_rfl) rfl (fun K hK => ?_)
 go_simp
 refine hK _ _ (fun _ => ⟨Q0, rfl⟩) ?_
 clear hK K
 try simp only [Act.put, List.setIfInBounds_toArray, List.set_cons_zero, List.set_cons_succ]
 refine late_quiet (by kernel_rfl) (fun _ _ d _ _ h => by cases d <;> exact h) ⟨Q0, rfl⟩ [3] 7 _ _ (by kernel_rfl) (by kernel_rfl) ?_
 change wpQuiet _ _ _ _ (_ :: []) _
 repeat go_big_quiet_step (fail)
 refine wpQuiet_nil ?_
 refine late_do (i := 6) _ rfl (by kernel_rfl) rfl (fun K hK => ?_)
 go_simp
 refine (DL.out Q0).mono ?_
 unfold LvRet
 rintro e w6 ⟨hb6, ma, mb, mc, mca, mcb, mcc, rfl, hmi, hmf⟩
 obtain ⟨Q6, rfl⟩ : ∃ Z : Ext V0, w6 = Z.1 := ⟨⟨w6, below_step Q0.2 hb6⟩, rfl⟩
 have HMI := Lib.hid hmi
 have HMF := Lib.hid (show ∀ q, (ma = some q ∨ mb = some q ∨ mc = some q) → w.heap.size < q.block from fun q hq => by have h1 := hmf q hq; have h2 := Q0.2.size; have h3 := (show V0.heap.size = w.heap.size + 1 from HVS.out); omega)
 unfold actV
 refine hK _ _ (fun _ => ⟨Q6, rfl⟩) ?_
 clear hK K
 try simp only []
 clear hmi hmf hb6
 obtain ⟨ML, hML⟩ : ∃ z, (levelS A.sm nn).length = z := ⟨_, rfl⟩
 have HML := Lib.hid hML
 rw [hML]
 clear hML
 refine late_quiet (by kernel_rfl) (fun _ _ d _ _ h => by cases d <;> exact h) ⟨Q6, rfl⟩ [7, 8] 4 _ _ (by kernel_rfl) (by kernel_rfl) ?_
 change wpQuiet _ _ _ _ (_ :: _ :: []) _
 repeat go_big_quiet_step (fail)
 refine wpQuiet_nil ?_
 have hb9 := H0.out.below Q6.2
 obtain ⟨r0, r1, r2, r3, r4, r5⟩ := hb9.cell
 have fr := hb9.free
 obtain ⟨WF, hWF, haF, hkF⟩ := hb9.store A.name A.sport A.start (.slice ma ML mca) (.slice mb A.lp.length mcb) (.slice mc A.tg.length mcc)
 have HAF := Lib.hid haF
 have HKF := Lib.hid (hkF (fun q => q = g) rfl)
 clear haF hkF hb9
 have HBF := Lib.hid (show Below base w WF from below_at (below_step HB.out Q6.2) HBS.out (kept_ge HG.out HKF.out))
 refine late_two (i := 9) (j := 10) _ _ rfl rfl (by kernel_rfl) rfl rfl (fun K hK => ?_) (fun K hK => ?_)
 · go_simp
   refine hK _ _ (fun _ => ⟨Q6, rfl⟩) ?_
   clear hK K
   try simp only [Act.put, List.setIfInBounds_toArray, List.set_cons_zero, List.set_cons_succ]
   refine late_do (i := 10) _ rfl (by kernel_rfl) rfl (fun K hK => ?_)
   go_simp
   refine hK _ _ (fun _ => ⟨Q6, rfl⟩) ?_
   clear hK K
   try simp only [Act.put, List.setIfInBounds_toArray, List.set_cons_zero, List.set_cons_succ]
   refine late_do (i := 11) _ rfl (by kernel_rfl) rfl (fun K hK => ?_)
   go_simp
   refine hK _ _ (fun h => nomatch (show true = false from h)) ?_
   clear hK K
   try simp only [Act.put, List.setIfInBounds_toArray, List.set_cons_zero, List.set_cons_succ]
   refine late_do (i := 12) _ rfl (by kernel_rfl) rfl (fun K hK => ?_)
   go_simp
   refine hK _ _ (fun h => nomatch (show true = false from h)) ?_
   clear hK K
   try simp only [Act.put, List.setIfInBounds_toArray, List.set_cons_zero, List.set_cons_succ]
   refine late_done (by kernel_rfl) ?_ _
   clear hWF r0 r1 r2 r3 r4 r5 fr C0 C1 C2 C3 C4 C5 X0 X1 X2 X3
   go_wp2_with fail
   go_ret
   refine ⟨HBF.out, rfl, fun _ => ⟨ma, mb, mc, mca, mcb, mcc, ?_, HMI.out.kept HKF.out (fun q hq e => by have := HMF.out q hq; have := HGL.out; omega), fun q hq => by have := HMF.out q hq; have := HBS.out; omega⟩⟩
   simp only [HML.out]
   exact HAF.out
 · go_simp
   refine hK _ _ (fun _ => ⟨Q6, rfl⟩) ?_
   clear hK K
   try simp only [Act.put, List.setIfInBounds_toArray, List.set_cons_zero, List.set_cons_succ]
   refine late_two (i := 9) (j := 11) _ _ rfl rfl (by kernel_rfl) rfl rfl (fun K hK => ?_) (fun K hK => ?_)
   · go_simp
     refine hK _ _ (fun _ => ⟨Q6, rfl⟩) ?_
     clear hK K
     try simp only [Act.put, List.setIfInBounds_toArray, List.set_cons_zero, List.set_cons_succ]
     refine late_do (i := 11) _ rfl (by kernel_rfl) rfl (fun K hK => ?_)
     go_simp
     refine hK _ _ (fun h => nomatch (show true = false from h)) ?_
     clear hK K
     try simp only [Act.put, List.setIfInBounds_toArray, List.set_cons_zero, List.set_cons_succ]
     refine late_do (i := 12) _ rfl (by kernel_rfl) rfl (fun K hK => ?_)
     go_simp
     refine hK _ _ (fun h => nomatch (show true = false from h)) ?_
     clear hK K
     try simp only [Act.put, List.setIfInBounds_toArray, List.set_cons_zero, List.set_cons_succ]
     refine late_done (by kernel_rfl) ?_ _
     clear hWF r0 r1 r2 r3 r4 r5 fr C0 C1 C2 C3 C4 C5 X0 X1 X2 X3
     go_wp2_with fail
     go_ret
     refine ⟨HBF.out, rfl, fun _ => ⟨ma, mb, mc, mca, mcb, mcc, ?_, HMI.out.kept HKF.out (fun q hq e => by have := HMF.out q hq; have := HGL.out; omega), fun q hq => by have := HMF.out q hq; have := HBS.out; omega⟩⟩
     simp only [HML.out]
     exact HAF.out
   · go_simp
     refine hK _ _ (fun h => nomatch (show true = false from h)) ?_
     clear hK K
     try simp only [Act.put, List.setIfInBounds_toArray, List.set_cons_zero, List.set_cons_succ]
     refine late_do (i := 9) _ rfl (by kernel_rfl) rfl (fun K hK => ?_)
     go_simp
     refine hK _ _ (fun h => nomatch (show true = false from h)) ?_
     clear hK K
     try simp only [Act.put, List.setIfInBounds_toArray, List.set_cons_zero, List.set_cons_succ]
     refine late_do (i := 12) _ rfl (by kernel_rfl) rfl (fun K hK => ?_)
     go_simp
     refine hK _ _ (fun h => nomatch (show true = false from h)) ?_
     clear hK K
     try simp only [Act.put, List.setIfInBounds_toArray, List.set_cons_zero, List.set_cons_succ]
     refine late_done (by kernel_rfl) ?_ _
     clear hWF r0 r1 r2 r3 r4 r5 fr C0 C1 C2 C3 C4 C5 X0 X1 X2 X3
     go_wp2_with fail
     go_ret
     refine ⟨HBF.out, rfl, fun _ => ⟨ma, mb, mc, mca, mcb, mcc, ?_, HMI.out.kept HKF.out (fun q hq e => by have := HMF.out q hq; have := HGL.out; omega), fun q hq => by have := HMF.out q hq; have := HBS.out; omega⟩⟩
     simp only [HML.out]
     exact HAF.out
set_option maxHeartbeats 8000000 in
set_option maxRecDepth 100000 in
theorem ap_10 (n f t : Int) (s : ByteArray) (A : Acv) (base g : Nat) (w : World) (hM : Mine w base g A) (oA : AcOk A) (ht : ActText A) (hb : base ≤ w.heap.size) (hn : 0 ≤ n ∧ n ≤ 1000000) :
 Calls Tryz.prog 103 #[edV ⟨10, n, f, t, s⟩, .pointer (some ⟨g, 0, none⟩)] w fun e w' => LiR A ⟨10, n, f, t, s⟩ base g w e w' := by
 unfold LiR
 obtain ⟨a, b, c, ca, cb, cc, h0, h1, hca, hfr⟩ := hM.actIn ht (by have := oA.nsm; omega) (by have := oA.nlp; omega) (by have := oA.ntg; omega)
 have hg := hM.hg
 obtain ⟨V0, hV0, hb0, hs0, hl0⟩ := alloc_cells w #[.int .i64 10, .int .i64 n, .int .i64 f, .int .i64 t, .string s] 88
 have HB := Lib.hid hb0
 have HBS := Lib.hid hb
 have HG := Lib.hid hg
 have H0 := Lib.hid (h0.below hb0)
 have H1 := Lib.hid (h1.below hb0)
 have HOA := Lib.hid oA
 have HT := Lib.hid ht
 have HGL := Lib.hid h0.lt
 have HFR := Lib.hid (show ∀ q, (a = some q ∨ b = some q ∨ c = some q) → base ≤ q.block ∧ q.block ≠ g from hfr)
 have x0 := hl0 0 _ rfl
 have x1 := hl0 1 _ rfl
 have x2 := hl0 2 _ rfl
 have x3 := hl0 3 _ rfl
 obtain ⟨c0, c1, c2, c3, c4, c5⟩ := H0.out.cell
 have DL := Lib.hid (fun X : Ext V0 => tfill_any A a b c ca cb cc n X.1 (H1.out.below X.2) oA hn)
 rw [appE_10 rfl, appZ_10 rfl]
 simp only
 have HVS := Lib.hid hs0
 clear hb hg h0 h1 oA ht hb0 hl0 hM hfr
 unfold actV at DL
 unfold edV
 have X0 := Ext.ex x0
 have X1 := Ext.ex x1
 have X2 := Ext.ex x2
 have X3 := Ext.ex x3
 have C0 := Ext.ex c0
 have C1 := Ext.ex c1
 have C2 := Ext.ex c2
 have C3 := Ext.ex c3
 have C4 := Ext.ex c4
 have C5 := Ext.ex c5
 go_enter Tryz.func103, Tryz.ntmps103
 go_upto_region 3 with (fail)
 clear hV0 hs0 c0 c1 c2 c3 c4 c5 x0 x1 x2 x3
 refine late_start (s := 11) (C := fun w' => ∃ Y : Ext V0, w' = Y.1) (by kernel_rfl) ?_
 obtain ⟨Q0, hQ0⟩ : ∃ Y : Ext V0, ({ V0 with drawn := V0.drawn + 1 } : World) = Y.1 := ⟨⟨{ V0 with drawn := V0.drawn + 1 }, ⟨rfl, rfl, rfl, Nat.le_refl _, fun _ _ => rfl⟩⟩, rfl⟩
 rw [hQ0]
 clear hQ0
 refine late_quiet (by kernel_rfl) (fun _ _ d _ _ h => by cases d <;> exact h) ⟨Q0, rfl⟩ [0, 1, 4, 5] 9 _ _ (by kernel_rfl) (by kernel_rfl) ?_
 change wpQuiet _ _ _ _ (_ :: _ :: _ :: _ :: []) _
 repeat go_big_quiet_step (fail)
 refine wpQuiet_nil ?_
 refine late_do (i := 2) _ rfl (by kernel_rfl) rfl (fun K hK => ?_)
 go_simp
 refine hK _ _ (fun _ => ⟨Q0, rfl⟩) ?_
 clear hK K
 try simp only [Act.put, List.setIfInBounds_toArray, List.set_cons_zero, List.set_cons_succ]
 refine late_quiet (by kernel_rfl) (fun _ _ d _ _ h => by cases d <;> exact h) ⟨Q0, rfl⟩ [3] 7 _ _ (by kernel_rfl) (by kernel_rfl) ?_
 change wpQuiet _ _ _ _ (_ :: []) _
 repeat go_big_quiet_step (fail)
 refine wpQuiet_nil ?_
 refine late_do (i := 6) _ rfl (by kernel_rfl) rfl (fun K hK => ?_)
 go_simp
 refine (DL.out Q0).mono ?_
 unfold LvRet
 rintro e w6 ⟨hb6, ma, mb, mc, mca, mcb, mcc, rfl, hmi, hmf⟩
 obtain ⟨Q6, rfl⟩ : ∃ Z : Ext V0, w6 = Z.1 := ⟨⟨w6, below_step Q0.2 hb6⟩, rfl⟩
 have HMI := Lib.hid hmi
 have HMF := Lib.hid (show ∀ q, (ma = some q ∨ mb = some q ∨ mc = some q) → w.heap.size < q.block from fun q hq => by have h1 := hmf q hq; have h2 := Q0.2.size; have h3 := (show V0.heap.size = w.heap.size + 1 from HVS.out); omega)
 unfold actV
 refine hK _ _ (fun _ => ⟨Q6, rfl⟩) ?_
 clear hK K
 try simp only []
 clear hmi hmf hb6
 obtain ⟨ML, hML⟩ : ∃ z, (fillA n A.sm).length = z := ⟨_, rfl⟩
 have HML := Lib.hid hML
 rw [hML]
 clear hML
 refine late_quiet (by kernel_rfl) (fun _ _ d _ _ h => by cases d <;> exact h) ⟨Q6, rfl⟩ [7, 8] 4 _ _ (by kernel_rfl) (by kernel_rfl) ?_
 change wpQuiet _ _ _ _ (_ :: _ :: []) _
 repeat go_big_quiet_step (fail)
 refine wpQuiet_nil ?_
 have hb9 := H0.out.below Q6.2
 obtain ⟨r0, r1, r2, r3, r4, r5⟩ := hb9.cell
 have fr := hb9.free
 obtain ⟨WF, hWF, haF, hkF⟩ := hb9.store A.name A.sport A.start (.slice ma ML mca) (.slice mb A.lp.length mcb) (.slice mc A.tg.length mcc)
 have HAF := Lib.hid haF
 have HKF := Lib.hid (hkF (fun q => q = g) rfl)
 clear haF hkF hb9
 have HBF := Lib.hid (show Below base w WF from below_at (below_step HB.out Q6.2) HBS.out (kept_ge HG.out HKF.out))
 refine late_two (i := 9) (j := 10) _ _ rfl rfl (by kernel_rfl) rfl rfl (fun K hK => ?_) (fun K hK => ?_)
 · go_simp
   refine hK _ _ (fun _ => ⟨Q6, rfl⟩) ?_
   clear hK K
   try simp only [Act.put, List.setIfInBounds_toArray, List.set_cons_zero, List.set_cons_succ]
   refine late_do (i := 10) _ rfl (by kernel_rfl) rfl (fun K hK => ?_)
   go_simp
   refine hK _ _ (fun _ => ⟨Q6, rfl⟩) ?_
   clear hK K
   try simp only [Act.put, List.setIfInBounds_toArray, List.set_cons_zero, List.set_cons_succ]
   refine late_do (i := 11) _ rfl (by kernel_rfl) rfl (fun K hK => ?_)
   go_simp
   refine hK _ _ (fun h => nomatch (show true = false from h)) ?_
   clear hK K
   try simp only [Act.put, List.setIfInBounds_toArray, List.set_cons_zero, List.set_cons_succ]
   refine late_do (i := 12) _ rfl (by kernel_rfl) rfl (fun K hK => ?_)
   go_simp
   refine hK _ _ (fun h => nomatch (show true = false from h)) ?_
   clear hK K
   try simp only [Act.put, List.setIfInBounds_toArray, List.set_cons_zero, List.set_cons_succ]
   refine late_done (by kernel_rfl) ?_ _
   clear hWF r0 r1 r2 r3 r4 r5 fr C0 C1 C2 C3 C4 C5 X0 X1 X2 X3
   go_wp2_with fail
   go_ret
   refine ⟨HBF.out, rfl, fun _ => ⟨ma, mb, mc, mca, mcb, mcc, ?_, HMI.out.kept HKF.out (fun q hq e => by have := HMF.out q hq; have := HGL.out; omega), fun q hq => by have := HMF.out q hq; have := HBS.out; omega⟩⟩
   simp only [HML.out]
   exact HAF.out
 · go_simp
   refine hK _ _ (fun _ => ⟨Q6, rfl⟩) ?_
   clear hK K
   try simp only [Act.put, List.setIfInBounds_toArray, List.set_cons_zero, List.set_cons_succ]
   refine late_two (i := 9) (j := 11) _ _ rfl rfl (by kernel_rfl) rfl rfl (fun K hK => ?_) (fun K hK => ?_)
   · go_simp
     refine hK _ _ (fun _ => ⟨Q6, rfl⟩) ?_
     clear hK K
     try simp only [Act.put, List.setIfInBounds_toArray, List.set_cons_zero, List.set_cons_succ]
     refine late_do (i := 11) _ rfl (by kernel_rfl) rfl (fun K hK => ?_)
     go_simp
     refine hK _ _ (fun h => nomatch (show true = false from h)) ?_
     clear hK K
     try simp only [Act.put, List.setIfInBounds_toArray, List.set_cons_zero, List.set_cons_succ]
     refine late_do (i := 12) _ rfl (by kernel_rfl) rfl (fun K hK => ?_)
     go_simp
     refine hK _ _ (fun h => nomatch (show true = false from h)) ?_
     clear hK K
     try simp only [Act.put, List.setIfInBounds_toArray, List.set_cons_zero, List.set_cons_succ]
     refine late_done (by kernel_rfl) ?_ _
     clear hWF r0 r1 r2 r3 r4 r5 fr C0 C1 C2 C3 C4 C5 X0 X1 X2 X3
     go_wp2_with fail
     go_ret
     refine ⟨HBF.out, rfl, fun _ => ⟨ma, mb, mc, mca, mcb, mcc, ?_, HMI.out.kept HKF.out (fun q hq e => by have := HMF.out q hq; have := HGL.out; omega), fun q hq => by have := HMF.out q hq; have := HBS.out; omega⟩⟩
     simp only [HML.out]
     exact HAF.out
   · go_simp
     refine hK _ _ (fun h => nomatch (show true = false from h)) ?_
     clear hK K
     try simp only [Act.put, List.setIfInBounds_toArray, List.set_cons_zero, List.set_cons_succ]
     refine late_do (i := 9) _ rfl (by kernel_rfl) rfl (fun K hK => ?_)
     go_simp
     refine hK _ _ (fun h => nomatch (show true = false from h)) ?_
     clear hK K
     try simp only [Act.put, List.setIfInBounds_toArray, List.set_cons_zero, List.set_cons_succ]
     refine late_do (i := 12) _ rfl (by kernel_rfl) rfl (fun K hK => ?_)
     go_simp
     refine hK _ _ (fun h => nomatch (show true = false from h)) ?_
     clear hK K
     try simp only [Act.put, List.setIfInBounds_toArray, List.set_cons_zero, List.set_cons_succ]
     refine late_done (by kernel_rfl) ?_ _
     clear hWF r0 r1 r2 r3 r4 r5 fr C0 C1 C2 C3 C4 C5 X0 X1 X2 X3
     go_wp2_with fail
     go_ret
     refine ⟨HBF.out, rfl, fun _ => ⟨ma, mb, mc, mca, mcb, mcc, ?_, HMI.out.kept HKF.out (fun q hq e => by have := HMF.out q hq; have := HGL.out; omega), fun q hq => by have := HMF.out q hq; have := HBS.out; omega⟩⟩
     simp only [HML.out]
     exact HAF.out
set_option maxHeartbeats 8000000 in
set_option maxRecDepth 100000 in
theorem ap_8 (n f t : Int) (s : ByteArray) (A : Acv) (base g : Nat) (w : World) (hM : Mine w base g A) (oA : AcOk A) (ht : ActText A) (hb : base ≤ w.heap.size) :
 Calls Tryz.prog 134 #[edV ⟨8, n, f, t, s⟩, .pointer (some ⟨g, 0, none⟩)] w fun e w' => LiR A ⟨8, n, f, t, s⟩ base g w e w' := by
 unfold LiR
 obtain ⟨a, b, c, ca, cb, cc, h0, h1, hca, hfr⟩ := hM.actIn ht (by have := oA.nsm; omega) (by have := oA.nlp; omega) (by have := oA.ntg; omega)
 have hg := hM.hg
 obtain ⟨V0, hV0, hb0, hs0, hl0⟩ := alloc_cells w #[.int .i64 8, .int .i64 n, .int .i64 f, .int .i64 t, .string s] 89
 have HB := Lib.hid hb0
 have HBS := Lib.hid hb
 have HG := Lib.hid hg
 have H0 := Lib.hid (h0.below hb0)
 have H1 := Lib.hid (h1.below hb0)
 have HOA := Lib.hid oA
 have HT := Lib.hid ht
 have HGL := Lib.hid h0.lt
 have HFR := Lib.hid (show ∀ q, (a = some q ∨ b = some q ∨ c = some q) → base ≤ q.block ∧ q.block ≠ g from hfr)
 have x0 := hl0 0 _ rfl
 have x1 := hl0 1 _ rfl
 have x2 := hl0 2 _ rfl
 have x3 := hl0 3 _ rfl
 obtain ⟨c0, c1, c2, c3, c4, c5⟩ := H0.out.cell
 have DL := Lib.hid (fun X : Ext V0 => cut_any A a b c ca cb cc f t X.1 (H1.out.below X.2) oA)
 rw [appE_8 rfl, appZ_8 rfl]
 simp only
 have HVS := Lib.hid hs0
 clear hb hg h0 h1 oA ht hb0 hl0 hM hfr
 unfold actV at DL
 unfold edV
 have X0 := Ext.ex x0
 have X1 := Ext.ex x1
 have X2 := Ext.ex x2
 have X3 := Ext.ex x3
 have C0 := Ext.ex c0
 have C1 := Ext.ex c1
 have C2 := Ext.ex c2
 have C3 := Ext.ex c3
 have C4 := Ext.ex c4
 have C5 := Ext.ex c5
 go_enter Tryz.func134, Tryz.ntmps134
 go_upto_region 3 with (fail)
 clear hV0 hs0 c0 c1 c2 c3 c4 c5 x0 x1 x2 x3
 refine late_start (s := 13) (C := fun w' => ∃ Y : Ext V0, w' = Y.1) (by kernel_rfl) ?_
 obtain ⟨Q0, hQ0⟩ : ∃ Y : Ext V0, ({ V0 with drawn := V0.drawn + 1 } : World) = Y.1 := ⟨⟨{ V0 with drawn := V0.drawn + 1 }, ⟨rfl, rfl, rfl, Nat.le_refl _, fun _ _ => rfl⟩⟩, rfl⟩
 rw [hQ0]
 clear hQ0
 refine late_quiet (by kernel_rfl) (fun _ _ d _ _ h => by cases d <;> exact h) ⟨Q0, rfl⟩ [0, 1, 4, 5, 6, 7] 9 _ _ (by kernel_rfl) (by kernel_rfl) ?_
 change wpQuiet _ _ _ _ (_ :: _ :: _ :: _ :: _ :: _ :: []) _
 repeat go_big_quiet_step (fail)
 refine wpQuiet_nil ?_
 refine late_do (i := 2) _ rfl (by kernel_rfl) rfl (fun K hK => ?_)
 go_simp
 refine hK _ _ (fun _ => ⟨Q0, rfl⟩) ?_
 clear hK K
 try simp only [Act.put, List.setIfInBounds_toArray, List.set_cons_zero, List.set_cons_succ]
 refine late_quiet (by kernel_rfl) (fun _ _ d _ _ h => by cases d <;> exact h) ⟨Q0, rfl⟩ [3] 7 _ _ (by kernel_rfl) (by kernel_rfl) ?_
 change wpQuiet _ _ _ _ (_ :: []) _
 repeat go_big_quiet_step (fail)
 refine wpQuiet_nil ?_
 refine late_do (i := 8) _ rfl (by kernel_rfl) rfl (fun K hK => ?_)
 go_simp
 refine (DL.out Q0).mono ?_
 rintro e w6 hret
 have hgen : Below Q0.1.heap.size Q0.1 w6 ∧ ∃ (nm : ByteArray) (sp st : Int) (ma mb mc : Option Addr) (na nb nc mca mcb mcc : Nat), e = .returned (.tuple #[.agg #[.string nm, .int .i64 sp, .int .i64 st, .slice ma na mca, .slice mb nb mcb, .slice mc nc mcc], .int .i64 (cutE A f t)]) ∧ (cutE A f t = 0 → ActIn w6 (partA A (cutL A.sm f t) f) ma mb mc ∧ (∀ q, (ma = some q ∨ mb = some q ∨ mc = some q) → Q0.1.heap.size ≤ q.block) ∧ actV (partA A (cutL A.sm f t) f) ma mb mc mca mcb mcc = .agg #[.string nm, .int .i64 sp, .int .i64 st, .slice ma na mca, .slice mb nb mcb, .slice mc nc mcc]) := by
  rcases hret with ⟨hok, hb, er, her, h⟩ | ⟨_, hne, rfl, hb⟩
  · have hce : cutE A f t = er := (cutE_ok hok).trans her
    rw [hce]
    rcases h with ⟨hne, rfl⟩ | ⟨rfl, ma, mb, mc, mca, mcb, mcc, rfl, hin, hfr⟩
    · exact ⟨hb, _, _, _, _, _, _, _, _, _, _, _, _, rfl, fun h => absurd h hne⟩
    · exact ⟨hb, _, _, _, ma, mb, mc, _, _, _, mca, mcb, mcc, rfl, fun _ => ⟨hin, hfr, rfl⟩⟩
  · exact ⟨hb, _, _, _, none, none, none, _, _, _, _, _, _, rfl, fun h => absurd h hne⟩
 obtain ⟨hb6, nm, sp', st', ma, mb, mc, na, nb, nc, mca, mcb, mcc, rfl, hgood⟩ := hgen
 obtain ⟨Q6, rfl⟩ : ∃ Z : Ext V0, w6 = Z.1 := ⟨⟨w6, below_step Q0.2 hb6⟩, rfl⟩
 have HGD := Lib.hid hgood
 obtain ⟨er, her⟩ : ∃ z, cutE A f t = z := ⟨_, rfl⟩
 have HER := Lib.hid her
 rw [her] at HGD ⊢
 have HQS := Lib.hid Q0.2.size
 refine hK _ _ (fun _ => ⟨Q6, rfl⟩) ?_
 clear hK K hgood hb6 hret her
 try simp only [Act.put, List.setIfInBounds_toArray, List.set_cons_zero, List.set_cons_succ]
 refine late_quiet (by kernel_rfl) (fun _ _ d _ _ h => by cases d <;> exact h) ⟨Q6, rfl⟩ [9, 10] 4 _ _ (by kernel_rfl) (by kernel_rfl) ?_
 change wpQuiet _ _ _ _ (_ :: _ :: []) _
 repeat go_big_quiet_step (fail)
 refine wpQuiet_nil ?_
 have hb9 := H0.out.below Q6.2
 obtain ⟨r0, r1, r2, r3, r4, r5⟩ := hb9.cell
 have fr := hb9.free
 obtain ⟨WF, hWF, haF, hkF⟩ := hb9.store nm sp' st' (.slice ma na mca) (.slice mb nb mcb) (.slice mc nc mcc)
 have HAF := Lib.hid haF
 have HKF := Lib.hid (hkF (fun q => q = g) rfl)
 clear haF hkF hb9
 have HBF := Lib.hid (show Below base w WF from below_at (below_step HB.out Q6.2) HBS.out (kept_ge HG.out HKF.out))
 refine late_two (i := 11) (j := 12) _ _ rfl rfl (by kernel_rfl) rfl rfl (fun K hK => ?_) (fun K hK => ?_)
 · go_simp
   refine hK _ _ (fun _ => ⟨Q6, rfl⟩) ?_
   clear hK K
   try simp only [Act.put, List.setIfInBounds_toArray, List.set_cons_zero, List.set_cons_succ]
   refine late_do (i := 12) _ rfl (by kernel_rfl) rfl (fun K hK => ?_)
   go_simp
   refine hK _ _ (fun _ => ⟨Q6, rfl⟩) ?_
   clear hK K
   try simp only [Act.put, List.setIfInBounds_toArray, List.set_cons_zero, List.set_cons_succ]
   refine late_do (i := 13) _ rfl (by kernel_rfl) rfl (fun K hK => ?_)
   go_simp
   refine hK _ _ (fun h => nomatch (show true = false from h)) ?_
   clear hK K
   try simp only [Act.put, List.setIfInBounds_toArray, List.set_cons_zero, List.set_cons_succ]
   refine late_do (i := 14) _ rfl (by kernel_rfl) rfl (fun K hK => ?_)
   go_simp
   refine hK _ _ (fun h => nomatch (show true = false from h)) ?_
   clear hK K
   try simp only [Act.put, List.setIfInBounds_toArray, List.set_cons_zero, List.set_cons_succ]
   refine late_done (by kernel_rfl) ?_ _
   clear hWF r0 r1 r2 r3 r4 r5 fr C0 C1 C2 C3 C4 C5 X0 X1 X2 X3
   go_wp2_with fail
   go_ret
   refine ⟨HBF.out, by rw [HER.out]; rfl, fun h0 => ?_⟩
   obtain ⟨g1, g2, g3⟩ := HGD.out (HER.out ▸ h0)
   have g4 : ∀ q, (ma = some q ∨ mb = some q ∨ mc = some q) → w.heap.size < q.block := fun q hq => by have h1 := g2 q hq; have h2 := HQS.out; have h3 := HVS.out; omega
   unfold actV at g3
   injection g3 with g3
   simp only [Array.mk.injEq, List.cons.injEq, Value.string.injEq, Value.int.injEq, Value.slice.injEq, true_and, and_true] at g3
   obtain ⟨rfl, rfl, rfl, rfl, rfl, rfl⟩ := g3
   exact ⟨ma, mb, mc, mca, mcb, mcc, HAF.out, g1.kept HKF.out (fun q hq e => by have := g4 q hq; have := HGL.out; omega), fun q hq => by have := g4 q hq; have := HBS.out; omega⟩
 · go_simp
   refine hK _ _ (fun _ => ⟨Q6, rfl⟩) ?_
   clear hK K
   try simp only [Act.put, List.setIfInBounds_toArray, List.set_cons_zero, List.set_cons_succ]
   refine late_two (i := 11) (j := 13) _ _ rfl rfl (by kernel_rfl) rfl rfl (fun K hK => ?_) (fun K hK => ?_)
   · go_simp
     refine hK _ _ (fun _ => ⟨Q6, rfl⟩) ?_
     clear hK K
     try simp only [Act.put, List.setIfInBounds_toArray, List.set_cons_zero, List.set_cons_succ]
     refine late_do (i := 13) _ rfl (by kernel_rfl) rfl (fun K hK => ?_)
     go_simp
     refine hK _ _ (fun h => nomatch (show true = false from h)) ?_
     clear hK K
     try simp only [Act.put, List.setIfInBounds_toArray, List.set_cons_zero, List.set_cons_succ]
     refine late_do (i := 14) _ rfl (by kernel_rfl) rfl (fun K hK => ?_)
     go_simp
     refine hK _ _ (fun h => nomatch (show true = false from h)) ?_
     clear hK K
     try simp only [Act.put, List.setIfInBounds_toArray, List.set_cons_zero, List.set_cons_succ]
     refine late_done (by kernel_rfl) ?_ _
     clear hWF r0 r1 r2 r3 r4 r5 fr C0 C1 C2 C3 C4 C5 X0 X1 X2 X3
     go_wp2_with fail
     go_ret
     refine ⟨HBF.out, by rw [HER.out]; rfl, fun h0 => ?_⟩
     obtain ⟨g1, g2, g3⟩ := HGD.out (HER.out ▸ h0)
     have g4 : ∀ q, (ma = some q ∨ mb = some q ∨ mc = some q) → w.heap.size < q.block := fun q hq => by have h1 := g2 q hq; have h2 := HQS.out; have h3 := HVS.out; omega
     unfold actV at g3
     injection g3 with g3
     simp only [Array.mk.injEq, List.cons.injEq, Value.string.injEq, Value.int.injEq, Value.slice.injEq, true_and, and_true] at g3
     obtain ⟨rfl, rfl, rfl, rfl, rfl, rfl⟩ := g3
     exact ⟨ma, mb, mc, mca, mcb, mcc, HAF.out, g1.kept HKF.out (fun q hq e => by have := g4 q hq; have := HGL.out; omega), fun q hq => by have := g4 q hq; have := HBS.out; omega⟩
   · go_simp
     refine hK _ _ (fun h => nomatch (show true = false from h)) ?_
     clear hK K
     try simp only [Act.put, List.setIfInBounds_toArray, List.set_cons_zero, List.set_cons_succ]
     refine late_do (i := 11) _ rfl (by kernel_rfl) rfl (fun K hK => ?_)
     go_simp
     refine hK _ _ (fun h => nomatch (show true = false from h)) ?_
     clear hK K
     try simp only [Act.put, List.setIfInBounds_toArray, List.set_cons_zero, List.set_cons_succ]
     refine late_do (i := 14) _ rfl (by kernel_rfl) rfl (fun K hK => ?_)
     go_simp
     refine hK _ _ (fun h => nomatch (show true = false from h)) ?_
     clear hK K
     try simp only [Act.put, List.setIfInBounds_toArray, List.set_cons_zero, List.set_cons_succ]
     refine late_done (by kernel_rfl) ?_ _
     clear hWF r0 r1 r2 r3 r4 r5 fr C0 C1 C2 C3 C4 C5 X0 X1 X2 X3
     go_wp2_with fail
     go_ret
     refine ⟨HBF.out, by rw [HER.out]; rfl, fun h0 => ?_⟩
     obtain ⟨g1, g2, g3⟩ := HGD.out (HER.out ▸ h0)
     have g4 : ∀ q, (ma = some q ∨ mb = some q ∨ mc = some q) → w.heap.size < q.block := fun q hq => by have h1 := g2 q hq; have h2 := HQS.out; have h3 := HVS.out; omega
     unfold actV at g3
     injection g3 with g3
     simp only [Array.mk.injEq, List.cons.injEq, Value.string.injEq, Value.int.injEq, Value.slice.injEq, true_and, and_true] at g3
     obtain ⟨rfl, rfl, rfl, rfl, rfl, rfl⟩ := g3
     exact ⟨ma, mb, mc, mca, mcb, mcc, HAF.out, g1.kept HKF.out (fun q hq e => by have := g4 q hq; have := HGL.out; omega), fun q hq => by have := g4 q hq; have := HBS.out; omega⟩
end Go.Proofs.YtgdepcnfjmobjaaGreat
