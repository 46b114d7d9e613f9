/- Several texts of this claim in one. -/
import Derived.Test.YtcdilamkkodjjaaGreatDoorDt4
import Derived.Test.YtcdilamkkodjjaaGreatDoorDt2
import Derived.Test.YtcdilamkkodjjaaGreatDoorDt3
/- ReadDistance of the reference. -/
namespace Go.Proofs.YtcdilamkkodjjaaGreatDoor
open Go.RowKit Go.BigFrame
open Rd (distAll distT distForms distScale refDist refDistVal firstT matchT numT litT partT tok0 Tok TokOk mB kmB ydB miB dotB blB)

theorem dist_ok : ∀ f, f ∈ distAll → (∀ t, t ∈ f → TokOk t) ∧ f.length ≤ 6 ∧ 0 < f.length := by
  have hn : TokOk (numT 0 9999999 7) := Or.inr (Or.inl ⟨rfl, Or.inl rfl, by decide, by decide, by decide⟩)
  have hl : ∀ x : ByteArray, x.size ≤ 100 → TokOk (litT x) := fun x h => Or.inl ⟨rfl, h⟩
  have hq : TokOk (partT 6) := Or.inr (Or.inr (Or.inr ⟨rfl, by decide⟩))
  have hm : ∀ (b1 b2 : Bool) (x : ByteArray), x.size ≤ 100 → (∀ t, t ∈ distT b1 b2 x → TokOk t) ∧ (distT b1 b2 x).length ≤ 6 ∧ 0 < (distT b1 b2 x).length := fun b1 b2 x hx => ⟨fun t ht => by
    unfold distT at ht
    rcases List.mem_cons.1 ht with rfl | ht
    · exact hn
    rcases List.mem_append.1 ht with ht | ht
    · cases b1
      · cases ht
      · simp only [if_true, List.mem_cons, List.not_mem_nil, or_false] at ht
        rcases ht with rfl | rfl
        · exact hl _ (by decide)
        · exact hq
    rcases List.mem_append.1 ht with ht | ht
    · cases b2
      · cases ht
      · simp only [if_true, List.mem_cons, List.not_mem_nil, or_false] at ht
        subst ht
        exact hl _ (by decide)
    · simp only [List.mem_cons, List.not_mem_nil, or_false] at ht
      subst ht
      exact hl _ hx, by cases b1 <;> cases b2 <;> simp [distT], by cases b1 <;> cases b2 <;> simp [distT]⟩
  have hf : ∀ (x : ByteArray), x.size ≤ 100 → ∀ f, f ∈ distForms x → (∀ t, t ∈ f → TokOk t) ∧ f.length ≤ 6 ∧ 0 < f.length := fun x hx f hf => by
    simp only [distForms, List.mem_cons, List.not_mem_nil, or_false] at hf
    rcases hf with rfl | rfl | rfl | rfl
    · exact hm _ _ _ hx
    · exact hm _ _ _ hx
    · exact hm _ _ _ hx
    · exact hm _ _ _ hx
  intro f h
  unfold distAll at h
  rcases List.mem_append.1 h with h | h
  · exact hf _ (by decide) f h
  rcases List.mem_append.1 h with h | h
  · exact hf _ (by decide) f h
  rcases List.mem_append.1 h with h | h
  · exact hf _ (by decide) f h
  · exact hf _ (by decide) f h
def nm (i : Nat) : ByteArray := [mB, kmB, ydB, miB].getD i mB
def scales (n : Nat) : List Int := (List.range n).map fun j => distScale ((j / 4 : Nat) : Int)
theorem dAll {i : Nat} (hi : i < 4) : distAll[4 * i + 0]? = some (distT false false (nm i)) ∧ distAll[4 * i + 1]? = some (distT true false (nm i)) ∧ distAll[4 * i + 2]? = some (distT false true (nm i)) ∧ distAll[4 * i + 3]? = some (distT true true (nm i)) := by
  rcases (show i = 0 ∨ i = 1 ∨ i = 2 ∨ i = 3 by omega) with rfl | rfl | rfl | rfl <;> exact ⟨rfl, rfl, rfl, rfl⟩
theorem scales_succ (n : Nat) : (scales n).map (Value.int .i64) ++ [.int .i64 (distScale ((n / 4 : Nat) : Int))] = (scales (n + 1)).map (.int .i64) := by
  unfold scales
  rw [List.range_succ, List.map_append, List.map_append]
  rfl
theorem sAll {i : Nat} (_ : i < 4) : ((scales (4 * i + 0)).map (Value.int .i64) ++ [.int .i64 (distScale (i : Int))] = (scales (4 * i + 0 + 1)).map (.int .i64)) ∧ ((scales (4 * i + 1)).map (Value.int .i64) ++ [.int .i64 (distScale (i : Int))] = (scales (4 * i + 1 + 1)).map (.int .i64)) ∧
    ((scales (4 * i + 2)).map (Value.int .i64) ++ [.int .i64 (distScale (i : Int))] = (scales (4 * i + 2 + 1)).map (.int .i64)) ∧ ((scales (4 * i + 3)).map (Value.int .i64) ++ [.int .i64 (distScale (i : Int))] = (scales (4 * i + 3 + 1)).map (.int .i64)) := by
  refine ⟨?_, ?_, ?_, ?_⟩
  · have h := scales_succ (4 * i + 0)
    rw [show (4 * i + 0) / 4 = i by omega] at h
    exact h
  · have h := scales_succ (4 * i + 1)
    rw [show (4 * i + 1) / 4 = i by omega] at h
    exact h
  · have h := scales_succ (4 * i + 2)
    rw [show (4 * i + 2) / 4 = i by omega] at h
    exact h
  · have h := scales_succ (4 * i + 3)
    rw [show (4 * i + 3) / 4 = i by omega] at h
    exact h
theorem scales_get {k : Nat} (h : k < 16) : ((scales 16).map (Value.int .i64))[k]? = some (.int .i64 (distScale ((k / 4 : Nat) : Int))) := by
  unfold scales
  rw [List.getElem?_map, List.getElem?_map, List.getElem?_range h]
  rfl
theorem scale_bounds (i : Int) : 1 ≤ distScale i ∧ distScale i ≤ 16093440 := by
  unfold distScale
  split
  · omega
  · split
    · omega
    · split <;> omega
/-- what a distance's values are like -/
theorem dist_seen (s : ByteArray) : (firstT s distAll 0 0).1 < 0 ∨ ∃ (k : Nat) (a : Int) (L : List Int), k < 16 ∧ firstT s distAll 0 0 = ((k : Int), a :: L, 0) ∧ (0 ≤ a ∧ a ≤ 9999999) ∧ (L = [] ∨ ∃ b, L = [b] ∧ 0 ≤ b ∧ b ≤ 999999) := by
  obtain ⟨m, hm⟩ : ∃ m, Rd.numAt s 7 0 9999999 true 0 = m := ⟨_, rfl⟩
  have hv := Rd.numAt_val s 7 0 9999999 true 0 (by omega)
  rw [hm] at hv
  obtain ⟨d1, d2⟩ := Rd.dist_first (Rd.dist_w s m hm)
  by_cases hex : ∃ i, i < 4 ∧ (Rd.distEnd s (Rd.distNum s)).2 = true ∧ [mB, kmB, ydB, miB].getD i mB = s.extract (Rd.distEnd s (Rd.distNum s)).1 s.size
  · obtain ⟨i, hi, h1, h2⟩ := hex
    have e := d1 i hi h1 h2
    right
    have hb : Rd.bits2 (Rd.begAt s 46 m.2.2 (Rd.numOk 0 true m)) (Rd.begAt s 32 (Rd.distNum s).p (Rd.distNum s).ok) < 4 := by
      unfold Rd.bits2
      split <;> split <;> omega
    by_cases hd : Rd.begAt s 46 m.2.2 (Rd.numOk 0 true m) = true
    · rw [if_pos hd] at e
      refine ⟨_, _, _, by omega, e, hv, Or.inr ⟨_, rfl, ?_⟩⟩
      obtain ⟨r0, r1, r2⟩ := Rd.rowAt_val s 6 true (m.2.2 + 1)
      obtain ⟨r, hr⟩ : ∃ r, Rd.rowAt s 6 true (m.2.2 + 1) = r := ⟨_, rfl⟩
      rw [hr] at r0 r1 r2 ⊢
      obtain ⟨x, y, z⟩ := r
      simp only at r0 r1 r2 ⊢
      rcases (show y = 0 ∨ y = 1 ∨ y = 2 ∨ y = 3 ∨ y = 4 ∨ y = 5 ∨ y = 6 by omega) with rfl | rfl | rfl | rfl | rfl | rfl | rfl <;> simp at r1 ⊢ <;> omega
    · rw [if_neg hd] at e
      exact ⟨_, _, _, by omega, e, hv, Or.inl rfl⟩
  · left
    rw [d2 (fun i hi h => hex ⟨i, hi, h.1, h.2⟩)]
    show (-1 : Int) < 0
    omega
set_option maxHeartbeats 8000000 in
set_option maxRecDepth 100000 in
theorem rReadDistance_any (s : ByteArray) (w : World) (hg : Glo w) (hs : s.size ≤ 9223372036854775807) :
    Calls Tryz.prog 9 #[.string s] w fun e w' => e = .returned (.tuple #[.int .i64 (refDist s).1, .int .i64 (refDist s).2.1, .int .i64 (refDist s).2.2]) ∧ Below w.heap.size w w' := by
  by_cases hz : 1000 < s.size
  · have t1 : decide ((1000 : Int) < (s.size : Int)) = true := by rw [decide_eq_true_eq]; omega
    have t2 : decide (1000 < s.size) = true := by simpa using hz
    have HX := Lib.hid (show refDist s = (0, 0, 3) by unfold refDist; rw [if_pos hz])
    clear hz
    go_enter Tryz.func9, Tryz.ntmps9
    go_wp2_with fail
    go_ret3
    exact ⟨by rw [HX.out]; rfl, Below.refl _ _⟩
  have t1 : decide ((1000 : Int) < (s.size : Int)) = false := by rw [decide_eq_false_iff_not]; omega
  have t2 : decide (1000 < s.size) = false := by simpa using hz
  have HZ := Lib.hid hz
  have DN : Hid (∀ W : World, Calls Tryz.prog 30 #[.int .i64 0, .int .i64 9999999, .int .i64 7] W fun e w' => e = .returned (.agg #[.int .i64 2, .string ⟨#[]⟩, .int .i64 0, .int .i64 9999999, .int .i64 7]) ∧ Below W.heap.size W w') := Lib.hid (fun W => num_any 0 9999999 7 W)
  have DQ : Hid (∀ W : World, Calls Tryz.prog 33 #[.int .i64 6] W fun e w' => e = .returned (.agg #[.int .i64 4, .string ⟨#[]⟩, .int .i64 0, .int .i64 0, .int .i64 6]) ∧ Below W.heap.size W w') := Lib.hid (fun W => part_any 6 W)
  have DI : Hid (∀ (tx : ByteArray) (W : World), Calls Tryz.prog 32 #[.string tx] W fun e w' => e = .returned (.agg #[.int .i64 1, .string tx, .int .i64 0, .int .i64 0, .int .i64 0]) ∧ Below W.heap.size W w') := Lib.hid (fun tx W => lit_any tx W)
  have DF := Lib.hid (fun (v : Value) (W : World) => form_any v W)
  have DW : Hid (∀ (f t : List Tok) (vf vt : Value) (W : World) (N : Nat), FormBlk W vf f → FormBlk W vt t → f.length ≤ 100 → t.length ≤ 100 → 0 < f.length → 0 < t.length → (f ++ t).length = N → Calls Tryz.prog 31 #[vf, vt] W fun e w' => ∃ g c, e = .returned (.slice (some ⟨g, 0, none⟩) N c) ∧ FormBlk w' (.slice (some ⟨g, 0, none⟩) N c) (f ++ t) ∧ Below W.heap.size W w') := Lib.hid (fun f t vf vt W N h1 h2 l1 l2 l3 l4 hN => by
    refine (with_any f t _ _ W h1 h2 l1 l2 l3 l4).mono ?_
    rintro e w' ⟨v, rfl, hf, hb⟩
    obtain ⟨g, c, cs, rfl, h3, h4⟩ := hf
    subst hN
    exact ⟨g, c, rfl, ⟨g, c, cs, rfl, h3, h4⟩, hb⟩)
  obtain ⟨i0, hi0, hz0, hz1, hz2⟩ := info_parts (show (Tryz.prog.info? 3).map (fun i => (i.zero, i.size, i.bytes)) = some (some (.int .i64 0), 1, 8) by kernel_rfl)
  obtain ⟨l0, hl0, hx0, hx1, hx2⟩ := info_parts (show (Tryz.prog.info? 60).map (fun i => (i.zero, i.size, i.bytes)) = some (some (.slice none 0 0), 1, 24) by kernel_rfl)
  have HI := Lib.hid (And.intro hi0 (And.intro hz0 (And.intro hz1 hz2)))
  have HLs := Lib.hid (And.intro hl0 (And.intro hx0 (And.intro hx1 hx2)))
  clear hi0 hz0 hz1 hz2 hl0 hx0 hx1 hx2
  have HSEEN := Lib.hid (dist_seen s)
  have HRD := Lib.hid (show refDist s = if (firstT s distAll 0 0).1 < 0 then (0, (firstT s distAll 0 0).2.2, 6) else if (refDistVal (firstT s distAll 0 0).1 (firstT s distAll 0 0).2.1).2 = 0 ∧ (refDistVal (firstT s distAll 0 0).1 (firstT s distAll 0 0).2.1).1 ≤ 1000000000 then ((refDistVal (firstT s distAll 0 0).1 (firstT s distAll 0 0).2.1).1, 0, 0) else (0, 0, 9) by unfold refDist; rw [if_neg hz])
  go_enter Tryz.func9, Tryz.ntmps9
  go_upto_region 6 with fail
  clear hz
  go_loopw [5, 6, 21] (fun v5 v6 iv wr => ∃ (i : Nat), iv = .int .i64 i ∧ i ≤ 4 ∧ Hid (Below w.heap.size w wr) ∧ (∃ vf : List Value, Hid (wr.ownsRow w.heap.size 60 1 v5 (4 * i) vf) ∧ Hid (∀ j, j < 4 * i → ∃ v f, vf[j]? = some v ∧ distAll[j]? = some f ∧ FormBlk wr v f)) ∧ Hid (wr.ownsRow w.heap.size 3 1 v6 (4 * i) ((scales (4 * i)).map (.int .i64)))) (fun _ _ iv _ => 4 - (intOf iv).toNat)
  case atStart => exact ⟨0, rfl, by omega, Lib.hid (Below.refl _ _), ⟨[], Lib.hid (World.ownsRow_nil _ _ _ _), Lib.hid fun j hj => absurd hj (by omega)⟩, Lib.hid (World.ownsRow_nil _ _ _ _)⟩
  case round =>
    obtain ⟨i, rfl, hi4, HBo, ⟨vo, HOo, HFo⟩, HUo⟩ := hrel
    by_cases hi : i = 4
    case pos =>
      subst hi
      obtain ⟨g5, c5, rfl⟩ := own_open HOo.out (by omega)
      obtain ⟨g6, c6, rfl⟩ := own_open HUo.out (by omega)
      have hFI : FormsIn wr (some ⟨g5, 0, none⟩) distAll := fun j f hf => by
        have hj : j < 16 := (List.getElem?_eq_some_iff.1 hf).1
        obtain ⟨v, f', h1, h2, h3⟩ := HFo.out j (by omega)
        rw [hf] at h2
        injection h2 with h2
        subst h2
        obtain ⟨aj, cj, rfl, h4⟩ := h3.form
        have hok := dist_ok f (List.mem_of_getElem? hf)
        refine ⟨g5, 0, aj, cj, rfl, (HOo.out.lt g5 rfl).2, ?_, h4, hok.1, by have := hok.2.1; omega⟩
        have := HOo.out.cells (g := g5) rfl j _ h1
        rw [addr_add0] at this
        rw [Nat.zero_add]
        exact this
      have D1 := Lib.hid (first_any s distAll (some ⟨g5, 0, none⟩) c5 wr (by have := HZ.out; omega) hFI (by decide) (hg.below HBo.out))
      unfold FirstRet at D1
      obtain ⟨F, hF⟩ : ∃ F, firstT s distAll 0 0 = F := ⟨_, rfl⟩
      rw [hF] at D1 HSEEN HRD
      obtain ⟨n, L, far⟩ := F
      simp only at D1 HSEEN HRD
      have hlen : distAll.length = 16 := rfl
      rw [hlen] at D1
      clear hFI hF HFo HOo
      go_upto_region 20 with (go_at_call 34; refine D1.out.mono ?_; rintro e w5 ⟨lv, rfl, hb5, hown⟩)
      have HB5 := Lib.hid (HBo.out.trans (hb5.mono HBo.out.size))
      by_cases hneg : n < 0
      case pos =>
        have n1 : decide (n < 0) = true := by simpa using hneg
        have HX := Lib.hid (HRD.out.trans (if_pos hneg))
        clear HRD hown hb5 hneg HSEEN
        go_wp2_with fail
        go_ret3
        exact ⟨by rw [HX.out]; rfl, HB5.out⟩
      case neg =>
      rcases HSEEN.out with hs1 | ⟨k, a, L', hk, hFe, ha, hL⟩
      · exact absurd hs1 hneg
      injection hFe with e1 e2
      injection e2 with e2 e3
      subst e1 e2 e3
      have n1 : decide ((k : Int) < 0) = false := by rw [decide_eq_false_iff_not]; omega
      have hr2 := HRD.out.trans (if_neg hneg)
      have HO := Lib.hid (hown (by omega))
      have hsb := scale_bounds ((k / 4 : Nat) : Int)
      have hc6 : wr.cell? ⟨g6, k, none⟩ = some (.int .i64 (distScale ((k / 4 : Nat) : Int))) := by
        have := HUo.out.cells (g := g6) rfl k _ (scales_get hk)
        rwa [addr_add0] at this
      have C6 := below_cell hb5 hc6
      have C6E := Ext.ex C6
      obtain ⟨gl, cl, rfl⟩ := own_open HO.out (by rw [List.length_cons]; omega)
      have ekd : distScale ((k : Int) / 4) = distScale ((k / 4 : Nat) : Int) := by congr 1
      obtain ⟨sc, hsc⟩ : ∃ x, distScale ((k / 4 : Nat) : Int) = x := ⟨_, rfl⟩
      rw [hsc] at hsb C6 C6E ekd
      have hr3 : refDist s = if (Sc.sc (a * 1000000 + (if (a :: L').length = 2 then (a :: L').getD 1 0 else 0)) sc 1000000000 4).2 = 0 ∧ (Sc.sc (a * 1000000 + (if (a :: L').length = 2 then (a :: L').getD 1 0 else 0)) sc 1000000000 4).1 ≤ 1000000000 then ((Sc.sc (a * 1000000 + (if (a :: L').length = 2 then (a :: L').getD 1 0 else 0)) sc 1000000000 4).1, 0, 0) else (0, 0, 9) := by
        rw [hr2]
        unfold refDistVal
        rw [ekd]
        rfl
      clear hown hb5 hneg HSEEN HRD hr2 hc6 ekd hsc D1 HUo HBo
      have c0 : w5.cell? ⟨gl, 0, none⟩ = some (.int .i64 a) := by
        have := HO.out.cells (g := gl) rfl 0 _ (show (List.map (Value.int .i64) (a :: L'))[0]? = some (.int .i64 a) from rfl)
        rwa [addr_add0] at this
      have hk2 : (k : Int) < 16 := by omega
      rcases hL with rfl | ⟨b, rfl, hb0, hb1⟩
      case inl =>
        have hr4 : refDist s = if (Sc.sc (a * 1000000) sc 1000000000 4).2 = 0 ∧ (Sc.sc (a * 1000000) sc 1000000000 4).1 ≤ 1000000000 then ((Sc.sc (a * 1000000) sc 1000000000 4).1, 0, 0) else (0, 0, 9) := by
          rw [hr3, show (if ([a] : List Int).length = 2 then [a].getD 1 0 else 0) = (0 : Int) from rfl, Int.add_zero]
        have DS : Hid (∀ W : World, Calls Tryz.prog 35 #[.int .i64 (a * 1000000), .int .i64 sc, .int .i64 1000000000, .int .i64 4] W fun e w' => e = .returned (.tuple #[.int .i64 (Sc.sc (a * 1000000) sc 1000000000 4).1, .int .i64 (Sc.sc (a * 1000000) sc 1000000000 4).2]) ∧ Below W.heap.size W w') := Lib.hid (fun W => rscale_any (a * 1000000) sc 1000000000 4 W (by omega) (by omega) (by omega) (by omega))
        generalize Sc.sc (a * 1000000) sc 1000000000 4 = r at DS hr4
        have HR4 := Lib.hid hr4
        clear hr3 hr4
        go_upto_region 25 with fail
        obtain ⟨d, er⟩ := r
        have hr5 := HR4.out
        simp only at hr5
        by_cases he : er = 0
        · have n2 : (er != 0) = false := by simpa using he
          have n3 : (er == 0) = true := by simpa using he
          have n4 : decide (er = 0) = true := by simpa using he
          by_cases hd : d ≤ 1000000000
          · have n5 : decide (1000000000 < d) = false := by simpa using hd
            have HX := Lib.hid (hr5.trans (if_pos ⟨he, hd⟩))
            clear hr5 HR4 he hd
            go_wp2_with (go_at_call 35; refine (DS.out _).mono ?_; rintro e w6 ⟨rfl, hb6⟩)
            go_ret3
            exact ⟨by rw [HX.out]; rfl, below_step HB5.out hb6⟩
          · have n5 : decide (1000000000 < d) = true := by simpa using hd
            have HX := Lib.hid (hr5.trans (if_neg (fun h => hd h.2)))
            clear hr5 HR4 he hd
            go_wp2_with (go_at_call 35; refine (DS.out _).mono ?_; rintro e w6 ⟨rfl, hb6⟩)
            go_ret3
            exact ⟨by rw [HX.out]; rfl, below_step HB5.out hb6⟩
        · have n2 : (er != 0) = true := by simpa using he
          have n3 : (er == 0) = false := by simpa using he
          have n4 : decide (er = 0) = false := by simpa using he
          have HX := Lib.hid (hr5.trans (if_neg (fun h => he h.1)))
          clear hr5 HR4 he
          go_wp2_with (go_at_call 35; refine (DS.out _).mono ?_; rintro e w6 ⟨rfl, hb6⟩)
          go_ret3
          exact ⟨by rw [HX.out]; rfl, below_step HB5.out hb6⟩
      case inr =>
        have c1 : w5.cell? ⟨gl, 1, none⟩ = some (.int .i64 b) := by
          have := HO.out.cells (g := gl) rfl 1 _ (show (List.map (Value.int .i64) [a, b])[1]? = some (.int .i64 b) from rfl)
          rwa [addr_add0] at this
        have hr4 : refDist s = if (Sc.sc (a * 1000000 + b) sc 1000000000 4).2 = 0 ∧ (Sc.sc (a * 1000000 + b) sc 1000000000 4).1 ≤ 1000000000 then ((Sc.sc (a * 1000000 + b) sc 1000000000 4).1, 0, 0) else (0, 0, 9) := by
          rw [hr3, show (if ([a, b] : List Int).length = 2 then [a, b].getD 1 0 else 0) = b from rfl]
        have DS : Hid (∀ W : World, Calls Tryz.prog 35 #[.int .i64 (a * 1000000 + b), .int .i64 sc, .int .i64 1000000000, .int .i64 4] W fun e w' => e = .returned (.tuple #[.int .i64 (Sc.sc (a * 1000000 + b) sc 1000000000 4).1, .int .i64 (Sc.sc (a * 1000000 + b) sc 1000000000 4).2]) ∧ Below W.heap.size W w') := Lib.hid (fun W => rscale_any (a * 1000000 + b) sc 1000000000 4 W (by omega) (by omega) (by omega) (by omega))
        generalize Sc.sc (a * 1000000 + b) sc 1000000000 4 = r at DS hr4
        have HR4 := Lib.hid hr4
        clear hr3 hr4
        go_upto_region 25 with fail
        obtain ⟨d, er⟩ := r
        have hr5 := HR4.out
        simp only at hr5
        by_cases he : er = 0
        · have n2 : (er != 0) = false := by simpa using he
          have n3 : (er == 0) = true := by simpa using he
          have n4 : decide (er = 0) = true := by simpa using he
          by_cases hd : d ≤ 1000000000
          · have n5 : decide (1000000000 < d) = false := by simpa using hd
            have HX := Lib.hid (hr5.trans (if_pos ⟨he, hd⟩))
            clear hr5 HR4 he hd
            go_wp2_with (go_at_call 35; refine (DS.out _).mono ?_; rintro e w6 ⟨rfl, hb6⟩)
            go_ret3
            exact ⟨by rw [HX.out]; rfl, below_step HB5.out hb6⟩
          · have n5 : decide (1000000000 < d) = true := by simpa using hd
            have HX := Lib.hid (hr5.trans (if_neg (fun h => hd h.2)))
            clear hr5 HR4 he hd
            go_wp2_with (go_at_call 35; refine (DS.out _).mono ?_; rintro e w6 ⟨rfl, hb6⟩)
            go_ret3
            exact ⟨by rw [HX.out]; rfl, below_step HB5.out hb6⟩
        · have n2 : (er != 0) = true := by simpa using he
          have n3 : (er == 0) = false := by simpa using he
          have n4 : decide (er = 0) = false := by simpa using he
          have HX := Lib.hid (hr5.trans (if_neg (fun h => he h.1)))
          clear hr5 HR4 he
          go_wp2_with (go_at_call 35; refine (DS.out _).mono ?_; rintro e w6 ⟨rfl, hb6⟩)
          go_ret3
          exact ⟨by rw [HX.out]; rfl, below_step HB5.out hb6⟩
    case neg =>
      have hi : i < 4 := by omega
      have i1 : decide ((i : Int) < 4) = true := by rw [decide_eq_true_eq]; omega
      have i1' : decide (i < 4) = true := by simpa using hi
      have hidx : ∀ W : World, (Instr.index 59 (.agg #[.string ⟨#[109]⟩, .string ⟨#[107, 109]⟩, .string ⟨#[121, 100]⟩, .string ⟨#[109, 105]⟩]) (.int .i64 (i : Int))).run Tryz.prog W = .ok (.string (nm i)) W := fun W => by
        rcases (show i = 0 ∨ i = 1 ∨ i = 2 ∨ i = 3 by omega) with rfl | rfl | rfl | rfl <;> kernel_rfl
      have hids : ∀ W : World, (Instr.index 54 (.agg #[.int .i64 10000, .int .i64 10000000, .int .i64 9144, .int .i64 16093440]) (.int .i64 (i : Int))).run Tryz.prog W = .ok (.int .i64 (distScale (i : Int))) W := fun W => by
        rcases (show i = 0 ∨ i = 1 ∨ i = 2 ∨ i = 3 by omega) with rfl | rfl | rfl | rfl <;> kernel_rfl
      obtain ⟨wd, hwd⟩ : ∃ x, nm i = x := ⟨_, rfl⟩
      obtain ⟨sv, hsv⟩ : ∃ x, distScale (i : Int) = x := ⟨_, rfl⟩
      rw [hwd] at hidx
      rw [hsv] at hids
      have HWD := Lib.hid hwd
      have HSV := Lib.hid hsv
      clear hwd hsv HRD HSEEN
      go_upto_region 9 with fail
      go_loopw [5, 6, 9] (fun v5 v6 kv wr => ∃ (k n : Nat), kv = .int .i64 k ∧ k ≤ 4 ∧ n = 4 * i + k ∧ Hid (Below w.heap.size w wr) ∧ (∃ vf : List Value, Hid (wr.ownsRow w.heap.size 60 1 v5 n vf) ∧ Hid (∀ j, j < n → ∃ v f, vf[j]? = some v ∧ distAll[j]? = some f ∧ FormBlk wr v f)) ∧ Hid (wr.ownsRow w.heap.size 3 1 v6 n ((scales n).map (.int .i64)))) (fun _ _ kv _ => 4 - (intOf kv).toNat)
      case atStart => exact ⟨0, 4 * i, rfl, by omega, rfl, HBo, ⟨vo, HOo, HFo⟩, HUo⟩
      case round =>
        clear HBo HOo HFo HUo vo
        obtain ⟨k, n, rfl, hk4, hn, HBr, ⟨vf, HO5, HFF⟩, HO6⟩ := hrel
        by_cases hk : k = 4
        case pos =>
          subst hk
          go_wp2_with fail
          go_roundw
          case rel =>
            refine ⟨i + 1, by go_num, by omega, HBr, ⟨vf, ?_, ?_⟩, ?_⟩
            · rw [show 4 * (i + 1) = n by omega]; exact HO5
            · rw [show 4 * (i + 1) = n by omega]; exact HFF
            · rw [show 4 * (i + 1) = n by omega]; exact HO6
          case measure => simp [intOf]; omega
        case neg =>
          rcases (show k = 0 ∨ k = 1 ∨ k = 2 ∨ k = 3 by omega) with hk | hk | hk | hk
          · obtain rfl : k = 0 := hk
            have hn4 : n = 4 * i + 0 := hn
            have HDA := Lib.hid (show distAll[n]? = some (distT false false wd) by rw [hn4, ← HWD.out]; exact (dAll hi).1)
            have HSC := Lib.hid (show (scales n).map (Value.int .i64) ++ [.int .i64 sv] = (scales (n + 1)).map (.int .i64) by rw [hn4, ← HSV.out]; exact (sAll hi).1)
            have k1 : decide (((0 : Nat) : Int) < 4) = true := rfl
            clear hn
            have HW0 : Hid (Below wr.heap.size wr wr) := Lib.hid (Below.refl _ _)
            go_upto_region 11 with fail
            go_wp2_with fail
            refine (DN.out _).mono ?_
            rintro e y1 ⟨rfl, hb1⟩
            have HSy1 := Lib.hid (below_step HW0.out hb1)
            clear HW0 hb1
            go_wp2_with fail
            refine (DF.out _ _).mono ?_
            rintro e _ ⟨rfl, rfl⟩
            obtain ⟨y3, hu3, hb3, _, hq3⟩ := alloc_block y1 #[.int .i64 2, .string ⟨#[]⟩, .int .i64 0, .int .i64 9999999, .int .i64 7] 63
            rw [hu3]
            have HA3 : Hid (FormBlk y3 (.slice (some ⟨y1.heap.size, 0, none⟩) 1 1) [numT 0 9999999 7]) := Lib.hid ⟨y1.heap.size, 1, _, rfl, hq3, fun i j hi hj => by
                have hi : i < 1 := hi
                match i, hi, j, hj with
                | 0, _, 0, _ | 0, _, 1, _ | 0, _, 2, _ | 0, _, 3, _ | 0, _, 4, _ => rfl⟩
            obtain ⟨p3, hp3⟩ : ∃ p, y1.heap.size = p := ⟨_, rfl⟩
            rw [hp3] at HA3 ⊢
            clear hu3 hp3 hq3
            have HSy3 := Lib.hid (below_step HSy1.out hb3)
            clear HSy1 hb3
            go_upto_region 16 with fail
            go_wp2_with fail
            refine (DI.out _ _).mono ?_
            rintro e y4 ⟨rfl, hb4⟩
            have HFy4 := Lib.hid (HA3.out.below hb4)
            clear HA3
            have HSy4 := Lib.hid (below_step HSy3.out hb4)
            clear HSy3 hb4
            go_wp2_with fail
            obtain ⟨y5, hu5, hb5, _, hq5⟩ := alloc_block y4 #[.int .i64 1, .string wd, .int .i64 0, .int .i64 0, .int .i64 0] 63
            rw [hu5]
            have HA5 : Hid (FormBlk y5 (.slice (some ⟨y4.heap.size, 0, none⟩) 1 1) [litT wd]) := Lib.hid ⟨y4.heap.size, 1, _, rfl, hq5, fun i j hi hj => by
                have hi : i < 1 := hi
                match i, hi, j, hj with
                | 0, _, 0, _ | 0, _, 1, _ | 0, _, 2, _ | 0, _, 3, _ | 0, _, 4, _ => rfl⟩
            obtain ⟨p5, hp5⟩ : ∃ p, y4.heap.size = p := ⟨_, rfl⟩
            rw [hp5] at HA5 ⊢
            clear hu5 hp5 hq5
            have HFy5 := Lib.hid (HFy4.out.below hb5)
            clear HFy4
            have HSy5 := Lib.hid (below_step HSy4.out hb5)
            clear HSy4 hb5
            refine (DW.out [numT 0 9999999 7] [litT wd] _ _ _ 2 HFy5.out HA5.out (by simp) (by simp) (by simp) (by simp) rfl).mono ?_
            rintro e y6 ⟨g6, c6, rfl, hf6, hb6⟩
            clear HFy5 HA5
            have HSy6 := Lib.hid (below_step HSy5.out hb6)
            clear HSy5 hb6
            have HFy6 := Lib.hid hf6
            clear hf6
            have O5 := Lib.hid (ownsRow_below HO5.out HSy6.out)
            have O6 := Lib.hid (ownsRow_below HO6.out HSy6.out)
            have HBx := Lib.hid (HBr.out.trans (HSy6.out.mono HBr.out.size))
            have HFR := Lib.hid (fun (j : Nat) (hj : j < n) => by
              obtain ⟨v, f, a, b, c⟩ := HFF.out j hj
              exact (⟨v, f, a, b, c.below HSy6.out⟩ : ∃ v f, vf[j]? = some v ∧ distAll[j]? = some f ∧ FormBlk y6 v f))
            obtain ⟨W, hW⟩ : ∃ W, y6 = W := ⟨_, rfl⟩
            rw [hW] at O5 O6 HBx HFR HFy6 ⊢
            clear hW HO5 HO6 HSy6 HFF HBr
            have hbx := HBx.out.size
            have FB := HFy6
            clear HFy6
            obtain ⟨j1, j2, j3, j4⟩ := HLs.out
            obtain ⟨m1, m2, m3, m4⟩ := HI.out
            have o5 := O5.out
            have hN : n ≤ 15 := by omega
            go_wp2_with (first
              | (at_builtin; go_loud (
                 refine wpList_append_own _ rfl _ _ 57 rfl w.heap.size 60 l0 (.slice none 0 0) 1 24 Tryz.underlying57 j1 j2 j3 j4 rfl (by decide) u5 n vf rfl (o5.alloc _) ⟨W.heap.size, 0, none⟩ 1 1 [.slice (some ⟨g6, 0, none⟩) 2 c6] rfl rfl (fun j u hj => by match j, hj with | 0, hj => (simp at hj; subst hj; simp [Addr.add])) (fun u hu => by simp at hu; subst hu; rfl) (by unfold maxLen; omega) (by omega) (by simp; omega) ?_
                 intro v' w3 hown' hgrow _
                 have HW3 := Lib.hid hown'
                 have HG3 := Lib.hid hgrow
                 have O7 := (O6.out.alloc _).kept HG3.out (own_ne o5 O6.out (by decide))
                 have hs3 := HG3.out.size
                 clear hown' hgrow))
              | (at_builtin; go_loud (
                 refine wpList_append_own _ rfl _ _ 58 rfl w.heap.size 3 i0 (.int .i64 0) 1 8 Tryz.underlying58 m1 m2 m3 m4 rfl (by decide) u6 n _ rfl (O7.alloc _) ⟨w3.heap.size, 0, none⟩ 1 1 [.int .i64 sv] rfl rfl (fun j u hj => by match j, hj with | 0, hj => (simp at hj; subst hj; simp [Addr.add])) (fun u hu => by simp at hu; subst hu; rfl) (by unfold maxLen; omega) (by omega) (by simp at hs3 ⊢; omega) ?_
                 intro v'' w4 hown' hgrow _
                 have HW4 := Lib.hid hown'
                 have HG4 := Lib.hid hgrow
                 clear hown' hgrow))
              | fail)
            go_roundw
            case rel =>
              have s1 : Still 60 W w3 := (Still.of_below (below_al W _)).trans (Still.of_grown (o5.alloc _) HG3.out)
              have s2 : Still 3 w3 w4 := (Still.of_below (below_al w3 _)).trans (Still.of_grown (O7.alloc _) HG4.out)
              have hlf : vf.length = n := by have := o5.1; omega
              have hw3 : w.heap.size ≤ w3.heap.size := by have := hs3; simp at this; omega
              refine ⟨1, n + 1, by go_num, by omega, by omega, Lib.hid ?_, ⟨vf ++ [.slice (some ⟨g6, 0, none⟩) 2 c6], Lib.hid ((HW3.out.alloc _).kept HG4.out (own_ne O7 HW3.out (by decide))), Lib.hid fun j hj => ?_⟩, Lib.hid ?_⟩
              · exact (((HBx.out.alloc hbx _).grown HG3.out (by simp; omega) (fun b hb => by have := o5.lt b hb; omega)).alloc hw3 _).grown HG4.out (by simp; omega) (fun b hb => by have := O7.lt b hb; omega)
              · by_cases hjk : j < n
                · obtain ⟨v, f, h1, h2, h3⟩ := HFR.out j hjk
                  exact ⟨v, f, by rw [List.getElem?_append_left (by omega)]; exact h1, h2, (h3.still s1 (by decide)).still s2 (by decide)⟩
                · obtain rfl : j = n := by omega
                  exact ⟨_, _, by rw [List.getElem?_append_right (by omega), hlf, Nat.sub_self]; rfl, HDA.out, (FB.out.still s1 (by decide)).still s2 (by decide)⟩
              · have e := HW4.out
                rw [HSC.out] at e
                exact e
            case measure => simp [intOf]
          · obtain rfl : k = 1 := hk
            have hn4 : n = 4 * i + 1 := hn
            have HDA := Lib.hid (show distAll[n]? = some (distT true false wd) by rw [hn4, ← HWD.out]; exact (dAll hi).2.1)
            have HSC := Lib.hid (show (scales n).map (Value.int .i64) ++ [.int .i64 sv] = (scales (n + 1)).map (.int .i64) by rw [hn4, ← HSV.out]; exact (sAll hi).2.1)
            have k1 : decide (((1 : Nat) : Int) < 4) = true := rfl
            clear hn
            have HW0 : Hid (Below wr.heap.size wr wr) := Lib.hid (Below.refl _ _)
            go_upto_region 11 with fail
            go_wp2_with fail
            refine (DN.out _).mono ?_
            rintro e y1 ⟨rfl, hb1⟩
            have HSy1 := Lib.hid (below_step HW0.out hb1)
            clear HW0 hb1
            go_wp2_with fail
            refine (DF.out _ _).mono ?_
            rintro e _ ⟨rfl, rfl⟩
            obtain ⟨y3, hu3, hb3, _, hq3⟩ := alloc_block y1 #[.int .i64 2, .string ⟨#[]⟩, .int .i64 0, .int .i64 9999999, .int .i64 7] 63
            rw [hu3]
            have HA3 : Hid (FormBlk y3 (.slice (some ⟨y1.heap.size, 0, none⟩) 1 1) [numT 0 9999999 7]) := Lib.hid ⟨y1.heap.size, 1, _, rfl, hq3, fun i j hi hj => by
                have hi : i < 1 := hi
                match i, hi, j, hj with
                | 0, _, 0, _ | 0, _, 1, _ | 0, _, 2, _ | 0, _, 3, _ | 0, _, 4, _ => rfl⟩
            obtain ⟨p3, hp3⟩ : ∃ p, y1.heap.size = p := ⟨_, rfl⟩
            rw [hp3] at HA3 ⊢
            clear hu3 hp3 hq3
            have HSy3 := Lib.hid (below_step HSy1.out hb3)
            clear HSy1 hb3
            go_upto_region 13 with fail
            go_wp2_with fail
            refine (DI.out _ _).mono ?_
            rintro e y4 ⟨rfl, hb4⟩
            have HFy4 := Lib.hid (HA3.out.below hb4)
            clear HA3
            have HSy4 := Lib.hid (below_step HSy3.out hb4)
            clear HSy3 hb4
            go_wp2_with fail
            refine (DQ.out _).mono ?_
            rintro e y5 ⟨rfl, hb5⟩
            have HFy5 := Lib.hid (HFy4.out.below hb5)
            clear HFy4
            have HSy5 := Lib.hid (below_step HSy4.out hb5)
            clear HSy4 hb5
            go_wp2_with fail
            obtain ⟨y6, hu6, hb6, _, hq6⟩ := alloc_block y5 #[.int .i64 1, .string ⟨#[46]⟩, .int .i64 0, .int .i64 0, .int .i64 0, .int .i64 4, .string ⟨#[]⟩, .int .i64 0, .int .i64 0, .int .i64 6] 63
            rw [hu6]
            have HA6 : Hid (FormBlk y6 (.slice (some ⟨y5.heap.size, 0, none⟩) 2 2) [litT dotB, partT 6]) := Lib.hid ⟨y5.heap.size, 2, _, rfl, hq6, fun i j hi hj => by
                have hi : i < 2 := hi
                match i, hi, j, hj with
                | 0, _, 0, _ | 0, _, 1, _ | 0, _, 2, _ | 0, _, 3, _ | 0, _, 4, _ | 1, _, 0, _ | 1, _, 1, _ | 1, _, 2, _ | 1, _, 3, _ | 1, _, 4, _ => rfl⟩
            obtain ⟨p6, hp6⟩ : ∃ p, y5.heap.size = p := ⟨_, rfl⟩
            rw [hp6] at HA6 ⊢
            clear hu6 hp6 hq6
            have HFy6 := Lib.hid (HFy5.out.below hb6)
            clear HFy5
            have HSy6 := Lib.hid (below_step HSy5.out hb6)
            clear HSy5 hb6
            refine (DW.out [numT 0 9999999 7] [litT dotB, partT 6] _ _ _ 3 HFy6.out HA6.out (by simp) (by simp) (by simp) (by simp) rfl).mono ?_
            rintro e y7 ⟨g7, c7, rfl, hf7, hb7⟩
            clear HFy6 HA6
            have HSy7 := Lib.hid (below_step HSy6.out hb7)
            clear HSy6 hb7
            have HFy7 := Lib.hid hf7
            clear hf7
            go_upto_region 16 with fail
            go_wp2_with fail
            refine (DI.out _ _).mono ?_
            rintro e y8 ⟨rfl, hb8⟩
            have HFy8 := Lib.hid (HFy7.out.below hb8)
            clear HFy7
            have HSy8 := Lib.hid (below_step HSy7.out hb8)
            clear HSy7 hb8
            go_wp2_with fail
            obtain ⟨y9, hu9, hb9, _, hq9⟩ := alloc_block y8 #[.int .i64 1, .string wd, .int .i64 0, .int .i64 0, .int .i64 0] 63
            rw [hu9]
            have HA9 : Hid (FormBlk y9 (.slice (some ⟨y8.heap.size, 0, none⟩) 1 1) [litT wd]) := Lib.hid ⟨y8.heap.size, 1, _, rfl, hq9, fun i j hi hj => by
                have hi : i < 1 := hi
                match i, hi, j, hj with
                | 0, _, 0, _ | 0, _, 1, _ | 0, _, 2, _ | 0, _, 3, _ | 0, _, 4, _ => rfl⟩
            obtain ⟨p9, hp9⟩ : ∃ p, y8.heap.size = p := ⟨_, rfl⟩
            rw [hp9] at HA9 ⊢
            clear hu9 hp9 hq9
            have HFy9 := Lib.hid (HFy8.out.below hb9)
            clear HFy8
            have HSy9 := Lib.hid (below_step HSy8.out hb9)
            clear HSy8 hb9
            refine (DW.out ([numT 0 9999999 7] ++ [litT dotB, partT 6]) [litT wd] _ _ _ 4 HFy9.out HA9.out (by simp) (by simp) (by simp) (by simp) rfl).mono ?_
            rintro e y10 ⟨g10, c10, rfl, hf10, hb10⟩
            clear HFy9 HA9
            have HSy10 := Lib.hid (below_step HSy9.out hb10)
            clear HSy9 hb10
            have HFy10 := Lib.hid hf10
            clear hf10
            have O5 := Lib.hid (ownsRow_below HO5.out HSy10.out)
            have O6 := Lib.hid (ownsRow_below HO6.out HSy10.out)
            have HBx := Lib.hid (HBr.out.trans (HSy10.out.mono HBr.out.size))
            have HFR := Lib.hid (fun (j : Nat) (hj : j < n) => by
              obtain ⟨v, f, a, b, c⟩ := HFF.out j hj
              exact (⟨v, f, a, b, c.below HSy10.out⟩ : ∃ v f, vf[j]? = some v ∧ distAll[j]? = some f ∧ FormBlk y10 v f))
            obtain ⟨W, hW⟩ : ∃ W, y10 = W := ⟨_, rfl⟩
            rw [hW] at O5 O6 HBx HFR HFy10 ⊢
            clear hW HO5 HO6 HSy10 HFF HBr
            have hbx := HBx.out.size
            have FB := HFy10
            clear HFy10
            obtain ⟨j1, j2, j3, j4⟩ := HLs.out
            obtain ⟨m1, m2, m3, m4⟩ := HI.out
            have o5 := O5.out
            have hN : n ≤ 15 := by omega
            go_wp2_with (first
              | (at_builtin; go_loud (
                 refine wpList_append_own _ rfl _ _ 57 rfl w.heap.size 60 l0 (.slice none 0 0) 1 24 Tryz.underlying57 j1 j2 j3 j4 rfl (by decide) u5 n vf rfl (o5.alloc _) ⟨W.heap.size, 0, none⟩ 1 1 [.slice (some ⟨g10, 0, none⟩) 4 c10] rfl rfl (fun j u hj => by match j, hj with | 0, hj => (simp at hj; subst hj; simp [Addr.add])) (fun u hu => by simp at hu; subst hu; rfl) (by unfold maxLen; omega) (by omega) (by simp; omega) ?_
                 intro v' w3 hown' hgrow _
                 have HW3 := Lib.hid hown'
                 have HG3 := Lib.hid hgrow
                 have O7 := (O6.out.alloc _).kept HG3.out (own_ne o5 O6.out (by decide))
                 have hs3 := HG3.out.size
                 clear hown' hgrow))
              | (at_builtin; go_loud (
                 refine wpList_append_own _ rfl _ _ 58 rfl w.heap.size 3 i0 (.int .i64 0) 1 8 Tryz.underlying58 m1 m2 m3 m4 rfl (by decide) u6 n _ rfl (O7.alloc _) ⟨w3.heap.size, 0, none⟩ 1 1 [.int .i64 sv] rfl rfl (fun j u hj => by match j, hj with | 0, hj => (simp at hj; subst hj; simp [Addr.add])) (fun u hu => by simp at hu; subst hu; rfl) (by unfold maxLen; omega) (by omega) (by simp at hs3 ⊢; omega) ?_
                 intro v'' w4 hown' hgrow _
                 have HW4 := Lib.hid hown'
                 have HG4 := Lib.hid hgrow
                 clear hown' hgrow))
              | fail)
            go_roundw
            case rel =>
              have s1 : Still 60 W w3 := (Still.of_below (below_al W _)).trans (Still.of_grown (o5.alloc _) HG3.out)
              have s2 : Still 3 w3 w4 := (Still.of_below (below_al w3 _)).trans (Still.of_grown (O7.alloc _) HG4.out)
              have hlf : vf.length = n := by have := o5.1; omega
              have hw3 : w.heap.size ≤ w3.heap.size := by have := hs3; simp at this; omega
              refine ⟨2, n + 1, by go_num, by omega, by omega, Lib.hid ?_, ⟨vf ++ [.slice (some ⟨g10, 0, none⟩) 4 c10], Lib.hid ((HW3.out.alloc _).kept HG4.out (own_ne O7 HW3.out (by decide))), Lib.hid fun j hj => ?_⟩, Lib.hid ?_⟩
              · exact (((HBx.out.alloc hbx _).grown HG3.out (by simp; omega) (fun b hb => by have := o5.lt b hb; omega)).alloc hw3 _).grown HG4.out (by simp; omega) (fun b hb => by have := O7.lt b hb; omega)
              · by_cases hjk : j < n
                · obtain ⟨v, f, h1, h2, h3⟩ := HFR.out j hjk
                  exact ⟨v, f, by rw [List.getElem?_append_left (by omega)]; exact h1, h2, (h3.still s1 (by decide)).still s2 (by decide)⟩
                · obtain rfl : j = n := by omega
                  exact ⟨_, _, by rw [List.getElem?_append_right (by omega), hlf, Nat.sub_self]; rfl, HDA.out, (FB.out.still s1 (by decide)).still s2 (by decide)⟩
              · have e := HW4.out
                rw [HSC.out] at e
                exact e
            case measure => simp [intOf]
          · obtain rfl : k = 2 := hk
            have hn4 : n = 4 * i + 2 := hn
            have HDA := Lib.hid (show distAll[n]? = some (distT false true wd) by rw [hn4, ← HWD.out]; exact (dAll hi).2.2.1)
            have HSC := Lib.hid (show (scales n).map (Value.int .i64) ++ [.int .i64 sv] = (scales (n + 1)).map (.int .i64) by rw [hn4, ← HSV.out]; exact (sAll hi).2.2.1)
            have k1 : decide (((2 : Nat) : Int) < 4) = true := rfl
            clear hn
            have HW0 : Hid (Below wr.heap.size wr wr) := Lib.hid (Below.refl _ _)
            go_upto_region 11 with fail
            go_wp2_with fail
            refine (DN.out _).mono ?_
            rintro e y1 ⟨rfl, hb1⟩
            have HSy1 := Lib.hid (below_step HW0.out hb1)
            clear HW0 hb1
            go_wp2_with fail
            refine (DF.out _ _).mono ?_
            rintro e _ ⟨rfl, rfl⟩
            obtain ⟨y3, hu3, hb3, _, hq3⟩ := alloc_block y1 #[.int .i64 2, .string ⟨#[]⟩, .int .i64 0, .int .i64 9999999, .int .i64 7] 63
            rw [hu3]
            have HA3 : Hid (FormBlk y3 (.slice (some ⟨y1.heap.size, 0, none⟩) 1 1) [numT 0 9999999 7]) := Lib.hid ⟨y1.heap.size, 1, _, rfl, hq3, fun i j hi hj => by
                have hi : i < 1 := hi
                match i, hi, j, hj with
                | 0, _, 0, _ | 0, _, 1, _ | 0, _, 2, _ | 0, _, 3, _ | 0, _, 4, _ => rfl⟩
            obtain ⟨p3, hp3⟩ : ∃ p, y1.heap.size = p := ⟨_, rfl⟩
            rw [hp3] at HA3 ⊢
            clear hu3 hp3 hq3
            have HSy3 := Lib.hid (below_step HSy1.out hb3)
            clear HSy1 hb3
            go_upto_region 15 with fail
            go_wp2_with fail
            refine (DI.out _ _).mono ?_
            rintro e y4 ⟨rfl, hb4⟩
            have HFy4 := Lib.hid (HA3.out.below hb4)
            clear HA3
            have HSy4 := Lib.hid (below_step HSy3.out hb4)
            clear HSy3 hb4
            go_wp2_with fail
            obtain ⟨y5, hu5, hb5, _, hq5⟩ := alloc_block y4 #[.int .i64 1, .string ⟨#[32]⟩, .int .i64 0, .int .i64 0, .int .i64 0] 63
            rw [hu5]
            have HA5 : Hid (FormBlk y5 (.slice (some ⟨y4.heap.size, 0, none⟩) 1 1) [litT blB]) := Lib.hid ⟨y4.heap.size, 1, _, rfl, hq5, fun i j hi hj => by
                have hi : i < 1 := hi
                match i, hi, j, hj with
                | 0, _, 0, _ | 0, _, 1, _ | 0, _, 2, _ | 0, _, 3, _ | 0, _, 4, _ => rfl⟩
            obtain ⟨p5, hp5⟩ : ∃ p, y4.heap.size = p := ⟨_, rfl⟩
            rw [hp5] at HA5 ⊢
            clear hu5 hp5 hq5
            have HFy5 := Lib.hid (HFy4.out.below hb5)
            clear HFy4
            have HSy5 := Lib.hid (below_step HSy4.out hb5)
            clear HSy4 hb5
            refine (DW.out [numT 0 9999999 7] [litT blB] _ _ _ 2 HFy5.out HA5.out (by simp) (by simp) (by simp) (by simp) rfl).mono ?_
            rintro e y6 ⟨g6, c6, rfl, hf6, hb6⟩
            clear HFy5 HA5
            have HSy6 := Lib.hid (below_step HSy5.out hb6)
            clear HSy5 hb6
            have HFy6 := Lib.hid hf6
            clear hf6
            go_upto_region 16 with fail
            go_wp2_with fail
            refine (DI.out _ _).mono ?_
            rintro e y7 ⟨rfl, hb7⟩
            have HFy7 := Lib.hid (HFy6.out.below hb7)
            clear HFy6
            have HSy7 := Lib.hid (below_step HSy6.out hb7)
            clear HSy6 hb7
            go_wp2_with fail
            obtain ⟨y8, hu8, hb8, _, hq8⟩ := alloc_block y7 #[.int .i64 1, .string wd, .int .i64 0, .int .i64 0, .int .i64 0] 63
            rw [hu8]
            have HA8 : Hid (FormBlk y8 (.slice (some ⟨y7.heap.size, 0, none⟩) 1 1) [litT wd]) := Lib.hid ⟨y7.heap.size, 1, _, rfl, hq8, fun i j hi hj => by
                have hi : i < 1 := hi
                match i, hi, j, hj with
                | 0, _, 0, _ | 0, _, 1, _ | 0, _, 2, _ | 0, _, 3, _ | 0, _, 4, _ => rfl⟩
            obtain ⟨p8, hp8⟩ : ∃ p, y7.heap.size = p := ⟨_, rfl⟩
            rw [hp8] at HA8 ⊢
            clear hu8 hp8 hq8
            have HFy8 := Lib.hid (HFy7.out.below hb8)
            clear HFy7
            have HSy8 := Lib.hid (below_step HSy7.out hb8)
            clear HSy7 hb8
            refine (DW.out ([numT 0 9999999 7] ++ [litT blB]) [litT wd] _ _ _ 3 HFy8.out HA8.out (by simp) (by simp) (by simp) (by simp) rfl).mono ?_
            rintro e y9 ⟨g9, c9, rfl, hf9, hb9⟩
            clear HFy8 HA8
            have HSy9 := Lib.hid (below_step HSy8.out hb9)
            clear HSy8 hb9
            have HFy9 := Lib.hid hf9
            clear hf9
            have O5 := Lib.hid (ownsRow_below HO5.out HSy9.out)
            have O6 := Lib.hid (ownsRow_below HO6.out HSy9.out)
            have HBx := Lib.hid (HBr.out.trans (HSy9.out.mono HBr.out.size))
            have HFR := Lib.hid (fun (j : Nat) (hj : j < n) => by
              obtain ⟨v, f, a, b, c⟩ := HFF.out j hj
              exact (⟨v, f, a, b, c.below HSy9.out⟩ : ∃ v f, vf[j]? = some v ∧ distAll[j]? = some f ∧ FormBlk y9 v f))
            obtain ⟨W, hW⟩ : ∃ W, y9 = W := ⟨_, rfl⟩
            rw [hW] at O5 O6 HBx HFR HFy9 ⊢
            clear hW HO5 HO6 HSy9 HFF HBr
            have hbx := HBx.out.size
            have FB := HFy9
            clear HFy9
            obtain ⟨j1, j2, j3, j4⟩ := HLs.out
            obtain ⟨m1, m2, m3, m4⟩ := HI.out
            have o5 := O5.out
            have hN : n ≤ 15 := by omega
            go_wp2_with (first
              | (at_builtin; go_loud (
                 refine wpList_append_own _ rfl _ _ 57 rfl w.heap.size 60 l0 (.slice none 0 0) 1 24 Tryz.underlying57 j1 j2 j3 j4 rfl (by decide) u5 n vf rfl (o5.alloc _) ⟨W.heap.size, 0, none⟩ 1 1 [.slice (some ⟨g9, 0, none⟩) 3 c9] rfl rfl (fun j u hj => by match j, hj with | 0, hj => (simp at hj; subst hj; simp [Addr.add])) (fun u hu => by simp at hu; subst hu; rfl) (by unfold maxLen; omega) (by omega) (by simp; omega) ?_
                 intro v' w3 hown' hgrow _
                 have HW3 := Lib.hid hown'
                 have HG3 := Lib.hid hgrow
                 have O7 := (O6.out.alloc _).kept HG3.out (own_ne o5 O6.out (by decide))
                 have hs3 := HG3.out.size
                 clear hown' hgrow))
              | (at_builtin; go_loud (
                 refine wpList_append_own _ rfl _ _ 58 rfl w.heap.size 3 i0 (.int .i64 0) 1 8 Tryz.underlying58 m1 m2 m3 m4 rfl (by decide) u6 n _ rfl (O7.alloc _) ⟨w3.heap.size, 0, none⟩ 1 1 [.int .i64 sv] rfl rfl (fun j u hj => by match j, hj with | 0, hj => (simp at hj; subst hj; simp [Addr.add])) (fun u hu => by simp at hu; subst hu; rfl) (by unfold maxLen; omega) (by omega) (by simp at hs3 ⊢; omega) ?_
                 intro v'' w4 hown' hgrow _
                 have HW4 := Lib.hid hown'
                 have HG4 := Lib.hid hgrow
                 clear hown' hgrow))
              | fail)
            go_roundw
            case rel =>
              have s1 : Still 60 W w3 := (Still.of_below (below_al W _)).trans (Still.of_grown (o5.alloc _) HG3.out)
              have s2 : Still 3 w3 w4 := (Still.of_below (below_al w3 _)).trans (Still.of_grown (O7.alloc _) HG4.out)
              have hlf : vf.length = n := by have := o5.1; omega
              have hw3 : w.heap.size ≤ w3.heap.size := by have := hs3; simp at this; omega
              refine ⟨3, n + 1, by go_num, by omega, by omega, Lib.hid ?_, ⟨vf ++ [.slice (some ⟨g9, 0, none⟩) 3 c9], Lib.hid ((HW3.out.alloc _).kept HG4.out (own_ne O7 HW3.out (by decide))), Lib.hid fun j hj => ?_⟩, Lib.hid ?_⟩
              · exact (((HBx.out.alloc hbx _).grown HG3.out (by simp; omega) (fun b hb => by have := o5.lt b hb; omega)).alloc hw3 _).grown HG4.out (by simp; omega) (fun b hb => by have := O7.lt b hb; omega)
              · by_cases hjk : j < n
                · obtain ⟨v, f, h1, h2, h3⟩ := HFR.out j hjk
                  exact ⟨v, f, by rw [List.getElem?_append_left (by omega)]; exact h1, h2, (h3.still s1 (by decide)).still s2 (by decide)⟩
                · obtain rfl : j = n := by omega
                  exact ⟨_, _, by rw [List.getElem?_append_right (by omega), hlf, Nat.sub_self]; rfl, HDA.out, (FB.out.still s1 (by decide)).still s2 (by decide)⟩
              · have e := HW4.out
                rw [HSC.out] at e
                exact e
            case measure => simp [intOf]
          · obtain rfl : k = 3 := hk
            have hn4 : n = 4 * i + 3 := hn
            have HDA := Lib.hid (show distAll[n]? = some (distT true true wd) by rw [hn4, ← HWD.out]; exact (dAll hi).2.2.2)
            have HSC := Lib.hid (show (scales n).map (Value.int .i64) ++ [.int .i64 sv] = (scales (n + 1)).map (.int .i64) by rw [hn4, ← HSV.out]; exact (sAll hi).2.2.2)
            have k1 : decide (((3 : Nat) : Int) < 4) = true := rfl
            clear hn
            have HW0 : Hid (Below wr.heap.size wr wr) := Lib.hid (Below.refl _ _)
            go_upto_region 11 with fail
            go_wp2_with fail
            refine (DN.out _).mono ?_
            rintro e y1 ⟨rfl, hb1⟩
            have HSy1 := Lib.hid (below_step HW0.out hb1)
            clear HW0 hb1
            go_wp2_with fail
            refine (DF.out _ _).mono ?_
            rintro e _ ⟨rfl, rfl⟩
            obtain ⟨y3, hu3, hb3, _, hq3⟩ := alloc_block y1 #[.int .i64 2, .string ⟨#[]⟩, .int .i64 0, .int .i64 9999999, .int .i64 7] 63
            rw [hu3]
            have HA3 : Hid (FormBlk y3 (.slice (some ⟨y1.heap.size, 0, none⟩) 1 1) [numT 0 9999999 7]) := Lib.hid ⟨y1.heap.size, 1, _, rfl, hq3, fun i j hi hj => by
                have hi : i < 1 := hi
                match i, hi, j, hj with
                | 0, _, 0, _ | 0, _, 1, _ | 0, _, 2, _ | 0, _, 3, _ | 0, _, 4, _ => rfl⟩
            obtain ⟨p3, hp3⟩ : ∃ p, y1.heap.size = p := ⟨_, rfl⟩
            rw [hp3] at HA3 ⊢
            clear hu3 hp3 hq3
            have HSy3 := Lib.hid (below_step HSy1.out hb3)
            clear HSy1 hb3
            go_upto_region 13 with fail
            go_wp2_with fail
            refine (DI.out _ _).mono ?_
            rintro e y4 ⟨rfl, hb4⟩
            have HFy4 := Lib.hid (HA3.out.below hb4)
            clear HA3
            have HSy4 := Lib.hid (below_step HSy3.out hb4)
            clear HSy3 hb4
            go_wp2_with fail
            refine (DQ.out _).mono ?_
            rintro e y5 ⟨rfl, hb5⟩
            have HFy5 := Lib.hid (HFy4.out.below hb5)
            clear HFy4
            have HSy5 := Lib.hid (below_step HSy4.out hb5)
            clear HSy4 hb5
            go_wp2_with fail
            obtain ⟨y6, hu6, hb6, _, hq6⟩ := alloc_block y5 #[.int .i64 1, .string ⟨#[46]⟩, .int .i64 0, .int .i64 0, .int .i64 0, .int .i64 4, .string ⟨#[]⟩, .int .i64 0, .int .i64 0, .int .i64 6] 63
            rw [hu6]
            have HA6 : Hid (FormBlk y6 (.slice (some ⟨y5.heap.size, 0, none⟩) 2 2) [litT dotB, partT 6]) := Lib.hid ⟨y5.heap.size, 2, _, rfl, hq6, fun i j hi hj => by
                have hi : i < 2 := hi
                match i, hi, j, hj with
                | 0, _, 0, _ | 0, _, 1, _ | 0, _, 2, _ | 0, _, 3, _ | 0, _, 4, _ | 1, _, 0, _ | 1, _, 1, _ | 1, _, 2, _ | 1, _, 3, _ | 1, _, 4, _ => rfl⟩
            obtain ⟨p6, hp6⟩ : ∃ p, y5.heap.size = p := ⟨_, rfl⟩
            rw [hp6] at HA6 ⊢
            clear hu6 hp6 hq6
            have HFy6 := Lib.hid (HFy5.out.below hb6)
            clear HFy5
            have HSy6 := Lib.hid (below_step HSy5.out hb6)
            clear HSy5 hb6
            refine (DW.out [numT 0 9999999 7] [litT dotB, partT 6] _ _ _ 3 HFy6.out HA6.out (by simp) (by simp) (by simp) (by simp) rfl).mono ?_
            rintro e y7 ⟨g7, c7, rfl, hf7, hb7⟩
            clear HFy6 HA6
            have HSy7 := Lib.hid (below_step HSy6.out hb7)
            clear HSy6 hb7
            have HFy7 := Lib.hid hf7
            clear hf7
            go_upto_region 15 with fail
            go_wp2_with fail
            refine (DI.out _ _).mono ?_
            rintro e y8 ⟨rfl, hb8⟩
            have HFy8 := Lib.hid (HFy7.out.below hb8)
            clear HFy7
            have HSy8 := Lib.hid (below_step HSy7.out hb8)
            clear HSy7 hb8
            go_wp2_with fail
            obtain ⟨y9, hu9, hb9, _, hq9⟩ := alloc_block y8 #[.int .i64 1, .string ⟨#[32]⟩, .int .i64 0, .int .i64 0, .int .i64 0] 63
            rw [hu9]
            have HA9 : Hid (FormBlk y9 (.slice (some ⟨y8.heap.size, 0, none⟩) 1 1) [litT blB]) := Lib.hid ⟨y8.heap.size, 1, _, rfl, hq9, fun i j hi hj => by
                have hi : i < 1 := hi
                match i, hi, j, hj with
                | 0, _, 0, _ | 0, _, 1, _ | 0, _, 2, _ | 0, _, 3, _ | 0, _, 4, _ => rfl⟩
            obtain ⟨p9, hp9⟩ : ∃ p, y8.heap.size = p := ⟨_, rfl⟩
            rw [hp9] at HA9 ⊢
            clear hu9 hp9 hq9
            have HFy9 := Lib.hid (HFy8.out.below hb9)
            clear HFy8
            have HSy9 := Lib.hid (below_step HSy8.out hb9)
            clear HSy8 hb9
            refine (DW.out ([numT 0 9999999 7] ++ [litT dotB, partT 6]) [litT blB] _ _ _ 4 HFy9.out HA9.out (by simp) (by simp) (by simp) (by simp) rfl).mono ?_
            rintro e y10 ⟨g10, c10, rfl, hf10, hb10⟩
            clear HFy9 HA9
            have HSy10 := Lib.hid (below_step HSy9.out hb10)
            clear HSy9 hb10
            have HFy10 := Lib.hid hf10
            clear hf10
            go_upto_region 16 with fail
            go_wp2_with fail
            refine (DI.out _ _).mono ?_
            rintro e y11 ⟨rfl, hb11⟩
            have HFy11 := Lib.hid (HFy10.out.below hb11)
            clear HFy10
            have HSy11 := Lib.hid (below_step HSy10.out hb11)
            clear HSy10 hb11
            go_wp2_with fail
            obtain ⟨y12, hu12, hb12, _, hq12⟩ := alloc_block y11 #[.int .i64 1, .string wd, .int .i64 0, .int .i64 0, .int .i64 0] 63
            rw [hu12]
            have HA12 : Hid (FormBlk y12 (.slice (some ⟨y11.heap.size, 0, none⟩) 1 1) [litT wd]) := Lib.hid ⟨y11.heap.size, 1, _, rfl, hq12, fun i j hi hj => by
                have hi : i < 1 := hi
                match i, hi, j, hj with
                | 0, _, 0, _ | 0, _, 1, _ | 0, _, 2, _ | 0, _, 3, _ | 0, _, 4, _ => rfl⟩
            obtain ⟨p12, hp12⟩ : ∃ p, y11.heap.size = p := ⟨_, rfl⟩
            rw [hp12] at HA12 ⊢
            clear hu12 hp12 hq12
            have HFy12 := Lib.hid (HFy11.out.below hb12)
            clear HFy11
            have HSy12 := Lib.hid (below_step HSy11.out hb12)
            clear HSy11 hb12
            refine (DW.out (([numT 0 9999999 7] ++ [litT dotB, partT 6]) ++ [litT blB]) [litT wd] _ _ _ 5 HFy12.out HA12.out (by simp) (by simp) (by simp) (by simp) rfl).mono ?_
            rintro e y13 ⟨g13, c13, rfl, hf13, hb13⟩
            clear HFy12 HA12
            have HSy13 := Lib.hid (below_step HSy12.out hb13)
            clear HSy12 hb13
            have HFy13 := Lib.hid hf13
            clear hf13
            have O5 := Lib.hid (ownsRow_below HO5.out HSy13.out)
            have O6 := Lib.hid (ownsRow_below HO6.out HSy13.out)
            have HBx := Lib.hid (HBr.out.trans (HSy13.out.mono HBr.out.size))
            have HFR := Lib.hid (fun (j : Nat) (hj : j < n) => by
              obtain ⟨v, f, a, b, c⟩ := HFF.out j hj
              exact (⟨v, f, a, b, c.below HSy13.out⟩ : ∃ v f, vf[j]? = some v ∧ distAll[j]? = some f ∧ FormBlk y13 v f))
            obtain ⟨W, hW⟩ : ∃ W, y13 = W := ⟨_, rfl⟩
            rw [hW] at O5 O6 HBx HFR HFy13 ⊢
            clear hW HO5 HO6 HSy13 HFF HBr
            have hbx := HBx.out.size
            have FB := HFy13
            clear HFy13
            obtain ⟨j1, j2, j3, j4⟩ := HLs.out
            obtain ⟨m1, m2, m3, m4⟩ := HI.out
            have o5 := O5.out
            have hN : n ≤ 15 := by omega
            go_wp2_with (first
              | (at_builtin; go_loud (
                 refine wpList_append_own _ rfl _ _ 57 rfl w.heap.size 60 l0 (.slice none 0 0) 1 24 Tryz.underlying57 j1 j2 j3 j4 rfl (by decide) u5 n vf rfl (o5.alloc _) ⟨W.heap.size, 0, none⟩ 1 1 [.slice (some ⟨g13, 0, none⟩) 5 c13] rfl rfl (fun j u hj => by match j, hj with | 0, hj => (simp at hj; subst hj; simp [Addr.add])) (fun u hu => by simp at hu; subst hu; rfl) (by unfold maxLen; omega) (by omega) (by simp; omega) ?_
                 intro v' w3 hown' hgrow _
                 have HW3 := Lib.hid hown'
                 have HG3 := Lib.hid hgrow
                 have O7 := (O6.out.alloc _).kept HG3.out (own_ne o5 O6.out (by decide))
                 have hs3 := HG3.out.size
                 clear hown' hgrow))
              | (at_builtin; go_loud (
                 refine wpList_append_own _ rfl _ _ 58 rfl w.heap.size 3 i0 (.int .i64 0) 1 8 Tryz.underlying58 m1 m2 m3 m4 rfl (by decide) u6 n _ rfl (O7.alloc _) ⟨w3.heap.size, 0, none⟩ 1 1 [.int .i64 sv] rfl rfl (fun j u hj => by match j, hj with | 0, hj => (simp at hj; subst hj; simp [Addr.add])) (fun u hu => by simp at hu; subst hu; rfl) (by unfold maxLen; omega) (by omega) (by simp at hs3 ⊢; omega) ?_
                 intro v'' w4 hown' hgrow _
                 have HW4 := Lib.hid hown'
                 have HG4 := Lib.hid hgrow
                 clear hown' hgrow))
              | fail)
            go_roundw
            case rel =>
              have s1 : Still 60 W w3 := (Still.of_below (below_al W _)).trans (Still.of_grown (o5.alloc _) HG3.out)
              have s2 : Still 3 w3 w4 := (Still.of_below (below_al w3 _)).trans (Still.of_grown (O7.alloc _) HG4.out)
              have hlf : vf.length = n := by have := o5.1; omega
              have hw3 : w.heap.size ≤ w3.heap.size := by have := hs3; simp at this; omega
              refine ⟨4, n + 1, by go_num, by omega, by omega, Lib.hid ?_, ⟨vf ++ [.slice (some ⟨g13, 0, none⟩) 5 c13], Lib.hid ((HW3.out.alloc _).kept HG4.out (own_ne O7 HW3.out (by decide))), Lib.hid fun j hj => ?_⟩, Lib.hid ?_⟩
              · exact (((HBx.out.alloc hbx _).grown HG3.out (by simp; omega) (fun b hb => by have := o5.lt b hb; omega)).alloc hw3 _).grown HG4.out (by simp; omega) (fun b hb => by have := O7.lt b hb; omega)
              · by_cases hjk : j < n
                · obtain ⟨v, f, h1, h2, h3⟩ := HFR.out j hjk
                  exact ⟨v, f, by rw [List.getElem?_append_left (by omega)]; exact h1, h2, (h3.still s1 (by decide)).still s2 (by decide)⟩
                · obtain rfl : j = n := by omega
                  exact ⟨_, _, by rw [List.getElem?_append_right (by omega), hlf, Nat.sub_self]; rfl, HDA.out, (FB.out.still s1 (by decide)).still s2 (by decide)⟩
              · have e := HW4.out
                rw [HSC.out] at e
                exact e
            case measure => simp [intOf]
end Go.Proofs.YtcdilamkkodjjaaGreatDoor

/- The walk of the law of distances. -/
namespace Go.Proofs.YtcdilamkkodjjaaGreatDoor
open Go.RowKit Go.BigFrame

set_option maxHeartbeats 2000000 in
set_option maxRecDepth 100000 in
theorem distances_law (n : Int) (s : ByteArray) (w : World) (h0 : -9223372036854775808 ≤ n) (h1 : n ≤ 9223372036854775807) (hs : s.size ≤ 9223372036854775807) (hg : Glo w) :
    Calls Tryz.prog 3 #[.int .i64 n, .string s] w fun e w' => e = .returned (.bool true) ∧ Below w.heap.size w w' := by
  have D1 := Lib.hid (distanceText_any n h0 h1 w hg)
  have D2 := Lib.hid (fun W (h : Below w.heap.size w W) => rdistanceText_any n h0 h1 W (hg.below h))
  have D3 := Lib.hid (fun W => readDistance_any s W hs)
  have D4 := Lib.hid (fun W (h : Below w.heap.size w W) => rReadDistance_any s W (hg.below h) hs)
  have D5 := Lib.hid (fun W => told_any W)
  have he : Rd.refDist s = readDistP s := Rd.dist_eq s
  rw [he] at D4
  obtain ⟨u, hu⟩ : ∃ u, distTextR n = u := ⟨_, rfl⟩
  obtain ⟨v, hv⟩ : ∃ v, readDistP s = v := ⟨_, rfl⟩
  rw [hu] at D1 D2
  rw [hv] at D3 D4
  obtain ⟨t, e⟩ := u
  obtain ⟨x, i, g⟩ := v
  have ht : (t.toList == t.toList) = true := by simp
  clear he hu hv hg
  go_enter Tryz.func3, Tryz.ntmps3
  go_upto_region 2 with (go_at_call 6; refine D1.out.mono ?_; rintro e w1 ⟨rfl, hb1⟩)
  go_upto_region 3 with (go_at_call 7; refine (D2.out w1 hb1).mono ?_; rintro e w2 ⟨rfl, hb2⟩)
  have HB2 := Lib.hid (below_step hb1 hb2)
  clear hb1 hb2
  go_upto_region 4 with (go_at_call 8; refine (D3.out w2).mono ?_; rintro e w3 ⟨rfl, hb3⟩)
  have HB3 := Lib.hid (below_step HB2.out hb3)
  clear hb3
  go_upto_region 5 with (go_at_call 9; refine (D4.out w3 HB3.out).mono ?_; rintro e w4 ⟨rfl, hb4⟩)
  have HB4 := Lib.hid (below_step HB3.out hb4)
  clear hb4
  go_wp2_with (go_at_call 10; refine (D5.out w4).mono ?_; rintro e w5 ⟨rfl, hb5⟩)
  go_ret
  exact ⟨rfl, below_step HB4.out hb5⟩
end Go.Proofs.YtcdilamkkodjjaaGreatDoor
