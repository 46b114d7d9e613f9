/- Several texts of this claim in one. -/
import Derived.Test.YtckjdpnmalkpnaaFm2
import Derived.Test.YtckjdpnmalkpnaaShelf
import Derived.Test.YtckjdpnmalkpnaaTt2
import Derived.Test.YtckjdpnmalkpnaaTt3
import Derived.Test.YtckjdpnmalkpnaaFm1
/- Where somebody is: the search by halves of the program; a number on a way, of both. -/
namespace Go.Proofs.Ytckjdpnmalkpnaa
open Go.RowKit Go.BigFrame
open Tr (inR)

theorem cmpI_lt (x y : Int) : decide (Lib.compareInt x y < 0) = decide (x < y) := by
  unfold Lib.compareInt
  by_cases h : x < y
  · rw [if_pos h, decide_eq_true h]; rfl
  · rw [if_neg h, decide_eq_false h]
    split <;> rfl
theorem cmpI_eq (x y : Int) : (Lib.compareInt x y == 0) = decide (x = y) := by
  unfold Lib.compareInt
  by_cases h : x < y
  · rw [if_pos h, decide_eq_false (by omega)]; rfl
  · rw [if_neg h]
    by_cases h2 : x > y
    · rw [if_pos h2, decide_eq_false (by omega)]; rfl
    · rw [if_neg h2, decide_eq_true (by omega)]; rfl
theorem whereCmp_any (s : Sm) (n : Int) (w : World) : Calls Try.prog 83 #[smV s, .int .i64 n] w fun e w' => e = .returned (.int .i64 (Lib.compareInt s.tm n)) ∧ Below w.heap.size w w' := by
  have D := Lib.hid (fun W => Try.cmp_Compare_int s.tm n W)
  unfold smV
  generalize Lib.compareInt s.tm n = r at *
  go_enter Try.func83, Try.ntmps83
  go_wp2_with fail
  refine (D.out _).mono ?_
  rintro e w1 ⟨rfl, hw⟩
  have HB := Lib.hid (show Below w.heap.size w w1 from hw ▸ below_al w _)
  clear hw
  go_wp2_with fail
  go_ret
  exact ⟨rfl, HB.out⟩
/-- the search by halves of the program -/
def foundS (l : List Sm) (n : Int) : Bool := match l[lbS l n]? with
  | some s => decide (s.tm = n)
  | none => false
set_option maxHeartbeats 4000000 in
set_option maxRecDepth 100000 in
theorem searchS_any (a : Option Addr) (l : List Sm) (c : Nat) (x start : Int) (w : World) (hr : Rw smC 7 w a l) (ho : SmOk start l) (hl : l.length ≤ 20000) :
    Calls Try.prog 82 #[.slice a l.length c, .int .i64 x, .func (.func 83) #[] #[]] w fun e w' => e = .returned (.tuple #[.int .i64 (lbS l x), .bool (foundS l x)]) ∧ Below w.heap.size w w' := by
  have HR := Lib.hid hr
  have HO := Lib.hid ho
  have DZ := Lib.hid (fun (s : Sm) (W : World) => whereCmp_any s x W)
  have crun : ∀ (args : Array Value) (W : World), Sem.run Try.prog (callFunc 83 args) W = .ok (.enter 83 args) W := fun _ _ => by kernel_rfl
  obtain ⟨n, hn⟩ : ∃ n, l.length = n := ⟨_, rfl⟩
  have HN := Lib.hid hn
  rw [hn] at hl ⊢
  clear hr ho hn
  unfold smV at DZ
  go_enter Try.func82, Try.ntmps82
  go_wp2_with fail
  go_loopw [9, 10] (fun iv jv wr => ∃ (i j : Nat), iv = .int .i64 i ∧ jv = .int .i64 j ∧ i ≤ j ∧ j ≤ n ∧ Hid ((∀ s : Sm, 0 < i → l[i - 1]? = some s → s.tm < x) ∧ (∀ s : Sm, l[j]? = some s → x ≤ s.tm)) ∧ ∃ X : Ext w, wr = X.1) (fun iv jv _ => (intOf jv).toNat - (intOf iv).toNat)
  case atStart => exact ⟨0, n, rfl, rfl, by omega, by omega, Lib.hid ⟨fun s h => by omega, fun s h => by rw [List.getElem?_eq_none (by rw [HN.out]; exact Nat.le_refl _)] at h; cases h⟩, ⟨w, Below.refl _ _⟩, rfl⟩
  case round =>
    obtain ⟨i, j, rfl, rfl, hij, hj, HE, X, rfl⟩ := hrel
    by_cases hlt : i < j
    · have t1 : decide ((i : Int) < (j : Int)) = true := by rw [decide_eq_true_eq]; omega
      have t1' : decide (i < j) = true := by simpa using hlt
      obtain ⟨k, hk⟩ : ∃ k : Nat, (i + j) / 2 = k := ⟨_, rfl⟩
      have ek : ((i : Int) + (j : Int)) / 2 = (k : Int) := by omega
      have hki : i ≤ k := by omega
      have hkj : k < j := by omega
      have hkn : k < n := by omega
      have hb1 : (i : Int) ≤ 20000 := by omega
      have hb2 : (j : Int) ≤ 20000 := by omega
      have hb3 : (k : Int) ≤ 20000 := by omega
      obtain ⟨s, hx⟩ : ∃ s, l[k]? = some s := ⟨_, List.getElem?_eq_getElem (by rw [HN.out]; exact hkn)⟩
      have HX := Lib.hid (HR.out.below X.2)
      obtain ⟨ba, oa, rfl, hba, hc⟩ := HX.out.at hx
      have c0 : X.1.cell? ⟨ba, oa + k * 7, none⟩ = some (.int .i64 s.tm) := hc 0 _ rfl
      have c1 := hc 1 _ rfl
      have c2 := hc 2 _ rfl
      have c3 := hc 3 _ rfl
      have c4 := hc 4 _ rfl
      have c5 := hc 5 _ rfl
      have c6 := hc 6 _ rfl
      have D := Lib.hid (DZ.out s)
      have t3 := cmpI_lt s.tm x
      have HHX := Lib.hid hx
      generalize Lib.compareInt s.tm x = cv at D t3
      clear hk hc hx
      by_cases hs : s.tm < x
      · rw [decide_eq_true hs] at t3
        have HH := Lib.hid (show (∀ z : Sm, 0 < k + 1 → l[k + 1 - 1]? = some z → z.tm < x) ∧ (∀ z : Sm, l[j]? = some z → x ≤ z.tm) from ⟨fun z _ hz => by
          rw [Nat.add_sub_cancel, HHX.out] at hz
          injection hz with hz
          subst hz
          exact hs, HE.out.2⟩)
        clear hs HE
        go_wp2_with fail
        refine (D.out _).mono ?_
        rintro e w1 ⟨rfl, hb⟩
        obtain ⟨Z, rfl⟩ : ∃ Z : Ext w, w1 = Z.1 := ⟨⟨w1, below_step X.2 hb⟩, rfl⟩
        clear hb
        go_wp2_with fail
        go_roundw
        case rel => exact ⟨k + 1, j, by go_num, rfl, by omega, hj, HH, Z, rfl⟩
        case measure => simp [intOf]; omega
      · rw [decide_eq_false hs] at t3
        have HH := Lib.hid (show (∀ z : Sm, 0 < i → l[i - 1]? = some z → z.tm < x) ∧ (∀ z : Sm, l[k]? = some z → x ≤ z.tm) from ⟨HE.out.1, fun z hz => by
          rw [HHX.out] at hz
          injection hz with hz
          subst hz
          omega⟩)
        clear hs HE
        go_wp2_with fail
        refine (D.out _).mono ?_
        rintro e w1 ⟨rfl, hb⟩
        obtain ⟨Z, rfl⟩ : ∃ Z : Ext w, w1 = Z.1 := ⟨⟨w1, below_step X.2 hb⟩, rfl⟩
        clear hb
        go_wp2_with fail
        go_roundw
        case rel => exact ⟨i, k, rfl, rfl, hki, by omega, HH, Z, rfl⟩
        case measure => simp [intOf]; omega
    · have t1 : decide ((i : Int) < (j : Int)) = false := by rw [decide_eq_false_iff_not]; omega
      have t1' : decide (i < j) = false := by simpa using hlt
      obtain rfl : i = j := by omega
      have HL := Lib.hid (lbS_halved HO.out (by rw [HN.out]; exact hj) HE.out.1 HE.out.2)
      clear HE hlt hij
      by_cases hin : i < n
      · have t2 : decide ((i : Int) < (n : Int)) = true := by rw [decide_eq_true_eq]; omega
        have t2' : decide (i < n) = true := by simpa using hin
        obtain ⟨s, hx⟩ : ∃ s, l[i]? = some s := ⟨_, List.getElem?_eq_getElem (by rw [HN.out]; exact hin)⟩
        have HX := Lib.hid (HR.out.below X.2)
        obtain ⟨ba, oa, rfl, hba, hc⟩ := HX.out.at hx
        have c0 : X.1.cell? ⟨ba, oa + i * 7, none⟩ = some (.int .i64 s.tm) := hc 0 _ rfl
        have c1 := hc 1 _ rfl
        have c2 := hc 2 _ rfl
        have c3 := hc 3 _ rfl
        have c4 := hc 4 _ rfl
        have c5 := hc 5 _ rfl
        have c6 := hc 6 _ rfl
        have D := Lib.hid (DZ.out s)
        have t3 := cmpI_eq s.tm x
        have HF := Lib.hid (show foundS l x = decide (s.tm = x) by unfold foundS; rw [HL.out, hx])
        generalize Lib.compareInt s.tm x = cv at D t3
        generalize decide (s.tm = x) = bf at t3 HF
        clear hc hx
        go_wp2_with fail
        refine (D.out _).mono ?_
        rintro e w1 ⟨rfl, hb⟩
        have HB := Lib.hid (below_step X.2 hb)
        clear hb
        go_wp2_with fail
        go_ret2
        exact ⟨by rw [HL.out, HF.out]; rfl, HB.out⟩
      · have t2 : decide ((i : Int) < (n : Int)) = false := by rw [decide_eq_false_iff_not]; omega
        have t2' : decide (i < n) = false := by simpa using hin
        have HF := Lib.hid (show foundS l x = false by unfold foundS; rw [HL.out, List.getElem?_eq_none (by rw [HN.out]; omega)])
        have HX := Lib.hid X.2
        clear hin
        go_wp2_with fail
        go_ret2
        exact ⟨by rw [HL.out, HF.out]; rfl, HX.out⟩
/-! ### a number on a way -/
theorem sc_near {a num den : Int} (ha : -200000000 ≤ a) (ha' : a ≤ 200000000) (hn : 0 ≤ num) (hd : num ≤ den) (hd1 : 1 ≤ den) (hd2 : den ≤ 1000000) : -200000001 ≤ (Sc.sc a num den 4).1 ∧ (Sc.sc a num den 4).1 ≤ 200000001 := by
  have hna : a.natAbs ≤ 200000000 := by omega
  have hnn : num.toNat ≤ den.toNat := by omega
  have hdn : den.toNat ≤ 1000000 := by omega
  have hmul : a.natAbs * num.toNat ≤ a.natAbs * den.toNat := Nat.mul_le_mul_left _ hnn
  have hbig : a.natAbs * num.toNat ≤ 200000000 * 1000000 := Nat.mul_le_mul hna (Nat.le_trans hnn hdn)
  rw [Sc.sc_small a num den 4 (by decide) (by decide) hd1 hn (Nat.lt_of_le_of_lt hbig (by decide))]
  have hq : a.natAbs * num.toNat / den.toNat ≤ a.natAbs := by
    have h1 : a.natAbs * num.toNat / den.toNat ≤ a.natAbs * den.toNat / den.toNat := Nat.div_le_div_right hmul
    rwa [Nat.mul_div_cancel _ (by omega)] at h1
  generalize a.natAbs * num.toNat / den.toNat = q at hq
  have hQ : ∀ b r d, Sc.quo 4 b q r d ≤ q + 1 := fun b r d => by
    unfold Sc.quo
    split <;> omega
  have := hQ (decide (a < 0)) (a.natAbs * num.toNat % den.toNat) den.toNat
  generalize Sc.quo 4 (decide (a < 0)) q (a.natAbs * num.toNat % den.toNat) den.toNat = Q at this
  unfold Sc.sgn
  split <;> simp only <;> omega
theorem betw_near {p q part whole : Int} (hp : -100000000 ≤ p ∧ p ≤ 100000000) (hq : -100000000 ≤ q ∧ q ≤ 100000000) (h0 : 0 ≤ part) (h1 : part ≤ whole) (h2 : 1 ≤ whole) (h3 : whole ≤ 1000000) : -300000001 ≤ betw p q part whole ∧ betw p q part whole ≤ 300000001 := by
  have := sc_near (a := q - p) (num := part) (den := whole) (by omega) (by omega) h0 h1 h2 h3
  unfold betw
  omega
set_option maxHeartbeats 1000000 in
theorem between_any (p q part whole : Int) (w : World) (hp : -100000000 ≤ p ∧ p ≤ 100000000) (hq : -100000000 ≤ q ∧ q ≤ 100000000) (h0 : 0 ≤ part) (h1 : part ≤ whole) (h2 : 1 ≤ whole) (h3 : whole ≤ 1000000) :
    Calls Try.prog 88 #[.int .i64 p, .int .i64 q, .int .i64 part, .int .i64 whole] w fun e w' => e = .returned (.int .i64 (betw p q part whole)) ∧ Below w.heap.size w w' := by
  have D := Lib.hid (fun W => scale_any (q - p) part whole 4 W (by omega) (by omega) (by omega) (by omega))
  have hn := sc_near (a := q - p) (num := part) (den := whole) (by omega) (by omega) h0 h1 h2 h3
  unfold betw
  unfold scRet at D
  generalize Sc.sc (q - p) part whole 4 = r at *
  obtain ⟨r1, r2⟩ := r
  simp only at *
  obtain ⟨hn1, hn2⟩ := hn
  obtain ⟨hp1, hp2⟩ := hp
  obtain ⟨hq1, hq2⟩ := hq
  clear h0 h1 h2 h3
  go_enter Try.func88, Try.ntmps88
  go_wp2_with fail
  refine (D.out _).mono ?_
  rintro e w1 ⟨rfl, hb⟩
  have HB := Lib.hid hb
  clear hb D
  go_wp2_with fail
  go_ret
  exact ⟨rfl, HB.out⟩
set_option maxHeartbeats 1000000 in
theorem rbetween_any (p q part whole : Int) (w : World) (hp : -100000000 ≤ p ∧ p ≤ 100000000) (hq : -100000000 ≤ q ∧ q ≤ 100000000) (h0 : 0 ≤ part) (h1 : part ≤ whole) (h2 : 1 ≤ whole) (h3 : whole ≤ 1000000) :
    Calls Try.prog 89 #[.int .i64 p, .int .i64 q, .int .i64 part, .int .i64 whole] w fun e w' => e = .returned (.int .i64 (betw p q part whole)) ∧ Below w.heap.size w w' := by
  have D := Lib.hid (fun W => rscale_any (q - p) part whole 4 W (by omega) (by omega) (by omega) (by omega))
  have hn := sc_near (a := q - p) (num := part) (den := whole) (by omega) (by omega) h0 h1 h2 h3
  unfold betw
  unfold scRet at D
  generalize Sc.sc (q - p) part whole 4 = r at *
  obtain ⟨r1, r2⟩ := r
  simp only at *
  obtain ⟨hn1, hn2⟩ := hn
  obtain ⟨hp1, hp2⟩ := hp
  obtain ⟨hq1, hq2⟩ := hq
  clear h0 h1 h2 h3
  go_enter Try.func89, Try.ntmps89
  go_wp2_with fail
  refine (D.out _).mono ?_
  rintro e w1 ⟨rfl, hb⟩
  have HB := Lib.hid hb
  clear hb D
  go_wp2_with fail
  go_ret
  exact ⟨rfl, HB.out⟩
end Go.Proofs.Ytckjdpnmalkpnaa

/- Where somebody is, of both. (printed by wip/t/gen_tfg.py) -/
namespace Go.Proofs.Ytckjdpnmalkpnaa
open Go.RowKit Go.BigFrame
open Tr (inR)

/-- a block that holds a sample -/
def SmB (w : World) (g : Nat) (s : Sm) : Prop := w.heap[g]? = some (.cells #[.int .i64 s.tm, .int .i64 s.x, .int .i64 s.y, .int .i64 s.z, .int .i64 s.pu, .int .i64 s.po, .int .i64 s.st] 74 (0, 0))
theorem SmB.cell {w : World} {g : Nat} {s : Sm} (h : SmB w g s) : w.cell? ⟨g, 0, none⟩ = some (.int .i64 s.tm) ∧ w.cell? ⟨g, 1, none⟩ = some (.int .i64 s.x) ∧ w.cell? ⟨g, 2, none⟩ = some (.int .i64 s.y) ∧ w.cell? ⟨g, 3, none⟩ = some (.int .i64 s.z) ∧ w.cell? ⟨g, 4, none⟩ = some (.int .i64 s.pu) ∧ w.cell? ⟨g, 5, none⟩ = some (.int .i64 s.po) ∧ w.cell? ⟨g, 6, none⟩ = some (.int .i64 s.st) := by
  unfold SmB at h
  simp [World.cell?, h]
theorem SmB.free {w : World} {g : Nat} {s : Sm} (h : SmB w g s) (i : Nat) : w.frozen? ⟨g, i, none⟩ = false := by
  unfold SmB at h
  simp [World.frozen?, h]
theorem SmB.lt {w : World} {g : Nat} {s : Sm} (h : SmB w g s) : g < w.heap.size := lt_of_block h
theorem SmB.below {w w' : World} {g : Nat} {s : Sm} (h : SmB w g s) (hb : Below w.heap.size w w') : SmB w' g s := (hb.block g h.lt).trans h
theorem SmB.kept {O : Nat → Prop} {w w' : World} {g : Nat} {s : Sm} (h : SmB w g s) (hk : Kept O w w') (ho : ¬ O g) : SmB w' g s := (hk.block g h.lt ho).trans h
theorem set_cells {w : World} {b i : Nat} {cs : Array Value} {T : TypeId} {fz : Nat × Nat} {v : Value} (h : w.heap[b]? = some (.cells cs T fz)) : (w.setCell ⟨b, i, none⟩ v).heap[b]? = some (.cells (cs.setIfInBounds i v) T fz) := by
  simp [World.setCell, Array.getElem?_modify, h]
theorem keep_set {O : Nat → Prop} {a : World} {b i : Nat} {v : Value} (ho : O b) : Kept O a (a.setCell ⟨b, i, none⟩ v) := by
  refine ⟨rfl, rfl, rfl, Nat.le_of_eq (by simp [World.setCell]), fun k _ hn => Below.heap_setCell a ⟨b, i, none⟩ v k (fun e => hn (e ▸ ho))⟩
theorem SmB.set0 {w : World} {g : Nat} {s : Sm} (h : SmB w g s) (v : Int) : SmB (w.setCell ⟨g, 0, none⟩ (.int .i64 v)) g { s with tm := v } := set_cells h
theorem SmB.set1 {w : World} {g : Nat} {s : Sm} (h : SmB w g s) (v : Int) : SmB (w.setCell ⟨g, 1, none⟩ (.int .i64 v)) g { s with x := v } := set_cells h
theorem SmB.set2 {w : World} {g : Nat} {s : Sm} (h : SmB w g s) (v : Int) : SmB (w.setCell ⟨g, 2, none⟩ (.int .i64 v)) g { s with y := v } := set_cells h
theorem SmB.set3 {w : World} {g : Nat} {s : Sm} (h : SmB w g s) (v : Int) : SmB (w.setCell ⟨g, 3, none⟩ (.int .i64 v)) g { s with z := v } := set_cells h
theorem SmB.set4 {w : World} {g : Nat} {s : Sm} (h : SmB w g s) (v : Int) : SmB (w.setCell ⟨g, 4, none⟩ (.int .i64 v)) g { s with pu := v } := set_cells h
theorem SmB.set5 {w : World} {g : Nat} {s : Sm} (h : SmB w g s) (v : Int) : SmB (w.setCell ⟨g, 5, none⟩ (.int .i64 v)) g { s with po := v } := set_cells h
theorem SmB.set6 {w : World} {g : Nat} {s : Sm} (h : SmB w g s) (v : Int) : SmB (w.setCell ⟨g, 6, none⟩ (.int .i64 v)) g { s with st := v } := set_cells h
theorem SmB.store {w : World} {g : Nat} {s : Sm} (h : SmB w g s) (u : Sm) : ∃ W, (((((((w.setCell ⟨g, 0, none⟩ (.int .i64 u.tm)).setCell ⟨g, 1, none⟩ (.int .i64 u.x)).setCell ⟨g, 2, none⟩ (.int .i64 u.y)).setCell ⟨g, 3, none⟩ (.int .i64 u.z)).setCell ⟨g, 4, none⟩ (.int .i64 u.pu)).setCell ⟨g, 5, none⟩ (.int .i64 u.po)).setCell ⟨g, 6, none⟩ (.int .i64 u.st)) = W ∧ SmB W g u ∧ ∀ O : Nat → Prop, O g → Kept O w W :=
  ⟨_, rfl, (((((((h.set0 u.tm).set1 u.x).set2 u.y).set3 u.z).set4 u.pu).set5 u.po).set6 u.st), fun _ ho => ((((((keep_set ho).trans (keep_set ho)).trans (keep_set ho)).trans (keep_set ho)).trans (keep_set ho)).trans (keep_set ho)).trans (keep_set ho)⟩
/-- the world behind an allocation of a sample -/
theorem alloc_sm (w : World) (s : Sm) : ∃ W, w.alloc (.cells #[.int .i64 s.tm, .int .i64 s.x, .int .i64 s.y, .int .i64 s.z, .int .i64 s.pu, .int .i64 s.po, .int .i64 s.st] 74) = W ∧ Below w.heap.size w W ∧ W.heap.size = w.heap.size + 1 ∧ SmB W w.heap.size s :=
  ⟨_, rfl, below_al _ _, by simp, heap_alloc_new w _⟩
theorem smSize : Hid ((Try.prog.info? 74).map (·.size) = some 7) := Lib.hid (by kernel_rfl)
/-- two samples between which one looks -/
structure Btw (p q : Sm) (n : Int) : Prop where
  rp : rangeS p = true
  rq : rangeS q = true
  h0 : p.tm ≤ n
  h1 : n ≤ q.tm
  h2 : p.tm < q.tm
  h3 : 0 ≤ p.tm
  h4 : q.tm ≤ 1000000
theorem range_xyz {s : Sm} (h : rangeS s = true) : (-100000000 ≤ s.x ∧ s.x ≤ 100000000) ∧ (-100000000 ≤ s.y ∧ s.y ≤ 100000000) ∧ (-100000000 ≤ s.z ∧ s.z ≤ 100000000) := by
  unfold rangeS at h
  simp only [Bool.and_eq_true, inR_iff] at h
  omega
set_option maxHeartbeats 8000000 in
set_option maxRecDepth 100000 in
theorem amid_any (p q : Sm) (n : Int) (w : World) (h : Btw p q n) : Calls Try.prog 84 #[smV p, smV q, .int .i64 n] w fun e w' => e = .returned (smV (amidS p q n)) ∧ Below w.heap.size w w' := by
  obtain ⟨px, py, pz⟩ := range_xyz h.rp
  obtain ⟨qx, qy, qz⟩ := range_xyz h.rq
  have hb := h.h0
  have hc := h.h1
  have hd := h.h2
  have he := h.h3
  have hf := h.h4
  have DX := Lib.hid (fun W => between_any p.x q.x (n - p.tm) (q.tm - p.tm) W px qx (by omega) (by omega) (by omega) (by omega))
  have DY := Lib.hid (fun W => between_any p.y q.y (n - p.tm) (q.tm - p.tm) W py qy (by omega) (by omega) (by omega) (by omega))
  have DZ := Lib.hid (fun W => between_any p.z q.z (n - p.tm) (q.tm - p.tm) W pz qz (by omega) (by omega) (by omega) (by omega))
  obtain ⟨tx, htx⟩ : ∃ t, betw p.x q.x (n - p.tm) (q.tm - p.tm) = t := ⟨_, rfl⟩
  obtain ⟨ty, hty⟩ : ∃ t, betw p.y q.y (n - p.tm) (q.tm - p.tm) = t := ⟨_, rfl⟩
  obtain ⟨tz, htz⟩ : ∃ t, betw p.z q.z (n - p.tm) (q.tm - p.tm) = t := ⟨_, rfl⟩
  have HV : Hid (amidS p q n = ⟨n, tx, ty, tz, p.pu, p.po, p.st⟩) := Lib.hid (by unfold amidS; rw [htx, hty, htz])
  rw [HV.out]
  rw [htx] at DX
  rw [hty] at DY
  rw [htz] at DZ
  have HI := smSize
  obtain ⟨V0, hV0, hb0, hs0, hl0⟩ := alloc_sm w p
  obtain ⟨V1, hV1, hb1, hs1, hl1⟩ := alloc_sm V0 q
  obtain ⟨V2, hV2, hb2, hs2, hl2⟩ := alloc_sm V1 sm0
  rw [hs0] at hl1
  rw [hs1, hs0] at hl2
  unfold sm0 at hV2
  have HP := Lib.hid ((hl0.below hb1).below hb2)
  have HQ := Lib.hid (hl1.below hb2)
  have HR := Lib.hid hl2
  have HV0 := Lib.hid hV0
  have HV1 := Lib.hid hV1
  have HV2 := Lib.hid hV2
  have HB := Lib.hid (below_step (below_step hb0 hb1) hb2)
  have HS := Lib.hid (show w.heap.size + 3 = V2.heap.size by omega)
  obtain ⟨p0, p1, p2, p3, p4, p5, p6⟩ := HP.out.cell
  obtain ⟨q0, q1, q2, q3, q4, q5, q6⟩ := HQ.out.cell
  have P0 := Ext.ex p0
  have P1 := Ext.ex p1
  have P2 := Ext.ex p2
  have P3 := Ext.ex p3
  have P4 := Ext.ex p4
  have P5 := Ext.ex p5
  have P6 := Ext.ex p6
  have Q0 := Ext.ex q0
  have Q1 := Ext.ex q1
  have Q2 := Ext.ex q2
  have Q3 := Ext.ex q3
  have Q4 := Ext.ex q4
  have Q5 := Ext.ex q5
  have Q6 := Ext.ex q6
  clear hV0 hb0 hs0 hl0 hV1 hb1 hs1 hl1 hV2 hb2 hs2 hl2 htx hty htz px py pz qx qy qz h p0 p1 p2 p3 p4 p5 p6 q0 q1 q2 q3 q4 q5 q6 HV
  unfold smV
  go_enter Try.func84, Try.ntmps84
  go_upto_region 1 with (fail)
  simp only at HV2
  rw [HV0.out, HV1.out, HV2.out]
  refine ext_wp fun X => ?_
  refine wp_region_ext (W := V2) _ (by kernel_rfl) (by kernel_rfl) ?_
  repeat go_big_quiet_step (fail)
  refine wpQuiet_nil ?_
  rintro _ ⟨Y, rfl⟩
  obtain ⟨V3, hV3, hb3, hs3, hl3⟩ := alloc_sm Y.1 p
  have HV3 := Lib.hid hV3
  have HY := Lib.hid (And.intro HS.out Y.2.size)
  obtain ⟨G, hG⟩ : ∃ G, Y.1.heap.size = G := ⟨_, rfl⟩
  clear hV3
  go_upto_region 3 with (fail)
  rw [HV3.out]
  rw [hG] at hl3
  have HGR := Lib.hid hG
  have HRP := Lib.hid (And.intro (HP.out.below (below_step Y.2 hb3)) (And.intro (HQ.out.below (below_step Y.2 hb3)) (And.intro (HR.out.below (below_step Y.2 hb3)) hl3)))
  have HNE := Lib.hid (show ¬ (w.heap.size = G ∨ w.heap.size = w.heap.size + 2) ∧ ¬ (w.heap.size + 1 = G ∨ w.heap.size + 1 = w.heap.size + 2) ∧ ¬ G = w.heap.size + 2 ∧ w.heap.size ≤ G from by have := HY.out; omega)
  have HB3 := Lib.hid (below_step (below_step HB.out Y.2) hb3)
  clear hb3 hs3 hl3 hG HV3 HP HQ HR HY
  clear P0 P1 P2 P3 P4 P5 P6
  clear Q0 Q1 Q2 Q3 Q4 Q5 Q6
  obtain ⟨p0, p1, p2, p3, p4, p5, p6⟩ := HRP.out.1.cell
  obtain ⟨q0, q1, q2, q3, q4, q5, q6⟩ := HRP.out.2.1.cell
  have P1 := ExtO.ex (O := fun b => b = G ∨ b = w.heap.size + 2) HNE.out.1 p1
  have P2 := ExtO.ex (O := fun b => b = G ∨ b = w.heap.size + 2) HNE.out.1 p2
  have P3 := ExtO.ex (O := fun b => b = G ∨ b = w.heap.size + 2) HNE.out.1 p3
  have Q1 := ExtO.ex (O := fun b => b = G ∨ b = w.heap.size + 2) HNE.out.2.1 q1
  have Q2 := ExtO.ex (O := fun b => b = G ∨ b = w.heap.size + 2) HNE.out.2.1 q2
  have Q3 := ExtO.ex (O := fun b => b = G ∨ b = w.heap.size + 2) HNE.out.2.1 q3
  clear p0 p1 p2 p3 p4 p5 p6 q0 q1 q2 q3 q4 q5 q6
  refine held_start (C := fun w' => ∃ Z : ExtO (fun b => b = G ∨ b = w.heap.size + 2) V3, w' = Z.1) (by kernel_rfl) ?_
  obtain ⟨Z0, hZ0⟩ : ∃ Z : ExtO (fun b => b = G ∨ b = w.heap.size + 2) V3, ({ V3 with drawn := V3.drawn + 1 } : World) = Z.1 := ⟨⟨{ V3 with drawn := V3.drawn + 1 }, ⟨rfl, rfl, rfl, Nat.le_refl _, fun _ _ _ => rfl⟩⟩, rfl⟩
  have HBX : Hid (SmB Z0.1 G p ∧ SmB Z0.1 (w.heap.size + 2) sm0) := Lib.hid (hZ0 ▸ ⟨HRP.out.2.2.2.below ⟨rfl, rfl, rfl, Nat.le_refl _, fun _ _ => rfl⟩, HRP.out.2.2.1.below ⟨rfl, rfl, rfl, Nat.le_refl _, fun _ _ => rfl⟩⟩)
  rw [hZ0]
  clear hZ0 HRP
  refine held_quiet (by kernel_rfl) (fun _ _ d _ _ h => by cases d <;> exact h) ⟨Z0, rfl⟩ [0, 1, 2, 3, 4, 5, 6, 8, 9, 10, 11, 12, 13, 15, 16, 17, 18, 19, 20, 22] 10 _ _ (by kernel_rfl) ?_
  change wpQuiet _ _ _ _ (_ :: _ :: _ :: _ :: _ :: _ :: _ :: _ :: _ :: _ :: _ :: _ :: _ :: _ :: _ :: _ :: _ :: _ :: _ :: _ :: []) _
  repeat go_big_quiet_step (fail)
  refine wpQuiet_nil ?_
  refine held_do (i := 7) _ rfl (by kernel_rfl) rfl (fun K hK => ?_)
  go_simp
  refine (DX.out _).mono ?_
  rintro e w1 ⟨rfl, hb⟩
  obtain ⟨Z1, rfl⟩ : ∃ Z : ExtO (fun b => b = G ∨ b = w.heap.size + 2) V3, w1 = Z.1 := ⟨⟨w1, Z0.2.trans (Kept.of_below hb)⟩, rfl⟩
  have HBX : Hid (SmB Z1.1 G p ∧ SmB Z1.1 (w.heap.size + 2) sm0) := Lib.hid (⟨HBX.out.1.below hb, HBX.out.2.below hb⟩)
  refine hK _ _ ⟨Z1, rfl⟩ ?_
  clear hK K hb
  try simp only [Act.put, List.setIfInBounds_toArray, List.set_cons_zero, List.set_cons_succ]
  refine held_do (i := 14) _ rfl (by kernel_rfl) rfl (fun K hK => ?_)
  go_simp
  refine (DY.out _).mono ?_
  rintro e w2 ⟨rfl, hb⟩
  obtain ⟨Z2, rfl⟩ : ∃ Z : ExtO (fun b => b = G ∨ b = w.heap.size + 2) V3, w2 = Z.1 := ⟨⟨w2, Z1.2.trans (Kept.of_below hb)⟩, rfl⟩
  have HBX : Hid (SmB Z2.1 G p ∧ SmB Z2.1 (w.heap.size + 2) sm0) := Lib.hid (⟨HBX.out.1.below hb, HBX.out.2.below hb⟩)
  refine hK _ _ ⟨Z2, rfl⟩ ?_
  clear hK K hb
  try simp only [Act.put, List.setIfInBounds_toArray, List.set_cons_zero, List.set_cons_succ]
  refine held_do (i := 21) _ rfl (by kernel_rfl) rfl (fun K hK => ?_)
  go_simp
  refine (DZ.out _).mono ?_
  rintro e w3 ⟨rfl, hb⟩
  obtain ⟨Z3, rfl⟩ : ∃ Z : ExtO (fun b => b = G ∨ b = w.heap.size + 2) V3, w3 = Z.1 := ⟨⟨w3, Z2.2.trans (Kept.of_below hb)⟩, rfl⟩
  have HBX : Hid (SmB Z3.1 G p ∧ SmB Z3.1 (w.heap.size + 2) sm0) := Lib.hid (⟨HBX.out.1.below hb, HBX.out.2.below hb⟩)
  refine hK _ _ ⟨Z3, rfl⟩ ?_
  clear hK K hb
  try simp only [Act.put, List.setIfInBounds_toArray, List.set_cons_zero, List.set_cons_succ]
  obtain ⟨g0, g1, g2, g3, g4, g5, g6⟩ := HBX.out.1.cell
  have f0 := HBX.out.1.free 0
  refine held_do (i := 23) _ rfl (by kernel_rfl) rfl (fun K hK => ?_)
  go_simp
  obtain ⟨Z4, hZ⟩ : ∃ Z : ExtO (fun b => b = G ∨ b = w.heap.size + 2) V3, Z3.1.setCell ⟨G, 0, none⟩ (.int .i64 n) = Z.1 := ⟨⟨_, Z3.2.trans (keep_set (Or.inl rfl))⟩, rfl⟩
  have HBX : Hid (SmB Z4.1 G { p with tm := n } ∧ SmB Z4.1 (w.heap.size + 2) sm0) := Lib.hid (hZ ▸ ⟨HBX.out.1.set0 n, HBX.out.2.kept (O := fun b => b = G) (keep_set rfl) (fun e => HNE.out.2.2.1 e.symm)⟩)
  rw [hZ]
  refine hK _ _ ⟨Z4, rfl⟩ ?_
  clear hK K hZ g0 g1 g2 g3 g4 g5 g6 f0
  try simp only [Act.put, List.setIfInBounds_toArray, List.set_cons_zero, List.set_cons_succ]
  refine held_quiet (by kernel_rfl) (fun _ _ d _ _ h => by cases d <;> exact h) ⟨Z4, rfl⟩ [24] 5 _ _ (by kernel_rfl) ?_
  change wpQuiet _ _ _ _ (_ :: []) _
  repeat go_big_quiet_step (fail)
  refine wpQuiet_nil ?_
  obtain ⟨g0, g1, g2, g3, g4, g5, g6⟩ := HBX.out.1.cell
  have f1 := HBX.out.1.free 1
  refine held_do (i := 25) _ rfl (by kernel_rfl) rfl (fun K hK => ?_)
  go_simp
  obtain ⟨Z5, hZ⟩ : ∃ Z : ExtO (fun b => b = G ∨ b = w.heap.size + 2) V3, Z4.1.setCell ⟨G, 1, none⟩ (.int .i64 tx) = Z.1 := ⟨⟨_, Z4.2.trans (keep_set (Or.inl rfl))⟩, rfl⟩
  have HBX : Hid (SmB Z5.1 G { { p with tm := n } with x := tx } ∧ SmB Z5.1 (w.heap.size + 2) sm0) := Lib.hid (hZ ▸ ⟨HBX.out.1.set1 tx, HBX.out.2.kept (O := fun b => b = G) (keep_set rfl) (fun e => HNE.out.2.2.1 e.symm)⟩)
  rw [hZ]
  refine hK _ _ ⟨Z5, rfl⟩ ?_
  clear hK K hZ g0 g1 g2 g3 g4 g5 g6 f1
  try simp only [Act.put, List.setIfInBounds_toArray, List.set_cons_zero, List.set_cons_succ]
  refine held_quiet (by kernel_rfl) (fun _ _ d _ _ h => by cases d <;> exact h) ⟨Z5, rfl⟩ [26] 3 _ _ (by kernel_rfl) ?_
  change wpQuiet _ _ _ _ (_ :: []) _
  repeat go_big_quiet_step (fail)
  refine wpQuiet_nil ?_
  obtain ⟨g0, g1, g2, g3, g4, g5, g6⟩ := HBX.out.1.cell
  have f2 := HBX.out.1.free 2
  refine held_do (i := 27) _ rfl (by kernel_rfl) rfl (fun K hK => ?_)
  go_simp
  obtain ⟨Z6, hZ⟩ : ∃ Z : ExtO (fun b => b = G ∨ b = w.heap.size + 2) V3, Z5.1.setCell ⟨G, 2, none⟩ (.int .i64 ty) = Z.1 := ⟨⟨_, Z5.2.trans (keep_set (Or.inl rfl))⟩, rfl⟩
  have HBX : Hid (SmB Z6.1 G { { { p with tm := n } with x := tx } with y := ty } ∧ SmB Z6.1 (w.heap.size + 2) sm0) := Lib.hid (hZ ▸ ⟨HBX.out.1.set2 ty, HBX.out.2.kept (O := fun b => b = G) (keep_set rfl) (fun e => HNE.out.2.2.1 e.symm)⟩)
  rw [hZ]
  refine hK _ _ ⟨Z6, rfl⟩ ?_
  clear hK K hZ g0 g1 g2 g3 g4 g5 g6 f2
  try simp only [Act.put, List.setIfInBounds_toArray, List.set_cons_zero, List.set_cons_succ]
  refine held_quiet (by kernel_rfl) (fun _ _ d _ _ h => by cases d <;> exact h) ⟨Z6, rfl⟩ [28] 1 _ _ (by kernel_rfl) ?_
  change wpQuiet _ _ _ _ (_ :: []) _
  repeat go_big_quiet_step (fail)
  refine wpQuiet_nil ?_
  obtain ⟨g0, g1, g2, g3, g4, g5, g6⟩ := HBX.out.1.cell
  have f3 := HBX.out.1.free 3
  refine held_do (i := 29) _ rfl (by kernel_rfl) rfl (fun K hK => ?_)
  go_simp
  obtain ⟨Z7, hZ⟩ : ∃ Z : ExtO (fun b => b = G ∨ b = w.heap.size + 2) V3, Z6.1.setCell ⟨G, 3, none⟩ (.int .i64 tz) = Z.1 := ⟨⟨_, Z6.2.trans (keep_set (Or.inl rfl))⟩, rfl⟩
  have HBX : Hid (SmB Z7.1 G { { { { p with tm := n } with x := tx } with y := ty } with z := tz } ∧ SmB Z7.1 (w.heap.size + 2) sm0) := Lib.hid (hZ ▸ ⟨HBX.out.1.set3 tz, HBX.out.2.kept (O := fun b => b = G) (keep_set rfl) (fun e => HNE.out.2.2.1 e.symm)⟩)
  rw [hZ]
  refine hK _ _ ⟨Z7, rfl⟩ ?_
  clear hK K hZ g0 g1 g2 g3 g4 g5 g6 f3
  try simp only [Act.put, List.setIfInBounds_toArray, List.set_cons_zero, List.set_cons_succ]
  refine wpAnyH_done (by kernel_rfl) ?_ _
  obtain ⟨g0, g1, g2, g3, g4, g5, g6⟩ := HBX.out.1.cell
  obtain ⟨r0, r1, r2, r3, r4, r5, r6⟩ := HBX.out.2.cell
  have fr := HBX.out.2.free
  have f0 := fr 0
  have f1 := fr 1
  have f2 := fr 2
  have f3 := fr 3
  have f4 := fr 4
  have f5 := fr 5
  have f6 := fr 6
  try simp only at g0 g1 g2 g3 g4 g5 g6
  unfold sm0 at r0 r1 r2 r3 r4 r5 r6
  try simp only at r0 r1 r2 r3 r4 r5 r6
  clear fr
  obtain ⟨WE, hWE, hWB, hWK⟩ := HBX.out.2.store ⟨n, tx, ty, tz, p.pu, p.po, p.st⟩
  have HWE := Lib.hid hWE
  have HWB := Lib.hid (And.intro hWB (show Below w.heap.size w WE from Kept.below HB3.out (Z7.2.trans (hWK (fun b => b = G ∨ b = w.heap.size + 2) (Or.inr rfl))) HB3.out.size (fun k hk e => by have := HNE.out; omega)))
  clear hWE hWB hWK
  go_wp2_with fail
  try simp only at HWE
  rw [HWE.out]
  exact bodyPost_ret (v := _) (results_cell_row Try.results84 _ _ (w.heap.size + 2) _ _ _ _ rfl HWB.out.1 Try.underlying74 rfl HI.out) rfl ⟨rfl, HWB.out.2⟩
set_option maxHeartbeats 8000000 in
set_option maxRecDepth 100000 in
theorem rat_any (p q : Sm) (n : Int) (w : World) (h : Btw p q n) : Calls Try.prog 85 #[smV p, smV q, .int .i64 n] w fun e w' => e = .returned (smV (amidS p q n)) ∧ Below w.heap.size w w' := by
  obtain ⟨px, py, pz⟩ := range_xyz h.rp
  obtain ⟨qx, qy, qz⟩ := range_xyz h.rq
  have hb := h.h0
  have hc := h.h1
  have hd := h.h2
  have he := h.h3
  have hf := h.h4
  have DX := Lib.hid (fun W => rbetween_any p.x q.x (n - p.tm) (q.tm - p.tm) W px qx (by omega) (by omega) (by omega) (by omega))
  have DY := Lib.hid (fun W => rbetween_any p.y q.y (n - p.tm) (q.tm - p.tm) W py qy (by omega) (by omega) (by omega) (by omega))
  have DZ := Lib.hid (fun W => rbetween_any p.z q.z (n - p.tm) (q.tm - p.tm) W pz qz (by omega) (by omega) (by omega) (by omega))
  obtain ⟨tx, htx⟩ : ∃ t, betw p.x q.x (n - p.tm) (q.tm - p.tm) = t := ⟨_, rfl⟩
  obtain ⟨ty, hty⟩ : ∃ t, betw p.y q.y (n - p.tm) (q.tm - p.tm) = t := ⟨_, rfl⟩
  obtain ⟨tz, htz⟩ : ∃ t, betw p.z q.z (n - p.tm) (q.tm - p.tm) = t := ⟨_, rfl⟩
  have HV : Hid (amidS p q n = ⟨n, tx, ty, tz, p.pu, p.po, p.st⟩) := Lib.hid (by unfold amidS; rw [htx, hty, htz])
  rw [HV.out]
  rw [htx] at DX
  rw [hty] at DY
  rw [htz] at DZ
  have HI := smSize
  obtain ⟨V0, hV0, hb0, hs0, hl0⟩ := alloc_sm w p
  obtain ⟨V1, hV1, hb1, hs1, hl1⟩ := alloc_sm V0 q
  obtain ⟨V2, hV2, hb2, hs2, hl2⟩ := alloc_sm V1 sm0
  rw [hs0] at hl1
  rw [hs1, hs0] at hl2
  unfold sm0 at hV2
  have HP := Lib.hid ((hl0.below hb1).below hb2)
  have HQ := Lib.hid (hl1.below hb2)
  have HR := Lib.hid hl2
  have HV0 := Lib.hid hV0
  have HV1 := Lib.hid hV1
  have HV2 := Lib.hid hV2
  have HB := Lib.hid (below_step (below_step hb0 hb1) hb2)
  have HS := Lib.hid (show w.heap.size + 3 = V2.heap.size by omega)
  obtain ⟨p0, p1, p2, p3, p4, p5, p6⟩ := HP.out.cell
  obtain ⟨q0, q1, q2, q3, q4, q5, q6⟩ := HQ.out.cell
  have P0 := Ext.ex p0
  have P1 := Ext.ex p1
  have P2 := Ext.ex p2
  have P3 := Ext.ex p3
  have P4 := Ext.ex p4
  have P5 := Ext.ex p5
  have P6 := Ext.ex p6
  have Q0 := Ext.ex q0
  have Q1 := Ext.ex q1
  have Q2 := Ext.ex q2
  have Q3 := Ext.ex q3
  have Q4 := Ext.ex q4
  have Q5 := Ext.ex q5
  have Q6 := Ext.ex q6
  clear hV0 hb0 hs0 hl0 hV1 hb1 hs1 hl1 hV2 hb2 hs2 hl2 htx hty htz px py pz qx qy qz h p0 p1 p2 p3 p4 p5 p6 q0 q1 q2 q3 q4 q5 q6 HV
  unfold smV
  go_enter Try.func85, Try.ntmps85
  go_upto_region 1 with (fail)
  simp only at HV2
  rw [HV0.out, HV1.out, HV2.out]
  refine ext_wp fun X => ?_
  refine wp_region_ext (W := V2) _ (by kernel_rfl) (by kernel_rfl) ?_
  repeat go_big_quiet_step (fail)
  refine wpQuiet_nil ?_
  rintro _ ⟨Y, rfl⟩
  have HNE := Lib.hid (show ¬ (w.heap.size = w.heap.size + 2) ∧ ¬ (w.heap.size + 1 = w.heap.size + 2) from by omega)
  have HRP := Lib.hid (And.intro (HP.out.below Y.2) (And.intro (HQ.out.below Y.2) (HR.out.below Y.2)))
  have HB3 := Lib.hid (below_step HB.out Y.2)
  obtain ⟨V3, hV3⟩ : ∃ V, Y.1 = V := ⟨_, rfl⟩
  rw [hV3] at HRP HB3
  go_wp2_with fail
  rw [hV3]
  clear hV3 HP HQ HR
  clear P0 P1 P2 P3 P4 P5 P6
  clear Q0 Q1 Q2 Q3 Q4 Q5 Q6
  obtain ⟨p0, p1, p2, p3, p4, p5, p6⟩ := HRP.out.1.cell
  obtain ⟨q0, q1, q2, q3, q4, q5, q6⟩ := HRP.out.2.1.cell
  have P1 := ExtO.ex (O := fun b => b = w.heap.size + 2) HNE.out.1 p1
  have P2 := ExtO.ex (O := fun b => b = w.heap.size + 2) HNE.out.1 p2
  have P3 := ExtO.ex (O := fun b => b = w.heap.size + 2) HNE.out.1 p3
  have P4 := ExtO.ex (O := fun b => b = w.heap.size + 2) HNE.out.1 p4
  have P5 := ExtO.ex (O := fun b => b = w.heap.size + 2) HNE.out.1 p5
  have P6 := ExtO.ex (O := fun b => b = w.heap.size + 2) HNE.out.1 p6
  have Q1 := ExtO.ex (O := fun b => b = w.heap.size + 2) HNE.out.2 q1
  have Q2 := ExtO.ex (O := fun b => b = w.heap.size + 2) HNE.out.2 q2
  have Q3 := ExtO.ex (O := fun b => b = w.heap.size + 2) HNE.out.2 q3
  clear p0 p1 p2 p3 p4 p5 p6 q0 q1 q2 q3 q4 q5 q6
  refine held_start (C := fun w' => ∃ Z : ExtO (fun b => b = w.heap.size + 2) V3, w' = Z.1) (by kernel_rfl) ?_
  obtain ⟨Z0, hZ0⟩ : ∃ Z : ExtO (fun b => b = w.heap.size + 2) V3, ({ V3 with drawn := V3.drawn + 1 } : World) = Z.1 := ⟨⟨{ V3 with drawn := V3.drawn + 1 }, ⟨rfl, rfl, rfl, Nat.le_refl _, fun _ _ _ => rfl⟩⟩, rfl⟩
  have HBX : Hid (SmB Z0.1 (w.heap.size + 2) sm0) := Lib.hid (hZ0 ▸ HRP.out.2.2.below ⟨rfl, rfl, rfl, Nat.le_refl _, fun _ _ => rfl⟩)
  rw [hZ0]
  clear hZ0 HRP
  refine held_quiet (by kernel_rfl) (fun _ _ d _ _ h => by cases d <;> exact h) ⟨Z0, rfl⟩ [0, 1, 2, 3, 4, 5, 6, 8, 9, 10, 11, 12, 13, 15, 16, 17, 18, 19, 20, 22, 23, 24, 25, 26, 27] 5 _ _ (by kernel_rfl) ?_
  change wpQuiet _ _ _ _ (_ :: _ :: _ :: _ :: _ :: _ :: _ :: _ :: _ :: _ :: _ :: _ :: _ :: _ :: _ :: _ :: _ :: _ :: _ :: _ :: _ :: _ :: _ :: _ :: _ :: []) _
  repeat go_big_quiet_step (fail)
  refine wpQuiet_nil ?_
  refine held_do (i := 7) _ rfl (by kernel_rfl) rfl (fun K hK => ?_)
  go_simp
  refine (DX.out _).mono ?_
  rintro e w1 ⟨rfl, hb⟩
  obtain ⟨Z1, rfl⟩ : ∃ Z : ExtO (fun b => b = w.heap.size + 2) V3, w1 = Z.1 := ⟨⟨w1, Z0.2.trans (Kept.of_below hb)⟩, rfl⟩
  have HBX : Hid (SmB Z1.1 (w.heap.size + 2) sm0) := Lib.hid (HBX.out.below hb)
  refine hK _ _ ⟨Z1, rfl⟩ ?_
  clear hK K hb
  try simp only [Act.put, List.setIfInBounds_toArray, List.set_cons_zero, List.set_cons_succ]
  refine held_do (i := 14) _ rfl (by kernel_rfl) rfl (fun K hK => ?_)
  go_simp
  refine (DY.out _).mono ?_
  rintro e w2 ⟨rfl, hb⟩
  obtain ⟨Z2, rfl⟩ : ∃ Z : ExtO (fun b => b = w.heap.size + 2) V3, w2 = Z.1 := ⟨⟨w2, Z1.2.trans (Kept.of_below hb)⟩, rfl⟩
  have HBX : Hid (SmB Z2.1 (w.heap.size + 2) sm0) := Lib.hid (HBX.out.below hb)
  refine hK _ _ ⟨Z2, rfl⟩ ?_
  clear hK K hb
  try simp only [Act.put, List.setIfInBounds_toArray, List.set_cons_zero, List.set_cons_succ]
  refine held_do (i := 21) _ rfl (by kernel_rfl) rfl (fun K hK => ?_)
  go_simp
  refine (DZ.out _).mono ?_
  rintro e w3 ⟨rfl, hb⟩
  obtain ⟨Z3, rfl⟩ : ∃ Z : ExtO (fun b => b = w.heap.size + 2) V3, w3 = Z.1 := ⟨⟨w3, Z2.2.trans (Kept.of_below hb)⟩, rfl⟩
  have HBX : Hid (SmB Z3.1 (w.heap.size + 2) sm0) := Lib.hid (HBX.out.below hb)
  refine hK _ _ ⟨Z3, rfl⟩ ?_
  clear hK K hb
  try simp only [Act.put, List.setIfInBounds_toArray, List.set_cons_zero, List.set_cons_succ]
  refine held_quiet (by kernel_rfl) (fun _ _ d _ _ h => by cases d <;> exact h) ⟨Z3, rfl⟩ [28] 1 _ _ (by kernel_rfl) ?_
  change wpQuiet _ _ _ _ (_ :: []) _
  repeat go_big_quiet_step (fail)
  refine wpQuiet_nil ?_
  obtain ⟨r0, r1, r2, r3, r4, r5, r6⟩ := HBX.out.cell
  have fr := HBX.out.free
  have f0 := fr 0
  have f1 := fr 1
  have f2 := fr 2
  have f3 := fr 3
  have f4 := fr 4
  have f5 := fr 5
  have f6 := fr 6
  unfold sm0 at r0 r1 r2 r3 r4 r5 r6
  try simp only at r0 r1 r2 r3 r4 r5 r6
  clear fr
  obtain ⟨WE, hWE, hWB, hWK⟩ := HBX.out.store ⟨n, tx, ty, tz, p.pu, p.po, p.st⟩
  have HWE := Lib.hid hWE
  have HWB := Lib.hid (And.intro hWB (show Below w.heap.size w WE from Kept.below HB3.out (Z3.2.trans (hWK (fun b => b = w.heap.size + 2) rfl)) HB3.out.size (fun k hk e => by omega)))
  have HKE := Lib.hid (Z3.2.trans (hWK (fun b => b = w.heap.size + 2) rfl))
  clear hWE hWB hWK
  refine held_do (i := 29) _ rfl (by kernel_rfl) rfl (fun K hK => ?_)
  go_simp
  simp only at HWE
  rw [HWE.out]
  refine hK _ _ ⟨⟨WE, HKE.out⟩, rfl⟩ ?_
  clear hK K
  try simp only [Act.put, List.setIfInBounds_toArray, List.set_cons_zero, List.set_cons_succ]
  refine wpAnyH_done (by kernel_rfl) ?_ _
  go_wp2_with fail
  exact bodyPost_ret (v := _) (results_cell_row Try.results85 _ _ (w.heap.size + 2) _ _ _ _ rfl HWB.out.1 Try.underlying74 rfl HI.out) rfl ⟨rfl, HWB.out.2⟩
end Go.Proofs.Ytckjdpnmalkpnaa

/- Where of the program and of the reference. (printed by wip/t/gen_tfh.py) -/
namespace Go.Proofs.Ytckjdpnmalkpnaa
open Go.RowKit Go.BigFrame
open Tr (inR)

theorem spanS_last {l : List Sm} {s : Sm} (h : l[l.length - 1]? = some s) : spanS l = s.tm := by
  unfold spanS
  rw [h]
theorem where_cases {start n : Int} {l : List Sm} (ho : SmOk start l) (hne : 0 < l.length) (h0 : 0 ≤ n) (h1 : n ≤ spanS l) :
    ∃ q, l[lbS l n]? = some q ∧ ((q.tm = n ∧ whereS l n = q ∧ foundS l n = true) ∨ (q.tm ≠ n ∧ foundS l n = false ∧ ∃ j p, lbS l n = j + 1 ∧ l[j]? = some p ∧ Btw p q n ∧ whereS l n = amidS p q n)) := by
  obtain ⟨z, hz⟩ : ∃ z, l[l.length - 1]? = some z := ⟨_, List.getElem?_eq_getElem (by omega)⟩
  have hsp := spanS_last hz
  have hlt : lbS l n < l.length := by
    have := lbS_le l n
    by_cases e : lbS l n = l.length
    · have := lbS_before l n (l.length - 1) z (by omega) hz
      omega
    · omega
  obtain ⟨q, hq⟩ : ∃ q, l[lbS l n]? = some q := ⟨_, List.getElem?_eq_getElem hlt⟩
  refine ⟨q, hq, ?_⟩
  have hge := lbS_at l n q hq
  by_cases e : q.tm = n
  · refine Or.inl ⟨e, ?_, ?_⟩
    · unfold whereS
      rw [hq]
      simp only
      rw [if_pos e]
    · unfold foundS
      rw [hq]
      simp [e]
  · refine Or.inr ⟨e, by unfold foundS; rw [hq]; simp [e], ?_⟩
    cases hk : lbS l n with
    | zero =>
      rw [hk] at hq
      have := ho.first q hq
      omega
    | succ j =>
      obtain ⟨p, hp⟩ : ∃ p, l[j]? = some p := ⟨_, List.getElem?_eq_getElem (by omega)⟩
      have hb := lbS_before l n j p (by omega) hp
      rw [hk] at hq
      refine ⟨j, p, rfl, hp, ⟨(ho.upto j p hp).2.2, (ho.upto _ q hq).2.2, by omega, hge, ho.next j p q hp hq, ho.nonneg hp, (ho.upto _ q hq).1⟩, ?_⟩
      unfold whereS
      rw [hk, hq]
      simp only
      rw [if_neg e, Nat.add_sub_cancel, hp]
set_option maxHeartbeats 8000000 in
set_option maxRecDepth 100000 in
theorem where_any (A : Acv) (a b c : Option Addr) (ca cb cc : Nat) (n : Int) (w : World) (h : Rw smC 7 w a A.sm) (ho : SmOk A.start A.sm) (hl : A.sm.length ≤ 20000) (hne : 0 < A.sm.length) (h0 : 0 ≤ n) (h1 : n ≤ spanS A.sm) :
    Calls Try.prog 74 #[actV A a b c ca cb cc, .int .i64 n] w fun e w' => e = .returned (smV (whereS A.sm n)) ∧ Below w.heap.size w w' := by
  obtain ⟨q, hq, hw⟩ := where_cases ho hne h0 h1
  have HI := smSize
  have DS := fun (W : World) (hb : Below w.heap.size w W) => searchS_any a A.sm ca n A.start W (h.below hb) ho hl
  unfold actV at *
  have hki := (List.getElem?_eq_some_iff.1 hq).1
  have HLI : Hid (∀ i : Nat, i ≤ A.sm.length → (∀ s : Sm, 0 < i → A.sm[i - 1]? = some s → s.tm < n) → (∀ s : Sm, A.sm[i]? = some s → n ≤ s.tm) → lbS A.sm n = i) := Lib.hid (fun i hi h1 h2 => lbS_halved ho hi h1 h2)
  have HLAST := Lib.hid (show ∀ s : Sm, A.sm[A.sm.length - 1]? = some s → n ≤ s.tm from fun s hs => by rw [spanS_last hs] at h1; exact h1)
  obtain ⟨k, hk⟩ : ∃ k, lbS A.sm n = k := ⟨_, rfl⟩
  obtain ⟨m, hm⟩ : ∃ m, A.sm.length = m := ⟨_, rfl⟩
  have HN := Lib.hid hm
  have HK := Lib.hid hk
  rw [hm] at hl hki HLI HLAST ⊢
  rw [hk] at hq hw hki HLI DS
  rw [hm] at DS
  obtain ⟨ba, oa, rfl, hba, hc⟩ := h.at hq
  have HROW := Lib.hid h
  have q0 : w.cell? ⟨ba, oa + k * 7, none⟩ = some (.int .i64 q.tm) := hc 0 _ rfl
  have q1 := hc 1 _ rfl
  have q2 := hc 2 _ rfl
  have q3 := hc 3 _ rfl
  have q4 := hc 4 _ rfl
  have q5 := hc 5 _ rfl
  have q6 := hc 6 _ rfl
  generalize A.lp.length = m2 at *
  generalize A.tg.length = m3 at *
  obtain ⟨V0, hV0, hb0, hs0, hl0⟩ := alloc_cells w #[.string A.name, .int .i64 A.sport, .int .i64 A.start, .slice (some ⟨ba, oa, none⟩) m ca, .slice b m2 cb, .slice c m3 cc] 35
  obtain ⟨V1, hV1, hb1, hs1, hl1⟩ := alloc_sm V0 sm0
  rw [hs0] at hl1
  unfold sm0 at hV1
  have B3 := ExtO.ex (O := fun b => b = w.heap.size + 1) (show ¬ w.heap.size = w.heap.size + 1 by omega) (below_cell hb1 (hl0 3 _ rfl))
  have hbq : ¬ ba = w.heap.size + 1 := by omega
  have Q0 := ExtO.ex (O := fun b => b = w.heap.size + 1) hbq (below_cell hb1 (below_cell hb0 q0))
  have Q1 := ExtO.ex (O := fun b => b = w.heap.size + 1) hbq (below_cell hb1 (below_cell hb0 q1))
  have Q2 := ExtO.ex (O := fun b => b = w.heap.size + 1) hbq (below_cell hb1 (below_cell hb0 q2))
  have Q3 := ExtO.ex (O := fun b => b = w.heap.size + 1) hbq (below_cell hb1 (below_cell hb0 q3))
  have Q4 := ExtO.ex (O := fun b => b = w.heap.size + 1) hbq (below_cell hb1 (below_cell hb0 q4))
  have Q5 := ExtO.ex (O := fun b => b = w.heap.size + 1) hbq (below_cell hb1 (below_cell hb0 q5))
  have Q6 := ExtO.ex (O := fun b => b = w.heap.size + 1) hbq (below_cell hb1 (below_cell hb0 q6))
  have HBQ := Lib.hid hbq
  have HR := Lib.hid hl1
  have HB := Lib.hid (below_step hb0 hb1)
  have HB0 := Lib.hid hb0
  have HB1 := Lib.hid hb1
  have HV0 := Lib.hid hV0
  have HV1 := Lib.hid hV1
  have hkb : (k : Int) ≤ 20000 := by omega
  have hmb : (m : Int) ≤ 20000 := by omega
  have DS := Lib.hid (fun (W : World) (hb : Below V1.heap.size V1 W) => DS W (below_step (below_step hb0 hb1) hb))
  clear hq hc q0 q1 q2 q3 q4 q5 q6 h hV0 hb0 hs0 hl0 hV1 hb1 hs1 hl1 hk hm hbq
  rcases hw with ⟨he, hv, hf⟩ | ⟨he, hf, j, p, rfl, hp, hbt, hv⟩
  · rw [hv]
    rw [hf] at DS
    clear hv hf he
    unfold smV
    go_enter Try.func74, Try.ntmps74
    go_upto_region 1 with (fail)
    rw [HV0.out, HV1.out]
    refine ext_wp fun X => ?_
    have B3x := B3 ⟨X.1, Kept.of_below X.2⟩
    go_wp2_with fail
    refine (DS.out X.1 X.2).mono ?_
    rintro e w1 ⟨rfl, hb⟩
    obtain ⟨Y, rfl⟩ : ∃ Y : Ext V1, w1 = Y.1 := ⟨⟨w1, below_step X.2 hb⟩, rfl⟩
    clear hb B3x
    have HRZ : Hid (SmB Y.1 (w.heap.size + 1) sm0) := Lib.hid (HR.out.below Y.2)
    obtain ⟨r0, r1, r2, r3, r4, r5, r6⟩ := HRZ.out.cell
    have fr := HRZ.out.free
    have f0 := fr 0
    have f1 := fr 1
    have f2 := fr 2
    have f3 := fr 3
    have f4 := fr 4
    have f5 := fr 5
    have f6 := fr 6
    unfold sm0 at r0 r1 r2 r3 r4 r5 r6
    try simp only at r0 r1 r2 r3 r4 r5 r6
    clear fr
    obtain ⟨WE, hWE, hWB, hWK⟩ := HRZ.out.store q
    have HWE := Lib.hid hWE
    have HWB := Lib.hid (And.intro hWB (show Below w.heap.size w WE from Kept.below (below_step HB.out Y.2) (hWK (fun b => b = w.heap.size + 1) rfl) (below_step HB.out Y.2).size (fun k hk e => by omega)))
    have B3z := B3 ⟨Y.1, Kept.of_below Y.2⟩
    have Q0z := Q0 ⟨Y.1, Kept.of_below Y.2⟩
    have Q1z := Q1 ⟨Y.1, Kept.of_below Y.2⟩
    have Q2z := Q2 ⟨Y.1, Kept.of_below Y.2⟩
    have Q3z := Q3 ⟨Y.1, Kept.of_below Y.2⟩
    have Q4z := Q4 ⟨Y.1, Kept.of_below Y.2⟩
    have Q5z := Q5 ⟨Y.1, Kept.of_below Y.2⟩
    have Q6z := Q6 ⟨Y.1, Kept.of_below Y.2⟩
    clear hWE hWB hWK B3 Q0 Q1 Q2 Q3 Q4 Q5 Q6
    go_wp2_with fail
    rw [HWE.out]
    exact bodyPost_ret (v := _) (results_cell_row Try.results74 _ _ (w.heap.size + 1) _ _ _ _ rfl HWB.out.1 Try.underlying74 rfl HI.out) rfl ⟨rfl, HWB.out.2⟩
  · rw [hv]
    rw [hf] at DS
    have hcp := HROW.out.on hp
    have p0 : w.cell? ⟨ba, oa + j * 7, none⟩ = some (.int .i64 p.tm) := hcp 0 _ rfl
    have p1 := hcp 1 _ rfl
    have p2 := hcp 2 _ rfl
    have p3 := hcp 3 _ rfl
    have p4 := hcp 4 _ rfl
    have p5 := hcp 5 _ rfl
    have p6 := hcp 6 _ rfl
    have P0 := ExtO.ex (O := fun b => b = w.heap.size + 1) HBQ.out (below_cell HB1.out (below_cell HB0.out p0))
    have P1 := ExtO.ex (O := fun b => b = w.heap.size + 1) HBQ.out (below_cell HB1.out (below_cell HB0.out p1))
    have P2 := ExtO.ex (O := fun b => b = w.heap.size + 1) HBQ.out (below_cell HB1.out (below_cell HB0.out p2))
    have P3 := ExtO.ex (O := fun b => b = w.heap.size + 1) HBQ.out (below_cell HB1.out (below_cell HB0.out p3))
    have P4 := ExtO.ex (O := fun b => b = w.heap.size + 1) HBQ.out (below_cell HB1.out (below_cell HB0.out p4))
    have P5 := ExtO.ex (O := fun b => b = w.heap.size + 1) HBQ.out (below_cell HB1.out (below_cell HB0.out p5))
    have P6 := ExtO.ex (O := fun b => b = w.heap.size + 1) HBQ.out (below_cell HB1.out (below_cell HB0.out p6))
    have DA := Lib.hid (fun W => amid_any p q n W hbt)
    have hwr : IntKind.i64.wrap ((j : Int) + 1 - 1) = (j : Int) := by rw [IntKind.wrap_i64]; omega
    have hsub : (j : Int) + 1 - 1 = (j : Int) := by omega
    have hjm : j < m := by omega
    generalize amidS p q n = am at *
    obtain ⟨am1, am2, am3, am4, am5, am6, am7⟩ := am
    clear hv hf he hp hbt hcp p0 p1 p2 p3 p4 p5 p6
    unfold smV at *
    simp only at *
    go_enter Try.func74, Try.ntmps74
    go_upto_region 1 with (fail)
    rw [HV0.out, HV1.out]
    refine ext_wp fun X => ?_
    have B3x := B3 ⟨X.1, Kept.of_below X.2⟩
    go_wp2_with fail
    refine (DS.out X.1 X.2).mono ?_
    rintro e w1 ⟨rfl, hb⟩
    obtain ⟨Y, rfl⟩ : ∃ Y : Ext V1, w1 = Y.1 := ⟨⟨w1, below_step X.2 hb⟩, rfl⟩
    clear hb B3x
    go_wp2_with fail
    have HRZ0 : Hid (SmB Y.1 (w.heap.size + 1) sm0) := Lib.hid (HR.out.below Y.2)
    have HBZ := Lib.hid (below_step HB.out Y.2)
    obtain ⟨V3, hV3⟩ : ∃ V, Y.1 = V := ⟨_, rfl⟩
    have HV31 := Lib.hid (show Kept (fun b => b = w.heap.size + 1) V1 V3 from hV3 ▸ Kept.of_below Y.2)
    have B3z := ExtO.re HV31.out B3
    have P0z := ExtO.re HV31.out P0
    have P1z := ExtO.re HV31.out P1
    have P2z := ExtO.re HV31.out P2
    have P3z := ExtO.re HV31.out P3
    have P4z := ExtO.re HV31.out P4
    have P5z := ExtO.re HV31.out P5
    have P6z := ExtO.re HV31.out P6
    have Q0z := ExtO.re HV31.out Q0
    have Q1z := ExtO.re HV31.out Q1
    have Q2z := ExtO.re HV31.out Q2
    have Q3z := ExtO.re HV31.out Q3
    have Q4z := ExtO.re HV31.out Q4
    have Q5z := ExtO.re HV31.out Q5
    have Q6z := ExtO.re HV31.out Q6
    rw [hV3] at HRZ0 HBZ
    rw [hV3]
    clear hV3 B3 P0 P1 P2 P3 P4 P5 P6 Q0 Q1 Q2 Q3 Q4 Q5 Q6
    refine held_start (C := fun w' => ∃ Z : ExtO (fun b => b = w.heap.size + 1) V3, w' = Z.1) (by kernel_rfl) ?_
    obtain ⟨Z0, hZ0⟩ : ∃ Z : ExtO (fun b => b = w.heap.size + 1) V3, ({ V3 with drawn := V3.drawn + 1 } : World) = Z.1 := ⟨⟨{ V3 with drawn := V3.drawn + 1 }, ⟨rfl, rfl, rfl, Nat.le_refl _, fun _ _ _ => rfl⟩⟩, rfl⟩
    have HRZ1 : Hid (SmB Z0.1 (w.heap.size + 1) sm0) := Lib.hid (hZ0 ▸ HRZ0.out.below ⟨rfl, rfl, rfl, Nat.le_refl _, fun _ _ => rfl⟩)
    rw [hZ0]
    clear hZ0
    refine held_quiet (by kernel_rfl) (fun _ _ d _ _ h => by cases d <;> exact h) ⟨Z0, rfl⟩ [0, 1, 2, 3, 4, 5, 6, 7, 8, 9, 10, 11] 2 _ _ (by kernel_rfl) ?_
    change wpQuiet _ _ _ _ (_ :: _ :: _ :: _ :: _ :: _ :: _ :: _ :: _ :: _ :: _ :: _ :: []) _
    repeat go_big_quiet_step (fail)
    refine wpQuiet_nil ?_
    refine held_do (i := 12) _ rfl (by kernel_rfl) rfl (fun K hK => ?_)
    go_simp
    refine (DA.out _).mono ?_
    rintro e w3 ⟨rfl, hb⟩
    obtain ⟨Z3, rfl⟩ : ∃ Z : ExtO (fun b => b = w.heap.size + 1) V3, w3 = Z.1 := ⟨⟨w3, Z0.2.trans (Kept.of_below hb)⟩, rfl⟩
    have HRZ : Hid (SmB Z3.1 (w.heap.size + 1) sm0) := Lib.hid (HRZ1.out.below hb)
    refine hK _ _ ⟨Z3, rfl⟩ ?_
    clear hK K hb
    try simp only [Act.put, List.setIfInBounds_toArray, List.set_cons_zero, List.set_cons_succ]
    obtain ⟨r0, r1, r2, r3, r4, r5, r6⟩ := HRZ.out.cell
    have fr := HRZ.out.free
    have f0 := fr 0
    have f1 := fr 1
    have f2 := fr 2
    have f3 := fr 3
    have f4 := fr 4
    have f5 := fr 5
    have f6 := fr 6
    unfold sm0 at r0 r1 r2 r3 r4 r5 r6
    try simp only at r0 r1 r2 r3 r4 r5 r6
    clear fr
    obtain ⟨WE, hWE, hWB, hWK⟩ := HRZ.out.store ⟨am1, am2, am3, am4, am5, am6, am7⟩
    have HWE := Lib.hid hWE
    have HKE := Lib.hid (Z3.2.trans (hWK (fun b => b = w.heap.size + 1) rfl))
    have HWB := Lib.hid (And.intro hWB (show Below w.heap.size w WE from Kept.below HBZ.out HKE.out HBZ.out.size (fun k hk e => by omega)))
    clear hWE hWB hWK
    refine held_do (i := 13) _ rfl (by kernel_rfl) rfl (fun K hK => ?_)
    go_simp
    rw [HWE.out]
    refine hK _ _ ⟨⟨WE, HKE.out⟩, rfl⟩ ?_
    clear hK K
    try simp only [Act.put, List.setIfInBounds_toArray, List.set_cons_zero, List.set_cons_succ]
    refine wpAnyH_done (by kernel_rfl) ?_ _
    go_wp2_with fail
    exact bodyPost_ret (v := _) (results_cell_row Try.results74 _ _ (w.heap.size + 1) _ _ _ _ rfl HWB.out.1 Try.underlying74 rfl HI.out) rfl ⟨rfl, HWB.out.2⟩
set_option maxHeartbeats 8000000 in
set_option maxRecDepth 100000 in
theorem rwhere_any (A : Acv) (a b c : Option Addr) (ca cb cc : Nat) (n : Int) (w : World) (h : Rw smC 7 w a A.sm) (ho : SmOk A.start A.sm) (hl : A.sm.length ≤ 20000) (hne : 0 < A.sm.length) (h0 : 0 ≤ n) (h1 : n ≤ spanS A.sm) :
    Calls Try.prog 77 #[actV A a b c ca cb cc, .int .i64 n] w fun e w' => e = .returned (smV (whereS A.sm n)) ∧ Below w.heap.size w w' := by
  obtain ⟨q, hq, hw⟩ := where_cases ho hne h0 h1
  have HI := smSize
  unfold actV at *
  have hki := (List.getElem?_eq_some_iff.1 hq).1
  have HLI : Hid (∀ i : Nat, i ≤ A.sm.length → (∀ s : Sm, 0 < i → A.sm[i - 1]? = some s → s.tm < n) → (∀ s : Sm, A.sm[i]? = some s → n ≤ s.tm) → lbS A.sm n = i) := Lib.hid (fun i hi h1 h2 => lbS_halved ho hi h1 h2)
  have HLAST := Lib.hid (show ∀ s : Sm, A.sm[A.sm.length - 1]? = some s → n ≤ s.tm from fun s hs => by rw [spanS_last hs] at h1; exact h1)
  obtain ⟨k, hk⟩ : ∃ k, lbS A.sm n = k := ⟨_, rfl⟩
  obtain ⟨m, hm⟩ : ∃ m, A.sm.length = m := ⟨_, rfl⟩
  have HN := Lib.hid hm
  have HK := Lib.hid hk
  rw [hm] at hl hki HLI HLAST ⊢
  rw [hk] at hq hw hki HLI
  obtain ⟨ba, oa, rfl, hba, hc⟩ := h.at hq
  have HROW := Lib.hid h
  have q0 : w.cell? ⟨ba, oa + k * 7, none⟩ = some (.int .i64 q.tm) := hc 0 _ rfl
  have q1 := hc 1 _ rfl
  have q2 := hc 2 _ rfl
  have q3 := hc 3 _ rfl
  have q4 := hc 4 _ rfl
  have q5 := hc 5 _ rfl
  have q6 := hc 6 _ rfl
  generalize A.lp.length = m2 at *
  generalize A.tg.length = m3 at *
  obtain ⟨V0, hV0, hb0, hs0, hl0⟩ := alloc_cells w #[.string A.name, .int .i64 A.sport, .int .i64 A.start, .slice (some ⟨ba, oa, none⟩) m ca, .slice b m2 cb, .slice c m3 cc] 35
  obtain ⟨V1, hV1, hb1, hs1, hl1⟩ := alloc_sm V0 sm0
  rw [hs0] at hl1
  unfold sm0 at hV1
  have B3 := ExtO.ex (O := fun b => b = w.heap.size + 1) (show ¬ w.heap.size = w.heap.size + 1 by omega) (below_cell hb1 (hl0 3 _ rfl))
  have hbq : ¬ ba = w.heap.size + 1 := by omega
  have Q0 := ExtO.ex (O := fun b => b = w.heap.size + 1) hbq (below_cell hb1 (below_cell hb0 q0))
  have Q1 := ExtO.ex (O := fun b => b = w.heap.size + 1) hbq (below_cell hb1 (below_cell hb0 q1))
  have Q2 := ExtO.ex (O := fun b => b = w.heap.size + 1) hbq (below_cell hb1 (below_cell hb0 q2))
  have Q3 := ExtO.ex (O := fun b => b = w.heap.size + 1) hbq (below_cell hb1 (below_cell hb0 q3))
  have Q4 := ExtO.ex (O := fun b => b = w.heap.size + 1) hbq (below_cell hb1 (below_cell hb0 q4))
  have Q5 := ExtO.ex (O := fun b => b = w.heap.size + 1) hbq (below_cell hb1 (below_cell hb0 q5))
  have Q6 := ExtO.ex (O := fun b => b = w.heap.size + 1) hbq (below_cell hb1 (below_cell hb0 q6))
  have HBQ := Lib.hid hbq
  have HR := Lib.hid hl1
  have HB := Lib.hid (below_step hb0 hb1)
  have HB0 := Lib.hid hb0
  have HB1 := Lib.hid hb1
  have HV0 := Lib.hid hV0
  have HV1 := Lib.hid hV1
  have hkb : (k : Int) ≤ 20000 := by omega
  have hmb : (m : Int) ≤ 20000 := by omega
  clear hq hc q0 q1 q2 q3 q4 q5 q6 h hV0 hb0 hs0 hl0 hV1 hb1 hs1 hl1 hk hm hbq
  have hm0 : 0 < m := by omega
  have hm1 : (m : Int) - 1 = ((m - 1 : Nat) : Int) := by omega
  have hwm : IntKind.i64.wrap ((m : Int) - 1) = ((m - 1 : Nat) : Int) := by rw [IntKind.wrap_i64]; omega
  have HROWX := Lib.hid (fun (X : Ext V1) (i : Nat) (s : Sm) (hs : A.sm[i]? = some s) => show X.1.cell? ⟨ba, oa + i * 7, none⟩ = some (.int .i64 s.tm) from below_cell X.2 (below_cell HB.out (HROW.out.on hs 0 _ rfl)))
  have B3x : ∀ X : Ext V1, X.1.cell? ⟨w.heap.size, 3, none⟩ = _ := fun X => B3 ⟨X.1, Kept.of_below X.2⟩
  go_enter Try.func77, Try.ntmps77
  go_upto_region 1 with (fail)
  rw [HV0.out, HV1.out]
  refine ext_wp fun X => ?_
  refine wp_region_ext (W := V1) _ (by kernel_rfl) (by kernel_rfl) ?_
  repeat go_big_quiet_step (fail)
  refine wpQuiet_nil ?_
  rintro _ ⟨Y, rfl⟩
  go_wp2_with fail
  go_loopw [5, 6] (fun iv jv wr => ∃ (i j : Nat), iv = .int .i64 i ∧ jv = .int .i64 j ∧ i ≤ j ∧ j < m ∧ Hid ((∀ s : Sm, 0 < i → A.sm[i - 1]? = some s → s.tm < n) ∧ (∀ s : Sm, A.sm[j]? = some s → n ≤ s.tm)) ∧ ∃ X : Ext V1, wr = X.1) (fun iv jv _ => (intOf jv).toNat - (intOf iv).toNat)
  case atStart => exact ⟨0, m - 1, rfl, rfl, by omega, by omega, Lib.hid ⟨fun s h => by omega, HLAST.out⟩, Y, rfl⟩
  case round =>
    obtain ⟨i, j, rfl, rfl, hij, hj, HE, X, rfl⟩ := hrel
    have hb1 : (i : Int) ≤ 20000 := by omega
    have hb2 : (j : Int) ≤ 20000 := by omega
    by_cases hlt : i < j
    · have t1 : decide ((i : Int) < (j : Int)) = true := by rw [decide_eq_true_eq]; omega
      have t1' : decide (i < j) = true := by simpa using hlt
      obtain ⟨r, hr⟩ : ∃ r : Nat, (i + j) / 2 = r := ⟨_, rfl⟩
      have ek : ((i : Int) + (j : Int)) / 2 = (r : Int) := by omega
      have hri : i ≤ r := by omega
      have hrj : r < j := by omega
      have hrm : r < m := by omega
      have hb3 : (r : Int) ≤ 20000 := by omega
      obtain ⟨s, hx⟩ : ∃ s, A.sm[r]? = some s := ⟨_, List.getElem?_eq_getElem (by rw [HN.out]; exact hrm)⟩
      have c0 := HROWX.out X r s hx
      have HHX := Lib.hid hx
      clear hr hx
      by_cases hs : s.tm < n
      · have t3 : decide (s.tm < n) = true := decide_eq_true hs
        have HH := Lib.hid (show (∀ z : Sm, 0 < r + 1 → A.sm[r + 1 - 1]? = some z → z.tm < n) ∧ (∀ z : Sm, A.sm[j]? = some z → n ≤ z.tm) from ⟨fun z _ hz => by
          rw [Nat.add_sub_cancel, HHX.out] at hz
          injection hz with hz
          subst hz
          exact hs, HE.out.2⟩)
        clear hs HE
        go_wp2_with fail
        go_roundw
        case rel => exact ⟨r + 1, j, by go_num, rfl, by omega, hj, HH, X, rfl⟩
        case measure => simp [intOf]; omega
      · have t3 : decide (s.tm < n) = false := decide_eq_false hs
        have HH := Lib.hid (show (∀ z : Sm, 0 < i → A.sm[i - 1]? = some z → z.tm < n) ∧ (∀ z : Sm, A.sm[r]? = some z → n ≤ z.tm) from ⟨HE.out.1, fun z hz => by
          rw [HHX.out] at hz
          injection hz with hz
          subst hz
          omega⟩)
        clear hs HE
        go_wp2_with fail
        go_roundw
        case rel => exact ⟨i, r, rfl, by rw [ek], hri, by omega, HH, X, rfl⟩
        case measure => simp [intOf]; omega
    · have t1 : decide ((i : Int) < (j : Int)) = false := by rw [decide_eq_false_iff_not]; omega
      have t1' : decide (i < j) = false := by simpa using hlt
      obtain rfl : i = j := by omega
      obtain rfl := HLI.out i (by omega) HE.out.1 HE.out.2
      clear HE hlt hij
      rcases hw with ⟨he, hv, hf⟩ | ⟨he, hf, j, p, rfl, hp, hbt, hv⟩
      · have e0 := beqT he
        have HV := Lib.hid hv
        clear hf he B3x hv
        have HRZ : Hid (SmB X.1 (w.heap.size + 1) sm0) := Lib.hid (HR.out.below X.2)
        obtain ⟨r0, r1, r2, r3, r4, r5, r6⟩ := HRZ.out.cell
        have fr := HRZ.out.free
        have f0 := fr 0
        have f1 := fr 1
        have f2 := fr 2
        have f3 := fr 3
        have f4 := fr 4
        have f5 := fr 5
        have f6 := fr 6
        unfold sm0 at r0 r1 r2 r3 r4 r5 r6
        try simp only at r0 r1 r2 r3 r4 r5 r6
        clear fr
        obtain ⟨WE, hWE, hWB, hWK⟩ := HRZ.out.store q
        have HWE := Lib.hid hWE
        have HWB := Lib.hid (And.intro hWB (show Below w.heap.size w WE from Kept.below (below_step HB.out X.2) (hWK (fun b => b = w.heap.size + 1) rfl) (below_step HB.out X.2).size (fun k hk e => by omega)))
        have B3z := B3 ⟨X.1, Kept.of_below X.2⟩
        have Q0z := Q0 ⟨X.1, Kept.of_below X.2⟩
        have Q1z := Q1 ⟨X.1, Kept.of_below X.2⟩
        have Q2z := Q2 ⟨X.1, Kept.of_below X.2⟩
        have Q3z := Q3 ⟨X.1, Kept.of_below X.2⟩
        have Q4z := Q4 ⟨X.1, Kept.of_below X.2⟩
        have Q5z := Q5 ⟨X.1, Kept.of_below X.2⟩
        have Q6z := Q6 ⟨X.1, Kept.of_below X.2⟩
        clear hWE hWB hWK B3 Q0 Q1 Q2 Q3 Q4 Q5 Q6
        go_wp2_with fail
        rw [HWE.out]
        exact bodyPost_ret (v := _) (results_cell_row Try.results77 _ _ (w.heap.size + 1) _ _ _ _ rfl HWB.out.1 Try.underlying74 rfl HI.out) rfl ⟨by rw [HV.out]; rfl, HWB.out.2⟩
      · have e0 := beqF he
        have e0' : (q.tm == n) = false := e0
        have hcp := HROW.out.on hp
        have p0 : w.cell? ⟨ba, oa + j * 7, none⟩ = some (.int .i64 p.tm) := hcp 0 _ rfl
        have p1 := hcp 1 _ rfl
        have p2 := hcp 2 _ rfl
        have p3 := hcp 3 _ rfl
        have p4 := hcp 4 _ rfl
        have p5 := hcp 5 _ rfl
        have p6 := hcp 6 _ rfl
        have P0 := ExtO.ex (O := fun b => b = w.heap.size + 1) HBQ.out (below_cell HB1.out (below_cell HB0.out p0))
        have P1 := ExtO.ex (O := fun b => b = w.heap.size + 1) HBQ.out (below_cell HB1.out (below_cell HB0.out p1))
        have P2 := ExtO.ex (O := fun b => b = w.heap.size + 1) HBQ.out (below_cell HB1.out (below_cell HB0.out p2))
        have P3 := ExtO.ex (O := fun b => b = w.heap.size + 1) HBQ.out (below_cell HB1.out (below_cell HB0.out p3))
        have P4 := ExtO.ex (O := fun b => b = w.heap.size + 1) HBQ.out (below_cell HB1.out (below_cell HB0.out p4))
        have P5 := ExtO.ex (O := fun b => b = w.heap.size + 1) HBQ.out (below_cell HB1.out (below_cell HB0.out p5))
        have P6 := ExtO.ex (O := fun b => b = w.heap.size + 1) HBQ.out (below_cell HB1.out (below_cell HB0.out p6))
        have DA := Lib.hid (fun W => rat_any p q n W hbt)
        have hwr : IntKind.i64.wrap ((j : Int) + 1 - 1) = (j : Int) := by rw [IntKind.wrap_i64]; omega
        have hsub : (j : Int) + 1 - 1 = (j : Int) := by omega
        have hjm : j < m := by omega
        have Q0x : X.1.cell? ⟨ba, oa + (j + 1) * 7, none⟩ = _ := Q0 ⟨X.1, Kept.of_below X.2⟩
        obtain ⟨am, ham⟩ : ∃ am, amidS p q n = am := ⟨_, rfl⟩
        rw [ham] at hv DA
        obtain ⟨am1, am2, am3, am4, am5, am6, am7⟩ := am
        have HV := Lib.hid hv
        clear hv ham hf he hp hbt hcp p0 p1 p2 p3 p4 p5 p6
        unfold smV at DA
        go_wp2_with fail
        clear B3x Q0x
        have HRZ0 : Hid (SmB X.1 (w.heap.size + 1) sm0) := Lib.hid (HR.out.below X.2)
        have HBZ := Lib.hid (below_step HB.out X.2)
        obtain ⟨V3, hV3⟩ : ∃ V, X.1 = V := ⟨_, rfl⟩
        have HV31 := Lib.hid (show Kept (fun b => b = w.heap.size + 1) V1 V3 from hV3 ▸ Kept.of_below X.2)
        have B3z := ExtO.re HV31.out B3
        have P0z := ExtO.re HV31.out P0
        have P1z := ExtO.re HV31.out P1
        have P2z := ExtO.re HV31.out P2
        have P3z := ExtO.re HV31.out P3
        have P4z := ExtO.re HV31.out P4
        have P5z := ExtO.re HV31.out P5
        have P6z := ExtO.re HV31.out P6
        have Q0z := ExtO.re HV31.out Q0
        have Q1z := ExtO.re HV31.out Q1
        have Q2z := ExtO.re HV31.out Q2
        have Q3z := ExtO.re HV31.out Q3
        have Q4z := ExtO.re HV31.out Q4
        have Q5z := ExtO.re HV31.out Q5
        have Q6z := ExtO.re HV31.out Q6
        rw [hV3] at HRZ0 HBZ
        rw [hV3]
        clear hV3 B3 P0 P1 P2 P3 P4 P5 P6 Q0 Q1 Q2 Q3 Q4 Q5 Q6
        refine held_start (C := fun w' => ∃ Z : ExtO (fun b => b = w.heap.size + 1) V3, w' = Z.1) (by kernel_rfl) ?_
        obtain ⟨Z0, hZ0⟩ : ∃ Z : ExtO (fun b => b = w.heap.size + 1) V3, ({ V3 with drawn := V3.drawn + 1 } : World) = Z.1 := ⟨⟨{ V3 with drawn := V3.drawn + 1 }, ⟨rfl, rfl, rfl, Nat.le_refl _, fun _ _ _ => rfl⟩⟩, rfl⟩
        have HRZ1 : Hid (SmB Z0.1 (w.heap.size + 1) sm0) := Lib.hid (hZ0 ▸ HRZ0.out.below ⟨rfl, rfl, rfl, Nat.le_refl _, fun _ _ => rfl⟩)
        rw [hZ0]
        clear hZ0
        refine held_quiet (by kernel_rfl) (fun _ _ d _ _ h => by cases d <;> exact h) ⟨Z0, rfl⟩ [0, 1, 2, 3, 4, 5, 6, 7, 8, 9, 10, 11] 2 _ _ (by kernel_rfl) ?_
        change wpQuiet _ _ _ _ (_ :: _ :: _ :: _ :: _ :: _ :: _ :: _ :: _ :: _ :: _ :: _ :: []) _
        repeat go_big_quiet_step (fail)
        refine wpQuiet_nil ?_
        refine held_do (i := 12) _ rfl (by kernel_rfl) rfl (fun K hK => ?_)
        go_simp
        refine (DA.out _).mono ?_
        rintro e w3 ⟨rfl, hb⟩
        obtain ⟨Z3, rfl⟩ : ∃ Z : ExtO (fun b => b = w.heap.size + 1) V3, w3 = Z.1 := ⟨⟨w3, Z0.2.trans (Kept.of_below hb)⟩, rfl⟩
        have HRZ : Hid (SmB Z3.1 (w.heap.size + 1) sm0) := Lib.hid (HRZ1.out.below hb)
        refine hK _ _ ⟨Z3, rfl⟩ ?_
        clear hK K hb
        try simp only [Act.put, List.setIfInBounds_toArray, List.set_cons_zero, List.set_cons_succ]
        obtain ⟨r0, r1, r2, r3, r4, r5, r6⟩ := HRZ.out.cell
        have fr := HRZ.out.free
        have f0 := fr 0
        have f1 := fr 1
        have f2 := fr 2
        have f3 := fr 3
        have f4 := fr 4
        have f5 := fr 5
        have f6 := fr 6
        unfold sm0 at r0 r1 r2 r3 r4 r5 r6
        try simp only at r0 r1 r2 r3 r4 r5 r6
        clear fr
        obtain ⟨WE, hWE, hWB, hWK⟩ := HRZ.out.store ⟨am1, am2, am3, am4, am5, am6, am7⟩
        have HWE := Lib.hid hWE
        have HKE := Lib.hid (Z3.2.trans (hWK (fun b => b = w.heap.size + 1) rfl))
        have HWB := Lib.hid (And.intro hWB (show Below w.heap.size w WE from Kept.below HBZ.out HKE.out HBZ.out.size (fun k hk e => by omega)))
        clear hWE hWB hWK
        refine held_do (i := 13) _ rfl (by kernel_rfl) rfl (fun K hK => ?_)
        go_simp
        rw [HWE.out]
        refine hK _ _ ⟨⟨WE, HKE.out⟩, rfl⟩ ?_
        clear hK K
        try simp only [Act.put, List.setIfInBounds_toArray, List.set_cons_zero, List.set_cons_succ]
        refine wpAnyH_done (by kernel_rfl) ?_ _
        go_wp2_with fail
        exact bodyPost_ret (v := _) (results_cell_row Try.results77 _ _ (w.heap.size + 1) _ _ _ _ rfl HWB.out.1 Try.underlying74 rfl HI.out) rfl ⟨by rw [HV.out]; rfl, HWB.out.2⟩
end Go.Proofs.Ytckjdpnmalkpnaa

/- A drawn region's operations one by one: as in Kp, min and max among the calm ones. (Kp's own lines, turned by a program.) -/
namespace Go.Proofs.Ytckjdpnmalkpnaa
open Go.RowKit Go.BigFrame
/-- operations that yield a value and do nothing else -/
def isCalm3 : Op → Bool
  | .call c => match c.callee with
    | .builtin .max => true
    | .builtin .min => true
    | _ => false
  | op => isCalm op
theorem calm_value3 {P : Program} {o : Oper} {ρ : Operand → Value} {w w' : World} {n : Next} (hc : isCalm3 o.op = true) (h : (execOp ρ o).run P w = .ok n w') : ∃ x, n = .value x := by
  obtain ⟨dst, op, type, pos, after, guard⟩ := o
  cases op
  case call c =>
    obtain ⟨callee, args, ats⟩ := c
    cases callee with
    | builtin b =>
      cases b <;> first | (simp [isCalm3] at hc; done) | (simp only [execOp, resolve, invoke, builtin, Sem.run_bind, Sem.run_pure, Result.andThen_ok] at h; exact run_val (fun x => x) (by simpa using h))
    | _ => simp [isCalm3] at hc
  all_goals exact calm_value (by exact hc) h
section
variable {P : Program} {ops : Array Oper} {Q : Exit → Act → World → Prop} {C : World → Prop}
theorem yieldsIf_of_quiet3 {o : Oper} {a : Act} {v : Value} (hc : isCalm3 o.op = true) (hw : Region.wanted o (yielded ops a.tmps) = true) (h : ∀ w, C w → o.quietAt P a C w v) : YieldsIf P ops C o v a := by
  refine Or.inl ⟨hw, fun w hC => ?_⟩
  have h1 := h w hC
  unfold Oper.quietAt at h1
  cases hr : (execOp a.eval o).run P w with
  | ok n w' =>
    rw [hr] at h1
    obtain ⟨x, rfl⟩ := calm_value3 hc hr
    simp only [Oper.quietUpon] at h1
    rw [h1.1, h1.2]
  | halt e w' => rw [hr] at h1; simp [Oper.quietUpon] at h1
/-- may these come up now, one behind the other, and is each apart from all that could come before it? -/
def calmB3 (ops : Array Oper) : List Nat → Array Bool → Bool
  | [], _ => true
  | i :: is, listed => ((ops[i]?).map fun o => isCalm3 o.op).getD false && Region.free .any ops listed i && (Region.ready .any ops listed).contains i && calmB3 ops is (listed.setIfInBounds i true)
theorem held_calm3 (hsel : Region.noSelect ops = true) (hQ : ∀ c a d v w, Q (.panic c) (Act.put a d v) w → Q (.panic c) a w) {w : World} (hC : C w) : ∀ (is : List Nat) (fuel : Nat) (listed : Array Bool) (a : Act),
    calmB3 ops is listed = true → wpQuiet P ops C (fun a' => wpAnyH P .any ops Q C fuel (listAll is listed) a' w) (is.filterMap fun i => ops[i]?) a → wpAnyH P .any ops Q C (fuel + is.length) listed a w
  | [], _, _, _, _, h => h
  | i :: is, fuel, listed, a, hB, h => by
    simp only [calmB3, Bool.and_eq_true] at hB
    obtain ⟨⟨⟨h1, h2⟩, h3⟩, h4⟩ := hB
    cases ho : ops[i]? with
    | none => rw [ho] at h1; simp at h1
    | some o =>
      rw [ho] at h1
      simp only [Option.map_some, Option.getD_some] at h1
      rw [List.filterMap_cons, ho] at h
      simp only [wpQuiet] at h
      have e : fuel + (i :: is).length = (fuel + is.length) + 1 := by simp; omega
      rw [e]
      by_cases hw : Region.wanted o (yielded ops a.tmps) = true
      · rw [if_pos hw] at h
        obtain ⟨v, hv, hn⟩ := h
        exact wpAnyH_take ho hsel h2 h3 (fun c a w => hQ c a _ _ w) (yieldsIf_of_quiet3 h1 hw hv) hC (held_calm3 hsel hQ hC is fuel _ _ h4 hn)
      · rw [if_neg hw] at h
        exact wpAnyH_take ho hsel h2 h3 (fun c a w => hQ c a _ _ w) (Or.inr ⟨by simpa using hw, rfl⟩) hC (held_calm3 hsel hQ hC is fuel _ _ h4 h)
theorem held_quiet3 {l : List Oper} (hsel : Region.noSelect l.toArray = true) (hQ : ∀ c a d v w, Q (.panic c) (Act.put a d v) w → Q (.panic c) a w) {w : World} (hC : C w) (is : List Nat) (fuel : Nat) (listed : Array Bool) (a : Act)
    (hB : calmB3 l.toArray is listed = true) (h : wpQuiet P l.toArray C (fun a' => wpAnyH P .any l.toArray Q C fuel (listAll is listed) a' w) (is.filterMap (nth l)) a) : wpAnyH P .any l.toArray Q C (fuel + is.length) listed a w :=
  held_calm3 hsel hQ hC is fuel listed a hB (by rw [show (fun i => l.toArray[i]?) = nth l from funext fun i => (nth_eq l i).symm]; exact h)
end
end Go.Proofs.Ytckjdpnmalkpnaa

/- Matches: better of both; small functions. -/
namespace Go.Proofs.Ytckjdpnmalkpnaa
open Go.RowKit Go.BigFrame
open Tr (inR)
open Ft (Mt)

def mtV (m : Mt) : Value := .agg #[.int .i64 m.shift, .int .i64 m.many, .int .i64 m.sum]
/-- what better compares -/
def betV (m o : Mt) : Int := orL [Lib.compareInt (m.sum * o.many) (o.sum * m.many), Lib.compareInt o.many m.many, Lib.compareInt (Ft.absI m.shift) (Ft.absI o.shift), Lib.compareInt o.shift m.shift]
theorem betV_neg (m o : Mt) : decide (betV m o < 0) = Ft.better m o := by
  unfold betV Ft.better
  rw [orL, orL, orL, orL, orL]
  by_cases h1 : m.sum * o.many = o.sum * m.many
  · rw [if_pos ((cmpI_zero _ _).2 h1), if_pos h1]
    by_cases h2 : o.many = m.many
    · rw [if_pos ((cmpI_zero _ _).2 h2), if_pos h2]
      by_cases h3 : Ft.absI m.shift = Ft.absI o.shift
      · rw [if_pos ((cmpI_zero _ _).2 h3), if_pos h3]
        by_cases h4 : o.shift = m.shift
        · rw [if_pos ((cmpI_zero _ _).2 h4), h4]
          simp
        · rw [if_neg (fun e => h4 ((cmpI_zero _ _).1 e)), cmpI_neg]
      · rw [if_neg (fun e => h3 ((cmpI_zero _ _).1 e)), if_neg h3, cmpI_neg]
    · rw [if_neg (fun e => h2 ((cmpI_zero _ _).1 e)), if_neg h2, cmpI_neg]
  · rw [if_neg (fun e => h1 ((cmpI_zero _ _).1 e)), if_neg h1, cmpI_neg]
/-- bounds of a match -/
structure MtOk (m : Mt) : Prop where
  s1 : -3600 ≤ m.shift
  s2 : m.shift ≤ 3600
  m1 : 0 ≤ m.many
  m2 : m.many ≤ 400
  u1 : 0 ≤ m.sum
  u2 : m.sum ≤ 400000000000000
theorem MtOk.mul {m o : Mt} (h : MtOk m) (k : MtOk o) : 0 ≤ m.sum * o.many ∧ m.sum * o.many ≤ 160000000000000000 := by
  refine ⟨Int.mul_nonneg h.u1 k.m1, ?_⟩
  have h1 := Int.mul_le_mul h.u2 k.m2 k.m1 (by decide)
  omega
set_option maxHeartbeats 4000000 in
set_option maxRecDepth 100000 in
theorem better_any (m o : Mt) (w : World) (hm : MtOk m) (ho : MtOk o) : Calls Try.prog 49 #[mtV m, mtV o] w fun e w' => e = .returned (.bool (Ft.better m o)) ∧ Below w.heap.size w w' := by
  obtain ⟨k1, k2⟩ := hm.mul ho
  obtain ⟨k3, k4⟩ := ho.mul hm
  have s1 := hm.s1
  have s2 := hm.s2
  have s3 := ho.s1
  have s4 := ho.s2
  have m1 := hm.m1
  have m2 := hm.m2
  have m3 := ho.m1
  have m4 := ho.m2
  have C1 := Lib.hid (fun W => Try.cmp_Compare_int (m.sum * o.many) (o.sum * m.many) W)
  have C2 := Lib.hid (fun W => Try.cmp_Compare_int o.many m.many W)
  have C3 := Lib.hid (fun W => Try.cmp_Compare_int (Ft.absI m.shift) (Ft.absI o.shift) W)
  have C4 := Lib.hid (fun W => Try.cmp_Compare_int o.shift m.shift W)
  have HV := betV_neg m o
  have HVV : Hid (betV m o = orL [Lib.compareInt (m.sum * o.many) (o.sum * m.many), Lib.compareInt o.many m.many, Lib.compareInt (Ft.absI m.shift) (Ft.absI o.shift), Lib.compareInt o.shift m.shift]) := Lib.hid rfl
  generalize Lib.compareInt (m.sum * o.many) (o.sum * m.many) = c1 at *
  generalize Lib.compareInt o.many m.many = c2 at *
  generalize Lib.compareInt (Ft.absI m.shift) (Ft.absI o.shift) = c3 at *
  generalize Lib.compareInt o.shift m.shift = c4 at *
  generalize betV m o = bv at *
  generalize Ft.better m o = bb at *
  unfold Ft.absI at C3
  obtain ⟨V0, hV0, hb0, hs0, hl0⟩ := alloc_cells w #[.int .i64 m.shift, .int .i64 m.many, .int .i64 m.sum] 37
  obtain ⟨V1, hV1, hb1, hs1, hl1⟩ := alloc_cells V0 #[.int .i64 o.shift, .int .i64 o.many, .int .i64 o.sum] 37
  rw [hs0] at hl1
  have G0 := Ext.ex (below_cell hb1 (hl0 0 _ rfl))
  have G1 := Ext.ex (below_cell hb1 (hl0 1 _ rfl))
  have G2 := Ext.ex (below_cell hb1 (hl0 2 _ rfl))
  have F0 := Ext.ex (hl1 0 _ rfl)
  have F1 := Ext.ex (hl1 1 _ rfl)
  have F2 := Ext.ex (hl1 2 _ rfl)
  have HV0 := Lib.hid hV0
  have HV1 := Lib.hid hV1
  have HB := Lib.hid (below_step hb0 hb1)
  have HS := Lib.hid (show w.heap.size ≤ V1.heap.size by omega)
  clear hV0 hV1 hb0 hb1 hs0 hs1 hl0 hl1 hm ho
  unfold mtV
  go_enter Try.func49, Try.ntmps49
  go_upto_region 1 with (fail)
  rw [HV0.out, HV1.out]
  refine held_start (C := fun w' => ∃ Z : Ext V1, w' = Z.1) (by kernel_rfl) ?_
  obtain ⟨Z0, hZ0⟩ : ∃ Z : Ext V1, ({ V1 with drawn := V1.drawn + 1 } : World) = Z.1 := ⟨⟨{ V1 with drawn := V1.drawn + 1 }, ⟨rfl, rfl, rfl, Nat.le_refl _, fun _ _ => rfl⟩⟩, rfl⟩
  rw [hZ0]
  clear hZ0
  refine held_quiet3 (by kernel_rfl) (fun _ _ d _ _ h => by cases d <;> exact h) ⟨Z0, rfl⟩ [0, 1, 2, 3, 4, 5, 6, 7, 8, 9, 11, 12, 13, 14, 16, 17, 18, 19, 20, 22, 23, 24, 25, 26, 29, 30, 31, 32, 21, 27] 8 _ _ (by kernel_rfl) ?_
  change wpQuiet _ _ _ _ (_ :: _ :: _ :: _ :: _ :: _ :: _ :: _ :: _ :: _ :: _ :: _ :: _ :: _ :: _ :: _ :: _ :: _ :: _ :: _ :: _ :: _ :: _ :: _ :: _ :: _ :: _ :: _ :: _ :: _ :: []) _
  repeat go_big_quiet_step (fail)
  refine wpQuiet_nil ?_
  refine held_do (i := 10) _ rfl (by kernel_rfl) rfl (fun K hK => ?_)
  go_simp
  refine (C1.out _).mono ?_
  rintro e w1 ⟨rfl, rfl⟩
  refine hK _ _ ⟨Z0, rfl⟩ ?_
  clear hK K
  try simp only [Act.put, List.setIfInBounds_toArray, List.set_cons_zero, List.set_cons_succ]
  refine held_do (i := 15) _ rfl (by kernel_rfl) rfl (fun K hK => ?_)
  go_simp
  refine (C2.out _).mono ?_
  rintro e w1 ⟨rfl, rfl⟩
  refine hK _ _ ⟨Z0, rfl⟩ ?_
  clear hK K
  try simp only [Act.put, List.setIfInBounds_toArray, List.set_cons_zero, List.set_cons_succ]
  refine held_do (i := 28) _ rfl (by kernel_rfl) rfl (fun K hK => ?_)
  go_simp
  refine (C3.out _).mono ?_
  rintro e w1 ⟨rfl, rfl⟩
  refine hK _ _ ⟨Z0, rfl⟩ ?_
  clear hK K
  try simp only [Act.put, List.setIfInBounds_toArray, List.set_cons_zero, List.set_cons_succ]
  refine held_do (i := 33) _ rfl (by kernel_rfl) rfl (fun K hK => ?_)
  go_simp
  refine (C4.out _).mono ?_
  rintro e w1 ⟨rfl, rfl⟩
  refine hK _ _ ⟨Z0, rfl⟩ ?_
  clear hK K
  try simp only [Act.put, List.setIfInBounds_toArray, List.set_cons_zero, List.set_cons_succ]
  refine held_do (i := 34) _ rfl (by kernel_rfl) rfl (fun K hK => ?_)
  go_simp
  obtain ⟨Wb, hWb, hwb1, hwb2, hwq⟩ := alloc_cells Z0.1 #[.int .i64 c1, .int .i64 c2, .int .i64 c3, .int .i64 c4] 3
  rw [hWb]
  obtain ⟨Z1, rfl⟩ : ∃ Z : Ext V1, Wb = Z.1 := ⟨⟨Wb, below_step Z0.2 hwb1⟩, rfl⟩
  have DO := Lib.hid (orInt_any [c1, c2, c3, c4] Z0.1.heap.size 4 Z1.1 (by simp) (fun i v hv => hwq i _ (by
    match i, hv with
    | 0, h => injection h with h; subst h; rfl
    | 1, h => injection h with h; subst h; rfl
    | 2, h => injection h with h; subst h; rfl
    | 3, h => injection h with h; subst h; rfl
    | n + 4, h => simp at h)))
  rw [← HVV.out] at DO
  refine hK _ _ ⟨Z1, rfl⟩ ?_
  clear hK K hWb hwb1 hwb2 hwq
  try simp only [Act.put, List.setIfInBounds_toArray, List.set_cons_zero, List.set_cons_succ]
  refine held_do (i := 35) _ rfl (by kernel_rfl) rfl (fun K hK => ?_)
  go_simp
  refine DO.out.mono ?_
  rintro e w1 ⟨rfl, rfl⟩
  refine hK _ _ ⟨Z1, rfl⟩ ?_
  clear hK K DO
  try simp only [Act.put, List.setIfInBounds_toArray, List.set_cons_zero, List.set_cons_succ]
  refine held_quiet (by kernel_rfl) (fun _ _ d _ _ h => by cases d <;> exact h) ⟨Z1, rfl⟩ [36, 37] 0 _ _ (by kernel_rfl) ?_
  change wpQuiet _ _ _ _ (_ :: _ :: []) _
  repeat go_big_quiet_step (fail)
  refine wpQuiet_nil ?_
  refine wpAnyH_done (by kernel_rfl) ?_ _
  go_wp2_with fail
  go_ret
  exact ⟨rfl, Z1.down HB.out HS.out⟩
theorem absI_neg (n : Int) : Ft.absI n = max n (-n) := rfl
/-- better, as the reference asks -/
theorem better_ways (m o : Mt) : Ft.better m o = if m.sum * o.many ≠ o.sum * m.many then decide (m.sum * o.many < o.sum * m.many) else if m.many ≠ o.many then decide (o.many < m.many) else (decide (Ft.absI m.shift < Ft.absI o.shift) || (decide (Ft.absI m.shift = Ft.absI o.shift) && decide (o.shift < m.shift))) := by
  unfold Ft.better
  by_cases h1 : m.sum * o.many = o.sum * m.many
  · by_cases h2 : m.many = o.many
    · by_cases h3 : Ft.absI m.shift = Ft.absI o.shift
      · simp [h1, h2, h3]
      · simp [h1, h2, h3]
    · have h2' : ¬ o.many = m.many := fun e => h2 e.symm
      simp [h1, h2, h2']
  · simp [h1]
set_option maxHeartbeats 4000000 in
set_option maxRecDepth 100000 in
theorem rbetter_any (m o : Mt) (w : World) (hm : MtOk m) (ho : MtOk o) : Calls Try.prog 55 #[mtV m, mtV o] w fun e w' => e = .returned (.bool (Ft.better m o)) ∧ Below w.heap.size w w' := by
  obtain ⟨k1, k2⟩ := hm.mul ho
  obtain ⟨k3, k4⟩ := ho.mul hm
  have s1 := hm.s1
  have s2 := hm.s2
  have s3 := ho.s1
  have s4 := ho.s2
  have HV := Lib.hid (better_ways m o)
  obtain ⟨V0, hV0, hb0, hs0, hl0⟩ := alloc_cells w #[.int .i64 m.shift, .int .i64 m.many, .int .i64 m.sum] 37
  obtain ⟨V1, hV1, hb1, hs1, hl1⟩ := alloc_cells V0 #[.int .i64 o.shift, .int .i64 o.many, .int .i64 o.sum] 37
  rw [hs0] at hl1
  have G0 := Ext.ex (below_cell hb1 (hl0 0 _ rfl))
  have G1 := Ext.ex (below_cell hb1 (hl0 1 _ rfl))
  have G2 := Ext.ex (below_cell hb1 (hl0 2 _ rfl))
  have F0 := Ext.ex (hl1 0 _ rfl)
  have F1 := Ext.ex (hl1 1 _ rfl)
  have F2 := Ext.ex (hl1 2 _ rfl)
  have HV0 := Lib.hid hV0
  have HV1 := Lib.hid hV1
  have HB := Lib.hid (below_step hb0 hb1)
  have HS := Lib.hid (show w.heap.size ≤ V1.heap.size by omega)
  clear hV0 hV1 hb0 hb1 hs0 hs1 hl0 hl1 hm ho
  obtain ⟨p1, hp1⟩ : ∃ p, m.sum * o.many = p := ⟨_, rfl⟩
  obtain ⟨p2, hp2⟩ : ∃ p, o.sum * m.many = p := ⟨_, rfl⟩
  unfold mtV
  by_cases g1 : m.sum * o.many = o.sum * m.many
  case neg =>
    have b1 := bneT g1
    have HF := Lib.hid (HV.out.trans (if_pos g1))
    clear g1 hp1 hp2
    go_enter Try.func55, Try.ntmps55
    go_upto_region 1 with (fail)
    rw [HV0.out, HV1.out]
    refine ext_wp fun X => ?_
    refine wp_region_ext (W := V1) _ (by kernel_rfl) (by kernel_rfl) ?_
    repeat go_big_quiet_step (fail)
    refine wpQuiet_nil ?_
    rintro _ ⟨Y, rfl⟩
    go_wp2_with fail
    go_ret
    exact ⟨ret_bool HF.out.symm, Y.down HB.out HS.out⟩
  have b1 := bneF g1
  have HV := Lib.hid (HV.out.trans (if_neg (fun h => h g1)))
  clear g1 hp1 hp2
  by_cases g2 : m.many = o.many
  case neg =>
    have b2 := bneT g2
    have HF := Lib.hid (HV.out.trans (if_pos g2))
    clear g2
    go_enter Try.func55, Try.ntmps55
    go_upto_region 1 with (fail)
    rw [HV0.out, HV1.out]
    refine ext_wp fun X => ?_
    refine wp_region_ext (W := V1) _ (by kernel_rfl) (by kernel_rfl) ?_
    repeat go_big_quiet_step (fail)
    refine wpQuiet_nil ?_
    rintro _ ⟨Y, rfl⟩
    go_wp2_with fail
    go_ret
    exact ⟨ret_bool HF.out.symm, Y.down HB.out HS.out⟩
  have b2 := bneF g2
  have HV := Lib.hid (HV.out.trans (if_neg (fun h => h g2)))
  clear g2
  unfold Ft.absI at HV
  obtain ⟨x1, hx1⟩ : ∃ x, max m.shift (-m.shift) = x := ⟨_, rfl⟩
  obtain ⟨x2, hx2⟩ : ∃ x, max o.shift (-o.shift) = x := ⟨_, rfl⟩
  rw [hx1, hx2] at HV
  have walk : ∀ (d1 d2 d3 : Bool), decide (x1 < x2) = d1 → (x1 == x2) = d2 → decide (o.shift < m.shift) = d3 → Calls Try.prog 55 #[.agg #[.int .i64 m.shift, .int .i64 m.many, .int .i64 m.sum], .agg #[.int .i64 o.shift, .int .i64 o.many, .int .i64 o.sum]] w fun e w' => e = .returned (.bool (d1 || (d2 && d3))) ∧ Below w.heap.size w w' := by
    intro d1 d2 d3 e1 e2 e3
    cases d1 <;> cases d2
    all_goals
      go_enter Try.func55, Try.ntmps55
      go_upto_region 1 with (fail)
      rw [HV0.out, HV1.out]
      refine ext_wp fun X => ?_
      refine wp_region_ext (W := V1) _ (by kernel_rfl) (by kernel_rfl) ?_
      repeat go_big_quiet_step (fail)
      refine wpQuiet_nil ?_
      rintro _ ⟨Y, rfl⟩
      go_wp2_with fail
      refine held_start (C := fun w' => ∃ Z : Ext V1, w' = Z.1) (by kernel_rfl) ?_
      obtain ⟨Z0, hZ0⟩ : ∃ Z : Ext V1, ({ Y.1 with drawn := Y.1.drawn + 1 } : World) = Z.1 := ⟨⟨{ Y.1 with drawn := Y.1.drawn + 1 }, below_step Y.2 ⟨rfl, rfl, rfl, Nat.le_refl _, fun _ _ => rfl⟩⟩, rfl⟩
      rw [hZ0]
      clear hZ0
      refine held_quiet3 (by kernel_rfl) (fun _ _ d _ _ h => by cases d <;> exact h) ⟨Z0, rfl⟩ [0, 1, 2, 3, 4, 6, 7, 8, 9, 10, 5, 11, 12, 13] 0 _ _ (by kernel_rfl) ?_
      change wpQuiet _ _ _ _ (_ :: _ :: _ :: _ :: _ :: _ :: _ :: _ :: _ :: _ :: _ :: _ :: _ :: _ :: []) _
      repeat go_big_quiet_step (fail)
      refine wpQuiet_nil ?_
      refine wpAnyH_done (by kernel_rfl) ?_ _
      go_wp2_with fail
      go_ret
      exact ⟨ret_bool (by simp), Z0.down HB.out HS.out⟩
  have := walk _ _ _ rfl rfl rfl
  rw [show (x1 == x2) = decide (x1 = x2) from rfl, ← HV.out] at this
  exact this
end Go.Proofs.Ytckjdpnmalkpnaa

/- How well a shift fits, of both. (printed by wip/t/gen_tfl.py) -/
namespace Go.Proofs.Ytckjdpnmalkpnaa
open Go.RowKit Go.BigFrame
open Tr (inR)
open Ft (Mt)

/-- two operations that may come up -/
theorem held_two {P : Program} {Q : Exit → Act → World → Prop} {C : World → Prop} {l : List Oper} {i j fuel : Nat} {listed : Array Bool} {a : Act} {w : World} (oi oj : Oper) (hi : nth l i = some oi) (hj : nth l j = some oj) (hr : Region.ready .any l.toArray listed = [i, j])
    (hwi : Region.wanted oi (yielded l.toArray a.tmps) = true) (hwj : Region.wanted oj (yielded l.toArray a.tmps) = true)
    (h1 : ∀ K : Act → World → Prop, (∀ a' w', C w' → wpAnyH P .any l.toArray Q C fuel (listed.setIfInBounds i true) a' w' → K a' w') → oi.wp P a w K Q)
    (h2 : ∀ K : Act → World → Prop, (∀ a' w', C w' → wpAnyH P .any l.toArray Q C fuel (listed.setIfInBounds j true) a' w' → K a' w') → oj.wp P a w K Q) : wpAnyH P .any l.toArray Q C (fuel + 1) listed a w := by
  rw [nth_eq] at hi hj
  refine wpAnyH_all hr (by simp) fun q hq => ?_
  simp only [List.mem_cons, List.not_mem_nil, or_false] at hq
  rcases hq with rfl | rfl
  · unfold wpOp
    simp only [hi, hwi, if_true]
    exact Or.inl (h1 _ fun a' w' h3 h4 => ⟨h3, h4⟩)
  · unfold wpOp
    simp only [hj, hwj, if_true]
    exact Or.inl (h2 _ fun a' w' h3 h4 => ⟨h3, h4⟩)
def dist2 (s t : Sm) : Int := min ((s.x - t.x) * (s.x - t.x) + (s.y - t.y) * (s.y - t.y)) 1000000000000
def secOf (A : Acv) (bs shift : Int) (s : Sm) : Int := bs + s.tm - shift - A.start
def mtStep (A : Acv) (bs shift : Int) (m : Mt) (s : Sm) : Mt :=
  if A.sm.length = 0 then m else if inR (secOf A bs shift s) 0 (spanS A.sm) = true then ⟨m.shift, m.many + 1, m.sum + dist2 s (whereS A.sm (secOf A bs shift s))⟩ else m
def mtFold (A : Acv) (bs shift : Int) (l : List Sm) : Mt := l.foldl (mtStep A bs shift) ⟨shift, 0, 0⟩
theorem mtFold_succ {A : Acv} {bs shift : Int} {l : List Sm} {k : Nat} {s : Sm} (hs : l[k]? = some s) : mtFold A bs shift (l.take (k + 1)) = mtStep A bs shift (mtFold A bs shift (l.take k)) s := by
  obtain ⟨h1, e1⟩ := List.getElem?_eq_some_iff.1 hs
  unfold mtFold
  rw [List.take_succ_eq_append_getElem h1, e1, List.foldl_append]
  rfl
theorem sq_nonneg (a : Int) : 0 ≤ a * a := by
  rw [← Int.natAbs_mul_self]
  exact Int.natCast_nonneg _
theorem sq_le {a : Int} (h1 : -400000001 ≤ a) (h2 : a ≤ 400000001) : a * a ≤ 160000000800000001 := by
  rw [← Int.natAbs_mul_self]
  have : a.natAbs * a.natAbs ≤ 400000001 * 400000001 := Nat.mul_le_mul (by omega) (by omega)
  omega
theorem dist2_bounds (s t : Sm) : 0 ≤ dist2 s t ∧ dist2 s t ≤ 1000000000000 := by
  unfold dist2
  have h1 := sq_nonneg (s.x - t.x)
  have h2 := sq_nonneg (s.y - t.y)
  generalize (s.x - t.x) * (s.x - t.x) = a at *
  generalize (s.y - t.y) * (s.y - t.y) = b at *
  omega
/-- bounds behind k samples -/
structure MtAt (shift : Int) (k : Nat) (m : Mt) : Prop where
  s : m.shift = shift
  m1 : 0 ≤ m.many
  m2 : m.many ≤ k
  u1 : 0 ≤ m.sum
  u2 : m.sum ≤ 1000000000000 * k
theorem MtAt.step {A : Acv} {bs shift : Int} {k : Nat} {m : Mt} (h : MtAt shift k m) (s : Sm) : MtAt shift (k + 1) (mtStep A bs shift m s) := by
  have hd := dist2_bounds s (whereS A.sm (secOf A bs shift s))
  unfold mtStep
  split
  · exact ⟨h.s, h.m1, by have := h.m2; omega, h.u1, by have := h.u2; omega⟩
  · split
    · exact ⟨h.s, by have := h.m1; simp only; omega, by have := h.m2; simp only; omega, by have := h.u1; simp only; omega, by have := h.u2; simp only; omega⟩
    · exact ⟨h.s, h.m1, by have := h.m2; omega, h.u1, by have := h.u2; omega⟩
theorem mtFold_at (A : Acv) (bs shift : Int) (l : List Sm) : ∀ k, k ≤ l.length → MtAt shift k (mtFold A bs shift (l.take k)) := by
  intro k
  induction k with
  | zero => exact fun _ => ⟨rfl, Int.le_refl _, Int.le_refl _, Int.le_refl _, by show (0 : Int) ≤ 1000000000000 * ((0 : Nat) : Int); simp⟩
  | succ k ih =>
    intro hk
    obtain ⟨s, hs⟩ : ∃ s, l[k]? = some s := ⟨_, List.getElem?_eq_getElem (by omega)⟩
    rw [mtFold_succ hs]
    exact (ih (by omega)).step s
def shiftedF (A B : Acv) (shift : Int) : Mt := mtFold A B.start shift B.sm
theorem shiftedF_at (A B : Acv) (shift : Int) : MtAt shift B.sm.length (shiftedF A B shift) := by
  have := mtFold_at A B.start shift B.sm B.sm.length (Nat.le_refl _)
  rwa [List.take_length] at this
theorem MtAt.ok {shift : Int} {k : Nat} {m : Mt} (h : MtAt shift k m) (hk : k ≤ 400) (h1 : -3600 ≤ shift) (h2 : shift ≤ 3600) : MtOk m :=
  ⟨by have := h.s; omega, by have := h.s; omega, h.m1, by have := h.m2; omega, h.u1, by have := h.u2; omega⟩
/-- activities that Fit takes -/
structure FitOk (A : Acv) : Prop where
  sm : SmOk A.start A.sm
  n : A.sm.length ≤ 400
  st1 : 0 ≤ A.start
  st2 : A.start ≤ 86399999999
theorem where_near {A : Acv} (h : FitOk A) (hne : 0 < A.sm.length) {n : Int} (h0 : 0 ≤ n) (h1 : n ≤ spanS A.sm) :
    (-300000001 ≤ (whereS A.sm n).x ∧ (whereS A.sm n).x ≤ 300000001) ∧ (-300000001 ≤ (whereS A.sm n).y ∧ (whereS A.sm n).y ≤ 300000001) := by
  obtain ⟨q, hq, hw⟩ := where_cases h.sm hne h0 h1
  rcases hw with ⟨_, e, _⟩ | ⟨_, _, j, p, _, _, hb, e⟩
  · have := range_xyz (h.sm.upto _ q hq).2.2
    rw [e]
    omega
  · obtain ⟨px, py, _⟩ := range_xyz hb.rp
    obtain ⟨qx, qy, _⟩ := range_xyz hb.rq
    have a0 := hb.h0
    have a1 := hb.h1
    have a2 := hb.h2
    have a3 := hb.h3
    have a4 := hb.h4
    have bx := betw_near px qx (part := n - p.tm) (whole := q.tm - p.tm) (by omega) (by omega) (by omega) (by omega)
    have by_ := betw_near py qy (part := n - p.tm) (whole := q.tm - p.tm) (by omega) (by omega) (by omega) (by omega)
    rw [e]
    exact ⟨bx, by_⟩
/-- a block that holds a match -/
def MtB (w : World) (g : Nat) (m : Mt) : Prop := w.heap[g]? = some (.cells #[.int .i64 m.shift, .int .i64 m.many, .int .i64 m.sum] 37 (0, 0))
theorem MtB.cell {w : World} {g : Nat} {s : Mt} (h : MtB w g s) : w.cell? ⟨g, 0, none⟩ = some (.int .i64 s.shift) ∧ w.cell? ⟨g, 1, none⟩ = some (.int .i64 s.many) ∧ w.cell? ⟨g, 2, none⟩ = some (.int .i64 s.sum) := by
  unfold MtB at h
  simp [World.cell?, h]
theorem MtB.free {w : World} {g : Nat} {s : Mt} (h : MtB w g s) (i : Nat) : w.frozen? ⟨g, i, none⟩ = false := by
  unfold MtB at h
  simp [World.frozen?, h]
theorem MtB.lt {w : World} {g : Nat} {s : Mt} (h : MtB w g s) : g < w.heap.size := lt_of_block h
theorem MtB.below {w w' : World} {g : Nat} {s : Mt} (h : MtB w g s) (hb : Below w.heap.size w w') : MtB w' g s := (hb.block g h.lt).trans h
theorem MtB.kept {O : Nat → Prop} {w w' : World} {g : Nat} {s : Mt} (h : MtB w g s) (hk : Kept O w w') (ho : ¬ O g) : MtB w' g s := (hk.block g h.lt ho).trans h
theorem MtB.set0 {w : World} {g : Nat} {s : Mt} (h : MtB w g s) (v : Int) : MtB (w.setCell ⟨g, 0, none⟩ (.int .i64 v)) g { s with shift := v } := set_cells h
theorem MtB.set1 {w : World} {g : Nat} {s : Mt} (h : MtB w g s) (v : Int) : MtB (w.setCell ⟨g, 1, none⟩ (.int .i64 v)) g { s with many := v } := set_cells h
theorem MtB.set2 {w : World} {g : Nat} {s : Mt} (h : MtB w g s) (v : Int) : MtB (w.setCell ⟨g, 2, none⟩ (.int .i64 v)) g { s with sum := v } := set_cells h
theorem MtB.store {w : World} {g : Nat} {s : Mt} (h : MtB w g s) (u : Mt) : ∃ W, ((w.setCell ⟨g, 0, none⟩ (.int .i64 u.shift)).setCell ⟨g, 1, none⟩ (.int .i64 u.many)).setCell ⟨g, 2, none⟩ (.int .i64 u.sum) = W ∧ MtB W g u ∧ ∀ O : Nat → Prop, O g → Kept O w W :=
  ⟨_, rfl, ((h.set0 u.shift).set1 u.many).set2 u.sum, fun _ ho => ((keep_set ho).trans (keep_set ho)).trans (keep_set ho)⟩
theorem alloc_mt (w : World) (m : Mt) : ∃ W, w.alloc (.cells #[.int .i64 m.shift, .int .i64 m.many, .int .i64 m.sum] 37) = W ∧ Below w.heap.size w W ∧ W.heap.size = w.heap.size + 1 ∧ MtB W w.heap.size m :=
  ⟨_, rfl, below_al _ _, by simp, heap_alloc_new w _⟩
theorem mtSize : Hid ((Try.prog.info? 37).map (·.size) = some 3) := Lib.hid (by kernel_rfl)
set_option maxHeartbeats 1000000 in
theorem rdist_any (p q : Sm) (w : World) (hx : -400000001 ≤ p.x - q.x ∧ p.x - q.x ≤ 400000001) (hy : -400000001 ≤ p.y - q.y ∧ p.y - q.y ≤ 400000001) :
    Calls Try.prog 76 #[smV p, smV q] w fun e w' => e = .returned (.int .i64 (dist2 q p)) ∧ Below w.heap.size w w' := by
  have e1 : (q.x - p.x) * (q.x - p.x) = (p.x - q.x) * (p.x - q.x) := by rw [← Int.neg_mul_neg]; congr 1 <;> omega
  have e2 : (q.y - p.y) * (q.y - p.y) = (p.y - q.y) * (p.y - q.y) := by rw [← Int.neg_mul_neg]; congr 1 <;> omega
  have HV := Lib.hid (show dist2 q p = min ((p.x - q.x) * (p.x - q.x) + (p.y - q.y) * (p.y - q.y)) 1000000000000 by unfold dist2; rw [e1, e2])
  have n1 := sq_nonneg (p.x - q.x)
  have n2 := sq_nonneg (p.y - q.y)
  have n3 := sq_le hx.1 hx.2
  have n4 := sq_le hy.1 hy.2
  obtain ⟨hx1, hx2⟩ := hx
  obtain ⟨hy1, hy2⟩ := hy
  obtain ⟨V0, hV0, hb0, hs0, hl0⟩ := alloc_sm w p
  obtain ⟨V1, hV1, hb1, hs1, hl1⟩ := alloc_sm V0 q
  rw [hs0] at hl1
  obtain ⟨p0, p1, p2, p3, p4, p5, p6⟩ := (hl0.below hb1).cell
  obtain ⟨q0, q1, q2, q3, q4, q5, q6⟩ := hl1.cell
  have P1 := Ext.ex p1
  have P2 := Ext.ex p2
  have Q1 := Ext.ex q1
  have Q2 := Ext.ex q2
  have HV0 := Lib.hid hV0
  have HV1 := Lib.hid hV1
  have HB := Lib.hid (below_step hb0 hb1)
  have HS := Lib.hid (show w.heap.size ≤ V1.heap.size by omega)
  clear hV0 hV1 hb0 hb1 hs0 hs1 hl0 hl1 p0 p1 p2 p3 p4 p5 p6 q0 q1 q2 q3 q4 q5 q6 e1 e2
  unfold smV
  go_enter Try.func76, Try.ntmps76
  go_upto_region 1 with (fail)
  rw [HV0.out, HV1.out]
  refine ext_wp fun X => ?_
  refine wp_region_ext (W := V1) _ (by kernel_rfl) (by kernel_rfl) ?_
  repeat go_big_quiet_step (fail)
  refine wpQuiet_nil ?_
  rintro _ ⟨Y, rfl⟩
  go_wp2_with fail
  go_ret
  exact ⟨ret_int HV.out.symm, Y.down HB.out HS.out⟩
set_option maxHeartbeats 16000000 in
set_option maxRecDepth 100000 in
theorem shifted_any (A B : Acv) (a b c a' b' c' : Option Addr) (ca cb cc ca' cb' cc' : Nat) (shift : Int) (w : World) (hA : Rw smC 7 w a A.sm) (hB : Rw smC 7 w a' B.sm) (oA : FitOk A) (oB : FitOk B) (h1 : -3600 ≤ shift) (h2 : shift ≤ 3600) :
    Calls Try.prog 48 #[actV A a b c ca cb cc, actV B a' b' c' ca' cb' cc', .int .i64 shift] w fun e w' => e = .returned (mtV (shiftedF A B shift)) ∧ Below w.heap.size w w' := by
  have HI := mtSize
  have DSP := fun (W : World) (hb : Below w.heap.size w W) => span_any A a b c ca cb cc W (hA.below hb) (by have := oA.n; omega)
  have DW := fun (n : Int) (W : World) (hb : Below w.heap.size w W) (hne : 0 < A.sm.length) (h0 : 0 ≤ n) (h1 : n ≤ spanS A.sm) => where_any A a b c ca cb cc n W (hA.below hb) oA.sm (by have := oA.n; omega) hne h0 h1
  have HOA := Lib.hid oA
  have HOB := Lib.hid oB
  have HROW := Lib.hid hB
  have hna := oA.n
  have hnb := oB.n
  have sa1 := oA.st1
  have sa2 := oA.st2
  have sb1 := oB.st1
  have sb2 := oB.st2
  have HFIN : Hid (shiftedF A B shift = mtFold A B.start shift (B.sm.take B.sm.length)) := Lib.hid (by rw [List.take_length]; rfl)
  have HAT := Lib.hid (fun k (hk : k ≤ B.sm.length) => mtFold_at A B.start shift B.sm k hk)
  unfold actV at *
  obtain ⟨na, hna0⟩ : ∃ n, A.sm.length = n := ⟨_, rfl⟩
  obtain ⟨nb, hnb0⟩ : ∃ n, B.sm.length = n := ⟨_, rfl⟩
  have HNA := Lib.hid hna0
  have HNB := Lib.hid hnb0
  have HSTEP0 := Lib.hid (fun (m : Mt) (s : Sm) (h : na = 0) => show mtStep A B.start shift m s = m from if_pos (hna0.trans h))
  have HSTEP1 := Lib.hid (fun (m : Mt) (s : Sm) (h : na ≠ 0) => show mtStep A B.start shift m s = if inR (secOf A B.start shift s) 0 (spanS A.sm) = true then ⟨m.shift, m.many + 1, m.sum + dist2 s (whereS A.sm (secOf A B.start shift s))⟩ else m from if_neg (by rw [hna0]; exact h))
  have HNEAR := Lib.hid (fun (n : Int) (hne : 0 < A.sm.length) (h0 : 0 ≤ n) (h1 : n ≤ spanS A.sm) => where_near oA hne h0 h1)
  rw [hna0] at hna DSP DW HNEAR ⊢
  rw [hnb0] at hnb HFIN HAT ⊢
  obtain ⟨sp, hsp⟩ : ∃ s, spanS A.sm = s := ⟨_, rfl⟩
  rw [hsp] at DSP DW HSTEP1 HNEAR
  generalize A.lp.length = m2 at *
  generalize A.tg.length = m3 at *
  generalize B.lp.length = m2' at *
  generalize B.tg.length = m3' at *
  obtain ⟨V0, hV0, hb0, hs0, hl0⟩ := alloc_cells w #[.string A.name, .int .i64 A.sport, .int .i64 A.start, .slice a na ca, .slice b m2 cb, .slice c m3 cc] 35
  obtain ⟨V1, hV1, hb1, hs1, hl1⟩ := alloc_cells V0 #[.string B.name, .int .i64 B.sport, .int .i64 B.start, .slice a' nb ca', .slice b' m2' cb', .slice c' m3' cc'] 35
  obtain ⟨V2, hV2, hb2, hs2, hl2⟩ := alloc_mt V1 ⟨0, 0, 0⟩
  obtain ⟨V3, hV3, hb3, hs3, hl3⟩ := alloc_mt V2 ⟨shift, 0, 0⟩
  rw [hs0] at hl1
  rw [hs1, hs0] at hl2
  obtain ⟨G, hG⟩ : ∃ G, V2.heap.size = G := ⟨_, rfl⟩
  rw [hG] at hl3
  have hg1 : w.heap.size + 3 = G := by omega
  have HG1 := Lib.hid hg1
  have A0 := ExtO.ex (O := fun b => b = G) (show ¬ w.heap.size = G by omega) (below_cell hb3 (below_cell hb2 (below_cell hb1 (hl0 0 _ rfl))))
  have A1 := ExtO.ex (O := fun b => b = G) (show ¬ w.heap.size = G by omega) (below_cell hb3 (below_cell hb2 (below_cell hb1 (hl0 1 _ rfl))))
  have A2 := ExtO.ex (O := fun b => b = G) (show ¬ w.heap.size = G by omega) (below_cell hb3 (below_cell hb2 (below_cell hb1 (hl0 2 _ rfl))))
  have A3 := ExtO.ex (O := fun b => b = G) (show ¬ w.heap.size = G by omega) (below_cell hb3 (below_cell hb2 (below_cell hb1 (hl0 3 _ rfl))))
  have A4 := ExtO.ex (O := fun b => b = G) (show ¬ w.heap.size = G by omega) (below_cell hb3 (below_cell hb2 (below_cell hb1 (hl0 4 _ rfl))))
  have A5 := ExtO.ex (O := fun b => b = G) (show ¬ w.heap.size = G by omega) (below_cell hb3 (below_cell hb2 (below_cell hb1 (hl0 5 _ rfl))))
  have B2 := ExtO.ex (O := fun b => b = G) (show ¬ w.heap.size + 1 = G by omega) (below_cell hb3 (below_cell hb2 (hl1 2 _ rfl)))
  have B3 := ExtO.ex (O := fun b => b = G) (show ¬ w.heap.size + 1 = G by omega) (below_cell hb3 (below_cell hb2 (hl1 3 _ rfl)))
  have HR := Lib.hid (hl2.below hb3)
  have HG := Lib.hid hl3
  have HB := Lib.hid (below_step (below_step (below_step hb0 hb1) hb2) hb3)
  have HBW := Lib.hid (fun (X : ExtO (fun b => b = G) V3) => show Below w.heap.size w X.1 from Kept.below HB.out X.2 HB.out.size (fun k hk e => by have := HG1.out; omega))
  have DSP := Lib.hid (fun (X : ExtO (fun b => b = G) V3) => DSP X.1 (HBW.out X))
  have DW := Lib.hid (fun (n : Int) (X : ExtO (fun b => b = G) V3) => DW n X.1 (HBW.out X))
  have HV0 := Lib.hid hV0
  have HV1 := Lib.hid hV1
  have HV2 := Lib.hid hV2
  have HV3 := Lib.hid hV3
  have HGG := Lib.hid hG
  clear hV0 hb0 hs0 hl0 hV1 hb1 hs1 hl1 hV2 hb2 hs2 hl2 hV3 hb3 hs3 hl3 hg1 hG hA hB oA oB hna0 hnb0 hsp
  simp only at HV2 HV3
  go_enter Try.func48, Try.ntmps48
  go_upto_region 1 with (fail)
  rw [HV0.out, HV1.out, HV2.out]
  go_upto_region 2 with (fail)
  rw [HV3.out, HGG.out]
  obtain ⟨X0, hX0⟩ : ∃ X : ExtO (fun b => b = G) V3, V3 = X.1 := ⟨⟨V3, Kept.refl _ _⟩, rfl⟩
  have HGX : Hid (MtB X0.1 G ⟨shift, 0, 0⟩) := Lib.hid (hX0 ▸ HG.out)
  rw [hX0]
  clear hX0 HG
  have B3x := B3 X0
  go_wp2_with fail
  clear B3x
  go_loopw [17] (fun iv wr => ∃ (k : Nat) (m : Mt), iv = .int .i64 k ∧ k ≤ nb ∧ Hid (m = mtFold A B.start shift (B.sm.take k)) ∧ ∃ X : ExtO (fun b => b = G) V3, wr = X.1 ∧ Hid (MtB X.1 G m)) (fun iv _ => nb - (intOf iv).toNat)
  case atStart => exact ⟨0, ⟨shift, 0, 0⟩, rfl, by omega, Lib.hid rfl, X0, rfl, HGX⟩
  case round =>
    clear HGX
    obtain ⟨k, m, rfl, hk, HM, X, rfl, HGX⟩ := hrel
    by_cases hlt : k < nb
    · have t2 : decide ((k : Int) < (nb : Int)) = true := by rw [decide_eq_true_eq]; omega
      have t2' : decide (k < nb) = true := by simpa using hlt
      obtain ⟨s, hx⟩ : ∃ s, B.sm[k]? = some s := ⟨_, List.getElem?_eq_getElem (by rw [HNB.out]; exact hlt)⟩
      obtain ⟨bb, ob, rfl, hbb, hc⟩ := (HROW.out.below (HBW.out X)).at hx
      have HBB := Lib.hid (show ¬ bb = G from by
        obtain ⟨b2, o2, e2, hb2, _⟩ := HROW.out.at hx
        injection e2 with e2
        injection e2 with e2 _
        have := HG1.out
        omega)
      have c0 : X.1.cell? ⟨bb, ob + k * 7, none⟩ = some (.int .i64 s.tm) := hc 0 _ rfl
      have c1 := hc 1 _ rfl
      have c2 := hc 2 _ rfl
      have c3 := hc 3 _ rfl
      have c4 := hc 4 _ rfl
      have c5 := hc 5 _ rfl
      have c6 := hc 6 _ rfl
      have hat := HAT.out k hk
      rw [← HM.out] at hat
      have m1 := hat.m1
      have m2_ := hat.m2
      have u1 := hat.u1
      have u2 := hat.u2
      have hs1 := HOB.out.sm.nonneg hx
      obtain ⟨hs2, _, hrg⟩ := HOB.out.sm.upto k s hx
      obtain ⟨⟨sx1, sx2⟩, ⟨sy1, sy2⟩, _⟩ := range_xyz hrg
      have HNX := Lib.hid (show mtFold A B.start shift (B.sm.take (k + 1)) = mtStep A B.start shift m s by rw [mtFold_succ hx, ← HM.out])
      obtain ⟨W1, hW1, hwb1, hws1, hwl1⟩ := alloc_sm X.1 s
      obtain ⟨S, hS⟩ : ∃ S, X.1.heap.size = S := ⟨_, rfl⟩
      rw [hS] at hwl1
      have HSG := Lib.hid (show ¬ S = G from by have := HGX.out.lt; omega)
      obtain ⟨X1, hX1⟩ : ∃ Z : ExtO (fun b => b = G) V3, W1 = Z.1 := ⟨⟨W1, X.2.trans (Kept.of_below hwb1)⟩, rfl⟩
      have HGX1 : Hid (MtB X1.1 G m) := Lib.hid (hX1 ▸ HGX.out.below hwb1)
      have HSX1 : Hid (SmB X1.1 S s) := Lib.hid (hX1 ▸ hwl1)
      have HW1 := Lib.hid (hW1.trans hX1)
      have HSS := Lib.hid hS
      obtain ⟨s0, s1_, s2_, s3, s4, s5, s6⟩ := HSX1.out.cell
      have hk20 : nb ≤ 400 := hnb
      have hse : secOf A B.start shift s = B.start + s.tm - shift - A.start := rfl
      have HSEC := Lib.hid hse
      clear hc hx hat hW1 hwb1 hws1 hwl1 hX1 hS hrg hse HM HGX
      have B2x := B2 X1
      have A2x := A2 X1
      have A0x := A0 X1
      have A1x := A1 X1
      have A3x := A3 X1
      have A4x := A4 X1
      have A5x := A5 X1
      obtain rfl | hne : na = 0 ∨ na ≠ 0 := by omega
      · have HN2 := Lib.hid (HNX.out.trans (HSTEP0.out m s rfl))
        go_upto_region 5 with (fail)
        rw [HW1.out, HSS.out]
        go_wp2_with fail
        go_roundw
        case rel => exact ⟨k + 1, m, by go_num, by omega, Lib.hid HN2.out.symm, X1, rfl, HGX1⟩
        case measure => simp [intOf]; omega
      have hnz : ((na : Int) == 0) = false := by rw [beq_eq_false_iff_ne]; omega
      have hnz' : (na == 0) = false := by rw [beq_eq_false_iff_ne]; omega
      have HN2 := Lib.hid (HNX.out.trans (HSTEP1.out m s hne))
      have DI := Lib.hid (fun W => tin_any (secOf A B.start shift s) 0 sp W)
      have HIN := Lib.hid (fun (h : inR (secOf A B.start shift s) 0 sp = true) => inR_iff.1 h)
      have HNE := Lib.hid hne
      generalize hsec : secOf A B.start shift s = sec at *
      have HSE2 := HSEC
      have DI' : Hid (∀ W, Calls Try.prog 56 #[.int .i64 (B.start + s.tm - shift - A.start), .int .i64 0, .int .i64 sp] W fun e w' => e = .returned (.bool (inR sec 0 sp)) ∧ W = w') := Lib.hid (by rw [← HSE2.out]; exact DI.out)
      generalize inR sec 0 sp = bi at *
      clear hsec hne HNX HSEC
      cases bi
      · have HN3 := Lib.hid (HN2.out.trans (if_neg (by simp)))
        clear HN2
        go_upto_region 5 with (fail)
        rw [HW1.out, HSS.out]
        go_wp2_with fail
        refine (DSP.out X1).mono ?_
        rintro e w1 ⟨rfl, hb⟩
        have HGX2 : Hid (MtB w1 G m) := Lib.hid (HGX1.out.below hb)
        obtain ⟨X2, rfl⟩ : ∃ X : ExtO (fun b => b = G) V3, w1 = X.1 := ⟨⟨w1, X1.2.trans (Kept.of_below hb)⟩, rfl⟩
        clear hb
        go_wp2_with fail
        refine (DI'.out _).mono ?_
        rintro e w1 ⟨rfl, rfl⟩
        go_wp2_with fail
        go_roundw
        case rel => exact ⟨k + 1, m, by go_num, by omega, Lib.hid HN3.out.symm, X2, rfl, HGX2⟩
        case measure => simp [intOf]; omega
      · have HN3 := Lib.hid (HN2.out.trans (if_pos rfl))
        obtain ⟨hi1, hi2⟩ := HIN.out rfl
        obtain ⟨⟨tx1, tx2⟩, ⟨ty1, ty2⟩⟩ := HNEAR.out sec (by have := HNE.out; omega) hi1 hi2
        have DWX := Lib.hid (fun X => DW.out sec X (by have := HNE.out; omega) hi1 hi2)
        generalize whereS A.sm sec = t at *
        have hse3 : B.start + s.tm - shift - A.start = sec := HSE2.out.symm
        have hdx1 : -400000001 ≤ s.x - t.x := by omega
        have hdx2 : s.x - t.x ≤ 400000001 := by omega
        have hdy1 : -400000001 ≤ s.y - t.y := by omega
        have hdy2 : s.y - t.y ≤ 400000001 := by omega
        have n1 := sq_nonneg (s.x - t.x)
        have n2 := sq_nonneg (s.y - t.y)
        have n3 := sq_le hdx1 hdx2
        have n4 := sq_le hdy1 hdy2
        have HD2 := Lib.hid (show dist2 s t = min ((s.x - t.x) * (s.x - t.x) + (s.y - t.y) * (s.y - t.y)) 1000000000000 from rfl)
        have DWX' : Hid (∀ X : ExtO (fun b => b = G) V3, Calls Try.prog 74 #[.agg #[.string A.name, .int .i64 A.sport, .int .i64 A.start, .slice a na ca, .slice b m2 cb, .slice c m3 cc], .int .i64 (B.start + s.tm - shift - A.start)] X.1 fun e w' => e = .returned (smV t) ∧ Below X.1.heap.size X.1 w') := Lib.hid (by rw [hse3]; exact DWX.out)
        clear HN2 hse3 HIN HNEAR DW DWX
        go_upto_region 5 with (fail)
        rw [HW1.out, HSS.out]
        go_wp2_with fail
        refine (DSP.out X1).mono ?_
        rintro e w1 ⟨rfl, hb⟩
        have HGX2 : Hid (MtB w1 G m) := Lib.hid (HGX1.out.below hb)
        have HSX2 : Hid (SmB w1 S s) := Lib.hid (HSX1.out.below hb)
        obtain ⟨X2, rfl⟩ : ∃ X : ExtO (fun b => b = G) V3, w1 = X.1 := ⟨⟨w1, X1.2.trans (Kept.of_below hb)⟩, rfl⟩
        clear hb A0x A1x A2x A3x A4x A5x B2x s0 s1_ s2_ s3 s4 s5 s6
        have A0x := A0 X2
        have A1x := A1 X2
        have A2x := A2 X2
        have A3x := A3 X2
        have A4x := A4 X2
        have A5x := A5 X2
        go_wp2_with fail
        refine (DI'.out _).mono ?_
        rintro e w1 ⟨rfl, rfl⟩
        go_wp2_with fail
        refine (DWX'.out X2).mono ?_
        rintro e w1 ⟨rfl, hb⟩
        have HGX3 : Hid (MtB w1 G m) := Lib.hid (HGX2.out.below hb)
        have HSX3 : Hid (SmB w1 S s) := Lib.hid (HSX2.out.below hb)
        obtain ⟨X3, rfl⟩ : ∃ X : ExtO (fun b => b = G) V3, w1 = X.1 := ⟨⟨w1, X2.2.trans (Kept.of_below hb)⟩, rfl⟩
        clear hb A0x A1x A2x A3x A4x A5x
        obtain ⟨W4, hW4, hwb4, hws4, hwl4⟩ := alloc_sm X3.1 t
        obtain ⟨T, hT⟩ : ∃ T, X3.1.heap.size = T := ⟨_, rfl⟩
        rw [hT] at hwl4
        have HTG := Lib.hid (show ¬ T = G from by have := HGX3.out.lt; omega)
        have HGX4 : Hid (MtB W4 G m) := Lib.hid (HGX3.out.below hwb4)
        have HSX4 : Hid (SmB W4 S s) := Lib.hid (HSX3.out.below hwb4)
        have HTX4 : Hid (SmB W4 T t) := Lib.hid hwl4
        have HX4 := Lib.hid (show Kept (fun b => b = G) V3 W4 from X3.2.trans (Kept.of_below hwb4))
        have HW4 := Lib.hid hW4
        have HTT := Lib.hid hT
        unfold smV
        clear hW4 hwb4 hws4 hwl4 hT
        go_upto_region 8 with (fail)
        rw [HW4.out, HTT.out]
        obtain ⟨g0, g1, g2⟩ := HGX4.out.cell
        have f1 := HGX4.out.free 1
        obtain ⟨W5, hW5⟩ : ∃ W, W4.setCell ⟨G, 1, none⟩ (.int .i64 (m.many + 1)) = W := ⟨_, rfl⟩
        have HGX5 : Hid (MtB W5 G { m with many := m.many + 1 }) := Lib.hid (hW5 ▸ HGX4.out.set1 (m.many + 1))
        have HK5 := Lib.hid (show Kept (fun b => b = G) W4 W5 from hW5 ▸ keep_set rfl)
        have HW5 := Lib.hid hW5
        clear hW5
        go_upto_region 9 with (fail)
        rw [HW5.out]
        clear g0 g1 g2 f1
        obtain ⟨g0, g1, g2⟩ := HGX5.out.cell
        have f2 := HGX5.out.free 2
        obtain ⟨s0, s1_, s2_, s3, s4, s5, s6⟩ := (HSX4.out.kept HK5.out HSG.out).cell
        obtain ⟨t0, t1, t2_, t3, t4, t5, t6⟩ := (HTX4.out.kept HK5.out HTG.out).cell
        try simp only at g0 g1 g2
        obtain ⟨W6, hW6⟩ : ∃ W, W5.setCell ⟨G, 2, none⟩ (.int .i64 (m.sum + min ((s.x - t.x) * (s.x - t.x) + (s.y - t.y) * (s.y - t.y)) 1000000000000)) = W := ⟨_, rfl⟩
        have HGX6 : Hid (MtB W6 G ⟨m.shift, m.many + 1, m.sum + dist2 s t⟩) := Lib.hid (by rw [HD2.out]; exact hW6 ▸ HGX5.out.set2 _)
        have HK6 := Lib.hid (show Kept (fun b => b = G) V3 W6 from (HX4.out.trans HK5.out).trans (hW6 ▸ keep_set rfl))
        have HW6 := Lib.hid hW6
        clear hW6 s0 s3 s4 s5 s6 t0 t3 t4 t5 t6 g0
        go_wp2_with fail
        rw [HW6.out]
        go_roundw
        case rel => exact ⟨k + 1, _, by go_num, by omega, Lib.hid HN3.out.symm, ⟨W6, HK6.out⟩, rfl, HGX6⟩
        case measure => simp [intOf]; omega
    · have t2 : decide ((k : Int) < (nb : Int)) = false := by rw [decide_eq_false_iff_not]; omega
      have t2' : decide (k < nb) = false := by simpa using hlt
      have hkn : k = nb := by omega
      have HV := Lib.hid (show shiftedF A B shift = m by rw [HFIN.out, HM.out, hkn])
      clear hkn HM hlt hk HAT
      have HRX : Hid (MtB X.1 (w.heap.size + 2) ⟨0, 0, 0⟩) := Lib.hid (HR.out.kept X.2 (fun e => by have := HG1.out; omega))
      obtain ⟨g0, g1, g2⟩ := HGX.out.cell
      obtain ⟨r0, r1, r2⟩ := HRX.out.cell
      have f0 := HRX.out.free 0
      have f1 := HRX.out.free 1
      have f2 := HRX.out.free 2
      obtain ⟨WE, hWE, hWB, hWK⟩ := HRX.out.store m
      have HWE := Lib.hid hWE
      have HWB := Lib.hid (And.intro hWB (show Below w.heap.size w WE from Kept.below (HBW.out X) (hWK (fun b => b = w.heap.size + 2) rfl) (HBW.out X).size (fun k hk e => by omega)))
      try simp only at g0 g1 g2 r0 r1 r2
      clear hWE hWB hWK
      go_wp2_with fail
      try simp only at HWE
      rw [HWE.out]
      exact bodyPost_ret (v := _) (results_cell_row Try.results48 _ _ (w.heap.size + 2) _ _ _ _ rfl HWB.out.1 Try.underlying37 rfl HI.out) rfl ⟨by rw [HV.out]; rfl, HWB.out.2⟩
set_option maxHeartbeats 16000000 in
set_option maxRecDepth 100000 in
theorem rwith_any (A B : Acv) (a b c a' b' c' : Option Addr) (ca cb cc ca' cb' cc' : Nat) (shift : Int) (w : World) (hA : Rw smC 7 w a A.sm) (hB : Rw smC 7 w a' B.sm) (oA : FitOk A) (oB : FitOk B) (h1 : -3600 ≤ shift) (h2 : shift ≤ 3600) :
    Calls Try.prog 54 #[actV A a b c ca cb cc, actV B a' b' c' ca' cb' cc', .int .i64 shift] w fun e w' => e = .returned (mtV (shiftedF A B shift)) ∧ Below w.heap.size w w' := by
  have HI := mtSize
  have DSP := fun (W : World) (hb : Below w.heap.size w W) => rspan2_any A a b c ca cb cc W (hA.below hb) (by have := oA.n; omega)
  have DW := fun (n : Int) (W : World) (hb : Below w.heap.size w W) (hne : 0 < A.sm.length) (h0 : 0 ≤ n) (h1 : n ≤ spanS A.sm) => rwhere_any A a b c ca cb cc n W (hA.below hb) oA.sm (by have := oA.n; omega) hne h0 h1
  have HOA := Lib.hid oA
  have HOB := Lib.hid oB
  have HROW := Lib.hid hB
  have hna := oA.n
  have hnb := oB.n
  have sa1 := oA.st1
  have sa2 := oA.st2
  have sb1 := oB.st1
  have sb2 := oB.st2
  have HFIN : Hid (shiftedF A B shift = mtFold A B.start shift (B.sm.take B.sm.length)) := Lib.hid (by rw [List.take_length]; rfl)
  have HAT := Lib.hid (fun k (hk : k ≤ B.sm.length) => mtFold_at A B.start shift B.sm k hk)
  unfold actV at *
  obtain ⟨na, hna0⟩ : ∃ n, A.sm.length = n := ⟨_, rfl⟩
  obtain ⟨nb, hnb0⟩ : ∃ n, B.sm.length = n := ⟨_, rfl⟩
  have HNA := Lib.hid hna0
  have HNB := Lib.hid hnb0
  have HSTEP0 := Lib.hid (fun (m : Mt) (s : Sm) (h : na = 0) => show mtStep A B.start shift m s = m from if_pos (hna0.trans h))
  have HSTEP1 := Lib.hid (fun (m : Mt) (s : Sm) (h : na ≠ 0) => show mtStep A B.start shift m s = if inR (secOf A B.start shift s) 0 (spanS A.sm) = true then ⟨m.shift, m.many + 1, m.sum + dist2 s (whereS A.sm (secOf A B.start shift s))⟩ else m from if_neg (by rw [hna0]; exact h))
  have HNEAR := Lib.hid (fun (n : Int) (hne : 0 < A.sm.length) (h0 : 0 ≤ n) (h1 : n ≤ spanS A.sm) => where_near oA hne h0 h1)
  rw [hna0] at hna DSP DW HNEAR ⊢
  rw [hnb0] at hnb HFIN HAT ⊢
  obtain ⟨sp, hsp⟩ : ∃ s, spanS A.sm = s := ⟨_, rfl⟩
  rw [hsp] at DSP DW HSTEP1 HNEAR
  generalize A.lp.length = m2 at *
  generalize A.tg.length = m3 at *
  generalize B.lp.length = m2' at *
  generalize B.tg.length = m3' at *
  obtain ⟨V0, hV0, hb0, hs0, hl0⟩ := alloc_cells w #[.string A.name, .int .i64 A.sport, .int .i64 A.start, .slice a na ca, .slice b m2 cb, .slice c m3 cc] 35
  obtain ⟨V1, hV1, hb1, hs1, hl1⟩ := alloc_cells V0 #[.string B.name, .int .i64 B.sport, .int .i64 B.start, .slice a' nb ca', .slice b' m2' cb', .slice c' m3' cc'] 35
  obtain ⟨V2, hV2, hb2, hs2, hl2⟩ := alloc_mt V1 ⟨0, 0, 0⟩
  obtain ⟨V3, hV3, hb3, hs3, hl3⟩ := alloc_mt V2 ⟨shift, 0, 0⟩
  rw [hs0] at hl1
  rw [hs1, hs0] at hl2
  obtain ⟨G, hG⟩ : ∃ G, V2.heap.size = G := ⟨_, rfl⟩
  rw [hG] at hl3
  have hg1 : w.heap.size + 3 = G := by omega
  have HG1 := Lib.hid hg1
  have A0 := ExtO.ex (O := fun b => b = G) (show ¬ w.heap.size = G by omega) (below_cell hb3 (below_cell hb2 (below_cell hb1 (hl0 0 _ rfl))))
  have A1 := ExtO.ex (O := fun b => b = G) (show ¬ w.heap.size = G by omega) (below_cell hb3 (below_cell hb2 (below_cell hb1 (hl0 1 _ rfl))))
  have A2 := ExtO.ex (O := fun b => b = G) (show ¬ w.heap.size = G by omega) (below_cell hb3 (below_cell hb2 (below_cell hb1 (hl0 2 _ rfl))))
  have A3 := ExtO.ex (O := fun b => b = G) (show ¬ w.heap.size = G by omega) (below_cell hb3 (below_cell hb2 (below_cell hb1 (hl0 3 _ rfl))))
  have A4 := ExtO.ex (O := fun b => b = G) (show ¬ w.heap.size = G by omega) (below_cell hb3 (below_cell hb2 (below_cell hb1 (hl0 4 _ rfl))))
  have A5 := ExtO.ex (O := fun b => b = G) (show ¬ w.heap.size = G by omega) (below_cell hb3 (below_cell hb2 (below_cell hb1 (hl0 5 _ rfl))))
  have B2 := ExtO.ex (O := fun b => b = G) (show ¬ w.heap.size + 1 = G by omega) (below_cell hb3 (below_cell hb2 (hl1 2 _ rfl)))
  have B3 := ExtO.ex (O := fun b => b = G) (show ¬ w.heap.size + 1 = G by omega) (below_cell hb3 (below_cell hb2 (hl1 3 _ rfl)))
  have HR := Lib.hid (hl2.below hb3)
  have HG := Lib.hid hl3
  have HB := Lib.hid (below_step (below_step (below_step hb0 hb1) hb2) hb3)
  have HBW := Lib.hid (fun (X : ExtO (fun b => b = G) V3) => show Below w.heap.size w X.1 from Kept.below HB.out X.2 HB.out.size (fun k hk e => by have := HG1.out; omega))
  have DSP := Lib.hid (fun (X : ExtO (fun b => b = G) V3) => DSP X.1 (HBW.out X))
  have DW := Lib.hid (fun (n : Int) (X : ExtO (fun b => b = G) V3) => DW n X.1 (HBW.out X))
  have HV0 := Lib.hid hV0
  have HV1 := Lib.hid hV1
  have HV2 := Lib.hid hV2
  have HV3 := Lib.hid hV3
  have HGG := Lib.hid hG
  clear hV0 hb0 hs0 hl0 hV1 hb1 hs1 hl1 hV2 hb2 hs2 hl2 hV3 hb3 hs3 hl3 hg1 hG hA hB oA oB hna0 hnb0 hsp
  simp only at HV2 HV3
  go_enter Try.func54, Try.ntmps54
  go_upto_region 1 with (fail)
  rw [HV0.out, HV1.out, HV2.out]
  go_upto_region 2 with (fail)
  rw [HV3.out, HGG.out]
  obtain ⟨X0, hX0⟩ : ∃ X : ExtO (fun b => b = G) V3, V3 = X.1 := ⟨⟨V3, Kept.refl _ _⟩, rfl⟩
  have HGX : Hid (MtB X0.1 G ⟨shift, 0, 0⟩) := Lib.hid (hX0 ▸ HG.out)
  rw [hX0]
  clear hX0 HG
  obtain rfl | hne : na = 0 ∨ na ≠ 0 := by omega
  · have HV := Lib.hid (show shiftedF A B shift = ⟨shift, 0, 0⟩ by
      rw [HFIN.out]
      have : ∀ k, k ≤ nb → mtFold A B.start shift (B.sm.take k) = ⟨shift, 0, 0⟩ := by
        intro k
        induction k with
        | zero => exact fun _ => rfl
        | succ k ih =>
          intro hk
          obtain ⟨s, hs⟩ : ∃ s, B.sm[k]? = some s := ⟨_, List.getElem?_eq_getElem (by have := HNB.out; omega)⟩
          rw [mtFold_succ hs, ih (by omega)]
          exact HSTEP0.out _ s rfl
      exact this nb (Nat.le_refl _))
    have A3x := A3 X0
    clear DSP DW HSTEP0 HSTEP1 HNEAR HAT HFIN
    have HRX : Hid (MtB X0.1 (w.heap.size + 2) ⟨0, 0, 0⟩) := Lib.hid (HR.out.kept X0.2 (fun e => by have := HG1.out; omega))
    obtain ⟨g0, g1, g2⟩ := HGX.out.cell
    obtain ⟨r0, r1, r2⟩ := HRX.out.cell
    have f0 := HRX.out.free 0
    have f1 := HRX.out.free 1
    have f2 := HRX.out.free 2
    obtain ⟨WE, hWE, hWB, hWK⟩ := HRX.out.store ⟨shift, 0, 0⟩
    have HWE := Lib.hid hWE
    have HWB := Lib.hid (And.intro hWB (show Below w.heap.size w WE from Kept.below (HBW.out X0) (hWK (fun b => b = w.heap.size + 2) rfl) (HBW.out X0).size (fun k hk e => by omega)))
    try simp only at g0 g1 g2 r0 r1 r2
    clear hWE hWB hWK
    go_wp2_with fail
    try simp only at HWE
    rw [HWE.out]
    exact bodyPost_ret (v := _) (results_cell_row Try.results54 _ _ (w.heap.size + 2) _ _ _ _ rfl HWB.out.1 Try.underlying37 rfl HI.out) rfl ⟨by rw [HV.out]; rfl, HWB.out.2⟩
  have hnz : ((na : Int) == 0) = false := by rw [beq_eq_false_iff_ne]; omega
  have hnz' : (na == 0) = false := by rw [beq_eq_false_iff_ne]; omega
  have A0x := A0 X0
  have A1x := A1 X0
  have A2x := A2 X0
  have A3x := A3 X0
  have A4x := A4 X0
  have A5x := A5 X0
  go_wp2_with fail
  refine (DSP.out X0).mono ?_
  rintro e w1 ⟨rfl, hb⟩
  obtain ⟨X1, rfl⟩ : ∃ X : ExtO (fun b => b = G) V3, w1 = X.1 := ⟨⟨w1, X0.2.trans (Kept.of_below hb)⟩, rfl⟩
  have HGX : Hid (MtB X1.1 G ⟨shift, 0, 0⟩) := Lib.hid (HGX.out.below hb)
  have B3x := B3 X1
  clear hb A0x A1x A2x A3x A4x A5x
  go_wp2_with fail
  clear B3x
  go_loopw [24] (fun iv wr => ∃ (k : Nat) (m : Mt), iv = .int .i64 k ∧ k ≤ nb ∧ Hid (m = mtFold A B.start shift (B.sm.take k)) ∧ ∃ X : ExtO (fun b => b = G) V3, wr = X.1 ∧ Hid (MtB X.1 G m)) (fun iv _ => nb - (intOf iv).toNat)
  case atStart => exact ⟨0, ⟨shift, 0, 0⟩, rfl, by omega, Lib.hid rfl, X1, rfl, HGX⟩
  case round =>
    clear HGX
    obtain ⟨k, m, rfl, hk, HM, X, rfl, HGX⟩ := hrel
    by_cases hlt : k < nb
    · have t2 : decide ((k : Int) < (nb : Int)) = true := by rw [decide_eq_true_eq]; omega
      have t2' : decide (k < nb) = true := by simpa using hlt
      obtain ⟨s, hx⟩ : ∃ s, B.sm[k]? = some s := ⟨_, List.getElem?_eq_getElem (by rw [HNB.out]; exact hlt)⟩
      obtain ⟨bb, ob, rfl, hbb, hc⟩ := (HROW.out.below (HBW.out X)).at hx
      have HBB := Lib.hid (show ¬ bb = G from by
        obtain ⟨b2, o2, e2, hb2, _⟩ := HROW.out.at hx
        injection e2 with e2
        injection e2 with e2 _
        have := HG1.out
        omega)
      have c0 : X.1.cell? ⟨bb, ob + k * 7, none⟩ = some (.int .i64 s.tm) := hc 0 _ rfl
      have c1 := hc 1 _ rfl
      have c2 := hc 2 _ rfl
      have c3 := hc 3 _ rfl
      have c4 := hc 4 _ rfl
      have c5 := hc 5 _ rfl
      have c6 := hc 6 _ rfl
      have hat := HAT.out k hk
      rw [← HM.out] at hat
      have m1 := hat.m1
      have m2_ := hat.m2
      have u1 := hat.u1
      have u2 := hat.u2
      have hs1 := HOB.out.sm.nonneg hx
      obtain ⟨hs2, _, hrg⟩ := HOB.out.sm.upto k s hx
      obtain ⟨⟨sx1, sx2⟩, ⟨sy1, sy2⟩, _⟩ := range_xyz hrg
      have HNX := Lib.hid (show mtFold A B.start shift (B.sm.take (k + 1)) = mtStep A B.start shift m s by rw [mtFold_succ hx, ← HM.out])
      obtain ⟨W1, hW1, hwb1, hws1, hwl1⟩ := alloc_sm X.1 s
      obtain ⟨S, hS⟩ : ∃ S, X.1.heap.size = S := ⟨_, rfl⟩
      rw [hS] at hwl1
      have HSG := Lib.hid (show ¬ S = G from by have := HGX.out.lt; omega)
      obtain ⟨X1, hX1⟩ : ∃ Z : ExtO (fun b => b = G) V3, W1 = Z.1 := ⟨⟨W1, X.2.trans (Kept.of_below hwb1)⟩, rfl⟩
      have HGX1 : Hid (MtB X1.1 G m) := Lib.hid (hX1 ▸ HGX.out.below hwb1)
      have HSX1 : Hid (SmB X1.1 S s) := Lib.hid (hX1 ▸ hwl1)
      have HW1 := Lib.hid (hW1.trans hX1)
      have HSS := Lib.hid hS
      obtain ⟨s0, s1_, s2_, s3, s4, s5, s6⟩ := HSX1.out.cell
      have hk20 : nb ≤ 400 := hnb
      have hse : secOf A B.start shift s = B.start + s.tm - shift - A.start := rfl
      have HSEC := Lib.hid hse
      clear hc hx hat hW1 hwb1 hws1 hwl1 hX1 hS hrg hse HM HGX
      have B2x := B2 X1
      have A2x := A2 X1
      have HN2 := Lib.hid (HNX.out.trans (HSTEP1.out m s hne))
      have DI := Lib.hid (fun W => rout_any (secOf A B.start shift s) 0 sp W)
      have HIN := Lib.hid (fun (h : inR (secOf A B.start shift s) 0 sp = true) => inR_iff.1 h)
      have HNE := Lib.hid hne
      generalize hsec : secOf A B.start shift s = sec at *
      have HSE2 := HSEC
      have DI' : Hid (∀ W, Calls Try.prog 31 #[.int .i64 (B.start + s.tm - shift - A.start), .int .i64 0, .int .i64 sp] W fun e w' => e = .returned (.bool (!inR sec 0 sp)) ∧ W = w') := Lib.hid (by rw [← HSE2.out]; exact DI.out)
      generalize inR sec 0 sp = bi at *
      clear hsec hne HNX HSEC
      cases bi
      · have HN3 := Lib.hid (HN2.out.trans (if_neg (by simp)))
        clear HN2
        go_upto_region 8 with (fail)
        rw [HW1.out, HSS.out]
        go_wp2_with fail
        refine (DI'.out _).mono ?_
        rintro e w1 ⟨rfl, rfl⟩
        go_wp2_with fail
        go_roundw
        case rel => exact ⟨k + 1, m, by go_num, by omega, Lib.hid HN3.out.symm, X1, rfl, HGX1⟩
        case measure => simp [intOf]; omega
      · have HN3 := Lib.hid (HN2.out.trans (if_pos rfl))
        obtain ⟨hi1, hi2⟩ := HIN.out rfl
        obtain ⟨⟨tx1, tx2⟩, ⟨ty1, ty2⟩⟩ := HNEAR.out sec (by have := HNE.out; omega) hi1 hi2
        have DWX := Lib.hid (fun X => DW.out sec X (by have := HNE.out; omega) hi1 hi2)
        generalize whereS A.sm sec = t at *
        have hse3 : B.start + s.tm - shift - A.start = sec := HSE2.out.symm
        have hdx1 : -400000001 ≤ s.x - t.x := by omega
        have hdx2 : s.x - t.x ≤ 400000001 := by omega
        have hdy1 : -400000001 ≤ s.y - t.y := by omega
        have hdy2 : s.y - t.y ≤ 400000001 := by omega
        have n1 := sq_nonneg (s.x - t.x)
        have n2 := sq_nonneg (s.y - t.y)
        have n3 := sq_le hdx1 hdx2
        have n4 := sq_le hdy1 hdy2
        have HD2 := Lib.hid (show dist2 s t = min ((s.x - t.x) * (s.x - t.x) + (s.y - t.y) * (s.y - t.y)) 1000000000000 from rfl)
        have DWX' : Hid (∀ X : ExtO (fun b => b = G) V3, Calls Try.prog 77 #[.agg #[.string A.name, .int .i64 A.sport, .int .i64 A.start, .slice a na ca, .slice b m2 cb, .slice c m3 cc], .int .i64 (B.start + s.tm - shift - A.start)] X.1 fun e w' => e = .returned (smV t) ∧ Below X.1.heap.size X.1 w') := Lib.hid (by rw [hse3]; exact DWX.out)
        clear HN2 hse3 HIN HNEAR DW DWX
        have DDI := Lib.hid (fun W => rdist_any t s W (by omega) (by omega))
        unfold smV at DDI DWX'
        go_upto_region 8 with (fail)
        rw [HW1.out, HSS.out]
        go_wp2_with fail
        refine (DI'.out _).mono ?_
        rintro e w1 ⟨rfl, rfl⟩
        obtain ⟨g0, g1, g2⟩ := HGX1.out.cell
        have f1 := HGX1.out.free 1
        obtain ⟨W5, hW5⟩ : ∃ W, X1.1.setCell ⟨G, 1, none⟩ (.int .i64 (m.many + 1)) = W := ⟨_, rfl⟩
        have HGX5 : Hid (MtB W5 G { m with many := m.many + 1 }) := Lib.hid (hW5 ▸ HGX1.out.set1 (m.many + 1))
        have HK5 := Lib.hid (show Kept (fun b => b = G) X1.1 W5 from hW5 ▸ keep_set rfl)
        have HSX5 : Hid (SmB W5 S s) := Lib.hid (HSX1.out.kept HK5.out HSG.out)
        have HW5 := Lib.hid hW5
        clear hW5
        go_upto_region 11 with (fail)
        rw [HW5.out]
        clear g0 g1 g2 f1 s0 s1_ s2_ s3 s4 s5 s6 B2x A2x
        obtain ⟨X5, hX5⟩ : ∃ Z : ExtO (fun b => b = G) V3, W5 = Z.1 := ⟨⟨W5, X1.2.trans HK5.out⟩, rfl⟩
        obtain ⟨g0, g1, g2⟩ := HGX5.out.cell
        try simp only at g0 g1 g2
        obtain ⟨s0, s1_, s2_, s3, s4, s5, s6⟩ := HSX5.out.cell
        have HKX5 := Lib.hid (show Kept (fun b => b = G) V3 W5 from hX5 ▸ X5.2)
        have A0z := ExtO.re HKX5.out A0
        have A1z := ExtO.re HKX5.out A1
        have A2z := ExtO.re HKX5.out A2
        have A3z := ExtO.re HKX5.out A3
        have A4z := ExtO.re HKX5.out A4
        have A5z := ExtO.re HKX5.out A5
        have S0 := ExtO.ex (O := fun b => b = G) HSG.out s0
        have S1 := ExtO.ex (O := fun b => b = G) HSG.out s1_
        have S2 := ExtO.ex (O := fun b => b = G) HSG.out s2_
        have S3 := ExtO.ex (O := fun b => b = G) HSG.out s3
        have S4 := ExtO.ex (O := fun b => b = G) HSG.out s4
        have S5 := ExtO.ex (O := fun b => b = G) HSG.out s5
        have S6 := ExtO.ex (O := fun b => b = G) HSG.out s6
        have hdd := dist2_bounds s t
        have DWZ := Lib.hid (fun (Z : ExtO (fun b => b = G) W5) => DWX'.out ⟨Z.1, HKX5.out.trans Z.2⟩)
        generalize dist2 s t = dd at *
        obtain ⟨hdd1, hdd2⟩ := hdd
        clear g0 g1 g2 s0 s1_ s2_ s3 s4 s5 s6 hX5 A0 A1 A2 A3 A4 A5 DWX'
        refine held_start (C := fun w' => ∃ Z : ExtO (fun b => b = G) W5, w' = Z.1) (by kernel_rfl) ?_
        obtain ⟨Z0, hZ0⟩ : ∃ Z : ExtO (fun b => b = G) W5, ({ W5 with drawn := W5.drawn + 1 } : World) = Z.1 := ⟨⟨{ W5 with drawn := W5.drawn + 1 }, ⟨rfl, rfl, rfl, Nat.le_refl _, fun _ _ _ => rfl⟩⟩, rfl⟩
        have HG0 : Hid (MtB Z0.1 G { m with many := m.many + 1 }) := Lib.hid (hZ0 ▸ HGX5.out.below ⟨rfl, rfl, rfl, Nat.le_refl _, fun _ _ => rfl⟩)
        rw [hZ0]
        clear hZ0
        refine held_quiet (by kernel_rfl) (fun _ _ d _ _ h => by cases d <;> exact h) ⟨Z0, rfl⟩ [0, 2, 3, 5] 6 _ _ (by kernel_rfl) ?_
        change wpQuiet _ _ _ _ (_ :: _ :: _ :: _ :: []) _
        repeat go_big_quiet_step (fail)
        refine wpQuiet_nil ?_
        refine held_two (i := 1) (j := 4) _ _ rfl rfl (by kernel_rfl) rfl rfl (fun K hK => ?_) (fun K hK => ?_)
        · skip
          obtain ⟨g0, g1, g2⟩ := HG0.out.cell
          try simp only at g0 g1 g2
          go_simp
          refine hK _ _ ⟨Z0, rfl⟩ ?_
          clear hK K g0 g1 g2
          try simp only [Act.put, List.setIfInBounds_toArray, List.set_cons_zero, List.set_cons_succ]
          refine held_do (i := 4) _ rfl (by kernel_rfl) rfl (fun K hK => ?_)
          go_simp
          refine (DWZ.out Z0).mono ?_
          rintro e w1 ⟨rfl, hb⟩
          have HG1 : Hid (MtB w1 G { m with many := m.many + 1 }) := Lib.hid (HG0.out.below hb)
          obtain ⟨Z1, rfl⟩ : ∃ Z : ExtO (fun b => b = G) W5, w1 = Z.1 := ⟨⟨w1, Z0.2.trans (Kept.of_below hb)⟩, rfl⟩
          refine hK _ _ ⟨Z1, rfl⟩ ?_
          clear hK K hb
          try simp only [Act.put, List.setIfInBounds_toArray, List.set_cons_zero, List.set_cons_succ]
          refine held_do (i := 6) _ rfl (by kernel_rfl) rfl (fun K hK => ?_)
          go_simp
          refine (DDI.out _).mono ?_
          rintro e w1 ⟨rfl, hb⟩
          have HG2 : Hid (MtB w1 G { m with many := m.many + 1 }) := Lib.hid (HG1.out.below hb)
          obtain ⟨Z2, rfl⟩ : ∃ Z : ExtO (fun b => b = G) W5, w1 = Z.1 := ⟨⟨w1, Z1.2.trans (Kept.of_below hb)⟩, rfl⟩
          refine hK _ _ ⟨Z2, rfl⟩ ?_
          clear hK K hb
          try simp only [Act.put, List.setIfInBounds_toArray, List.set_cons_zero, List.set_cons_succ]
          refine held_quiet (by kernel_rfl) (fun _ _ d _ _ h => by cases d <;> exact h) ⟨Z2, rfl⟩ [7, 8] 1 _ _ (by kernel_rfl) ?_
          change wpQuiet _ _ _ _ (_ :: _ :: []) _
          repeat go_big_quiet_step (fail)
          refine wpQuiet_nil ?_
          refine held_do (i := 9) _ rfl (by kernel_rfl) rfl (fun K hK => ?_)
          obtain ⟨g0, g1, g2⟩ := HG2.out.cell
          have f2 := HG2.out.free 2
          try simp only at g0 g1 g2
          obtain ⟨W6, hW6⟩ : ∃ W, Z2.1.setCell ⟨G, 2, none⟩ (.int .i64 (m.sum + dd)) = W := ⟨_, rfl⟩
          have HGX6 : Hid (MtB W6 G ⟨m.shift, m.many + 1, m.sum + dd⟩) := Lib.hid (hW6 ▸ HG2.out.set2 _)
          have HK6 := Lib.hid (show Kept (fun b => b = G) W5 W6 from Z2.2.trans (hW6 ▸ keep_set rfl))
          go_simp
          refine hK _ _ ⟨⟨W6, HK6.out⟩, rfl⟩ ?_
          clear hK K g0 g1 g2 f2 hW6
          try simp only [Act.put, List.setIfInBounds_toArray, List.set_cons_zero, List.set_cons_succ]
          refine wpAnyH_done (by kernel_rfl) ?_ _
          go_wp2_with fail
          go_roundw
          case rel => exact ⟨k + 1, _, by go_num, by omega, Lib.hid HN3.out.symm, ⟨W6, HKX5.out.trans HK6.out⟩, rfl, HGX6⟩
          case measure => simp [intOf]; omega
        · skip
          go_simp
          refine (DWZ.out Z0).mono ?_
          rintro e w1 ⟨rfl, hb⟩
          have HG1 : Hid (MtB w1 G { m with many := m.many + 1 }) := Lib.hid (HG0.out.below hb)
          obtain ⟨Z1, rfl⟩ : ∃ Z : ExtO (fun b => b = G) W5, w1 = Z.1 := ⟨⟨w1, Z0.2.trans (Kept.of_below hb)⟩, rfl⟩
          refine hK _ _ ⟨Z1, rfl⟩ ?_
          clear hK K hb
          try simp only [Act.put, List.setIfInBounds_toArray, List.set_cons_zero, List.set_cons_succ]
          refine held_two (i := 1) (j := 6) _ _ rfl rfl (by kernel_rfl) rfl rfl (fun K hK => ?_) (fun K hK => ?_)
          · skip
            obtain ⟨g0, g1, g2⟩ := HG1.out.cell
            try simp only at g0 g1 g2
            go_simp
            refine hK _ _ ⟨Z1, rfl⟩ ?_
            clear hK K g0 g1 g2
            try simp only [Act.put, List.setIfInBounds_toArray, List.set_cons_zero, List.set_cons_succ]
            refine held_do (i := 6) _ rfl (by kernel_rfl) rfl (fun K hK => ?_)
            go_simp
            refine (DDI.out _).mono ?_
            rintro e w1 ⟨rfl, hb⟩
            have HG2 : Hid (MtB w1 G { m with many := m.many + 1 }) := Lib.hid (HG1.out.below hb)
            obtain ⟨Z2, rfl⟩ : ∃ Z : ExtO (fun b => b = G) W5, w1 = Z.1 := ⟨⟨w1, Z1.2.trans (Kept.of_below hb)⟩, rfl⟩
            refine hK _ _ ⟨Z2, rfl⟩ ?_
            clear hK K hb
            try simp only [Act.put, List.setIfInBounds_toArray, List.set_cons_zero, List.set_cons_succ]
            refine held_quiet (by kernel_rfl) (fun _ _ d _ _ h => by cases d <;> exact h) ⟨Z2, rfl⟩ [7, 8] 1 _ _ (by kernel_rfl) ?_
            change wpQuiet _ _ _ _ (_ :: _ :: []) _
            repeat go_big_quiet_step (fail)
            refine wpQuiet_nil ?_
            refine held_do (i := 9) _ rfl (by kernel_rfl) rfl (fun K hK => ?_)
            obtain ⟨g0, g1, g2⟩ := HG2.out.cell
            have f2 := HG2.out.free 2
            try simp only at g0 g1 g2
            obtain ⟨W6, hW6⟩ : ∃ W, Z2.1.setCell ⟨G, 2, none⟩ (.int .i64 (m.sum + dd)) = W := ⟨_, rfl⟩
            have HGX6 : Hid (MtB W6 G ⟨m.shift, m.many + 1, m.sum + dd⟩) := Lib.hid (hW6 ▸ HG2.out.set2 _)
            have HK6 := Lib.hid (show Kept (fun b => b = G) W5 W6 from Z2.2.trans (hW6 ▸ keep_set rfl))
            go_simp
            refine hK _ _ ⟨⟨W6, HK6.out⟩, rfl⟩ ?_
            clear hK K g0 g1 g2 f2 hW6
            try simp only [Act.put, List.setIfInBounds_toArray, List.set_cons_zero, List.set_cons_succ]
            refine wpAnyH_done (by kernel_rfl) ?_ _
            go_wp2_with fail
            go_roundw
            case rel => exact ⟨k + 1, _, by go_num, by omega, Lib.hid HN3.out.symm, ⟨W6, HKX5.out.trans HK6.out⟩, rfl, HGX6⟩
            case measure => simp [intOf]; omega
          · skip
            go_simp
            refine (DDI.out _).mono ?_
            rintro e w1 ⟨rfl, hb⟩
            have HG2 : Hid (MtB w1 G { m with many := m.many + 1 }) := Lib.hid (HG1.out.below hb)
            obtain ⟨Z2, rfl⟩ : ∃ Z : ExtO (fun b => b = G) W5, w1 = Z.1 := ⟨⟨w1, Z1.2.trans (Kept.of_below hb)⟩, rfl⟩
            refine hK _ _ ⟨Z2, rfl⟩ ?_
            clear hK K hb
            try simp only [Act.put, List.setIfInBounds_toArray, List.set_cons_zero, List.set_cons_succ]
            refine held_do (i := 1) _ rfl (by kernel_rfl) rfl (fun K hK => ?_)
            obtain ⟨g0, g1, g2⟩ := HG2.out.cell
            try simp only at g0 g1 g2
            go_simp
            refine hK _ _ ⟨Z2, rfl⟩ ?_
            clear hK K g0 g1 g2
            try simp only [Act.put, List.setIfInBounds_toArray, List.set_cons_zero, List.set_cons_succ]
            refine held_quiet (by kernel_rfl) (fun _ _ d _ _ h => by cases d <;> exact h) ⟨Z2, rfl⟩ [7, 8] 1 _ _ (by kernel_rfl) ?_
            change wpQuiet _ _ _ _ (_ :: _ :: []) _
            repeat go_big_quiet_step (fail)
            refine wpQuiet_nil ?_
            refine held_do (i := 9) _ rfl (by kernel_rfl) rfl (fun K hK => ?_)
            obtain ⟨g0, g1, g2⟩ := HG2.out.cell
            have f2 := HG2.out.free 2
            try simp only at g0 g1 g2
            obtain ⟨W6, hW6⟩ : ∃ W, Z2.1.setCell ⟨G, 2, none⟩ (.int .i64 (m.sum + dd)) = W := ⟨_, rfl⟩
            have HGX6 : Hid (MtB W6 G ⟨m.shift, m.many + 1, m.sum + dd⟩) := Lib.hid (hW6 ▸ HG2.out.set2 _)
            have HK6 := Lib.hid (show Kept (fun b => b = G) W5 W6 from Z2.2.trans (hW6 ▸ keep_set rfl))
            go_simp
            refine hK _ _ ⟨⟨W6, HK6.out⟩, rfl⟩ ?_
            clear hK K g0 g1 g2 f2 hW6
            try simp only [Act.put, List.setIfInBounds_toArray, List.set_cons_zero, List.set_cons_succ]
            refine wpAnyH_done (by kernel_rfl) ?_ _
            go_wp2_with fail
            go_roundw
            case rel => exact ⟨k + 1, _, by go_num, by omega, Lib.hid HN3.out.symm, ⟨W6, HKX5.out.trans HK6.out⟩, rfl, HGX6⟩
            case measure => simp [intOf]; omega
    · have t2 : decide ((k : Int) < (nb : Int)) = false := by rw [decide_eq_false_iff_not]; omega
      have t2' : decide (k < nb) = false := by simpa using hlt
      have hkn : k = nb := by omega
      have HV := Lib.hid (show shiftedF A B shift = m by rw [HFIN.out, HM.out, hkn])
      clear hkn HM hlt hk HAT
      have HRX : Hid (MtB X.1 (w.heap.size + 2) ⟨0, 0, 0⟩) := Lib.hid (HR.out.kept X.2 (fun e => by have := HG1.out; omega))
      obtain ⟨g0, g1, g2⟩ := HGX.out.cell
      obtain ⟨r0, r1, r2⟩ := HRX.out.cell
      have f0 := HRX.out.free 0
      have f1 := HRX.out.free 1
      have f2 := HRX.out.free 2
      obtain ⟨WE, hWE, hWB, hWK⟩ := HRX.out.store m
      have HWE := Lib.hid hWE
      have HWB := Lib.hid (And.intro hWB (show Below w.heap.size w WE from Kept.below (HBW.out X) (hWK (fun b => b = w.heap.size + 2) rfl) (HBW.out X).size (fun k hk e => by omega)))
      try simp only at g0 g1 g2 r0 r1 r2
      clear hWE hWB hWK
      go_wp2_with fail
      try simp only at HWE
      rw [HWE.out]
      exact bodyPost_ret (v := _) (results_cell_row Try.results54 _ _ (w.heap.size + 2) _ _ _ _ rfl HWB.out.1 Try.underlying37 rfl HI.out) rfl ⟨by rw [HV.out]; rfl, HWB.out.2⟩
end Go.Proofs.Ytckjdpnmalkpnaa

/- fit of both; cmp.Or at error numbers; bounds. (printed by wip/t/gen_tfm.py) -/
namespace Go.Proofs.Ytckjdpnmalkpnaa
open Go.RowKit Go.BigFrame
open Tr (inR)
open Ft (Mt)
set_option maxHeartbeats 1000000 in
theorem orE_any (l : List Int) (g c : Nat) (w : World) (hl : l.length ≤ 1000) (hc : ∀ i v, l[i]? = some v → w.cell? ⟨g, i, none⟩ = some (.int .i64 v)) :
    Calls Try.prog 23 #[.slice (some ⟨g, 0, none⟩) l.length c] w fun e w' => e = .returned (.int .i64 (orL l)) ∧ w = w' := by
  obtain ⟨n, hn⟩ : ∃ n, l.length = n := ⟨_, rfl⟩
  have HN := Lib.hid hn
  have HC := Lib.hid hc
  rw [hn] at hl ⊢
  clear hn hc
  go_enter Try.func23, Try.ntmps23
  go_wp2_with fail
  go_loop [8] (fun iv => ∃ (k : Nat), iv = .int .i64 k ∧ k ≤ n ∧ Hid (orL l = orL (l.drop k))) (fun iv => n - (intOf iv).toNat)
  case atStart => exact ⟨0, rfl, by omega, Lib.hid rfl⟩
  case round =>
    obtain ⟨k, rfl, hk, HE⟩ := hrel
    by_cases hlt : k < n
    · have t1 : decide ((k : Int) < (n : Int)) = true := by rw [decide_eq_true_eq]; omega
      have t1' : decide (k < n) = true := by simpa using hlt
      obtain ⟨x, hx⟩ : ∃ x, l[k]? = some x := ⟨_, List.getElem?_eq_getElem (by rw [HN.out]; exact hlt)⟩
      have hcx := HC.out k x hx
      obtain ⟨h1, h2⟩ := orL_drop hx HE.out
      clear hx HE
      by_cases h0 : x = 0
      · subst h0
        have HE := Lib.hid (h2 rfl)
        clear h1 h2
        go_wp2_with fail
        go_round
        case rel => exact ⟨k + 1, by go_num, by omega, HE⟩
        case measure => simp [intOf]; omega
      · have HE := Lib.hid (h1 h0)
        have hb : (x != 0) = true := by rw [bne_iff_ne]; exact h0
        clear h1 h2 h0
        go_wp2_with fail
        go_ret
        exact ⟨by rw [HE.out]; rfl, rfl⟩
    · have t1 : decide ((k : Int) < (n : Int)) = false := by rw [decide_eq_false_iff_not]; omega
      have t1' : decide (k < n) = false := by simpa using hlt
      have HF := Lib.hid (show orL l = 0 by rw [HE.out, List.drop_eq_nil_of_le (by rw [HN.out]; omega)]; rfl)
      clear hlt HE
      go_wp2_with fail
      go_ret
      exact ⟨by rw [HF.out]; rfl, rfl⟩
def bndE (most least : Int) : Int := if inR most 0 3600 = true ∧ inR least 1 400 = true then 0 else 9
set_option maxHeartbeats 1000000 in
theorem checkFit_any (most least : Int) (w : World) : Calls Try.prog 25 #[.int .i64 most, .int .i64 least] w fun e w' => e = .returned (.int .i64 (bndE most least)) ∧ Below w.heap.size w w' := by
  have D1 := Lib.hid (fun W => tranged_any most 0 3600 W)
  have D2 := Lib.hid (fun W => tranged_any least 1 400 W)
  have HV := Lib.hid (show bndE most least = orL [rngE most 0 3600, rngE least 1 400] by
    unfold bndE rngE
    cases inR most 0 3600 <;> cases inR least 1 400 <;> rfl)
  generalize rngE most 0 3600 = r1 at *
  generalize rngE least 1 400 = r2 at *
  go_enter Try.func25, Try.ntmps25
  go_wp2_with fail
  refine (D1.out _).mono ?_
  rintro e w1 ⟨rfl, rfl⟩
  go_wp2_with fail
  refine (D2.out _).mono ?_
  rintro e w1 ⟨rfl, rfl⟩
  go_wp2_with fail
  refine (orE_any [r1, r2] _ _ _ (by simp) ?_).mono ?_
  · intro i v h
    rw [World.cell?_alloc_at _ _ _ _ rfl]
    match i, h with
    | 0, h => injection h with h; subst h; rfl
    | 1, h => injection h with h; subst h; rfl
    | n + 2, h => simp at h
  rintro e w1 ⟨rfl, rfl⟩
  go_wp2_with fail
  go_ret
  exact ⟨ret_int HV.out.symm, below_al _ _⟩
theorem rcheckBounds_any (most least : Int) (w : World) : Calls Try.prog 28 #[.int .i64 most, .int .i64 least] w fun e w' => e = .returned (.int .i64 (bndE most least)) ∧ w = w' := by
  have D1 := Lib.hid (fun W => rout_any most 0 3600 W)
  have D2 := Lib.hid (fun W => rout_any least 1 400 W)
  have HV : Hid (bndE most least = if inR most 0 3600 = true ∧ inR least 1 400 = true then 0 else 9) := Lib.hid rfl
  generalize bndE most least = v at *
  generalize inR most 0 3600 = b1 at *
  generalize inR least 1 400 = b2 at *
  cases b1
  · have HF := Lib.hid (show v = 9 by rw [HV.out]; simp)
    clear D2 HV
    go_enter Try.func28, Try.ntmps28
    go_wp2_with fail
    refine (D1.out _).mono ?_
    rintro e w1 ⟨rfl, rfl⟩
    go_wp2_with fail
    go_ret
    exact ⟨ret_int HF.out.symm, rfl⟩
  · have HF := Lib.hid (show v = if b2 = true then 0 else 9 by rw [HV.out]; cases b2 <;> rfl)
    clear HV
    cases b2
    all_goals
      go_enter Try.func28, Try.ntmps28
      go_wp2_with fail
      refine (D1.out _).mono ?_
      rintro e w1 ⟨rfl, rfl⟩
      go_wp2_with fail
      refine (D2.out _).mono ?_
      rintro e w1 ⟨rfl, rfl⟩
      go_wp2_with fail
      go_ret
      exact ⟨ret_int HF.out.symm, rfl⟩
def mt0 : Mt := ⟨0, 0, 0⟩
theorem fitF_go {D : Int → Mt} {least most s : Int} {E bo : Option Mt} (hs : s ≤ most) (h : E = Ft.fitF D least (most + 1 - s).toNat s bo) : E = Ft.fitF D least (most + 1 - (s + 1)).toNat (s + 1) (Ft.take least bo (D s)) := by
  obtain ⟨n, hn⟩ : ∃ n, (most + 1 - s).toNat = n + 1 := ⟨(most + 1 - s).toNat - 1, by omega⟩
  rw [hn, Ft.fitF] at h
  rw [show (most + 1 - (s + 1)).toNat = n by omega]
  exact h
theorem fitF_end {D : Int → Mt} {least most s : Int} {E bo : Option Mt} (hs : ¬ s ≤ most) (h : E = Ft.fitF D least (most + 1 - s).toNat s bo) : E = bo := by
  rw [show (most + 1 - s).toNat = 0 by omega, Ft.fitF] at h
  exact h
theorem fitF_start (D : Int → Mt) (most least : Int) : Ft.fitM D most least = Ft.fitF D least (most + 1 - (-most)).toNat (-most) none := by
  unfold Ft.fitM
  congr 2
  omega
theorem take_less {least : Int} {bo : Option Mt} {m : Mt} (h : ¬ least ≤ m.many) : Ft.take least bo m = bo := by
  unfold Ft.take
  rw [if_pos (by omega)]
theorem take_none {least : Int} {m : Mt} (h : least ≤ m.many) : Ft.take least none m = some m := by
  unfold Ft.take
  rw [if_neg (by omega)]
theorem take_some {least : Int} {m b : Mt} (h : least ≤ m.many) : Ft.take least (some b) m = if Ft.better m b = true then some m else some b := by
  unfold Ft.take
  rw [if_neg (by omega)]
set_option maxHeartbeats 16000000 in
set_option maxRecDepth 100000 in
theorem fit_any (A B : Acv) (a b c a' b' c' : Option Addr) (ca cb cc ca' cb' cc' : Nat) (most least : Int) (w : World) (hA : Rw smC 7 w a A.sm) (hB : Rw smC 7 w a' B.sm) (oA : FitOk A) (oB : FitOk B) (h1 : 0 ≤ most) (h2 : most ≤ 3600) (_h3 : 1 ≤ least) (_h4 : least ≤ 400) :
    Calls Try.prog 26 #[actV A a b c ca cb cc, actV B a' b' c' ca' cb' cc', .int .i64 most, .int .i64 least] w fun e w' => e = .returned (.tuple #[mtV ((Ft.fitM (shiftedF A B) most least).getD mt0), .bool (Ft.fitM (shiftedF A B) most least).isSome]) ∧ Below w.heap.size w w' := by
  have HI := mtSize
  have DSH := fun (s : Int) (W : World) (hb : Below w.heap.size w W) (h1 : -3600 ≤ s) (h2 : s ≤ 3600) => shifted_any A B a b c a' b' c' ca cb cc ca' cb' cc' s W (hA.below hb) (hB.below hb) oA oB h1 h2
  have HMT := Lib.hid (fun (s : Int) (h1 : -3600 ≤ s) (h2 : s ≤ 3600) => (shiftedF_at A B s).ok oB.n h1 h2)
  have HST := Lib.hid (fitF_start (shiftedF A B) most least)
  generalize Ft.fitM (shiftedF A B) most least = E at *
  unfold actV at *
  generalize shiftedF A B = D at *
  generalize A.sm.length = na at *
  generalize A.lp.length = m2 at *
  generalize A.tg.length = m3 at *
  generalize B.sm.length = nb at *
  generalize B.lp.length = m2' at *
  generalize B.tg.length = m3' at *
  obtain ⟨V0, hV0, hb0, hs0, hl0⟩ := alloc_cells w #[.string A.name, .int .i64 A.sport, .int .i64 A.start, .slice a na ca, .slice b m2 cb, .slice c m3 cc] 35
  obtain ⟨V1, hV1, hb1, hs1, hl1⟩ := alloc_cells V0 #[.string B.name, .int .i64 B.sport, .int .i64 B.start, .slice a' nb ca', .slice b' m2' cb', .slice c' m3' cc'] 35
  obtain ⟨V2, hV2, hb2, hs2, hl2⟩ := alloc_mt V1 mt0
  rw [hs0] at hl1
  rw [hs1, hs0] at hl2
  unfold mt0 at hV2
  obtain ⟨G, hG⟩ : ∃ G, w.heap.size + 2 = G := ⟨_, rfl⟩
  rw [show w.heap.size + 1 + 1 = G by omega] at hl2
  have hg1 : w.heap.size + 2 = G := hG
  have HB := Lib.hid (below_step (below_step hb0 hb1) hb2)
  have HGX0 : Hid (MtB V2 G mt0) := Lib.hid hl2
  have A0 := ExtO.ex (O := fun b => b = G) (show ¬ w.heap.size = G by omega) (below_cell hb2 (below_cell hb1 (hl0 0 _ rfl)))
  have A1 := ExtO.ex (O := fun b => b = G) (show ¬ w.heap.size = G by omega) (below_cell hb2 (below_cell hb1 (hl0 1 _ rfl)))
  have A2 := ExtO.ex (O := fun b => b = G) (show ¬ w.heap.size = G by omega) (below_cell hb2 (below_cell hb1 (hl0 2 _ rfl)))
  have A3 := ExtO.ex (O := fun b => b = G) (show ¬ w.heap.size = G by omega) (below_cell hb2 (below_cell hb1 (hl0 3 _ rfl)))
  have A4 := ExtO.ex (O := fun b => b = G) (show ¬ w.heap.size = G by omega) (below_cell hb2 (below_cell hb1 (hl0 4 _ rfl)))
  have A5 := ExtO.ex (O := fun b => b = G) (show ¬ w.heap.size = G by omega) (below_cell hb2 (below_cell hb1 (hl0 5 _ rfl)))
  have B0 := ExtO.ex (O := fun b => b = G) (show ¬ w.heap.size + 1 = G by omega) (below_cell hb2 (hl1 0 _ rfl))
  have B1 := ExtO.ex (O := fun b => b = G) (show ¬ w.heap.size + 1 = G by omega) (below_cell hb2 (hl1 1 _ rfl))
  have B2 := ExtO.ex (O := fun b => b = G) (show ¬ w.heap.size + 1 = G by omega) (below_cell hb2 (hl1 2 _ rfl))
  have B3 := ExtO.ex (O := fun b => b = G) (show ¬ w.heap.size + 1 = G by omega) (below_cell hb2 (hl1 3 _ rfl))
  have B4 := ExtO.ex (O := fun b => b = G) (show ¬ w.heap.size + 1 = G by omega) (below_cell hb2 (hl1 4 _ rfl))
  have B5 := ExtO.ex (O := fun b => b = G) (show ¬ w.heap.size + 1 = G by omega) (below_cell hb2 (hl1 5 _ rfl))
  have HG1 := Lib.hid hg1
  have HBW := Lib.hid (fun (X : ExtO (fun b => b = G) V2) => show Below w.heap.size w X.1 from Kept.below HB.out X.2 HB.out.size (fun k hk e => by have := HG1.out; omega))
  have DSH := Lib.hid (fun (s : Int) (X : ExtO (fun b => b = G) V2) => DSH s X.1 (HBW.out X))
  have HV0 := Lib.hid hV0
  have HV1 := Lib.hid hV1
  have HV2 := Lib.hid hV2
  clear hG
  clear hV0 hb0 hs0 hl0 hV1 hb1 hs1 hl1 hV2 hb2 hs2 hl2 hg1 hA hB oA oB
  simp only at HV2
  unfold mtV at DSH
  go_enter Try.func26, Try.ntmps26
  go_upto_region 1 with (fail)
  rw [HV0.out, HV1.out, HV2.out]
  rw [show w.heap.size + 1 + 1 = G from HG1.out]
  go_wp2_with fail
  go_loopw [9, 10] (fun okv sv wr => ∃ (bo : Option Mt) (s : Int), okv = .bool bo.isSome ∧ sv = .int .i64 s ∧ -most ≤ s ∧ s ≤ most + 1 ∧ Hid (E = Ft.fitF D least (most + 1 - s).toNat s bo) ∧ Hid (∀ b, bo = some b → MtOk b) ∧ ∃ X : ExtO (fun b => b = G) V2, wr = X.1 ∧ Hid (MtB X.1 G (bo.getD mt0))) (fun _ sv _ => (most + 1 - intOf sv).toNat)
  case atStart => exact ⟨none, -most, rfl, rfl, by omega, by omega, HST, Lib.hid (fun b h => by cases h), ⟨V2, Kept.refl _ _⟩, rfl, HGX0⟩
  case round =>
    clear HST HGX0
    obtain ⟨bo, s, rfl, rfl, hs1, hs2, HE, HBO, X, rfl, HGX⟩ := hrel
    by_cases hle : s ≤ most
    · have t1 : decide (s ≤ most) = true := decide_eq_true hle
      have hm := HMT.out s (by omega) (by omega)
      have HE2 := Lib.hid (fitF_go hle HE.out)
      have DX := Lib.hid (DSH.out s X (by omega) (by omega))
      have HM := Lib.hid hm
      have hm2 := hm.m2
      have hm1 := hm.m1
      clear HE hm
      generalize D s = m at *
      have A0x := A0 X
      have A1x := A1 X
      have A2x := A2 X
      have A3x := A3 X
      have A4x := A4 X
      have A5x := A5 X
      have B0x := B0 X
      have B1x := B1 X
      have B2x := B2 X
      have B3x := B3 X
      have B4x := B4 X
      have B5x := B5 X
      by_cases hml : least ≤ m.many
      case neg =>
        have d1 : decide (least ≤ m.many) = false := decide_eq_false hml
        have HE3 : Hid (E = Ft.fitF D least (most + 1 - (s + 1)).toNat (s + 1) bo) := Lib.hid (by rw [HE2.out, take_less hml])
        clear hml HE2
        go_wp2_with fail
        refine DX.out.mono ?_
        rintro e w1 ⟨rfl, hb⟩
        have HGX1 : Hid (MtB w1 G (bo.getD mt0)) := Lib.hid (HGX.out.below hb)
        obtain ⟨X1, rfl⟩ : ∃ X : ExtO (fun b => b = G) V2, w1 = X.1 := ⟨⟨w1, X.2.trans (Kept.of_below hb)⟩, rfl⟩
        clear hb A0x A1x A2x A3x A4x A5x B0x B1x B2x B3x B4x B5x HGX
        obtain ⟨W2, hW2, hwb2, hws2, hwl2⟩ := alloc_mt X1.1 m
        obtain ⟨T, hT⟩ : ∃ T, X1.1.heap.size = T := ⟨_, rfl⟩
        rw [hT] at hwl2
        have HTG := Lib.hid (show ¬ T = G from by have := HGX1.out.lt; omega)
        have HGX2 : Hid (MtB W2 G (bo.getD mt0)) := Lib.hid (HGX1.out.below hwb2)
        have HTX2 : Hid (MtB W2 T m) := Lib.hid hwl2
        have HW2 := Lib.hid hW2
        have HTT := Lib.hid hT
        obtain ⟨X2, hX2⟩ : ∃ Z : ExtO (fun b => b = G) V2, W2 = Z.1 := ⟨⟨W2, X1.2.trans (Kept.of_below hwb2)⟩, rfl⟩
        clear hW2 hwb2 hws2 hwl2 hT
        go_upto_region 5 with (fail)
        rw [HW2.out, HTT.out, hX2]
        rw [hX2] at HGX2 HTX2
        clear hX2
        obtain ⟨t0, t1', t2⟩ := HTX2.out.cell
        obtain ⟨g0, g1, g2⟩ := HGX2.out.cell
        try simp only [Option.getD_none, Option.getD_some] at g0 g1 g2
        go_wp2_with fail
        go_roundw
        case rel => exact ⟨bo, s + 1, rfl, rfl, by omega, by omega, HE3, HBO, X2, rfl, HGX2⟩
        case measure => simp [intOf]; omega
      have d1 : decide (least ≤ m.many) = true := decide_eq_true hml
      cases bo
      case none =>
        have HE3 : Hid (E = Ft.fitF D least (most + 1 - (s + 1)).toNat (s + 1) (some m)) := Lib.hid (by rw [HE2.out, take_none hml])
        clear hml HE2
        go_wp2_with fail
        refine DX.out.mono ?_
        rintro e w1 ⟨rfl, hb⟩
        have HGX1 : Hid (MtB w1 G (Option.getD none mt0)) := Lib.hid (HGX.out.below hb)
        obtain ⟨X1, rfl⟩ : ∃ X : ExtO (fun b => b = G) V2, w1 = X.1 := ⟨⟨w1, X.2.trans (Kept.of_below hb)⟩, rfl⟩
        clear hb A0x A1x A2x A3x A4x A5x B0x B1x B2x B3x B4x B5x HGX
        obtain ⟨W2, hW2, hwb2, hws2, hwl2⟩ := alloc_mt X1.1 m
        obtain ⟨T, hT⟩ : ∃ T, X1.1.heap.size = T := ⟨_, rfl⟩
        rw [hT] at hwl2
        have HTG := Lib.hid (show ¬ T = G from by have := HGX1.out.lt; omega)
        have HGX2 : Hid (MtB W2 G (Option.getD none mt0)) := Lib.hid (HGX1.out.below hwb2)
        have HTX2 : Hid (MtB W2 T m) := Lib.hid hwl2
        have HW2 := Lib.hid hW2
        have HTT := Lib.hid hT
        obtain ⟨X2, hX2⟩ : ∃ Z : ExtO (fun b => b = G) V2, W2 = Z.1 := ⟨⟨W2, X1.2.trans (Kept.of_below hwb2)⟩, rfl⟩
        clear hW2 hwb2 hws2 hwl2 hT
        go_upto_region 5 with (fail)
        rw [HW2.out, HTT.out, hX2]
        rw [hX2] at HGX2 HTX2
        clear hX2
        obtain ⟨t0, t1', t2⟩ := HTX2.out.cell
        obtain ⟨g0, g1, g2⟩ := HGX2.out.cell
        try simp only [Option.getD_none] at g0 g1 g2
        go_upto_region 6 with (fail)
        clear t0 t1' t2 g0 g1 g2
        obtain ⟨t0, t1', t2⟩ := HTX2.out.cell
        obtain ⟨g0, g1, g2⟩ := HGX2.out.cell
        have f0 := HGX2.out.free 0
        have f1 := HGX2.out.free 1
        have f2 := HGX2.out.free 2
        obtain ⟨WE, hWE, hWB, hWK⟩ := HGX2.out.store m
        have HWE := Lib.hid hWE
        have HWB : Hid (MtB WE G ((some m).getD mt0)) := Lib.hid hWB
        have HWK := Lib.hid (X2.2.trans (hWK (fun b => b = G) rfl))
        have HMO : Hid (∀ b, some m = some b → MtOk b) := Lib.hid (fun b h => by injection h with h; subst h; exact HM.out)
        clear hWE hWB hWK
        try simp only [Option.getD_none] at g0 g1 g2
        go_wp2_with fail
        rw [HWE.out]
        go_roundw
        case rel => exact ⟨some m, s + 1, rfl, rfl, by omega, by omega, HE3, HMO, ⟨WE, HWK.out⟩, rfl, HWB⟩
        case measure => simp [intOf]; omega
      case some bb =>
        have DB := Lib.hid (fun W => better_any m bb W HM.out (HBO.out bb rfl))
        have HE2 := Lib.hid (HE2.out.trans (by rw [take_some hml]))
        generalize Ft.better m bb = bt at *
        unfold mtV at DB
        clear hml
        cases bt
        · have HE3 : Hid (E = Ft.fitF D least (most + 1 - (s + 1)).toNat (s + 1) (some bb)) := Lib.hid HE2.out
          clear HE2
          go_wp2_with fail
          refine DX.out.mono ?_
          rintro e w1 ⟨rfl, hb⟩
          have HGX1 : Hid (MtB w1 G ((some bb).getD mt0)) := Lib.hid (HGX.out.below hb)
          obtain ⟨X1, rfl⟩ : ∃ X : ExtO (fun b => b = G) V2, w1 = X.1 := ⟨⟨w1, X.2.trans (Kept.of_below hb)⟩, rfl⟩
          clear hb A0x A1x A2x A3x A4x A5x B0x B1x B2x B3x B4x B5x HGX
          obtain ⟨W2, hW2, hwb2, hws2, hwl2⟩ := alloc_mt X1.1 m
          obtain ⟨T, hT⟩ : ∃ T, X1.1.heap.size = T := ⟨_, rfl⟩
          rw [hT] at hwl2
          have HTG := Lib.hid (show ¬ T = G from by have := HGX1.out.lt; omega)
          have HGX2 : Hid (MtB W2 G ((some bb).getD mt0)) := Lib.hid (HGX1.out.below hwb2)
          have HTX2 : Hid (MtB W2 T m) := Lib.hid hwl2
          have HW2 := Lib.hid hW2
          have HTT := Lib.hid hT
          obtain ⟨X2, hX2⟩ : ∃ Z : ExtO (fun b => b = G) V2, W2 = Z.1 := ⟨⟨W2, X1.2.trans (Kept.of_below hwb2)⟩, rfl⟩
          clear hW2 hwb2 hws2 hwl2 hT
          go_upto_region 5 with (fail)
          rw [HW2.out, HTT.out, hX2]
          rw [hX2] at HGX2 HTX2
          clear hX2
          obtain ⟨t0, t1', t2⟩ := HTX2.out.cell
          obtain ⟨g0, g1, g2⟩ := HGX2.out.cell
          try simp only [Option.getD_some] at g0 g1 g2
          go_wp2_with fail
          refine (DB.out _).mono ?_
          rintro e w3 ⟨rfl, hb⟩
          have HGX3 : Hid (MtB w3 G ((some bb).getD mt0)) := Lib.hid (HGX2.out.below hb)
          obtain ⟨X3, rfl⟩ : ∃ X : ExtO (fun b => b = G) V2, w3 = X.1 := ⟨⟨w3, X2.2.trans (Kept.of_below hb)⟩, rfl⟩
          clear hb t0 t1' t2 g0 g1 g2
          go_wp2_with fail
          go_roundw
          case rel => exact ⟨some bb, s + 1, rfl, rfl, by omega, by omega, HE3, HBO, X3, rfl, HGX3⟩
          case measure => simp [intOf]; omega
        · have HE3 : Hid (E = Ft.fitF D least (most + 1 - (s + 1)).toNat (s + 1) (some m)) := Lib.hid HE2.out
          clear HE2
          go_wp2_with fail
          refine DX.out.mono ?_
          rintro e w1 ⟨rfl, hb⟩
          have HGX1 : Hid (MtB w1 G ((some bb).getD mt0)) := Lib.hid (HGX.out.below hb)
          obtain ⟨X1, rfl⟩ : ∃ X : ExtO (fun b => b = G) V2, w1 = X.1 := ⟨⟨w1, X.2.trans (Kept.of_below hb)⟩, rfl⟩
          clear hb A0x A1x A2x A3x A4x A5x B0x B1x B2x B3x B4x B5x HGX
          obtain ⟨W2, hW2, hwb2, hws2, hwl2⟩ := alloc_mt X1.1 m
          obtain ⟨T, hT⟩ : ∃ T, X1.1.heap.size = T := ⟨_, rfl⟩
          rw [hT] at hwl2
          have HTG := Lib.hid (show ¬ T = G from by have := HGX1.out.lt; omega)
          have HGX2 : Hid (MtB W2 G ((some bb).getD mt0)) := Lib.hid (HGX1.out.below hwb2)
          have HTX2 : Hid (MtB W2 T m) := Lib.hid hwl2
          have HW2 := Lib.hid hW2
          have HTT := Lib.hid hT
          obtain ⟨X2, hX2⟩ : ∃ Z : ExtO (fun b => b = G) V2, W2 = Z.1 := ⟨⟨W2, X1.2.trans (Kept.of_below hwb2)⟩, rfl⟩
          clear hW2 hwb2 hws2 hwl2 hT
          go_upto_region 5 with (fail)
          rw [HW2.out, HTT.out, hX2]
          rw [hX2] at HGX2 HTX2
          clear hX2
          obtain ⟨t0, t1', t2⟩ := HTX2.out.cell
          obtain ⟨g0, g1, g2⟩ := HGX2.out.cell
          try simp only [Option.getD_some] at g0 g1 g2
          go_wp2_with fail
          refine (DB.out _).mono ?_
          rintro e w3 ⟨rfl, hb⟩
          have HGX3 : Hid (MtB w3 G ((some bb).getD mt0)) := Lib.hid (HGX2.out.below hb)
          have HTX3 : Hid (MtB w3 T m) := Lib.hid (HTX2.out.below hb)
          obtain ⟨X3, rfl⟩ : ∃ X : ExtO (fun b => b = G) V2, w3 = X.1 := ⟨⟨w3, X2.2.trans (Kept.of_below hb)⟩, rfl⟩
          clear hb t0 t1' t2 g0 g1 g2
          go_upto_region 6 with (fail)
          obtain ⟨t0, t1', t2⟩ := HTX3.out.cell
          obtain ⟨g0, g1, g2⟩ := HGX3.out.cell
          have f0 := HGX3.out.free 0
          have f1 := HGX3.out.free 1
          have f2 := HGX3.out.free 2
          obtain ⟨WE, hWE, hWB, hWK⟩ := HGX3.out.store m
          have HWE := Lib.hid hWE
          have HWB : Hid (MtB WE G ((some m).getD mt0)) := Lib.hid hWB
          have HWK := Lib.hid (X3.2.trans (hWK (fun b => b = G) rfl))
          have HMO : Hid (∀ b, some m = some b → MtOk b) := Lib.hid (fun b h => by injection h with h; subst h; exact HM.out)
          clear hWE hWB hWK
          try simp only [Option.getD_some] at g0 g1 g2
          go_wp2_with fail
          rw [HWE.out]
          go_roundw
          case rel => exact ⟨some m, s + 1, rfl, rfl, by omega, by omega, HE3, HMO, ⟨WE, HWK.out⟩, rfl, HWB⟩
          case measure => simp [intOf]; omega
    · have t1 : decide (s ≤ most) = false := decide_eq_false hle
      have HF := Lib.hid (fitF_end hle HE.out)
      obtain ⟨m, hm⟩ : ∃ m, bo.getD mt0 = m := ⟨_, rfl⟩
      have HFM := Lib.hid (show E.getD mt0 = m by rw [HF.out, hm])
      rw [hm] at HGX
      obtain ⟨g0, g1, g2⟩ := HGX.out.cell
      clear HE hle hm
      have f0 := HGX.out.free 0
      have f1 := HGX.out.free 1
      have f2 := HGX.out.free 2
      obtain ⟨WE, hWE, hWB, hWK⟩ := HGX.out.store m
      have HWL := Lib.hid (show Below w.heap.size w WE from Kept.below (HBW.out X) (hWK (fun b => b = G) rfl) (HBW.out X).size (fun k hk e => by have := HG1.out; omega))
      have HWE := Lib.hid hWE
      obtain ⟨q0, q1, q2⟩ := hWB.cell
      clear hWE hWB hWK
      go_wp2_with fail
      rw [HWE.out]
      exact bodyPost_ret (v := .tuple #[.agg #[.int .i64 m.shift, .int .i64 m.many, .int .i64 m.sum], .bool bo.isSome]) (by simp [results, Try.results26, go_sem, q0, q1, q2]) rfl ⟨by rw [HFM.out, HF.out]; rfl, HWL.out⟩
set_option maxHeartbeats 16000000 in
set_option maxRecDepth 100000 in
theorem rfit_any (A B : Acv) (a b c a' b' c' : Option Addr) (ca cb cc ca' cb' cc' : Nat) (most least : Int) (w : World) (hA : Rw smC 7 w a A.sm) (hB : Rw smC 7 w a' B.sm) (oA : FitOk A) (oB : FitOk B) (h1 : 0 ≤ most) (h2 : most ≤ 3600) (_h3 : 1 ≤ least) (_h4 : least ≤ 400) :
    Calls Try.prog 29 #[actV A a b c ca cb cc, actV B a' b' c' ca' cb' cc', .int .i64 most, .int .i64 least] w fun e w' => e = .returned (.tuple #[mtV ((Ft.fitM (shiftedF A B) most least).getD mt0), .bool (Ft.fitM (shiftedF A B) most least).isSome]) ∧ Below w.heap.size w w' := by
  have HI := mtSize
  have DSH := fun (s : Int) (W : World) (hb : Below w.heap.size w W) (h1 : -3600 ≤ s) (h2 : s ≤ 3600) => rwith_any A B a b c a' b' c' ca cb cc ca' cb' cc' s W (hA.below hb) (hB.below hb) oA oB h1 h2
  have HMT := Lib.hid (fun (s : Int) (h1 : -3600 ≤ s) (h2 : s ≤ 3600) => (shiftedF_at A B s).ok oB.n h1 h2)
  have HST := Lib.hid (fitF_start (shiftedF A B) most least)
  generalize Ft.fitM (shiftedF A B) most least = E at *
  unfold actV at *
  generalize shiftedF A B = D at *
  generalize A.sm.length = na at *
  generalize A.lp.length = m2 at *
  generalize A.tg.length = m3 at *
  generalize B.sm.length = nb at *
  generalize B.lp.length = m2' at *
  generalize B.tg.length = m3' at *
  obtain ⟨V0, hV0, hb0, hs0, hl0⟩ := alloc_cells w #[.string A.name, .int .i64 A.sport, .int .i64 A.start, .slice a na ca, .slice b m2 cb, .slice c m3 cc] 35
  obtain ⟨V1, hV1, hb1, hs1, hl1⟩ := alloc_cells V0 #[.string B.name, .int .i64 B.sport, .int .i64 B.start, .slice a' nb ca', .slice b' m2' cb', .slice c' m3' cc'] 35
  obtain ⟨V2, hV2, hb2, hs2, hl2⟩ := alloc_mt V1 mt0
  rw [hs0] at hl1
  rw [hs1, hs0] at hl2
  unfold mt0 at hV2
  obtain ⟨V3, hV3, hb3, hs3, hl3⟩ := alloc_mt V2 mt0
  unfold mt0 at hV3
  obtain ⟨G, hG⟩ : ∃ G, V2.heap.size = G := ⟨_, rfl⟩
  rw [hG] at hl3
  have hg1 : w.heap.size + 3 = G := by omega
  have HB := Lib.hid (below_step (below_step (below_step hb0 hb1) hb2) hb3)
  have HR := Lib.hid (hl2.below hb3)
  have HGX0 : Hid (MtB V3 G mt0) := Lib.hid hl3
  have A0 := ExtO.ex (O := fun b => b = G) (show ¬ w.heap.size = G by omega) (below_cell hb3 (below_cell hb2 (below_cell hb1 (hl0 0 _ rfl))))
  have A1 := ExtO.ex (O := fun b => b = G) (show ¬ w.heap.size = G by omega) (below_cell hb3 (below_cell hb2 (below_cell hb1 (hl0 1 _ rfl))))
  have A2 := ExtO.ex (O := fun b => b = G) (show ¬ w.heap.size = G by omega) (below_cell hb3 (below_cell hb2 (below_cell hb1 (hl0 2 _ rfl))))
  have A3 := ExtO.ex (O := fun b => b = G) (show ¬ w.heap.size = G by omega) (below_cell hb3 (below_cell hb2 (below_cell hb1 (hl0 3 _ rfl))))
  have A4 := ExtO.ex (O := fun b => b = G) (show ¬ w.heap.size = G by omega) (below_cell hb3 (below_cell hb2 (below_cell hb1 (hl0 4 _ rfl))))
  have A5 := ExtO.ex (O := fun b => b = G) (show ¬ w.heap.size = G by omega) (below_cell hb3 (below_cell hb2 (below_cell hb1 (hl0 5 _ rfl))))
  have B0 := ExtO.ex (O := fun b => b = G) (show ¬ w.heap.size + 1 = G by omega) (below_cell hb3 (below_cell hb2 (hl1 0 _ rfl)))
  have B1 := ExtO.ex (O := fun b => b = G) (show ¬ w.heap.size + 1 = G by omega) (below_cell hb3 (below_cell hb2 (hl1 1 _ rfl)))
  have B2 := ExtO.ex (O := fun b => b = G) (show ¬ w.heap.size + 1 = G by omega) (below_cell hb3 (below_cell hb2 (hl1 2 _ rfl)))
  have B3 := ExtO.ex (O := fun b => b = G) (show ¬ w.heap.size + 1 = G by omega) (below_cell hb3 (below_cell hb2 (hl1 3 _ rfl)))
  have B4 := ExtO.ex (O := fun b => b = G) (show ¬ w.heap.size + 1 = G by omega) (below_cell hb3 (below_cell hb2 (hl1 4 _ rfl)))
  have B5 := ExtO.ex (O := fun b => b = G) (show ¬ w.heap.size + 1 = G by omega) (below_cell hb3 (below_cell hb2 (hl1 5 _ rfl)))
  have HG1 := Lib.hid hg1
  have HBW := Lib.hid (fun (X : ExtO (fun b => b = G) V3) => show Below w.heap.size w X.1 from Kept.below HB.out X.2 HB.out.size (fun k hk e => by have := HG1.out; omega))
  have DSH := Lib.hid (fun (s : Int) (X : ExtO (fun b => b = G) V3) => DSH s X.1 (HBW.out X))
  have HV0 := Lib.hid hV0
  have HV1 := Lib.hid hV1
  have HV2 := Lib.hid hV2
  have HV3 := Lib.hid hV3
  have HGG := Lib.hid hG
  clear hV3 hb3 hs3 hl3 hG
  clear hV0 hb0 hs0 hl0 hV1 hb1 hs1 hl1 hV2 hb2 hs2 hl2 hg1 hA hB oA oB
  simp only at HV2
  unfold mtV at DSH
  go_enter Try.func29, Try.ntmps29
  go_upto_region 1 with (fail)
  rw [HV0.out, HV1.out, HV2.out]
  simp only at HV3
  go_upto_region 2 with (fail)
  rw [HV3.out, HGG.out]
  go_wp2_with fail
  go_loopw [11, 12] (fun okv sv wr => ∃ (bo : Option Mt) (s : Int), okv = .bool bo.isSome ∧ sv = .int .i64 s ∧ -most ≤ s ∧ s ≤ most + 1 ∧ Hid (E = Ft.fitF D least (most + 1 - s).toNat s bo) ∧ Hid (∀ b, bo = some b → MtOk b) ∧ ∃ X : ExtO (fun b => b = G) V3, wr = X.1 ∧ Hid (MtB X.1 G (bo.getD mt0))) (fun _ sv _ => (most + 1 - intOf sv).toNat)
  case atStart => exact ⟨none, -most, rfl, rfl, by omega, by omega, HST, Lib.hid (fun b h => by cases h), ⟨V3, Kept.refl _ _⟩, rfl, HGX0⟩
  case round =>
    clear HST HGX0
    obtain ⟨bo, s, rfl, rfl, hs1, hs2, HE, HBO, X, rfl, HGX⟩ := hrel
    by_cases hle : s ≤ most
    · have t1 : decide (s ≤ most) = true := decide_eq_true hle
      have hm := HMT.out s (by omega) (by omega)
      have HE2 := Lib.hid (fitF_go hle HE.out)
      have DX := Lib.hid (DSH.out s X (by omega) (by omega))
      have HM := Lib.hid hm
      have hm2 := hm.m2
      have hm1 := hm.m1
      clear HE hm
      generalize D s = m at *
      have A0x := A0 X
      have A1x := A1 X
      have A2x := A2 X
      have A3x := A3 X
      have A4x := A4 X
      have A5x := A5 X
      have B0x := B0 X
      have B1x := B1 X
      have B2x := B2 X
      have B3x := B3 X
      have B4x := B4 X
      have B5x := B5 X
      by_cases hml : least ≤ m.many
      case neg =>
        have d1 : decide (least ≤ m.many) = false := decide_eq_false hml
        have HE3 : Hid (E = Ft.fitF D least (most + 1 - (s + 1)).toNat (s + 1) bo) := Lib.hid (by rw [HE2.out, take_less hml])
        clear hml HE2
        go_wp2_with fail
        refine DX.out.mono ?_
        rintro e w1 ⟨rfl, hb⟩
        have HGX1 : Hid (MtB w1 G (bo.getD mt0)) := Lib.hid (HGX.out.below hb)
        obtain ⟨X1, rfl⟩ : ∃ X : ExtO (fun b => b = G) V3, w1 = X.1 := ⟨⟨w1, X.2.trans (Kept.of_below hb)⟩, rfl⟩
        clear hb A0x A1x A2x A3x A4x A5x B0x B1x B2x B3x B4x B5x HGX
        obtain ⟨W2, hW2, hwb2, hws2, hwl2⟩ := alloc_mt X1.1 m
        obtain ⟨T, hT⟩ : ∃ T, X1.1.heap.size = T := ⟨_, rfl⟩
        rw [hT] at hwl2
        have HTG := Lib.hid (show ¬ T = G from by have := HGX1.out.lt; omega)
        have HGX2 : Hid (MtB W2 G (bo.getD mt0)) := Lib.hid (HGX1.out.below hwb2)
        have HTX2 : Hid (MtB W2 T m) := Lib.hid hwl2
        have HW2 := Lib.hid hW2
        have HTT := Lib.hid hT
        obtain ⟨X2, hX2⟩ : ∃ Z : ExtO (fun b => b = G) V3, W2 = Z.1 := ⟨⟨W2, X1.2.trans (Kept.of_below hwb2)⟩, rfl⟩
        clear hW2 hwb2 hws2 hwl2 hT
        go_upto_region 6 with (fail)
        rw [HW2.out, HTT.out, hX2]
        rw [hX2] at HGX2 HTX2
        clear hX2
        obtain ⟨t0, t1', t2⟩ := HTX2.out.cell
        obtain ⟨g0, g1, g2⟩ := HGX2.out.cell
        try simp only [Option.getD_none, Option.getD_some] at g0 g1 g2
        go_wp2_with fail
        go_roundw
        case rel => exact ⟨bo, s + 1, rfl, rfl, by omega, by omega, HE3, HBO, X2, rfl, HGX2⟩
        case measure => simp [intOf]; omega
      have d1 : decide (least ≤ m.many) = true := decide_eq_true hml
      cases bo
      case none =>
        have HE3 : Hid (E = Ft.fitF D least (most + 1 - (s + 1)).toNat (s + 1) (some m)) := Lib.hid (by rw [HE2.out, take_none hml])
        clear hml HE2
        go_wp2_with fail
        refine DX.out.mono ?_
        rintro e w1 ⟨rfl, hb⟩
        have HGX1 : Hid (MtB w1 G (Option.getD none mt0)) := Lib.hid (HGX.out.below hb)
        obtain ⟨X1, rfl⟩ : ∃ X : ExtO (fun b => b = G) V3, w1 = X.1 := ⟨⟨w1, X.2.trans (Kept.of_below hb)⟩, rfl⟩
        clear hb A0x A1x A2x A3x A4x A5x B0x B1x B2x B3x B4x B5x HGX
        obtain ⟨W2, hW2, hwb2, hws2, hwl2⟩ := alloc_mt X1.1 m
        obtain ⟨T, hT⟩ : ∃ T, X1.1.heap.size = T := ⟨_, rfl⟩
        rw [hT] at hwl2
        have HTG := Lib.hid (show ¬ T = G from by have := HGX1.out.lt; omega)
        have HGX2 : Hid (MtB W2 G (Option.getD none mt0)) := Lib.hid (HGX1.out.below hwb2)
        have HTX2 : Hid (MtB W2 T m) := Lib.hid hwl2
        have HW2 := Lib.hid hW2
        have HTT := Lib.hid hT
        obtain ⟨X2, hX2⟩ : ∃ Z : ExtO (fun b => b = G) V3, W2 = Z.1 := ⟨⟨W2, X1.2.trans (Kept.of_below hwb2)⟩, rfl⟩
        clear hW2 hwb2 hws2 hwl2 hT
        go_upto_region 6 with (fail)
        rw [HW2.out, HTT.out, hX2]
        rw [hX2] at HGX2 HTX2
        clear hX2
        obtain ⟨t0, t1', t2⟩ := HTX2.out.cell
        obtain ⟨g0, g1, g2⟩ := HGX2.out.cell
        try simp only [Option.getD_none] at g0 g1 g2
        go_upto_region 7 with (fail)
        clear t0 t1' t2 g0 g1 g2
        obtain ⟨t0, t1', t2⟩ := HTX2.out.cell
        obtain ⟨g0, g1, g2⟩ := HGX2.out.cell
        have f0 := HGX2.out.free 0
        have f1 := HGX2.out.free 1
        have f2 := HGX2.out.free 2
        obtain ⟨WE, hWE, hWB, hWK⟩ := HGX2.out.store m
        have HWE := Lib.hid hWE
        have HWB : Hid (MtB WE G ((some m).getD mt0)) := Lib.hid hWB
        have HWK := Lib.hid (X2.2.trans (hWK (fun b => b = G) rfl))
        have HMO : Hid (∀ b, some m = some b → MtOk b) := Lib.hid (fun b h => by injection h with h; subst h; exact HM.out)
        clear hWE hWB hWK
        try simp only [Option.getD_none] at g0 g1 g2
        go_wp2_with fail
        rw [HWE.out]
        go_roundw
        case rel => exact ⟨some m, s + 1, rfl, rfl, by omega, by omega, HE3, HMO, ⟨WE, HWK.out⟩, rfl, HWB⟩
        case measure => simp [intOf]; omega
      case some bb =>
        have DB := Lib.hid (fun W => rbetter_any m bb W HM.out (HBO.out bb rfl))
        have HE2 := Lib.hid (HE2.out.trans (by rw [take_some hml]))
        generalize Ft.better m bb = bt at *
        unfold mtV at DB
        clear hml
        cases bt
        · have HE3 : Hid (E = Ft.fitF D least (most + 1 - (s + 1)).toNat (s + 1) (some bb)) := Lib.hid HE2.out
          clear HE2
          go_wp2_with fail
          refine DX.out.mono ?_
          rintro e w1 ⟨rfl, hb⟩
          have HGX1 : Hid (MtB w1 G ((some bb).getD mt0)) := Lib.hid (HGX.out.below hb)
          obtain ⟨X1, rfl⟩ : ∃ X : ExtO (fun b => b = G) V3, w1 = X.1 := ⟨⟨w1, X.2.trans (Kept.of_below hb)⟩, rfl⟩
          clear hb A0x A1x A2x A3x A4x A5x B0x B1x B2x B3x B4x B5x HGX
          obtain ⟨W2, hW2, hwb2, hws2, hwl2⟩ := alloc_mt X1.1 m
          obtain ⟨T, hT⟩ : ∃ T, X1.1.heap.size = T := ⟨_, rfl⟩
          rw [hT] at hwl2
          have HTG := Lib.hid (show ¬ T = G from by have := HGX1.out.lt; omega)
          have HGX2 : Hid (MtB W2 G ((some bb).getD mt0)) := Lib.hid (HGX1.out.below hwb2)
          have HTX2 : Hid (MtB W2 T m) := Lib.hid hwl2
          have HW2 := Lib.hid hW2
          have HTT := Lib.hid hT
          obtain ⟨X2, hX2⟩ : ∃ Z : ExtO (fun b => b = G) V3, W2 = Z.1 := ⟨⟨W2, X1.2.trans (Kept.of_below hwb2)⟩, rfl⟩
          clear hW2 hwb2 hws2 hwl2 hT
          go_upto_region 6 with (fail)
          rw [HW2.out, HTT.out, hX2]
          rw [hX2] at HGX2 HTX2
          clear hX2
          obtain ⟨t0, t1', t2⟩ := HTX2.out.cell
          obtain ⟨g0, g1, g2⟩ := HGX2.out.cell
          try simp only [Option.getD_some] at g0 g1 g2
          go_wp2_with fail
          refine (DB.out _).mono ?_
          rintro e w3 ⟨rfl, hb⟩
          have HGX3 : Hid (MtB w3 G ((some bb).getD mt0)) := Lib.hid (HGX2.out.below hb)
          obtain ⟨X3, rfl⟩ : ∃ X : ExtO (fun b => b = G) V3, w3 = X.1 := ⟨⟨w3, X2.2.trans (Kept.of_below hb)⟩, rfl⟩
          clear hb t0 t1' t2 g0 g1 g2
          go_wp2_with fail
          go_roundw
          case rel => exact ⟨some bb, s + 1, rfl, rfl, by omega, by omega, HE3, HBO, X3, rfl, HGX3⟩
          case measure => simp [intOf]; omega
        · have HE3 : Hid (E = Ft.fitF D least (most + 1 - (s + 1)).toNat (s + 1) (some m)) := Lib.hid HE2.out
          clear HE2
          go_wp2_with fail
          refine DX.out.mono ?_
          rintro e w1 ⟨rfl, hb⟩
          have HGX1 : Hid (MtB w1 G ((some bb).getD mt0)) := Lib.hid (HGX.out.below hb)
          obtain ⟨X1, rfl⟩ : ∃ X : ExtO (fun b => b = G) V3, w1 = X.1 := ⟨⟨w1, X.2.trans (Kept.of_below hb)⟩, rfl⟩
          clear hb A0x A1x A2x A3x A4x A5x B0x B1x B2x B3x B4x B5x HGX
          obtain ⟨W2, hW2, hwb2, hws2, hwl2⟩ := alloc_mt X1.1 m
          obtain ⟨T, hT⟩ : ∃ T, X1.1.heap.size = T := ⟨_, rfl⟩
          rw [hT] at hwl2
          have HTG := Lib.hid (show ¬ T = G from by have := HGX1.out.lt; omega)
          have HGX2 : Hid (MtB W2 G ((some bb).getD mt0)) := Lib.hid (HGX1.out.below hwb2)
          have HTX2 : Hid (MtB W2 T m) := Lib.hid hwl2
          have HW2 := Lib.hid hW2
          have HTT := Lib.hid hT
          obtain ⟨X2, hX2⟩ : ∃ Z : ExtO (fun b => b = G) V3, W2 = Z.1 := ⟨⟨W2, X1.2.trans (Kept.of_below hwb2)⟩, rfl⟩
          clear hW2 hwb2 hws2 hwl2 hT
          go_upto_region 6 with (fail)
          rw [HW2.out, HTT.out, hX2]
          rw [hX2] at HGX2 HTX2
          clear hX2
          obtain ⟨t0, t1', t2⟩ := HTX2.out.cell
          obtain ⟨g0, g1, g2⟩ := HGX2.out.cell
          try simp only [Option.getD_some] at g0 g1 g2
          go_wp2_with fail
          refine (DB.out _).mono ?_
          rintro e w3 ⟨rfl, hb⟩
          have HGX3 : Hid (MtB w3 G ((some bb).getD mt0)) := Lib.hid (HGX2.out.below hb)
          have HTX3 : Hid (MtB w3 T m) := Lib.hid (HTX2.out.below hb)
          obtain ⟨X3, rfl⟩ : ∃ X : ExtO (fun b => b = G) V3, w3 = X.1 := ⟨⟨w3, X2.2.trans (Kept.of_below hb)⟩, rfl⟩
          clear hb t0 t1' t2 g0 g1 g2
          go_upto_region 7 with (fail)
          obtain ⟨t0, t1', t2⟩ := HTX3.out.cell
          obtain ⟨g0, g1, g2⟩ := HGX3.out.cell
          have f0 := HGX3.out.free 0
          have f1 := HGX3.out.free 1
          have f2 := HGX3.out.free 2
          obtain ⟨WE, hWE, hWB, hWK⟩ := HGX3.out.store m
          have HWE := Lib.hid hWE
          have HWB : Hid (MtB WE G ((some m).getD mt0)) := Lib.hid hWB
          have HWK := Lib.hid (X3.2.trans (hWK (fun b => b = G) rfl))
          have HMO : Hid (∀ b, some m = some b → MtOk b) := Lib.hid (fun b h => by injection h with h; subst h; exact HM.out)
          clear hWE hWB hWK
          try simp only [Option.getD_some] at g0 g1 g2
          go_wp2_with fail
          rw [HWE.out]
          go_roundw
          case rel => exact ⟨some m, s + 1, rfl, rfl, by omega, by omega, HE3, HMO, ⟨WE, HWK.out⟩, rfl, HWB⟩
          case measure => simp [intOf]; omega
    · have t1 : decide (s ≤ most) = false := decide_eq_false hle
      have HF := Lib.hid (fitF_end hle HE.out)
      obtain ⟨m, hm⟩ : ∃ m, bo.getD mt0 = m := ⟨_, rfl⟩
      have HFM := Lib.hid (show E.getD mt0 = m by rw [HF.out, hm])
      rw [hm] at HGX
      obtain ⟨g0, g1, g2⟩ := HGX.out.cell
      clear HE hle hm
      have HRX : Hid (MtB X.1 (w.heap.size + 2) mt0) := Lib.hid (HR.out.kept X.2 (fun e => by have := HG1.out; omega))
      obtain ⟨r0, r1, r2⟩ := HRX.out.cell
      have f0 := HRX.out.free 0
      have f1 := HRX.out.free 1
      have f2 := HRX.out.free 2
      obtain ⟨WE, hWE, hWB, hWK⟩ := HRX.out.store m
      have HWL := Lib.hid (show Below w.heap.size w WE from Kept.below (HBW.out X) (hWK (fun b => b = w.heap.size + 2) rfl) (HBW.out X).size (fun k hk e => by omega))
      unfold mt0 at r0 r1 r2
      try simp only at r0 r1 r2
      have HWE := Lib.hid hWE
      obtain ⟨q0, q1, q2⟩ := hWB.cell
      clear hWE hWB hWK
      go_wp2_with fail
      rw [HWE.out]
      exact bodyPost_ret (v := .tuple #[.agg #[.int .i64 m.shift, .int .i64 m.many, .int .i64 m.sum], .bool bo.isSome]) (by simp [results, Try.results29, go_sem, q0, q1, q2]) rfl ⟨by rw [HFM.out, HF.out]; rfl, HWL.out⟩
end Go.Proofs.Ytckjdpnmalkpnaa
