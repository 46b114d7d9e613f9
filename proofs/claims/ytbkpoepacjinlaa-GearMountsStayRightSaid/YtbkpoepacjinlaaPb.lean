/- Parts of the program: its walk. -/
import Derived.Test.YtbkpoepacjinlaaPa
namespace Go.Proofs.Ytbkpoepacjinlaa
open Go.RowKit Go.BigFrame
open Shr (sumF quo rst)

/-- a slice of integers that came in -/
structure Row1 (w : World) (a : Option Addr) (len : Nat) (W : Nat → Int) : Prop where
  here : 0 < len → ∃ b off, a = some ⟨b, off, none⟩ ∧ b < w.heap.size ∧ ∀ i, i < len → w.cell? ⟨b, off + i, none⟩ = some (.int .i64 (W i))
theorem Row1.below {w w' : World} {a : Option Addr} {len B : Nat} {W : Nat → Int} (h : Row1 w a len W) (hb : Below B w w') (hB : w.heap.size ≤ B) : Row1 w' a len W := by
  refine ⟨fun hl => ?_⟩
  obtain ⟨b, off, rfl, hlt, hc⟩ := h.here hl
  exact ⟨b, off, rfl, Nat.lt_of_lt_of_le hlt hb.size, fun i hi => (hb.cell (p := ⟨b, off + i, none⟩) (Nat.lt_of_lt_of_le hlt hB)).trans (hc i hi)⟩
/-- total and weights of moderate size -/
structure Fine (T : Int) (W : Nat → Int) (n : Nat) (S : Int) : Prop where
  t0 : 0 ≤ T
  t1 : T ≤ 4611686018427387904
  n1 : (n : Int) ≤ 1000000
  w0 : ∀ i, i < n → 0 ≤ W i
  tw : ∀ i, i < n → T * W i ≤ 4611686018427387903
  s0 : 0 < S
  s1 : S ≤ 9223372036854775807
  sum : sumF W n = S
theorem sum_mono {W : Nat → Int} {n : Nat} (h : ∀ i, i < n → 0 ≤ W i) : ∀ k, k ≤ n → 0 ≤ sumF W k ∧ ∀ j, j ≤ k → sumF W j ≤ sumF W k
  | 0, _ => ⟨Int.le_refl _, fun j hj => by rw [Nat.le_zero.1 hj]; exact Int.le_refl _⟩
  | k + 1, hk => by
    obtain ⟨h0, h1⟩ := sum_mono h k (by omega)
    have h2 := h k (by omega)
    refine ⟨by show 0 ≤ sumF W k + W k; omega, fun j hj => ?_⟩
    show sumF W j ≤ sumF W k + W k
    by_cases e : j = k + 1
    · subst e; exact Int.le_refl _
    · have := h1 j (by omega); omega
theorem Fine.pos {T : Int} {W : Nat → Int} {n : Nat} {S : Int} (h : Fine T W n S) : 0 < n := by
  rcases Nat.eq_zero_or_pos n with h0 | h0
  · have := h.sum; rw [h0] at this; have := h.s0; unfold sumF at *; omega
  · exact h0
theorem Fine.part {T : Int} {W : Nat → Int} {n : Nat} {S : Int} (h : Fine T W n S) : ∀ k, k ≤ n → 0 ≤ sumF W k ∧ sumF W k ≤ S := fun k hk => by
  obtain ⟨h0, h1⟩ := sum_mono h.w0 n (Nat.le_refl _)
  exact ⟨(sum_mono h.w0 k hk).1, by rw [← h.sum]; exact h1 k hk⟩
theorem Fine.prod {T : Int} {W : Nat → Int} {n : Nat} {S : Int} (h : Fine T W n S) {i : Nat} (hi : i < n) : 0 ≤ T * W i ∧ T * W i ≤ 4611686018427387903 := ⟨Int.mul_nonneg h.t0 (h.w0 i hi), h.tw i hi⟩
theorem Fine.quo_nn {T : Int} {W : Nat → Int} {n : Nat} {S : Int} (h : Fine T W n S) {i : Nat} (hi : i < n) : 0 ≤ quo T S W i := Int.ediv_nonneg (h.prod hi).1 (Int.le_of_lt h.s0)
theorem Fine.left {T : Int} {W : Nat → Int} {n : Nat} {S : Int} (h : Fine T W n S) : ∀ k, k ≤ n → 0 ≤ sumF (quo T S W) k ∧ sumF (quo T S W) k ≤ T := fun k hk => by
  have hq : ∀ i, i < n → 0 ≤ quo T S W i := fun i hi => h.quo_nn hi
  have h2 := (Shr.left_bounds (T := T) h.s0 h.sum).1
  have h3 := (sum_mono hq n (Nat.le_refl _)).2 k hk
  exact ⟨(sum_mono hq k hk).1, by omega⟩
theorem Fine.quo_le {T : Int} {W : Nat → Int} {n : Nat} {S : Int} (h : Fine T W n S) {i : Nat} (hi : i < n) : quo T S W i ≤ T := by
  have h1 := (h.left (i + 1) (by omega)).2
  have h2 := (h.left i (by omega)).1
  have h3 : sumF (quo T S W) (i + 1) = sumF (quo T S W) i + quo T S W i := rfl
  omega
/-- what Parts returns -/
def PartF (T S : Int) (W : Nat → Int) (l : List Nat) (j : Nat) (i : Nat) : Int := quo T S W i + if i ∈ l.take j then 1 else 0
def Parted (T S : Int) (W : Nat → Int) (n : Nat) (w : World) (e : Ending) (w' : World) : Prop :=
  ∃ (l : List Nat) (g : Nat), Shr.IsOrd (rst T S W) n l ∧ e = .returned (.slice (some ⟨g, 0, none⟩) n n) ∧ RowF w' g n (PartF T S W l (T - sumF (quo T S W) n).toNat) ∧ w.heap.size ≤ g ∧ Below w.heap.size w w'

/-- the rows of Parts -/
structure Fill (w wr : World) (g1 g2 c g4 n : Nat) (f1 f2 f4 : Nat → Int) : Prop where
  o1 : RowF wr g1 n f1
  o2 : RowF wr g2 n f2
  o4 : RowF wr g4 n f4
  var : wr.heap[c]? = some (.cells #[.slice (some ⟨g2, 0, none⟩) n n] 131 (0, 0))
  below : Below w.heap.size w wr
theorem Fill.ext {w wr : World} {g1 g2 c g4 n : Nat} {f1 f2 f4 h1 h2 h4 : Nat → Int} (h : Fill w wr g1 g2 c g4 n f1 f2 f4) (e1 : ∀ i, i < n → f1 i = h1 i) (e2 : ∀ i, i < n → f2 i = h2 i) (e4 : ∀ i, i < n → f4 i = h4 i) : Fill w wr g1 g2 c g4 n h1 h2 h4 :=
  ⟨h.o1.ext e1, h.o2.ext e2, h.o4.ext e4, h.var, h.below⟩
theorem Fill.drew {w wr : World} {g1 g2 c g4 n : Nat} {f1 f2 f4 : Nat → Int} (h : Fill w wr g1 g2 c g4 n f1 f2 f4) : Fill w wr.drew g1 g2 c g4 n f1 f2 f4 :=
  ⟨h.o1.kept (grown_drewN' wr 1 none) (by simp), h.o2.kept (grown_drewN' wr 1 none) (by simp), h.o4.kept (grown_drewN' wr 1 none) (by simp), h.var, below_drewN h.below 1⟩
theorem Fill.store {w wr : World} {g1 g2 c g4 n : Nat} {f1 f2 f4 : Nat → Int} (h : Fill w wr g1 g2 c g4 n f1 f2 f4) (h0 : w.heap.size ≤ g1) (h12 : g1 < g2) (h23 : g2 < c) (h34 : c < g4) (j : Nat) (x y z : Int) :
    Fill w (((wr.setCell ⟨g1, j, none⟩ (.int .i64 x)).setCell ⟨g2, j, none⟩ (.int .i64 y)).setCell ⟨g4, j, none⟩ (.int .i64 z)) g1 g2 c g4 n (fun i => if i = j then x else f1 i) (fun i => if i = j then y else f2 i) (fun i => if i = j then z else f4 i) := by
  obtain ⟨a1, b1⟩ := h.o1.stored j x
  obtain ⟨a2, b2⟩ := (h.o2.kept b1 (by simp; omega)).stored j y
  obtain ⟨a3, b3⟩ := ((h.o4.kept b1 (by simp; omega)).kept b2 (by simp; omega)).stored j z
  have hc := lt_of_block h.var
  refine ⟨(a1.kept b2 (by simp; omega)).kept b3 (by simp; omega), a2.kept b3 (by simp; omega), a3, ?_, ?_⟩
  · refine (b3.block c (Nat.lt_of_lt_of_le hc (Nat.le_trans b1.size b2.size)) (by simp; omega)).trans ?_
    refine (b2.block c (Nat.lt_of_lt_of_le hc b1.size) (by simp; omega)).trans ?_
    exact (b1.block c hc (by simp; omega)).trans h.var
  · exact ((h.below.grown b1 h.below.size (by rintro _ ⟨rfl⟩; exact h0)).grown b2 (Nat.le_trans h.below.size b1.size) (by rintro _ ⟨rfl⟩; omega)).grown b3 (Nat.le_trans h.below.size (Nat.le_trans b1.size b2.size)) (by rintro _ ⟨rfl⟩; omega)
set_option maxHeartbeats 4000000 in
set_option maxRecDepth 100000 in
theorem parts_any (T S : Int) (a : Option Addr) (n cap : Nat) (W : Nat → Int) (w : World) (hr : Row1 w a n W) (hf : Fine T W n S) :
    Calls Try.prog 142 #[.int .i64 T, .slice a n cap] w (Parted T S W n w) := by
  obtain ⟨i0, hi0, hz0, hz1, hz2⟩ := info_parts (show (Try.prog.info? 3).map (fun i => (i.zero, i.size, i.bytes)) = some (some (.int .i64 0), 1, 8) by kernel_rfl)
  have HR := Lib.hid hr
  have HF := Lib.hid hf
  have hn0 := hf.pos
  have hn1 := hf.n1
  have hs0 := hf.s0
  have hs1 := hf.s1
  have ht0 := hf.t0
  have ht1 := hf.t1
  obtain ⟨b, off, rfl, hbl, hcW⟩ := hr.here hn0
  have HCW := Lib.hid hcW
  have hmf : ∀ fn first cap w, (Instr.makeFunc fn first cap).run Try.prog w = .ok (.func fn first cap) w := fun _ _ _ _ => rfl
  clear hr hf hcW
  go_enter Try.func142, Try.ntmps142
  go_wp2_with fail
  go_loop [5, 18] (fun sv iv => ∃ (k : Nat), sv = .int .i64 (sumF W k) ∧ iv = .int .i64 k ∧ k ≤ n) (fun _ iv => n - (intOf iv).toNat)
  case atStart => exact ⟨0, rfl, rfl, by omega⟩
  case round =>
    obtain ⟨k, rfl, rfl, hk⟩ := hrel
    by_cases hlt : k < n
    · have t1 : decide ((k : Int) < (n : Int)) = true := by rw [decide_eq_true_eq]; omega
      have c1 := HCW.out k hlt
      have hp := HF.out.part (k + 1) (by omega)
      have hp2 := HF.out.part k (by omega)
      have hsucc : sumF W (k + 1) = sumF W k + W k := rfl
      rw [hsucc] at hp
      have HS := Lib.hid hsucc
      have hw0 := HF.out.w0 k hlt
      clear hsucc
      generalize W k = x at c1 hp hw0 HS
      go_wp2_with fail
      go_round
      case rel => exact ⟨k + 1, congrArg (Value.int .i64) HS.out.symm, by go_num, by omega⟩
      case measure => simp [intOf]; omega
    · have t1 : decide ((k : Int) < (n : Int)) = false := by rw [decide_eq_false_iff_not]; omega
      have t1' : decide (k < n) = false := by simpa using hlt
      obtain rfl : k = n := by omega
      have hsm : sumF W k = S := HF.out.sum
      rw [hsm]
      have hby : 8 * k ≤ 281474976710656 := by omega
      have hml : k ≤ maxLen := by unfold maxLen; omega
      clear hsm hlt hk
      go_wp2_with (first
        | (at_make; refine wpList_make_full _ rfl (.tmp 27) (.tmp 27) 131 rfl _ 3 i0 (.int .i64 0) 1 Try.underlying131 hi0 hz0 hz1 .i64 .i64 k k k rfl rfl rfl rfl (by rw [hz2]; exact hby) hml (Nat.le_refl _) ?_; intro wa hoa hga; have HOa := Lib.hid hoa; have HGa := Lib.hid hga; clear hoa hga)
        | (at_make; refine wpList_make_full _ rfl (.tmp 30) (.tmp 30) 131 rfl _ 3 i0 (.int .i64 0) 1 Try.underlying131 hi0 hz0 hz1 .i64 .i64 k k k rfl rfl rfl rfl (by rw [hz2]; exact hby) hml (Nat.le_refl _) ?_; intro wb hob hgb; have HOb := Lib.hid hob; have HGb := Lib.hid hgb; clear hob hgb)
        | (at_make; refine wpList_make_full _ rfl (.tmp 33) (.tmp 33) 131 rfl _ 3 i0 (.int .i64 0) 1 Try.underlying131 hi0 hz0 hz1 .i64 .i64 k k k rfl rfl rfl rfl (by rw [hz2]; exact hby) hml (Nat.le_refl _) ?_; intro wc hoc hgc; have HOc := Lib.hid hoc; have HGc := Lib.hid hgc; clear hoc hgc)
        | fail)
      have z1 : w.heap.size < wa.heap.size := (RowF.of_make HOa.out).lt
      have z2 : wa.heap.size < wb.heap.size := (RowF.of_make HOb.out).lt
      have FILL := Lib.hid (show Fill w wc w.heap.size wa.heap.size wb.heap.size (wb.heap.size + 1) k (fun _ => 0) (fun _ => 0) (fun _ => 0) from by
        have hA := World.grownBy_alloc wb (.cells #[.slice (some ⟨wa.heap.size, 0, none⟩) k k] 131) none
        have o4 := RowF.of_make HOc.out
        rw [World.size_alloc] at o4
        refine ⟨(((RowF.of_make HOa.out).kept HGb.out (by simp)).kept hA (by simp)).kept HGc.out (by simp), ((RowF.of_make HOb.out).kept hA (by simp)).kept HGc.out (by simp), o4, ?_, ?_⟩
        · exact (HGc.out.block wb.heap.size (by simp) (by simp)).trans (heap_alloc_new wb _)
        · have b1 : Below w.heap.size w wa := (Below.refl _ _).grown HGa.out (Nat.le_refl _) (fun _ h => by cases h)
          have b2 := b1.grown HGb.out b1.size (fun _ h => by cases h)
          have b3 := b2.grown hA b2.size (fun _ h => by cases h)
          exact b3.grown HGc.out b3.size (fun _ h => by cases h))
      clear HOa HOb HOc HGa HGb HGc
      obtain ⟨g1, e1⟩ : ∃ g1, w.heap.size = g1 := ⟨_, rfl⟩
      rw [e1] at FILL z1 ⊢
      have E1 := Lib.hid e1
      obtain ⟨g2, e2⟩ : ∃ g2, wa.heap.size = g2 := ⟨_, rfl⟩
      rw [e2] at FILL z1 z2 ⊢
      obtain ⟨c, e3⟩ : ∃ c, wb.heap.size = c := ⟨_, rfl⟩
      rw [e3] at FILL z2 ⊢
      obtain ⟨g4, e4⟩ : ∃ g4, c + 1 = g4 := ⟨_, rfl⟩
      rw [e4] at FILL ⊢
      have z3 : c < g4 := by omega
      clear e1 e2 e3 e4
      go_loopw [11, 38] (fun lv iv wr => ∃ (j : Nat), lv = .int .i64 (T - sumF (quo T S W) j) ∧ iv = .int .i64 j ∧ j ≤ k ∧ Hid (Fill w wr g1 g2 c g4 k (fun i => if i < j then quo T S W i else 0) (fun i => if i < j then rst T S W i else 0) (fun i => if i < j then (i : Int) else 0))) (fun _ iv _ => k - (intOf iv).toNat)
      case atStart => exact ⟨0, congrArg (Value.int .i64) (by show T = T - 0; omega), rfl, by omega, Lib.hid (FILL.out.ext (fun i _ => by simp) (fun i _ => by simp) (fun i _ => by simp))⟩
      case round =>
        obtain ⟨j, rfl, rfl, hj, HFL⟩ := hrel
        by_cases hlt : j < k
        · have t1 : decide ((j : Int) < (k : Int)) = true := by rw [decide_eq_true_eq]; omega
          have c1 := (HFL.out.below.cell (p := ⟨b, off + j, none⟩) hbl).trans (HCW.out j hlt)
          obtain ⟨u1, c2⟩ : ∃ u, wr.cell? ⟨g1, j, none⟩ = some u := ⟨_, HFL.out.o1.cell hlt⟩
          obtain ⟨u2, c3⟩ : ∃ u, wr.cell? ⟨g2, j, none⟩ = some u := ⟨_, HFL.out.o2.cell hlt⟩
          obtain ⟨u4, c4⟩ : ∃ u, wr.cell? ⟨g4, j, none⟩ = some u := ⟨_, HFL.out.o4.cell hlt⟩
          have f1 := HFL.out.o1.frozen j
          have f2 := HFL.out.o2.frozen j
          have f4 := HFL.out.o4.frozen j
          have cv := cell_of_one HFL.out.var
          obtain ⟨p0, p1⟩ := HF.out.prod hlt
          have q0 := HF.out.quo_nn hlt
          have l1 := HF.out.left (j + 1) (by omega)
          have l2 := HF.out.left j (by omega)
          have hsucc : sumF (quo T S W) (j + 1) = sumF (quo T S W) j + quo T S W j := rfl
          rw [hsucc] at l1
          have HSU := Lib.hid hsucc
          have HQ := Lib.hid (show T * W j / S = quo T S W j from rfl)
          have HRS := Lib.hid (show T * W j % S = rst T S W j from rfl)
          generalize W j = x at c1 p0 p1 HQ HRS
          generalize sumF (quo T S W) j = sq at l1 l2 HSU ⊢
          have n12 : g1 ≠ g2 := by omega
          have n14 : g1 ≠ g4 := by omega
          have n24 : g2 ≠ g4 := by omega
          have n1c : g1 ≠ c := by omega
          have n2c : g2 ≠ c := by omega
          clear hsucc
          go_wp2_with fail
          go_region
          go_wp2_with fail
          rw [HQ.out, HRS.out]
          have v5 : wrap64 (T - sq - quo T S W j) = T - sq - quo T S W j := IntWalk.wrap64_in _ ⟨by omega, by omega⟩
          rw [v5]
          go_roundw
          case rel => exact ⟨j + 1, congrArg (Value.int .i64) (by rw [HSU.out]; omega), by go_num, by omega, Lib.hid ((HFL.out.store (by rw [E1.out]; exact Nat.le_refl _) z1 z2 z3 j _ _ _).drew.ext
            (fun i _ => by by_cases e : i = j; (subst e; simp); (rw [if_neg e]; by_cases e2 : i < j; (rw [if_pos e2, if_pos (by omega)]); (rw [if_neg e2, if_neg (by omega)])))
            (fun i _ => by by_cases e : i = j; (subst e; simp); (rw [if_neg e]; by_cases e2 : i < j; (rw [if_pos e2, if_pos (by omega)]); (rw [if_neg e2, if_neg (by omega)])))
            (fun i _ => by by_cases e : i = j; (subst e; simp); (rw [if_neg e]; by_cases e2 : i < j; (rw [if_pos e2, if_pos (by omega)]); (rw [if_neg e2, if_neg (by omega)]))))⟩
          case measure => simp [intOf]; omega
        · have t1 : decide ((j : Int) < (k : Int)) = false := by rw [decide_eq_false_iff_not]; omega
          have t1' : decide (j < k) = false := by simpa using hlt
          obtain rfl : j = k := by omega
          have FL := Lib.hid (show Fill w wr g1 g2 c g4 j (quo T S W) (rst T S W) (fun i => (i : Int)) from HFL.out.ext (fun i hi => by simp [hi]) (fun i hi => by simp [hi]) (fun i hi => by simp [hi]))
          obtain ⟨b0, b1⟩ := Shr.left_bounds (T := T) (W := W) hs0 HF.out.sum
          obtain ⟨l, hl⟩ : ∃ l : Nat, T - sumF (quo T S W) j = l := ⟨(T - sumF (quo T S W) j).toNat, by omega⟩
          rw [hl] at b1 ⊢
          have HL := Lib.hid hl
          have hlj : l ≤ j := by omega
          clear hlt hj hl b0 b1
          go_wp2_with fail
          refine (sortStable_any wr g4 c g2 j (rst T S W) hn0 hn1 FL.out.var FL.out.o2 FL.out.o4 (by omega) (by omega)).mono ?_
          rintro e w1 ⟨rfl, ol, hord, hrow, hgr⟩
          have HORD := Lib.hid hord
          have R4 := Lib.hid hrow
          have R1 := Lib.hid (FL.out.o1.kept hgr (by simp; omega))
          have B1 := Lib.hid (FL.out.below.grown hgr FL.out.below.size (by rintro _ ⟨rfl⟩; have := E1.out; omega))
          clear hord hrow hgr
          go_wp2_with fail
          obtain ⟨wo, rfl⟩ : ∃ wo : World, wo = wr := ⟨_, rfl⟩
          go_loopw [77] (fun mv w2 => ∃ (m : Nat), mv = .int .i64 m ∧ m ≤ l ∧ Hid (RowF w2 g1 j (PartF T S W ol m)) ∧ Hid (RowF w2 g4 j (fun i => (ol.getD i 0 : Nat))) ∧ Hid (Below w.heap.size w w2)) (fun mv _ => l - (intOf mv).toNat)
          case atStart => exact ⟨0, rfl, by omega, Lib.hid (R1.out.ext (fun i _ => by simp [PartF])), R4, B1⟩
          case round =>
            obtain ⟨m, rfl, hm, P1, P4, PB⟩ := hrel
            by_cases hlt : m < l
            · have t2 : decide ((m : Int) < (l : Int)) = true := by rw [decide_eq_true_eq]; omega
              have c1 := P4.out.cell (show m < j by omega)
              have hml : m < ol.length := by rw [HORD.out.length]; omega
              have hxl : ol.getD m 0 = ol[m] := by rw [List.getD_eq_getElem?_getD, List.getElem?_eq_getElem hml]; rfl
              have hxj : ol.getD m 0 < j := by rw [hxl]; exact HORD.out.mem.1 (List.getElem_mem _)
              have hxt : ol.getD m 0 ∉ ol.take m := by
                rw [hxl]
                intro hin
                obtain ⟨q, hq, he⟩ := List.getElem_of_mem hin
                rw [List.length_take] at hq
                rw [List.getElem_take] at he
                have := List.nodup_iff_pairwise_ne.1 HORD.out.nodup
                rw [List.pairwise_iff_getElem] at this
                exact this q m (by omega) hml (by omega) he
              have HTK := Lib.hid (show ol.take (m + 1) = ol.take m ++ [ol.getD m 0] by rw [List.take_succ_eq_append_getElem hml, hxl])
              have HXT := Lib.hid hxt
              clear hxl hxt
              generalize ol.getD m 0 = x at c1 hxj HTK HXT
              have c2 := P1.out.cell hxj
              have f2 := P1.out.frozen x
              have hy : PartF T S W ol m x = quo T S W x := by unfold PartF; rw [if_neg HXT.out]; omega
              have hy1 := HF.out.quo_le hxj
              have hy2 := HF.out.quo_nn hxj
              rw [hy] at c2
              have HY := Lib.hid hy
              clear hy
              obtain ⟨y, hy⟩ : ∃ y, quo T S W x = y := ⟨_, rfl⟩
              rw [hy] at c2 hy1 hy2 HY
              have HQY := Lib.hid hy
              clear hy
              have n14 : g1 ≠ g4 := by omega
              go_wp2_with fail
              go_roundw
              case rel =>
                have hst := P1.out.stored x (y + 1)
                exact ⟨m + 1, by go_num, by omega, Lib.hid (hst.1.ext (fun i _ => by
                  unfold PartF
                  have hk := HTK.out
                  by_cases e : i = x
                  · subst e; rw [if_pos rfl, if_pos (by rw [hk]; simp), HQY.out]
                  · rw [if_neg e]
                    by_cases e2 : i ∈ ol.take m
                    · rw [if_pos e2, if_pos (by rw [hk]; exact List.mem_append_left _ e2)]
                    · rw [if_neg e2, if_neg (by rw [hk, List.mem_append, List.mem_singleton]; rintro (h | h); exact e2 h; exact e h)])), Lib.hid (P4.out.kept hst.2 (by simp; omega)), Lib.hid (PB.out.grown hst.2 PB.out.size (by rintro _ ⟨rfl⟩; have := E1.out; omega))⟩
              case measure => simp [intOf]; omega
            · have t2 : decide ((m : Int) < (l : Int)) = false := by rw [decide_eq_false_iff_not]; omega
              have t2' : decide (m < l) = false := by simpa using hlt
              obtain rfl : m = l := by omega
              clear hlt hm
              go_wp2_with fail
              go_ret
              exact ⟨ol, g1, HORD.out, rfl, by rw [HL.out, Int.toNat_natCast]; exact P1.out, by rw [E1.out]; exact Nat.le_refl _, PB.out⟩
end Go.Proofs.Ytbkpoepacjinlaa
