/- Parts of the reference: its walk. -/
import Derived.Test.YtbkpoepacjinlaaPc
namespace Go.Proofs.Ytbkpoepacjinlaa
open Go.RowKit Go.BigFrame
open Shr (sumF quo rst)

/-- what is yet to be merged into an order -/
theorem ord_exists (R : Nat → Int) (n : Nat) : ∃ l, Shr.IsOrd R n l := by
  refine ⟨(List.range n).mergeSort fun i k => decide (R k < R i ∨ R k = R i ∧ i ≤ k), List.mergeSort_perm _ _, ?_⟩
  have h1 := List.pairwise_mergeSort (le := fun i k => decide (R k < R i ∨ R k = R i ∧ i ≤ k)) (by intro a b c; simp only [decide_eq_true_eq]; omega) (by intro a b; simp only [Bool.or_eq_true, decide_eq_true_eq]; omega) (List.range n)
  have h2 : ((List.range n).mergeSort fun i k => decide (R k < R i ∨ R k = R i ∧ i ≤ k)).Nodup := (List.mergeSort_perm _ _).nodup_iff.2 List.nodup_range
  exact (h1.and h2).imp (by intro a b h; simp only [decide_eq_true_eq] at h; unfold Shr.Bef; omega)
theorem sc_down {T x S : Int} (hT : 0 ≤ T) (hx : 0 ≤ x) (hS : 0 < S) (h : T * x ≤ 4611686018427387903) : Sc.sc T x S 1 = (T * x / S, 0) := by
  obtain ⟨A, rfl⟩ := Int.eq_ofNat_of_zero_le hT
  obtain ⟨B, rfl⟩ := Int.eq_ofNat_of_zero_le hx
  obtain ⟨D, rfl⟩ := Int.eq_ofNat_of_zero_le (Int.le_of_lt hS)
  have hAB : ((A * B : Nat) : Int) ≤ 4611686018427387903 := by rw [Int.natCast_mul]; exact h
  rw [Sc.sc_small _ _ _ _ (by decide) (by decide) (by omega) (by omega) (by simp only [Int.natAbs_natCast, Int.toNat_natCast]; omega)]
  have e : decide ((A : Int) < 0) = false := by simp
  rw [e]
  unfold Sc.quo Sc.away Sc.sgn
  simp
theorem rest_int {T x S : Int} (w : World) (hT : 0 ≤ T) (hT2 : T ≤ 9223372036854775807) (hx : 0 ≤ x) (hx2 : x ≤ 9223372036854775807) (hS : 0 < S) (hS2 : S ≤ 9223372036854775807) (h : T * x ≤ 4611686018427387903) :
    Calls Try.prog 159 #[.int .i64 T, .int .i64 x, .int .i64 S] w fun e w' => e = .returned (.int .u64 (T * x % S)) ∧ ∃ q, w' = w.drewN q := by
  obtain ⟨A, rfl⟩ := Int.eq_ofNat_of_zero_le hT
  obtain ⟨B, rfl⟩ := Int.eq_ofNat_of_zero_le hx
  obtain ⟨D, rfl⟩ := Int.eq_ofNat_of_zero_le (Int.le_of_lt hS)
  have hAB : ((A * B : Nat) : Int) ≤ 4611686018427387903 := by rw [Int.natCast_mul]; exact h
  have := rest_any A B D (A * B) w rfl hT2 hx2 hS2 (by omega) (by omega)
  rw [Int.natCast_emod, Int.natCast_mul] at this
  exact this

/-- a row of the call's own, of n bools -/
def RowB (w : World) (g n : Nat) (f : Nat → Bool) : Prop := w.ownsRow g 4 1 (.slice (some ⟨g, 0, none⟩) n n) n ((List.range n).map fun i => .bool (f i))
theorem RowB.cell {w : World} {g n : Nat} {f : Nat → Bool} (h : RowB w g n f) {j : Nat} (hj : j < n) : w.cell? ⟨g, j, none⟩ = some (.bool (f j)) := by
  rw [World.ownsRow.cellAt h j (by omega), List.getElem?_map, List.getElem?_range hj]
  rfl
theorem RowB.frozen {w : World} {g n : Nat} {f : Nat → Bool} (h : RowB w g n f) (j : Nat) : w.frozen? ⟨g, j, none⟩ = false := World.ownsRow.frozenAt h j
theorem RowB.lt {w : World} {g n : Nat} {f : Nat → Bool} (h : RowB w g n f) : g < w.heap.size := (World.ownsRow.lt h g rfl).2
theorem RowB.kept {w w' : World} {g n : Nat} {f : Nat → Bool} {row : Option Nat} (h : RowB w g n f) (hg : w.grownBy w' row) (hne : some g ≠ row) : RowB w' g n f := World.ownsRow.kept h hg (Or.inr hne)
theorem RowB.ext {w : World} {g n : Nat} {f f' : Nat → Bool} (h : RowB w g n f) (he : ∀ i, i < n → f i = f' i) : RowB w g n f' := by
  unfold RowB at h ⊢
  rwa [List.map_congr_left (fun i hi => by rw [he i (List.mem_range.1 hi)])] at h
theorem RowB.stored {w : World} {g n : Nat} {f : Nat → Bool} (h : RowB w g n f) (k : Nat) (x : Bool) :
    RowB (w.setCell ⟨g, k, none⟩ (.bool x)) g n (fun i => if i = k then x else f i) ∧ w.grownBy (w.setCell ⟨g, k, none⟩ (.bool x)) (some g) := by
  obtain ⟨h1, h2⟩ := World.ownsRow.stored h k (.bool x)
  refine ⟨?_, h2⟩
  unfold RowB
  have e : ((List.range n).map fun i => Value.bool (f i)).set k (.bool x) = (List.range n).map fun i => Value.bool (if i = k then x else f i) := by
    apply List.ext_getElem
    · simp
    · intro i h3 h4
      simp only [List.getElem_set, List.getElem_map, List.getElem_range]
      by_cases e1 : k = i
      · subst e1; simp
      · rw [if_neg e1, if_neg (fun h => e1 h.symm)]
  rw [← e]
  exact h1
theorem RowB.of_make {w : World} {g n : Nat} (h : w.ownsRow g 4 1 (.slice (some ⟨g, 0, none⟩) n n) n (madeCells (Value.bool false).cells (n * 1)).toList) : RowB w g n (fun _ => false) := by
  unfold RowB
  have e : (madeCells (Value.bool false).cells (n * 1)).toList = (List.range n).map fun _ => Value.bool false := by
    rw [Nat.mul_one]
    show (madeCells #[Value.bool false] n).toList = _
    rw [toList_madeCells_one]
    apply List.ext_getElem <;> simp
  rw [← e]
  exact h
/-- of those looked at and not taken the first in the order -/
def Best (R : Nat → Int) (tk : List Nat) (m : Nat) (q : Int) : Prop :=
  (q = -1 ∧ ∀ j, j < m → j ∈ tk) ∨ ∃ b : Nat, q = b ∧ b < m ∧ b ∉ tk ∧ ∀ j, j < m → j ∉ tk → j ≠ b → Shr.Bef R b j
theorem Best.skip {R : Nat → Int} {tk : List Nat} {m : Nat} {q : Int} (h : Best R tk m q) (hm : m ∈ tk) : Best R tk (m + 1) q := by
  rcases h with ⟨h1, h2⟩ | ⟨b, h1, h2, h3, h4⟩
  · exact Or.inl ⟨h1, fun j hj => by by_cases e : j = m; (subst e; exact hm); exact h2 j (by omega)⟩
  · exact Or.inr ⟨b, h1, by omega, h3, fun j hj hn he => by
      by_cases e : j = m
      · subst e; exact absurd hm hn
      · exact h4 j (by omega) hn he⟩
theorem Best.first {R : Nat → Int} {tk : List Nat} {m : Nat} {q : Int} (h : Best R tk m q) (hq : q < 0) (hm : m ∉ tk) : Best R tk (m + 1) (m : Int) := by
  rcases h with ⟨h1, h2⟩ | ⟨b, h1, _⟩
  · exact Or.inr ⟨m, rfl, by omega, hm, fun j hj hn he => absurd (h2 j (by omega)) hn⟩
  · omega
theorem Best.better {R : Nat → Int} {tk : List Nat} {m b : Nat} (h : Best R tk m (b : Int)) (hm : m ∉ tk) (hl : R b < R m) : Best R tk (m + 1) (m : Int) := by
  rcases h with ⟨h1, h2⟩ | ⟨b', h1, h2, h3, h4⟩
  · omega
  · obtain rfl : b = b' := by omega
    refine Or.inr ⟨m, rfl, by omega, hm, fun j hj hn he => ?_⟩
    by_cases e : j = b
    · subst e; exact Or.inl hl
    · exact Shr.bef_trans (Or.inl hl) (h4 j (by omega) hn e)
theorem Best.keep {R : Nat → Int} {tk : List Nat} {m b : Nat} (h : Best R tk m (b : Int)) (hl : ¬ R b < R m) : Best R tk (m + 1) (b : Int) := by
  rcases h with ⟨h1, h2⟩ | ⟨b', h1, h2, h3, h4⟩
  · omega
  · obtain rfl : b = b' := by omega
    refine Or.inr ⟨b, rfl, by omega, h3, fun j hj hn he => ?_⟩
    by_cases e : j = m
    · subst e; unfold Shr.Bef; omega
    · exact h4 j (by omega) hn he
theorem not_in_take {R : Nat → Int} {n t : Nat} {l : List Nat} (h : Shr.IsOrd R n l) (ht : t < l.length) : l[t] ∉ l.take t := by
  intro hin
  obtain ⟨q, hq, he⟩ := List.getElem_of_mem hin
  rw [List.length_take] at hq
  rw [List.getElem_take] at he
  have := List.nodup_iff_pairwise_ne.1 h.nodup
  rw [List.pairwise_iff_getElem] at this
  exact this q t (by omega) ht (by omega) he
theorem Best.done {R : Nat → Int} {n t : Nat} {l : List Nat} {q : Int} (h : Shr.IsOrd R n l) (ht : t < n) (hb : Best R (l.take t) n q) :
    ∃ b : Nat, q = b ∧ b < n ∧ b ∉ l.take t ∧ l.take (t + 1) = l.take t ++ [b] := by
  rcases hb with ⟨_, h2⟩ | ⟨b, h1, h2, h3, h4⟩
  · have hl : t < l.length := by rw [h.length]; exact ht
    exact absurd (h2 _ (h.mem.1 (List.getElem_mem hl))) (not_in_take h hl)
  · exact ⟨b, h1, h2, h3, Shr.pick h ht h2 h3 h4⟩
theorem below_grown {w w' : World} (hb : Below w.heap.size w w') : w.grownBy w' none := ⟨hb.os, hb.tape, hb.output, hb.size, fun k hk _ => hb.block k hk⟩

set_option maxHeartbeats 4000000 in
set_option maxRecDepth 100000 in
theorem rparts_any (T S : Int) (a : Option Addr) (n cap : Nat) (W : Nat → Int) (w : World) (hr : Row1 w a n W) (hf : Fine T W n S) :
    Calls Try.prog 143 #[.int .i64 T, .slice a n cap] w (Parted T S W n w) := by
  obtain ⟨i0, hi0, hz0, hz1, hz2⟩ := info_parts (show (Try.prog.info? 3).map (fun i => (i.zero, i.size, i.bytes)) = some (some (.int .i64 0), 1, 8) by kernel_rfl)
  obtain ⟨i1, hi1, hy0, hy1, hy2⟩ := info_parts (show (Try.prog.info? 4).map (fun i => (i.zero, i.size, i.bytes)) = some (some (.bool false), 1, 1) by kernel_rfl)
  have HR := Lib.hid hr
  have HF := Lib.hid hf
  have hn0 := hf.pos
  have hn1 := hf.n1
  have hs0 := hf.s0
  have hs1 := hf.s1
  have ht0 := hf.t0
  have ht1 := hf.t1
  obtain ⟨b, off, rfl, hbl, hcW⟩ := hr.here hn0
  have HCW := Lib.hid hcW
  obtain ⟨ol, hord⟩ := ord_exists (rst T S W) n
  have HORD := Lib.hid hord
  clear hr hf hcW hord
  go_enter Try.func143, Try.ntmps143
  go_wp2_with fail
  go_loop [5, 18] (fun sv iv => ∃ (k : Nat), sv = .int .i64 (sumF W k) ∧ iv = .int .i64 k ∧ k ≤ n) (fun _ iv => n - (intOf iv).toNat)
  case atStart => exact ⟨0, rfl, rfl, by omega⟩
  case round =>
    obtain ⟨k, rfl, rfl, hk⟩ := hrel
    by_cases hlt : k < n
    · have t1 : decide ((k : Int) < (n : Int)) = true := by rw [decide_eq_true_eq]; omega
      have c1 := HCW.out k hlt
      have hp := HF.out.part (k + 1) (by omega)
      have hp2 := HF.out.part k (by omega)
      have hsucc : sumF W (k + 1) = sumF W k + W k := rfl
      rw [hsucc] at hp
      have HS := Lib.hid hsucc
      have hw0 := HF.out.w0 k hlt
      clear hsucc
      generalize W k = x at c1 hp hw0 HS
      go_wp2_with fail
      go_round
      case rel => exact ⟨k + 1, congrArg (Value.int .i64) HS.out.symm, by go_num, by omega⟩
      case measure => simp [intOf]; omega
    · have t1 : decide ((k : Int) < (n : Int)) = false := by rw [decide_eq_false_iff_not]; omega
      have t1' : decide (k < n) = false := by simpa using hlt
      obtain rfl : k = n := by omega
      have hsm : sumF W k = S := HF.out.sum
      rw [hsm]
      have hby : 8 * k ≤ 281474976710656 := by omega
      have hby1 : 1 * k ≤ 281474976710656 := by omega
      have hml : k ≤ maxLen := by unfold maxLen; omega
      clear hsm hlt hk
      go_wp2_with (first
        | (at_make; refine wpList_make_full _ rfl (.tmp 27) (.tmp 27) 131 rfl _ 3 i0 (.int .i64 0) 1 Try.underlying131 hi0 hz0 hz1 .i64 .i64 k k k rfl rfl rfl rfl (by rw [hz2]; exact hby) hml (Nat.le_refl _) ?_; intro wa hoa hga; have HOa := Lib.hid hoa; have HGa := Lib.hid hga; clear hoa hga)
        | (at_make; refine wpList_make_full _ rfl (.tmp 30) (.tmp 30) 182 rfl _ 4 i1 (.bool false) 1 Try.underlying182 hi1 hy0 hy1 .i64 .i64 k k k rfl rfl rfl rfl (by rw [hy2]; exact hby1) hml (Nat.le_refl _) ?_; intro wb hob hgb; have HOb := Lib.hid hob; have HGb := Lib.hid hgb; clear hob hgb)
        | fail)
      have z1 : w.heap.size < wa.heap.size := (RowF.of_make HOa.out).lt
      have FL := Lib.hid (show RowF wb w.heap.size k (fun _ => 0) ∧ RowB wb wa.heap.size k (fun _ => false) ∧ Below w.heap.size w wb from by
        refine ⟨(RowF.of_make HOa.out).kept HGb.out (by simp), RowB.of_make HOb.out, ?_⟩
        have b1 : Below w.heap.size w wa := (Below.refl _ _).grown HGa.out (Nat.le_refl _) (fun _ h => by cases h)
        exact b1.grown HGb.out b1.size (fun _ h => by cases h))
      clear HOa HOb HGa HGb
      obtain ⟨g1, e1⟩ : ∃ g1, w.heap.size = g1 := ⟨_, rfl⟩
      rw [e1] at z1 ⊢
      have E1 := Lib.hid e1
      obtain ⟨g2, e2⟩ : ∃ g2, wa.heap.size = g2 := ⟨_, rfl⟩
      rw [e2] at FL z1 ⊢
      have FL2 := Lib.hid (show RowF wb g1 k (fun _ => 0) ∧ RowB wb g2 k (fun _ => false) ∧ Below w.heap.size w wb by rw [← e1]; exact FL.out)
      clear e1 e2 FL
      go_loopw [10, 35] (fun lv iv wr => ∃ (j : Nat), lv = .int .i64 (T - sumF (quo T S W) j) ∧ iv = .int .i64 j ∧ j ≤ k ∧ Hid (RowF wr g1 k (fun i => if i < j then quo T S W i else 0)) ∧ Hid (RowB wr g2 k (fun _ => false)) ∧ Hid (Below w.heap.size w wr)) (fun _ iv _ => k - (intOf iv).toNat)
      case atStart => exact ⟨0, congrArg (Value.int .i64) (by show T = T - 0; omega), rfl, by omega, Lib.hid (FL2.out.1.ext (fun i _ => by simp)), Lib.hid FL2.out.2.1, Lib.hid FL2.out.2.2⟩
      case round =>
        obtain ⟨j, rfl, rfl, hj, P1, P2, PB⟩ := hrel
        by_cases hlt : j < k
        · have t1 : decide ((j : Int) < (k : Int)) = true := by rw [decide_eq_true_eq]; omega
          have c1 := (PB.out.cell (p := ⟨b, off + j, none⟩) hbl).trans (HCW.out j hlt)
          obtain ⟨p0, p1⟩ := HF.out.prod hlt
          have q0 := HF.out.quo_nn hlt
          have qT := HF.out.quo_le hlt
          have w0 := HF.out.w0 j hlt
          have l1 := HF.out.left (j + 1) (by omega)
          have l2 := HF.out.left j (by omega)
          have wS := HF.out.part (j + 1) (by omega)
          have wS2 := HF.out.part j (by omega)
          have hsW : sumF W (j + 1) = sumF W j + W j := rfl
          rw [hsW] at wS
          have hsucc : sumF (quo T S W) (j + 1) = sumF (quo T S W) j + quo T S W j := rfl
          rw [hsucc] at l1
          have HSU := Lib.hid hsucc
          have hsc := sc_down ht0 w0 hs0 p1
          have HSC := rscale_any T (W j) S 1 wr (by omega) (by omega) (by omega) (by omega)
          rw [hsc, show T * W j / S = quo T S W j from rfl] at HSC
          unfold scRet at HSC
          have HSC := Lib.hid HSC
          generalize W j = x at c1 HSC
          obtain ⟨qv, hqv⟩ : ∃ qv, quo T S W j = qv := ⟨_, rfl⟩
          rw [hqv] at q0 qT l1 HSU HSC
          have HQV := Lib.hid hqv
          clear hqv
          generalize sumF (quo T S W) j = sq at l1 l2 HSU ⊢
          clear hsucc hsc hsW wS wS2 w0 p0 p1
          go_wp2_with fail
          refine HSC.out.mono ?_
          rintro e w5 ⟨rfl, hb5⟩
          have hg5 := below_grown hb5
          have P15 := P1.out.kept hg5 (by simp)
          obtain ⟨u1, c2⟩ : ∃ u, w5.cell? ⟨g1, j, none⟩ = some u := ⟨_, P15.cell hlt⟩
          have f1 := P15.frozen j
          have Q1 := Lib.hid P15
          have Q2 := Lib.hid (P2.out.kept hg5 (by simp))
          have QB := Lib.hid (PB.out.trans (hb5.mono PB.out.size))
          clear hb5 hg5 P15
          go_wp2_with fail
          go_roundw
          case rel =>
            have hst := Q1.out.stored j qv
            exact ⟨j + 1, congrArg (Value.int .i64) (by rw [HSU.out]; omega), by go_num, by omega, Lib.hid (hst.1.ext (fun i _ => by
              by_cases e : i = j
              · subst e; rw [if_pos rfl, if_pos (by omega), HQV.out]
              · rw [if_neg e]
                by_cases e2 : i < j
                · rw [if_pos e2, if_pos (by omega)]
                · rw [if_neg e2, if_neg (by omega)])), Lib.hid (Q2.out.kept hst.2 (by simp; omega)), Lib.hid (QB.out.grown hst.2 QB.out.size (by rintro _ ⟨rfl⟩; have := E1.out; omega))⟩
          case measure => simp [intOf]; omega
        · have t1 : decide ((j : Int) < (k : Int)) = false := by rw [decide_eq_false_iff_not]; omega
          have t1' : decide (j < k) = false := by simpa using hlt
          obtain rfl : j = k := by omega
          obtain ⟨b0, b1⟩ := Shr.left_bounds (T := T) (W := W) hs0 HF.out.sum
          obtain ⟨l, hl⟩ : ∃ l : Nat, T - sumF (quo T S W) j = l := ⟨(T - sumF (quo T S W) j).toNat, by omega⟩
          rw [hl] at b1 ⊢
          have HL := Lib.hid hl
          have hlj : l ≤ j := by omega
          have Q1 := Lib.hid (show RowF wr g1 j (PartF T S W ol 0) from P1.out.ext (fun i hi => by simp [PartF, hi]))
          have Q2 := Lib.hid (show RowB wr g2 j (fun i => decide (i ∈ ol.take 0)) from P2.out.ext (fun i hi => by simp))
          clear hlt hj hl b0 b1
          go_wp2_with fail
          obtain ⟨wo, rfl⟩ : ∃ wo : World, wo = wr := ⟨_, rfl⟩
          go_loopw [10] (fun lv w2 => ∃ (t : Nat), lv = .int .i64 ((l : Int) - t) ∧ t ≤ l ∧ Hid (RowF w2 g1 j (PartF T S W ol t)) ∧ Hid (RowB w2 g2 j (fun i => decide (i ∈ ol.take t))) ∧ Hid (Below w.heap.size w w2)) (fun lv _ => (intOf lv).toNat)
          case atStart => exact ⟨0, congrArg (Value.int .i64) (by omega), by omega, Q1, Q2, PB⟩
          case round =>
            obtain ⟨t, rfl, ht, R1, R2, RB⟩ := hrel
            by_cases hlt : t < l
            · have t2 : decide ((0 : Int) < (l : Int) - (t : Int)) = true := by rw [decide_eq_true_eq]; omega
              go_wp2_with fail
              obtain ⟨wp, rfl⟩ : ∃ wp : World, wp = wr := ⟨_, rfl⟩
              go_loopw [13, 63] (fun bv mv w3 => ∃ (q : Int) (m : Nat), bv = .int .i64 q ∧ mv = .int .i64 m ∧ m ≤ j ∧ -1 ≤ q ∧ q < (j : Int) ∧ Hid (Best (rst T S W) (ol.take t) m q) ∧ Hid (∃ d, w3 = wp.drewN d)) (fun _ mv _ => j - (intOf mv).toNat)
              case atStart => exact ⟨-1, 0, rfl, rfl, by omega, by omega, by omega, Lib.hid (Or.inl ⟨rfl, fun j hj => by omega⟩), Lib.hid ⟨0, rfl⟩⟩
              case round =>
                obtain ⟨q, m, rfl, rfl, hm, hq0, hq1, HBE, HWD⟩ := hrel
                obtain ⟨d, rfl⟩ := HWD.out
                by_cases hmj : m < j
                · have t3 : decide ((m : Int) < (j : Int)) = true := by rw [decide_eq_true_eq]; omega
                  have cw : (wp.drewN d).cell? ⟨b, off + m, none⟩ = some (.int .i64 (W m)) := (RB.out.cell (p := ⟨b, off + m, none⟩) hbl).trans (HCW.out m hmj)
                  have cg : (wp.drewN d).cell? ⟨g2, m, none⟩ = some (.bool (decide (m ∈ ol.take t))) := R2.out.cell hmj
                  have w0 := HF.out.w0 m hmj
                  obtain ⟨p0, p1⟩ := HF.out.prod hmj
                  have wS := HF.out.part (m + 1) (by omega)
                  have wS2 := HF.out.part m (by omega)
                  have hsW : sumF W (m + 1) = sumF W m + W m := rfl
                  rw [hsW] at wS
                  have HX := Lib.hid (fun W5 => rest_int (T := T) (x := W m) (S := S) W5 ht0 (by omega) w0 (by omega) hs0 hs1 p1)
                  rw [show T * W m % S = rst T S W m from rfl] at HX
                  clear hsW wS wS2 p0 p1 w0
                  by_cases htk : m ∈ ol.take t
                  · rw [show decide (m ∈ ol.take t) = true by simpa using htk] at cg
                    have HB2 := Lib.hid (HBE.out.skip htk)
                    obtain ⟨w5, hw5⟩ : ∃ w5, wp.drewN d = w5 := ⟨_, rfl⟩
                    rw [hw5] at cw cg ⊢
                    have HW5 := Lib.hid hw5
                    clear htk hw5
                    generalize W m = x at cw HX
                    go_wp2_with fail
                    go_quiet (fail)
                    go_wp2_with fail
                    go_roundw
                    case rel => exact ⟨q, m + 1, rfl, by go_num, by omega, hq0, hq1, HB2, Lib.hid ⟨d + nq, by rw [← HW5.out, World.drewN_drewN]⟩⟩
                    case measure => simp [intOf]; omega
                  · rw [show decide (m ∈ ol.take t) = false by simpa using htk] at cg
                    by_cases hq : q < 0
                    · have HB2 := Lib.hid (HBE.out.first hq htk)
                      have t4 : decide (q < 0) = true := by simpa using hq
                      obtain ⟨w5, hw5⟩ : ∃ w5, wp.drewN d = w5 := ⟨_, rfl⟩
                      rw [hw5] at cw cg ⊢
                      have HW5 := Lib.hid hw5
                      clear htk hw5 hq
                      generalize W m = x at cw HX
                      go_wp2_with fail
                      go_quiet (fail)
                      go_wp2_with fail
                      go_roundw
                      case rel => exact ⟨m, m + 1, rfl, by go_num, by omega, by omega, by omega, HB2, Lib.hid ⟨d + nq, by rw [← HW5.out, World.drewN_drewN]⟩⟩
                      case measure => simp [intOf]; omega
                    · obtain ⟨bq, rfl⟩ : ∃ bq : Nat, q = bq := ⟨q.toNat, by omega⟩
                      have hbj : bq < j := by omega
                      have t4 : decide ((bq : Int) < 0) = false := by rw [decide_eq_false_iff_not]; omega
                      have cb : (wp.drewN d).cell? ⟨b, off + bq, none⟩ = some (.int .i64 (W bq)) := (RB.out.cell (p := ⟨b, off + bq, none⟩) hbl).trans (HCW.out bq hbj)
                      have w0 := HF.out.w0 bq hbj
                      obtain ⟨p0, p1⟩ := HF.out.prod hbj
                      have wS := HF.out.part (bq + 1) (by omega)
                      have wS2 := HF.out.part bq (by omega)
                      have hsW : sumF W (bq + 1) = sumF W bq + W bq := rfl
                      rw [hsW] at wS
                      have HY := Lib.hid (fun W5 => rest_int (T := T) (x := W bq) (S := S) W5 ht0 (by omega) w0 (by omega) hs0 hs1 p1)
                      rw [show T * W bq % S = rst T S W bq from rfl] at HY
                      clear hsW wS wS2 p0 p1 w0
                      obtain ⟨w5, hw5⟩ : ∃ w5, wp.drewN d = w5 := ⟨_, rfl⟩
                      rw [hw5] at cw cg cb ⊢
                      have HW5 := Lib.hid hw5
                      have HTK := Lib.hid htk
                      clear htk hw5 hq
                      by_cases hl : rst T S W bq < rst T S W m
                      · have t5 : decide (rst T S W bq < rst T S W m) = true := by simpa using hl
                        have HB2 := Lib.hid (HBE.out.better HTK.out hl)
                        generalize rst T S W bq = rb at t5 HY
                        generalize rst T S W m = rm at t5 HX
                        generalize W m = x at cw HX
                        generalize W bq = y at cb HY
                        clear hl
                        go_wp2_with fail
                        go_quiet ((go_at_call 159; first | with_reducible exact Calls.quiet_of (HX.out _) | with_reducible exact Calls.quiet_of (HY.out _)))
                        go_wp2_with fail
                        go_roundw
                        case rel => exact ⟨m, m + 1, rfl, by go_num, by omega, by omega, by omega, HB2, Lib.hid ⟨d + nq, by rw [← HW5.out, World.drewN_drewN]⟩⟩
                        case measure => simp [intOf]; omega
                      · have t5 : decide (rst T S W bq < rst T S W m) = false := by simpa using hl
                        have HB2 := Lib.hid (HBE.out.keep hl)
                        generalize rst T S W bq = rb at t5 HY
                        generalize rst T S W m = rm at t5 HX
                        generalize W m = x at cw HX
                        generalize W bq = y at cb HY
                        clear hl
                        go_wp2_with fail
                        go_quiet ((go_at_call 159; first | with_reducible exact Calls.quiet_of (HX.out _) | with_reducible exact Calls.quiet_of (HY.out _)))
                        go_wp2_with fail
                        go_roundw
                        case rel => exact ⟨bq, m + 1, rfl, by go_num, by omega, by omega, by omega, HB2, Lib.hid ⟨d + nq, by rw [← HW5.out, World.drewN_drewN]⟩⟩
                        case measure => simp [intOf]; omega
                · have t3 : decide ((m : Int) < (j : Int)) = false := by rw [decide_eq_false_iff_not]; omega
                  have t3' : decide (m < j) = false := by simpa using hmj
                  obtain rfl : m = j := by omega
                  obtain ⟨bq, rfl, hbm, hbt, htk⟩ := HBE.out.done HORD.out (by omega)
                  have HBT := Lib.hid hbt
                  have HTK := Lib.hid htk
                  obtain ⟨w5, hw5⟩ : ∃ w5, wp.drewN d = w5 := ⟨_, rfl⟩
                  have hg5 : wp.grownBy w5 none := by rw [← hw5]; exact grown_drewN' _ _ _
                  have Q1 := Lib.hid (R1.out.kept hg5 (by simp))
                  have Q2 := Lib.hid (R2.out.kept hg5 (by simp))
                  have QB := Lib.hid (show Below w.heap.size w w5 by rw [← hw5]; exact below_drewN RB.out d)
                  rw [hw5]
                  have hy : PartF T S W ol t bq = quo T S W bq := by unfold PartF; rw [if_neg HBT.out]; omega
                  have c1 := Q1.out.cell hbm
                  rw [hy] at c1
                  have hy1 := HF.out.quo_le hbm
                  have hy2 := HF.out.quo_nn hbm
                  obtain ⟨y, hqy⟩ : ∃ y, quo T S W bq = y := ⟨_, rfl⟩
                  rw [hqy] at c1 hy1 hy2 hy
                  have HY := Lib.hid hy
                  have HQY := Lib.hid hqy
                  obtain ⟨u2, c2⟩ : ∃ u, w5.cell? ⟨g2, bq, none⟩ = some u := ⟨_, Q2.out.cell hbm⟩
                  have f1 := Q1.out.frozen bq
                  have f2 := Q2.out.frozen bq
                  have n12 : g1 ≠ g2 := by omega
                  have n21 : g2 ≠ g1 := by omega
                  clear hbt htk hw5 hg5 hy hqy hmj hm
                  go_wp2_with fail
                  go_roundw
                  case rel =>
                    have hs2 := Q2.out.stored bq true
                    have hs1 := (Q1.out.kept hs2.2 (by simp; omega)).stored bq (y + 1)
                    have hk := HTK.out
                    exact ⟨t + 1, congrArg (Value.int .i64) (by omega), by omega, Lib.hid (hs1.1.ext (fun i _ => by
                      unfold PartF
                      by_cases e : i = bq
                      · subst e; rw [if_pos rfl, if_pos (by rw [hk]; simp), HQY.out]
                      · rw [if_neg e]
                        by_cases e2 : i ∈ ol.take t
                        · rw [if_pos e2, if_pos (by rw [hk]; exact List.mem_append_left _ e2)]
                        · rw [if_neg e2, if_neg (by rw [hk, List.mem_append, List.mem_singleton]; rintro (h | h); exact e2 h; exact e h)])),
                      Lib.hid ((hs2.1.kept hs1.2 (by simp; omega)).ext (fun i _ => by
                        by_cases e : i = bq
                        · subst e; rw [if_pos rfl]; symm; rw [decide_eq_true_eq, hk]; simp
                        · rw [if_neg e, Bool.eq_iff_iff, decide_eq_true_eq, decide_eq_true_eq, hk, List.mem_append, List.mem_singleton]
                          exact ⟨Or.inl, fun h => h.resolve_right e⟩)),
                      Lib.hid ((QB.out.grown hs2.2 QB.out.size (by rintro _ ⟨rfl⟩; have := E1.out; omega)).grown hs1.2 (Nat.le_trans QB.out.size hs2.2.size) (by rintro _ ⟨rfl⟩; have := E1.out; omega))⟩
                  case measure => simp [intOf]; omega
            · have t2 : decide ((0 : Int) < (l : Int) - (t : Int)) = false := by rw [decide_eq_false_iff_not]; omega
              obtain rfl : t = l := by omega
              clear hlt ht
              go_wp2_with fail
              go_ret
              exact ⟨ol, g1, HORD.out, rfl, by rw [HL.out, Int.toNat_natCast]; exact R1.out, by rw [E1.out]; exact Nat.le_refl _, RB.out⟩
end Go.Proofs.Ytbkpoepacjinlaa
