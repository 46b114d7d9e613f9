/- The law QuantSharesAddUp: plain part and walk. -/
import Derived.Test.YthcddmjgehcgaaaL7
namespace Go.Proofs.Ythcddmjgehcgaaa
open Go.RowKit Go.BigFrame
open Shr (sumF quo rst)

/-- the sum of what is given: as many as are taken -/
theorem sum_add (f g : Nat → Int) : ∀ n, sumF (fun i => f i + g i) n = sumF f n + sumF g n
  | 0 => rfl
  | n + 1 => by
    have := sum_add f g n
    show sumF (fun i => f i + g i) n + (f n + g n) = sumF f n + f n + (sumF g n + g n)
    omega
theorem sum_ind : ∀ (n : Nat) (l : List Nat), l.Nodup → (∀ i, i ∈ l → i < n) → sumF (fun i => if i ∈ l then 1 else 0) n = (l.length : Int)
  | 0, l, _, h => by
    have : l = [] := List.eq_nil_iff_forall_not_mem.2 fun i hi => by have := h i hi; omega
    subst this; rfl
  | n + 1, l, hd, h => by
    show sumF (fun i => if i ∈ l then 1 else 0) n + (if n ∈ l then 1 else 0) = (l.length : Int)
    by_cases hn : n ∈ l
    · rw [if_pos hn]
      have h1 := sum_ind n (l.erase n) (hd.erase n) (fun i hi => by
        have h2 := h i (List.mem_of_mem_erase hi)
        have h3 : i ≠ n := fun e => by subst e; exact (List.Nodup.not_mem_erase hd) hi
        omega)
      have e : sumF (fun i => if i ∈ l then 1 else 0) n = sumF (fun i => if i ∈ l.erase n then 1 else 0) n := by
        have : ∀ k, k ≤ n → sumF (fun i => if i ∈ l then 1 else 0) k = sumF (fun i => if i ∈ l.erase n then 1 else 0) k := by
          intro k
          induction k with
          | zero => intro _; rfl
          | succ k ih =>
            intro hk
            show sumF (fun i => if i ∈ l then 1 else 0) k + (if k ∈ l then 1 else 0) = sumF (fun i => if i ∈ l.erase n then 1 else 0) k + (if k ∈ l.erase n then 1 else 0)
            rw [ih (by omega)]
            have : k ∈ l ↔ k ∈ l.erase n := by rw [List.mem_erase_of_ne (by omega)]
            by_cases hk2 : k ∈ l
            · rw [if_pos hk2, if_pos (this.1 hk2)]
            · rw [if_neg hk2, if_neg (fun h => hk2 (this.2 h))]
        exact this n (Nat.le_refl _)
      rw [e, h1, List.length_erase_of_mem hn]
      have := List.length_pos_of_mem hn
      omega
    · rw [if_neg hn]
      have := sum_ind n l hd (fun i hi => by
        have h2 := h i hi
        have h3 : i ≠ n := fun e => by subst e; exact hn hi
        omega)
      omega
theorem take_nodup {R : Nat → Int} {n : Nat} {l : List Nat} (h : Shr.IsOrd R n l) (j : Nat) : (l.take j).Nodup := List.Nodup.sublist (List.take_sublist j l) h.nodup
/-- the parts add up -/
theorem parts_sum {T S : Int} {W : Nat → Int} {n : Nat} {l : List Nat} (hf : Fine T W n S) (h : Shr.IsOrd (rst T S W) n l) : sumF (PartF T S W l (T - sumF (quo T S W) n).toNat) n = T := by
  obtain ⟨b0, b1⟩ := Shr.left_bounds (T := T) (W := W) hf.s0 hf.sum
  have e : sumF (PartF T S W l (T - sumF (quo T S W) n).toNat) n = sumF (quo T S W) n + sumF (fun i => if i ∈ l.take (T - sumF (quo T S W) n).toNat then 1 else 0) n := sum_add _ _ n
  rw [e, sum_ind n _ (take_nodup h _) (fun i hi => h.mem.1 (List.mem_of_mem_take hi)), List.length_take, h.length]
  omega
/-- who stands before one that is taken is taken -/
theorem take_before {R : Nat → Int} {n j i k : Nat} {l : List Nat} (h : Shr.IsOrd R n l) (hi : i ∈ l.take j) (hb : Shr.Bef R k i) (hk : k < n) : k ∈ l.take j := by
  obtain ⟨p, hp, he⟩ := List.getElem_of_mem hi
  rw [List.length_take] at hp
  rw [List.getElem_take] at he
  obtain ⟨q, hq, he2⟩ := List.getElem_of_mem (h.mem.2 hk)
  by_cases hqp : q < p
  · rw [← he2]
    exact List.mem_take_iff_getElem.2 ⟨q, by omega, rfl⟩
  · exfalso
    by_cases e : q = p
    · subst e; rw [he] at he2; subst he2; exact Shr.bef_asymm hb hb
    · have := List.pairwise_iff_getElem.1 h.sorted p q (by omega) hq (by omega)
      rw [he, he2] at this
      exact Shr.bef_asymm hb this
/-- a part with a greater weight is not less -/
theorem parts_mono {T S : Int} {W : Nat → Int} {n i k : Nat} {l : List Nat} (hf : Fine T W n S) (h : Shr.IsOrd (rst T S W) n l) (hk : k < n) (hw : W i < W k) :
    PartF T S W l (T - sumF (quo T S W) n).toNat i ≤ PartF T S W l (T - sumF (quo T S W) n).toNat k := by
  have hs := hf.s0
  have h1 : T * W i ≤ T * W k := Int.mul_le_mul_of_nonneg_left (by omega) hf.t0
  have h2 : quo T S W i ≤ quo T S W k := Int.ediv_le_ediv hs h1
  unfold PartF
  by_cases e : i ∈ l.take (T - sumF (quo T S W) n).toNat
  · rw [if_pos e]
    by_cases e2 : quo T S W i < quo T S W k
    · split <;> omega
    · have e3 : quo T S W i = quo T S W k := by omega
      have e4 := Int.mul_ediv_add_emod (T * W i) S
      have e5 := Int.mul_ediv_add_emod (T * W k) S
      have e6 : T * W i / S = T * W k / S := e3
      rw [e6] at e4
      have hr : rst T S W i ≤ rst T S W k := by show T * W i % S ≤ T * W k % S; omega
      by_cases e7 : rst T S W i < rst T S W k
      · rw [if_pos (take_before h e (Or.inl e7) hk)]; omega
      · -- the rests are the same: T is 0, nothing is left
        exfalso
        have e8 : T * W i % S = T * W k % S := by
          have : rst T S W i = rst T S W k := by omega
          exact this
        have e9 : T * W i = T * W k := by omega
        have hT : T = 0 := by
          rcases Int.lt_or_eq_of_le hf.t0 with h0 | h0
          · exact absurd e9 (Int.ne_of_lt (Int.mul_lt_mul_of_pos_left hw h0))
          · exact h0.symm
        obtain ⟨a0, a1⟩ := hf.left n (Nat.le_refl _)
        have : (T - sumF (quo T S W) n).toNat = 0 := by omega
        rw [this] at e
        simp at e
  · rw [if_neg e]
    split <;> omega
set_option maxHeartbeats 4000000 in
set_option maxRecDepth 100000 in
theorem addup_any (T : Int) (a : Option Addr) (n cap : Nat) (W : Nat → Int) (w : World) (hr : Row1 w a n W) :
    Calls Try.prog 6 #[.int .i64 T, .slice a n cap] w (Whole w) := by
  have HT := Lib.hid (fun W => told_any W)
  have HR := Lib.hid hr
  have d1 := Lib.hid (share_any T a n cap W w hr)
  clear hr
  by_cases h0 : shareErr T W n = 0
  · have H0 := Lib.hid h0
    have hf := share_fine h0
    have HF := Lib.hid hf
    have hn0 := hf.pos
    have hn1 := hf.n1
    obtain ⟨S, hS⟩ : ∃ S, sumF W n = S := ⟨_, rfl⟩
    rw [hS] at HF
    have hs0 := HF.out.s0
    have hs1 := HF.out.s1
    have ht0 := HF.out.t0
    have ht1 := HF.out.t1
    have HS := Lib.hid hS
    obtain ⟨b, off, rfl, hbl, hc⟩ := HR.out.here hn0
    have HC := Lib.hid hc
    clear h0 hf hS hc
    go_enter Try.func6, Try.ntmps6
    go_wp2_with fail
    refine d1.out.mono ?_
    rintro e w1 ⟨hs, _, hb1⟩
    obtain ⟨l, g, ho, rfl, hrow, hg⟩ := hs H0.out
    rw [HS.out] at ho hrow
    have HB1 := Lib.hid hb1
    have FSUM := Lib.hid (parts_sum HF.out ho)
    have FMON := Lib.hid (fun i k (hk : k < n) (hw : W i < W k) => parts_mono HF.out ho hk hw)
    have FLO := Lib.hid (show ∀ i, i < n → quo T S W i ≤ PartF T S W l (T - sumF (quo T S W) n).toNat i ∧ PartF T S W l (T - sumF (quo T S W) n).toNat i ≤ quo T S W i + 1 from fun i _ => by unfold PartF; split <;> omega)
    have hw1 : Below w.heap.size w w1 := hb1
    have HCW := Lib.hid (fun i (hi : i < n) => (hw1.cell (p := ⟨b, off + i, none⟩) hbl).trans (HC.out i hi))
    have hbl1 : b < w1.heap.size := Nat.lt_of_lt_of_le hbl hb1.size
    generalize PartF T S W l (T - sumF (quo T S W) n).toNat = f at hrow FSUM FMON FLO
    have HROW := Lib.hid hrow
    have hgl := hrow.lt
    have FNN := Lib.hid (show ∀ i, i < n → 0 ≤ f i from fun i hi => by have := (FLO.out i hi).1; have := HF.out.quo_nn hi; omega)
    have FPS := Lib.hid (show ∀ k, k ≤ n → 0 ≤ sumF f k ∧ sumF f k ≤ T from fun k hk => ⟨(sum_mono FNN.out k hk).1, by rw [← FSUM.out]; exact (sum_mono FNN.out n (Nat.le_refl _)).2 k hk⟩)
    clear hs ho hrow hg hb1 hw1
    go_wp2_with fail
    go_loop [7, 8, 33] (fun av sv iv => ∃ (k : Nat), av = .int .i64 (sumF W k) ∧ sv = .int .i64 (sumF f k) ∧ iv = .int .i64 k ∧ k ≤ n) (fun _ _ iv => n - (intOf iv).toNat)
    case atStart => exact ⟨0, rfl, rfl, rfl, by omega⟩
    case round =>
      obtain ⟨k, rfl, rfl, rfl, hk⟩ := hrel
      by_cases hlt : k < n
      · have t1 : decide ((k : Int) < (n : Int)) = true := by rw [decide_eq_true_eq]; omega
        have c1 := HCW.out k hlt
        have c2 := HROW.out.cell hlt
        have p1 := HF.out.part (k + 1) (by omega)
        have p2 := HF.out.part k (by omega)
        have q1 := FPS.out (k + 1) (by omega)
        have q2 := FPS.out k (by omega)
        have e1 : sumF W (k + 1) = sumF W k + W k := rfl
        have e2 : sumF f (k + 1) = sumF f k + f k := rfl
        rw [e1] at p1
        rw [e2] at q1
        have E1 := Lib.hid e1
        have E2 := Lib.hid e2
        clear e1 e2
        generalize W k = x at c1 p1 E1
        generalize f k = y at c2 q1 E2
        go_wp2_with fail
        go_round
        case rel => exact ⟨k + 1, congrArg (Value.int .i64) E1.out.symm, congrArg (Value.int .i64) E2.out.symm, by go_num, by omega⟩
        case measure => simp [intOf]; omega
      · have t1 : decide ((k : Int) < (n : Int)) = false := by rw [decide_eq_false_iff_not]; omega
        have t1' : decide (k < n) = false := by simpa using hlt
        obtain rfl : k = n := by omega
        rw [HS.out, FSUM.out]
        clear hlt hk
        go_wp2_with fail
        go_loopw [50] (fun iv wr => ∃ (i : Nat), iv = .int .i64 i ∧ i ≤ k ∧ Hid (Below w1.heap.size w1 wr)) (fun iv _ => k - (intOf iv).toNat)
        case atStart => exact ⟨0, rfl, by omega, Lib.hid (Below.refl _ _)⟩
        case round =>
          obtain ⟨i, rfl, hi, WB⟩ := hrel
          by_cases hlt : i < k
          · have t2 : decide ((i : Int) < (k : Int)) = true := by rw [decide_eq_true_eq]; omega
            have c1 := (WB.out.cell (p := ⟨b, off + i, none⟩) hbl1).trans (HCW.out i hlt)
            obtain ⟨p0, p1⟩ := HF.out.prod hlt
            have w0 := HF.out.w0 i hlt
            have wS := HF.out.part (i + 1) (by omega)
            have wS2 := HF.out.part i (by omega)
            have hsW : sumF W (i + 1) = sumF W i + W i := rfl
            rw [hsW] at wS
            have HSC := rscale_any T (W i) S 1 wr (by omega) (by omega) (by omega) (by omega)
            rw [sc_down ht0 w0 hs0 p1, show T * W i / S = quo T S W i from rfl] at HSC
            unfold scRet at HSC
            have HSC := Lib.hid HSC
            obtain ⟨f0, f1⟩ := FLO.out i hlt
            have q0 := HF.out.quo_nn hlt
            have q1 := HF.out.quo_le hlt
            have FM := Lib.hid (fun m (hm : m < k) (hw : W i < W m) => FMON.out i m hm hw)
            have hsz := WB.out.size
            generalize quo T S W i = ex at HSC f0 f1 q0 q1
            generalize W i = x at c1 HSC FM
            have C2 := Lib.hid (HROW.out.cell hlt)
            generalize f i = y at f0 f1 FM C2
            have u1 : decide (y < ex) = false := by rw [decide_eq_false_iff_not]; omega
            have u2 : decide (ex + 1 < y) = false := by rw [decide_eq_false_iff_not]; omega
            clear hsW wS wS2 w0 p0 p1
            go_wp2_with fail
            refine HSC.out.mono ?_
            rintro e w2 ⟨rfl, hb2⟩
            have WB2 := Lib.hid (WB.out.trans (hb2.mono hsz))
            have c2 := (WB2.out.cell (p := ⟨g, i, none⟩) hgl).trans C2.out
            have hsz2 := WB2.out.size
            clear hb2
            go_wp2_with fail
            obtain ⟨wo, rfl⟩ : ∃ wo : World, wo = wr := ⟨_, rfl⟩
            go_loopw [79] (fun mv w3 => ∃ (m : Nat), mv = .int .i64 m ∧ m ≤ k ∧ Hid (∃ d, w3 = w2.drewN d)) (fun mv _ => k - (intOf mv).toNat)
            case atStart => exact ⟨0, rfl, by omega, Lib.hid ⟨0, rfl⟩⟩
            case round =>
              obtain ⟨m, rfl, hm, HWD⟩ := hrel
              obtain ⟨d, rfl⟩ := HWD.out
              by_cases hmk : m < k
              · have t3 : decide ((m : Int) < (k : Int)) = true := by rw [decide_eq_true_eq]; omega
                have cm : (w2.drewN d).cell? ⟨b, off + m, none⟩ = some (.int .i64 (W m)) := (WB2.out.cell (p := ⟨b, off + m, none⟩) hbl1).trans (HCW.out m hmk)
                have cf : (w2.drewN d).cell? ⟨g, m, none⟩ = some (.int .i64 (f m)) := (WB2.out.cell (p := ⟨g, m, none⟩) hgl).trans (HROW.out.cell hmk)
                have ci : (w2.drewN d).cell? ⟨g, i, none⟩ = some (.int .i64 y) := c2
                have FM2 := Lib.hid (FM.out m hmk)
                obtain ⟨w5, hw5⟩ : ∃ w5, w2.drewN d = w5 := ⟨_, rfl⟩
                rw [hw5] at cm cf ci ⊢
                have HW5 := Lib.hid hw5
                clear hw5
                generalize W m = xm at cm FM2
                generalize f m = ym at cf FM2
                by_cases hx : x < xm
                · have t4 : decide (x < xm) = true := by simpa using hx
                  have hy := FM2.out hx
                  have t5 : decide (ym < y) = false := by rw [decide_eq_false_iff_not]; omega
                  clear hx hy
                  go_wp2_with fail
                  go_quiet (fail)
                  go_wp2_with fail
                  go_roundw
                  case rel => exact ⟨m + 1, by go_num, by omega, Lib.hid ⟨d + nq, by rw [← HW5.out, World.drewN_drewN]⟩⟩
                  case measure => simp [intOf]; omega
                · have t4 : decide (x < xm) = false := by simpa using hx
                  clear hx
                  go_wp2_with fail
                  go_quiet (fail)
                  go_wp2_with fail
                  go_roundw
                  case rel => exact ⟨m + 1, by go_num, by omega, Lib.hid ⟨d + nq, by rw [← HW5.out, World.drewN_drewN]⟩⟩
                  case measure => simp [intOf]; omega
              · have t3 : decide ((m : Int) < (k : Int)) = false := by rw [decide_eq_false_iff_not]; omega
                have t3' : decide (m < k) = false := by simpa using hmk
                clear hmk
                go_wp2_with fail
                go_roundw
                case rel => exact ⟨i + 1, by go_num, by omega, Lib.hid (below_drewN WB2.out d)⟩
                case measure => simp [intOf]; omega
          · have t2 : decide ((i : Int) < (k : Int)) = false := by rw [decide_eq_false_iff_not]; omega
            have t2' : decide (i < k) = false := by simpa using hlt
            clear hlt
            go_wp2_with fail
            refine (HT.out _).mono ?_
            rintro e w4 ⟨rfl, hb4⟩
            have HB4 := Lib.hid (HB1.out.trans ((WB.out.trans (hb4.mono WB.out.size)).mono HB1.out.size))
            clear hb4
            go_wp2_with fail
            go_ret
            exact ⟨rfl, HB4.out⟩
  · have H0 := Lib.hid h0
    clear h0
    go_enter Try.func6, Try.ntmps6
    go_wp2_with fail
    refine d1.out.mono ?_
    rintro e w1 ⟨_, hs, hb1⟩
    obtain rfl := hs H0.out
    have hne := H0.out
    have HB1 := Lib.hid hb1
    clear hs hb1 d1 H0
    generalize shareErr T W n = er at hne ⊢
    have t1 : (er != 0) = true := by simpa using hne
    clear hne
    go_wp2_with fail
    refine (HT.out _).mono ?_
    rintro e w4 ⟨rfl, hb4⟩
    have HB4 := Lib.hid (HB1.out.trans (hb4.mono HB1.out.size))
    clear hb4
    go_wp2_with fail
    go_ret
    exact ⟨rfl, HB4.out⟩
end Go.Proofs.Ythcddmjgehcgaaa
