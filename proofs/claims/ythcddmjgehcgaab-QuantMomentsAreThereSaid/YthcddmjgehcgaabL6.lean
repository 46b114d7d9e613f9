/- The law QuantMomentsAreThere: its walk. -/
import Derived.Test.YthcddmjgehcgaabJ9
import Derived.Deep.QuietTactic
import Derived.BigQuiet
namespace Go.Proofs.Ythcddmjgehcgaab
open Go.RowKit Go.BigFrame

/-- what Local tells of a moment that Moments gathers -/
theorem offF_cand {first moment : Int} {F O : Nat → Int} : ∀ {len : Nat}, ∃ k, k ≤ len ∧ offF first moment F O len = candO first O k
  | 0 => ⟨0, Nat.le_refl _, rfl⟩
  | k + 1 => by
    rw [offF]
    split
    · exact ⟨k + 1, Nat.le_refl _, rfl⟩
    · obtain ⟨j, hj, e⟩ := offF_cand (first := first) (moment := moment) (F := F) (O := O) (len := k)
      exact ⟨j, by omega, e⟩
theorem mem_gathL {first : Int} {F O : Nat → Int} {len : Nat} {day second x : Int} : ∀ {n : Nat}, x ∈ gathL first F O len day second n ↔ ∃ k, k < n ∧ momGood first F O len day second (candO first O k) = true ∧ x = momOf day second (candO first O k)
  | 0 => by simp [gathL]
  | n + 1 => by
    have ih := mem_gathL (first := first) (F := F) (O := O) (len := len) (day := day) (second := second) (x := x) (n := n)
    rw [gathL]
    split
    · rename_i h
      rw [List.mem_append, ih, List.mem_singleton]
      constructor
      · rintro (⟨k, h1, h2, h3⟩ | h1)
        · exact ⟨k, by omega, h2, h3⟩
        · exact ⟨n, by omega, h, h1⟩
      · rintro ⟨k, h1, h2, h3⟩
        by_cases e : k = n
        · subst e; exact Or.inr h3
        · exact Or.inl ⟨k, by omega, h2, h3⟩
    · rename_i h
      rw [ih]
      constructor
      · rintro ⟨k, h1, h2, h3⟩; exact ⟨k, by omega, h2, h3⟩
      · rintro ⟨k, h1, h2, h3⟩
        by_cases e : k = n
        · subst e; exact absurd h2 h
        · exact ⟨k, by omega, h2, h3⟩
theorem local_facts {first : Int} {F O : Nat → Int} {len : Nat} {moment day second : Int} (h : localR first F O len moment = (day, second, 0)) :
    momErr first F O len day second = 0 ∧ moment ∈ momList first F O len day second ∧ (momList first F O len day second).Pairwise (· < ·) ∧ ∀ m, m ∈ momList first F O len day second → localR first F O len m = (day, second, 0) := by
  unfold localR at h
  split at h
  · rename_i h0
    obtain ⟨hm, ho, hc⟩ := offsetR_bounds _ _ _ _ _ h0
    have hov : (offsetR first F O len moment).1 = offF first moment F O len := by unfold offsetR; rw [if_pos hc, if_pos hm]
    rw [hov] at h ho
    split at h
    · rename_i h1
      obtain ⟨m0, m1⟩ := momB_true h1
      obtain ⟨g0, g1⟩ := momB_true hm
      simp only [Prod.mk.injEq, and_true] at h
      obtain ⟨hday, hsec⟩ := h
      have he : momErr first F O len day second = 0 := by
        unfold momErr
        rw [if_pos hc, if_pos ⟨by unfold dayB; simp; omega, by omega, by omega⟩]
      have hsum : day * 86400 + second = moment + 60 * offF first moment F O len := by omega
      have hl : momList first F O len day second = Lib.compact ((gathL first F O len day second (len + 1)).mergeSort fun x y => decide (x ≤ y)) := by unfold momList; rw [if_pos he]
      have hmem : ∀ x, x ∈ momList first F O len day second ↔ x ∈ gathL first F O len day second (len + 1) := fun x => by rw [hl, mem_compact, List.mem_mergeSort]
      refine ⟨he, ?_, ?_, ?_⟩
      · rw [hmem, mem_gathL]
        obtain ⟨k, hk, e⟩ := offF_cand (first := first) (moment := moment) (F := F) (O := O) (len := len)
        have em : momOf day second (candO first O k) = moment := by unfold momOf; rw [← e]; omega
        refine ⟨k, by omega, ?_, em.symm⟩
        unfold momGood
        rw [em, hm, e]
        simp
      · rw [hl]; exact compact_strict (sort_pairwise _)
      · intro m hin
        rw [hmem, mem_gathL] at hin
        obtain ⟨k, _, hg, rfl⟩ := hin
        unfold momGood at hg
        rw [Bool.and_eq_true, beq_iff_eq] at hg
        obtain ⟨hg1, hg2⟩ := hg
        have ev : offsetR first F O len (momOf day second (candO first O k)) = (candO first O k, 0) := by unfold offsetR; rw [if_pos hc, if_pos hg1, hg2]
        have es : momOf day second (candO first O k) + 60 * candO first O k = moment + 60 * offF first moment F O len := by unfold momOf; omega
        unfold localR
        rw [ev]
        simp only
        rw [if_pos trivial, es, if_pos h1, hday, hsec]
    · simp at h
  · rename_i h0
    simp only [Prod.mk.injEq] at h
    exact absurd h.2.2 h0
def SrtRel (w : World) (L : List Int) (iv : Value) (wr : World) : Prop := ∃ (q : Int), iv = .int .i64 q ∧ -1 ≤ q ∧ q < (L.length : Int) ∧ Hid (∃ k, wr = w.drewN k)
set_option maxHeartbeats 1000000 in
set_option maxRecDepth 100000 in
theorem isSorted_any (v : Value) (L : List Int) (w : World) (h : IntsAt w v L) (hs : L.Pairwise (· < ·)) (hl : L.length ≤ 1000) :
    Calls Try.prog 8 #[v] w fun e w' => e = .returned (.bool true) ∧ Below w.heap.size w w' := by
  obtain ⟨a, c, rfl, _, hx⟩ := h
  have HX := Lib.hid hx
  have HS := Lib.hid hs
  clear hx hs
  go_enter Try.func8, Try.ntmps8
  go_wp2_with fail
  go_loopw [3] (fun iv wr => SrtRel w L iv wr) (fun iv _ => (intOf iv + 1).toNat)
  case atStart => exact ⟨_, rfl, by omega, by omega, Lib.hid ⟨0, rfl⟩⟩
  case round =>
    obtain ⟨q, rfl, hq0, hq1, HW⟩ := hrel
    by_cases h0 : 0 < q
    · obtain ⟨kp, rfl⟩ : ∃ kp : Nat, q = (kp : Int) + 1 := ⟨(q - 1).toNat, by omega⟩
      obtain ⟨k, rfl⟩ := HW.out
      have t1 : decide ((0 : Int) < (kp : Int) + 1) = true := by rw [decide_eq_true_eq]; omega
      have hidx : ((kp : Int) + 1).toNat = kp + 1 := by omega
      obtain ⟨b, rfl, _, hc⟩ := HX.out (by omega)
      have c1 := hc (kp + 1) (by omega)
      have c2 := hc kp (by omega)
      have hlt : ¬ L.getD (kp + 1) 0 < L.getD kp 0 := by
        have h1 : kp < L.length := by omega
        have h2 : kp + 1 < L.length := by omega
        have := List.pairwise_iff_getElem.1 HS.out kp (kp + 1) h1 h2 (by omega)
        rw [List.getD_eq_getElem?_getD, List.getD_eq_getElem?_getD, List.getElem?_eq_getElem h1, List.getElem?_eq_getElem h2]
        simp only [Option.getD_some]
        omega
      generalize L.getD (kp + 1) 0 = x at c1 hlt
      generalize L.getD kp 0 = y at c2 hlt
      have c1' : (w.drewN k).cell? ⟨b, kp + 1, none⟩ = some (.int .i64 x) := c1
      have c2' : (w.drewN k).cell? ⟨b, kp, none⟩ = some (.int .i64 y) := c2
      have hl1 : kp + 1 < L.length := by omega
      obtain ⟨w5, hw5⟩ : ∃ w5, w.drewN k = w5 := ⟨_, rfl⟩
      rw [hw5] at c1' c2' ⊢
      have HD := Lib.hid hw5
      clear c1 c2 hc h0 hw5
      have HC := Lib.hid (fun q => Try.cmp_Less_int2 x y (w5.drewN q))
      have hdl : decide (x < y) = false := by simpa using hlt
      rw [hdl] at HC
      clear hlt hdl
      go_wp2_with fail
      go_quiet ((go_at_call 20; exact Calls.quiet_of_same (HC.out _)))
      go_wp2_with fail
      go_roundw
      case rel => exact ⟨kp, rfl, by omega, by omega, Lib.hid ⟨k + nq, by rw [← HD.out, World.drewN_drewN]⟩⟩
      case measure => simp only [intOf]; omega
    · have t1 : decide ((0 : Int) < q) = false := by rw [decide_eq_false_iff_not]; omega
      obtain ⟨k, rfl⟩ := HW.out
      go_wp2_with fail
      go_ret
      exact ⟨rfl, below_drewN (Below.refl _ _) k⟩
theorem contains_ints {w : World} {v : Value} {L : List Int} {x : Int} (hl : L.length ≤ 1000) (h : IntsAt w v L) (hx : x ∈ L) :
    Calls Try.prog 7 #[v, .int .i64 x] w fun e w' => e = .returned (.bool true) ∧ Below w.heap.size w w' := by
  obtain ⟨a, c, rfl, hc, hc2⟩ := h
  obtain ⟨b, rfl, _, hc3⟩ := hc2 (List.length_pos_of_mem hx)
  refine (Try.slices_Contains_int b 0 L.length c L x w (Nat.le_refl _) (by omega) (fun j hj => by rw [Nat.zero_add]; exact hc3 j hj)).mono ?_
  rintro e w1 ⟨rfl, rfl⟩
  exact ⟨ret_bool (by rw [List.take_length]; simpa using hx), Below.refl _ _⟩
theorem momList_le (first : Int) (F O : Nat → Int) (len : Nat) (day second : Int) : (momList first F O len day second).length ≤ 1000 := by
  unfold momList
  split
  · rename_i h
    have h1 : chk first F O len = 0 := by
      unfold momErr at h
      split at h
      · assumption
      · exact h
    have := Lib.compact_length_le ((gathL first F O len day second (len + 1)).mergeSort fun x y => decide (x ≤ y))
    rw [List.length_mergeSort] at this
    have := gathL_le first F O len day second (len + 1)
    have := (chk_zero h1).1
    omega
  · simp

set_option maxHeartbeats 2000000 in
set_option maxRecDepth 100000 in
theorem there_any (first moment : Int) (a : Option Addr) (len cap : Nat) (F O : Nat → Int) (w : World) (hr : Rows2 w a len F O) :
    Calls Try.prog 3 #[.agg #[.int .i64 first, .slice a len cap], .int .i64 moment] w (Whole w) := by
  have HT := Lib.hid (fun W => told_any W)
  have d1 := Lib.hid (fun W (h : Below w.heap.size w W) => local_any first moment a len cap F O W (hr.below h (Nat.le_refl _)))
  have d3 := Lib.hid (fun m W (h : Below w.heap.size w W) => local_any first m a len cap F O W (hr.below h (Nat.le_refl _)))
  have hw1 : Below w.heap.size w (w.alloc (.cells #[.int .i64 first, .slice a len cap] 24)) := (Below.refl _ _).alloc (Nat.le_refl _) _
  have hc0 : (w.alloc (.cells #[.int .i64 first, .slice a len cap] 24)).cell? ⟨w.heap.size, 0, none⟩ = some (.int .i64 first) := by rw [World.cell?_alloc_at _ _ _ _ rfl]; rfl
  have hc1 : (w.alloc (.cells #[.int .i64 first, .slice a len cap] 24)).cell? ⟨w.heap.size, 1, none⟩ = some (.slice a len cap) := by rw [World.cell?_alloc_at _ _ _ _ rfl]; rfl
  have hz0 : w.heap.size < (w.alloc (.cells #[.int .i64 first, .slice a len cap] 24)).heap.size := by simp
  obtain ⟨p, hp⟩ : ∃ p, localR first F O len moment = p := ⟨_, rfl⟩
  obtain ⟨day, second, z⟩ := p
  rw [hp] at d1
  unfold tri at d1
  by_cases hz : z = 0
  · subst hz
    obtain ⟨he, hmem, hsrt, hall⟩ := local_facts hp
    have hL := momList_le first F O len day second
    have d2 := Lib.hid (fun W (h : Below w.heap.size w W) => moments_any first day second a len cap F O W (hr.below h (Nat.le_refl _)))
    have d4 := Lib.hid (fun m (hm : m ∈ momList first F O len day second) W (h : Below w.heap.size w W) => by have := d3.out m W h; rw [hall m hm] at this; exact this)
    rw [he] at d2
    unfold tri at d4
    generalize momList first F O len day second = L at d2 d4 hmem hsrt hL
    have HMEM := Lib.hid hmem
    have HSRT := Lib.hid hsrt
    clear hr hp hall he d3 hmem hsrt
    go_enter Try.func3, Try.ntmps3
    go_wp2_with fail
    generalize (w.alloc (.cells #[.int .i64 first, .slice a len cap] 24)) = w1 at hw1 hc0 hc1 hz0 ⊢
    have K1 := Lib.hid hw1
    clear hw1
    refine (d1.out _ K1.out).mono ?_
    rintro e w2 ⟨rfl, hb⟩
    have hc0 := (hb.cell (p := ⟨w.heap.size, 0, none⟩) hz0).trans hc0
    have hc1 := (hb.cell (p := ⟨w.heap.size, 1, none⟩) hz0).trans hc1
    have K2 := Lib.hid (K1.out.trans (hb.mono K1.out.size))
    have hz0 := Nat.lt_of_lt_of_le hz0 hb.size
    clear hb
    go_wp2_with fail
    refine (d2.out _ K2.out).mono ?_
    rintro e w3 ⟨⟨v, rfl, hi⟩, hb⟩
    have hc0 := (hb.cell (p := ⟨w.heap.size, 0, none⟩) hz0).trans hc0
    have hc1 := (hb.cell (p := ⟨w.heap.size, 1, none⟩) hz0).trans hc1
    have K3 := Lib.hid (K2.out.trans (hb.mono K2.out.size))
    have HZ0 := Lib.hid (Nat.lt_of_lt_of_le hz0 hb.size)
    have C0 := Lib.hid (show w3.cell? ⟨w.heap.size, 0, none⟩ = some (.int .i64 first) from hc0)
    have C1 := Lib.hid (show w3.cell? ⟨w.heap.size, 1, none⟩ = some (.slice a len cap) from hc1)
    have I3 := Lib.hid hi
    obtain ⟨va, vc, rfl, _, _⟩ := hi
    clear hb hc0 hc1
    go_wp2_with fail
    go_loopw [34] (fun jv wr => ∃ (j : Nat), jv = .int .i64 j ∧ j ≤ L.length ∧ Hid (Below w3.heap.size w3 wr)) (fun jv _ => L.length - (intOf jv).toNat)
    case atStart => exact ⟨0, rfl, by omega, Lib.hid (Below.refl _ _)⟩
    case round =>
      obtain ⟨j, rfl, hj, HB⟩ := hrel
      by_cases hjl : j < L.length
      · have t1 : decide ((j : Int) < (L.length : Int)) = true := by rw [decide_eq_true_eq]; omega
        have hIr := I3.out.below HB.out (Nat.le_refl _)
        obtain ⟨a', c', hv, _, hx⟩ := hIr
        obtain ⟨b, hva, _, hc⟩ := hx (by omega)
        obtain rfl : va = some ⟨b, 0, none⟩ := by injection hv with h1 _ _; rw [h1, hva]
        have c1 := hc j hjl
        have hm : L.getD j 0 ∈ L := by
          rw [List.getD_eq_getElem?_getD, List.getElem?_eq_getElem hjl]
          exact List.getElem_mem _
        have z0 := (HB.out.cell (p := ⟨w.heap.size, 0, none⟩) HZ0.out).trans C0.out
        have z1 := (HB.out.cell (p := ⟨w.heap.size, 1, none⟩) HZ0.out).trans C1.out
        have D := Lib.hid (d4.out _ hm wr (K3.out.trans (HB.out.mono K3.out.size)))
        generalize L.getD j 0 = x at c1 D
        clear hc hx hv hva hm
        go_wp2_with fail
        refine D.out.mono ?_
        rintro e w4 ⟨rfl, hb4⟩
        have HB4 := Lib.hid (HB.out.trans (hb4.mono HB.out.size))
        clear hb4
        go_wp2_with fail
        go_roundw
        case rel => exact ⟨j + 1, by go_num, by omega, HB4⟩
        case measure => simp [intOf]; omega
      · have t1 : decide ((j : Int) < (L.length : Int)) = false := by rw [decide_eq_false_iff_not]; omega
        have t1' : decide (j < L.length) = false := by simpa using hjl
        have I4 := Lib.hid (I3.out.below HB.out (Nat.le_refl _))
        clear hjl
        go_wp2_with fail
        refine (contains_ints hL I4.out HMEM.out).mono ?_
        rintro e w4 ⟨rfl, hb4⟩
        have I5 := Lib.hid (I4.out.below hb4 (Nat.le_refl _))
        have HB4 := Lib.hid (HB.out.trans (hb4.mono HB.out.size))
        clear hb4
        go_wp2_with fail
        refine (isSorted_any _ L _ I5.out HSRT.out hL).mono ?_
        rintro e w5 ⟨rfl, hb5⟩
        have HB5 := Lib.hid (HB4.out.trans (hb5.mono HB4.out.size))
        clear hb5
        go_wp2_with fail
        refine (HT.out _).mono ?_
        rintro e w6 ⟨rfl, hb6⟩
        have HB6 := Lib.hid (HB5.out.trans (hb6.mono HB5.out.size))
        clear hb6
        go_wp2_with fail
        go_ret
        exact ⟨rfl, K3.out.trans (HB6.out.mono K3.out.size)⟩
  · have hz' : (z != 0) = true := by simpa using hz
    clear hr hp d3 hz
    go_enter Try.func3, Try.ntmps3
    go_wp2_with fail
    generalize (w.alloc (.cells #[.int .i64 first, .slice a len cap] 24)) = w1 at hw1 hc0 hc1 hz0 ⊢
    have K1 := Lib.hid hw1
    clear hw1
    refine (d1.out _ K1.out).mono ?_
    rintro e w2 ⟨rfl, hb⟩
    have K2 := Lib.hid (K1.out.trans (hb.mono K1.out.size))
    clear hb
    go_wp2_with fail
    refine (HT.out _).mono ?_
    rintro e w3 ⟨rfl, hb⟩
    have K3 := Lib.hid (K2.out.trans (hb.mono K2.out.size))
    clear hb
    go_wp2_with fail
    go_ret
    exact ⟨rfl, K3.out⟩
end Go.Proofs.Ythcddmjgehcgaab
