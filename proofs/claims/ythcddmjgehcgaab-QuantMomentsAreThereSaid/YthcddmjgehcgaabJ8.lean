/- Zones: Moments of the program: its walk. -/
import Derived.Test.YthcddmjgehcgaabJ7
namespace Go.Proofs.Ythcddmjgehcgaab
open Go.RowKit Go.BigFrame

theorem Gath.alloc {w : World} {Ob : Nat} {L : List Int} (h : Gath w Ob L) (o : Obj) : Gath (w.alloc o) Ob L := by
  obtain ⟨v, h1, h2⟩ := h.ex
  exact ⟨v, (Below.heap_alloc w o Ob (lt_of_block h1)).trans h1, h2.alloc o⟩

set_option maxHeartbeats 2000000 in
set_option maxRecDepth 100000 in
theorem moments_any (first day second : Int) (a : Option Addr) (len cap : Nat) (F O : Nat → Int) (w : World) (hr : Rows2 w a len F O) :
    Calls Try.prog 6 #[.agg #[.int .i64 first, .slice a len cap], .int .i64 day, .int .i64 second] w fun e w' =>
      (∃ v, e = .returned (.tuple #[v, .int .i64 (momErr first F O len day second)]) ∧ IntsAt w' v (momList first F O len day second)) ∧ Below w.heap.size w w' := by
  have hmf : ∀ fn first cap w, (Instr.makeFunc fn first cap).run Try.prog w = .ok (.func fn first cap) w := fun _ _ _ _ => rfl
  have HR := Lib.hid hr
  have hw3 : Below w.heap.size w (((w.alloc (.cells #[.int .i64 first, .slice a len cap] 24)).alloc (.cells #[.int .i64 day] 3)).alloc (.cells #[.int .i64 second] 3)) :=
    (((Below.refl _ _).alloc (Nat.le_refl _) _).alloc (by simp) _).alloc (by simp; omega) _
  have HR3 := hr.below hw3 (Nat.le_refl _)
  have hc := Lib.hid (checkZone_any first a len cap F O _ HR3)
  have HW3 := Lib.hid hw3
  clear hr HR3 hw3
  have hd := Lib.hid (isDay_any day)
  by_cases h0 : chk first F O len = 0
  · rw [h0] at hc
    by_cases h1 : dayB day = true ∧ 0 ≤ second ∧ second ≤ 86399
    · have he : momErr first F O len day second = 0 := by unfold momErr; rw [if_pos h0, if_pos h1]
      have hl : momList first F O len day second = Lib.compact ((gathL first F O len day second (len + 1)).mergeSort fun x y => decide (x ≤ y)) := by unfold momList; rw [he, if_pos rfl]
      rw [he, hl]
      obtain ⟨hdd, s0, s1⟩ := h1
      obtain ⟨d0, d1⟩ := dayB_true hdd
      obtain ⟨hlen, hof, hch⟩ := chk_zero h0
      obtain ⟨of0, of1⟩ := outB_false hof
      have hl : (len : Int) ≤ 200 := by omega
      have Hch := Lib.hid hch
      rw [hdd] at hd
      have t1 : decide (second < 0) = false := by rw [decide_eq_false_iff_not]; omega
      have t2 : decide (86400 ≤ second) = false := by rw [decide_eq_false_iff_not]; omega
      clear h0 he hdd hof hch
      go_enter Try.func6, Try.ntmps6
      go_wp2_with fail
      refine hc.out.mono ?_
      rintro e w1 ⟨rfl, hb1⟩
      have HB1 := Lib.hid (HW3.out.trans (hb1.mono (by simp; omega)))
      have hs1 : w.heap.size + 3 ≤ w1.heap.size := by have := hb1.size; simpa using this
      have hs2 : w.heap.size < w1.heap.size := by omega
      have hs3 : w.heap.size + 1 < w1.heap.size := by omega
      have hs4 : w.heap.size + 1 + 1 < w1.heap.size := by omega
      have cD : w1.cell? ⟨w.heap.size + 1, 0, none⟩ = some (.int .i64 day) := by
        rw [hb1.cell (p := ⟨w.heap.size + 1, 0, none⟩) (by simp)]
        rw [World.cell?_alloc_past _ _ _ (by simp), World.cell?_alloc_at _ _ _ _ (by simp)]; rfl
      have cS : w1.cell? ⟨w.heap.size + 2, 0, none⟩ = some (.int .i64 second) := by
        rw [hb1.cell (p := ⟨w.heap.size + 2, 0, none⟩) (by simp)]
        rw [World.cell?_alloc_at _ _ _ _ (by simp)]; rfl
      have cZ : ∀ i, w1.cell? ⟨w.heap.size, i, none⟩ = (#[.int .i64 first, .slice a len cap] : Array Value)[i]? := by
        intro i
        rw [hb1.cell (p := ⟨w.heap.size, i, none⟩) (by simp; omega)]
        rw [World.cell?_alloc_past _ _ _ (by simp; omega), World.cell?_alloc_past _ _ _ (by simp), World.cell?_alloc_at _ _ _ _ rfl]
      have cZ0 : w1.cell? ⟨w.heap.size, 0, none⟩ = some (.int .i64 first) := cZ 0
      have cZ1 : w1.cell? ⟨w.heap.size, 1, none⟩ = some (.slice a len cap) := cZ 1
      clear hb1 cZ
      go_wp2_with fail
      refine (hd.out _).mono ?_
      rintro e w2 ⟨rfl, rfl⟩
      go_wp2_with fail
      have hA : Below w1.heap.size w1 (w1.alloc (.cells #[.slice none 0 0] 29)) := (Below.refl _ _).alloc (Nat.le_refl _) _
      have hRw1 := HR.out.below HB1.out (Nat.le_refl _)
      have g0 : Gath (w1.alloc (.cells #[.slice none 0 0] 29)) w1.heap.size [] := ⟨_, heap_alloc_new w1 _, World.ownsRow_nil _ _ _ _⟩
      refine (gather_any first day second first a len cap F O (w.heap.size + 1) (w.heap.size + 1 + 1) w.heap.size w1.heap.size [] _ of0 of1 d0 d1 s0 s1 hl
        ((hA.cell (p := ⟨w.heap.size + 1, 0, none⟩) hs3).trans cD) ((hA.cell (p := ⟨w.heap.size + 2, 0, none⟩) hs4).trans cS)
        ((hA.cell (p := ⟨w.heap.size, 0, none⟩) hs2).trans cZ0) ((hA.cell (p := ⟨w.heap.size, 1, none⟩) hs2).trans cZ1) (hRw1.below hA (Nat.le_refl _)) g0 (by simp)).mono ?_
      rintro e w2 ⟨rfl, hG, hb2⟩
      have HG := Lib.hid (show Gath w2 w1.heap.size (gathL first F O len day second 1) from hG)
      have HB2 := Lib.hid (hA.trans hb2)
      have cZ1b := (HB2.out.cell (p := ⟨w.heap.size, 1, none⟩) hs2).trans cZ1
      have HRw1 := Lib.hid hRw1
      clear hA hb2 hG g0 hRw1
      go_wp2_with fail
      go_loopw [37] (fun iv wr => ∃ (k : Nat), iv = .int .i64 k ∧ k ≤ len ∧ Hid (Gath wr w1.heap.size (gathL first F O len day second (k + 1))) ∧ Hid (Below w1.heap.size w1 wr)) (fun iv _ => len - (intOf iv).toNat)
      case atStart => exact ⟨0, rfl, by omega, HG, HB2⟩
      case round =>
        obtain ⟨k, rfl, hk, HGr, HBr⟩ := hrel
        by_cases hlt : k < len
        · have t3 : decide ((k : Int) < (len : Int)) = true := by rw [decide_eq_true_eq]; omega
          have hRr := HRw1.out.below HBr.out (Nat.le_refl _)
          obtain ⟨b, off, rfl, hbl, hcc⟩ := hRr.here (by omega)
          obtain ⟨c0, c1⟩ := hcc k hlt
          clear hcc
          have hsr := HBr.out.size
          have hB3 : Below w1.heap.size w1 (wr.alloc (.cells #[.int .i64 (F k), .int .i64 (O k)] 44)) := HBr.out.alloc hsr _
          obtain ⟨ok0, ok1⟩ := outB_false (Hch.out k hlt).2.1
          have hlen2 := gathL_le first F O len day second (k + 1)
          have Hlen2 := Lib.hid hlen2
          have HRr := Lib.hid hRr
          clear hRr hlen2
          go_wp2_with fail
          refine (gather_any (O k) day second first _ len cap F O (w.heap.size + 1) (w.heap.size + 1 + 1) w.heap.size w1.heap.size (gathL first F O len day second (k + 1)) _ ok0 ok1 d0 d1 s0 s1 hl
            ((hB3.cell (p := ⟨w.heap.size + 1, 0, none⟩) hs3).trans cD) ((hB3.cell (p := ⟨w.heap.size + 2, 0, none⟩) hs4).trans cS)
            ((hB3.cell (p := ⟨w.heap.size, 0, none⟩) hs2).trans cZ0) ((hB3.cell (p := ⟨w.heap.size, 1, none⟩) hs2).trans cZ1) (HRw1.out.below hB3 (Nat.le_refl _)) (HGr.out.alloc _) (by have := Hlen2.out; omega)).mono ?_
          rintro e w3 ⟨rfl, hG3, hb3⟩
          have HG3 := Lib.hid (show Gath w3 w1.heap.size (gathL first F O len day second (k + 1 + 1)) from hG3)
          have HB3 := Lib.hid (hB3.trans hb3)
          clear hB3 hb3 hG3
          go_wp2_with fail
          go_roundw
          case rel => exact ⟨k + 1, by go_num, by omega, HG3, HB3⟩
          case measure => simp [intOf]; omega
        · have t3 : decide ((k : Int) < (len : Int)) = false := by rw [decide_eq_false_iff_not]; omega
          have t3' : decide (k < len) = false := by simpa using hlt
          have hkl : k = len := by omega
          subst hkl
          have hlen2 := gathL_le first F O k day second (k + 1)
          obtain ⟨L, hLe⟩ : ∃ L, gathL first F O k day second (k + 1) = L := ⟨_, rfl⟩
          rw [hLe] at HGr hlen2
          have HLe := Lib.hid hLe
          clear hLe
          have hsr := HBr.out.size
          have HB4 := Lib.hid (HB1.out.trans (HBr.out.mono (by omega)))
          obtain ⟨v, hv1, hv2⟩ := HGr.out.ex
          have cO := cell_of_one hv1
          have hOl := lt_of_block hv1
          have H1 := Lib.hid hv1
          clear hlt hv1
          by_cases hv : v = .slice none 0 0
          · subst hv
            have hL : L = [] := by
              rcases hv2.2 with ⟨_, h⟩ | ⟨g, c, cur, h, _⟩
              · exact List.length_eq_zero_iff.1 h
              · cases h
            subst hL
            clear hv2
            go_wp2_with fail
            refine (Try.slices_Sort_int_none none 0 wr).mono ?_
            rintro e w4 ⟨rfl, rfl⟩
            go_wp2_with fail
            refine (Try.slices_Compact_int_empty none 0 w4).mono ?_
            rintro e w5 ⟨rfl, rfl⟩
            go_wp2_with fail
            go_ret2
            exact ⟨⟨_, rfl, by rw [HLe.out]; simpa [Lib.compact, Lib.compactUpTo] using IntsAt.nil _⟩, HB4.out⟩
          · obtain ⟨g, c, rfl, hg0, hg1, hn, hm, _, hH⟩ := Lib.holds_of_ownsRow hv2 hv
            have HO := Lib.hid hv2
            clear hv hv2
            go_wp2_with fail
            refine (Try.slices_Sort_int g 0 c L wr hH hg1 (by omega)).mono ?_
            rintro e w4 ⟨rfl, n, os, hw4⟩
            have hgr : wr.grownBy w4 (some g) := by rw [hw4]; exact grownBy_sortedI _
            have hO4 : w4.ownsRow (w1.heap.size + 1) 3 1 (.slice (some ⟨g, 0, none⟩) L.length c) L.length ((L.mergeSort fun x y => decide (x ≤ y)).map (Value.int .i64)) := by
              rcases HO.out.2 with ⟨h, _⟩ | ⟨g', c', cur, h, hb, hgg, hnn, hmm, hcs, _⟩
              · cases h
              · injection h with h1 _ h3
                injection h1 with h1
                injection h1 with h1
                subst h1; subst h3
                rw [hw4]
                exact ownsRow_sortedI (by simp) hb hgg hnn hmm hcs
            have hB5 : Below w.heap.size w w4 := HB4.out.grown hgr (by omega) (by rintro _ ⟨rfl⟩; omega)
            have h4 := (hgr.block w1.heap.size hOl (by simp; omega)).trans H1.out
            have cO4 := cell_of_one h4
            have HB5 := Lib.hid hB5
            have hs5 := hgr.size
            clear hw4 h4 hgr hB5 hH
            have hsl : (L.mergeSort fun x y => decide (x ≤ y)).length = L.length := by simp
            rw [← hsl] at hO4 cO4
            obtain ⟨M, hMe⟩ : ∃ M, (L.mergeSort fun x y => decide (x ≤ y)) = M := ⟨_, rfl⟩
            rw [hMe] at hO4 hsl cO4
            have HMe := Lib.hid hMe
            have hML : M.length ≤ 1000 := by omega
            clear hMe hsl
            obtain ⟨g', c', hgc, _, hg41, hn4, hm4, _, hH4⟩ := Lib.holds_of_ownsRow hO4 (by simp)
            obtain ⟨rfl, rfl⟩ : g = g' ∧ c = c' := by
              injection hgc with h1 _ h3
              injection h1 with h1
              injection h1 with h1
              exact ⟨h1, h3⟩
            have HO4 := Lib.hid hO4
            clear hgc hO4
            go_wp2_with fail
            refine (Try.slices_Compact_int g 0 c M w4 hH4 (by omega) hn4).mono ?_
            rintro e w5 ⟨rfl, q, hw5⟩
            have hcl : (Lib.compact M).length ≤ M.length := Lib.compact_length_le M
            have hO5 : w5.ownsRow (w1.heap.size + 1) 3 1 (.slice (some ⟨g, 0, none⟩) (Lib.compact M).length c) (Lib.compact M).length ((Lib.compact M).map (Value.int .i64)) := by
              have h := Lib.ownsRow_putRow (q := q) (k := (Lib.compact M).length) (ys := Lib.compact M ++ List.replicate (M.length - (Lib.compact M).length) 0) HO4.out (by simp; omega) hcl
              rw [← hw5] at h
              simpa using h
            have hB6 : Below w.heap.size w w5 := by rw [hw5]; exact Lib.below_putRow HB5.out (by omega)
            have HO5 := Lib.hid hO5
            have HB6 := Lib.hid hB6
            clear hw5 hO5 hB6 hH4
            go_wp2_with fail
            go_ret2
            exact ⟨⟨_, rfl, by rw [HLe.out, HMe.out]; exact IntsAt.of_own HO5.out⟩, HB6.out⟩
    · have he : momErr first F O len day second = 9 := by unfold momErr; rw [if_pos h0, if_neg h1]
      have hl : momList first F O len day second = [] := by unfold momList; rw [he, if_neg (by decide)]
      rw [he, hl]
      cases hdd : dayB day
      · rw [hdd] at hd
        clear h0 h1 he hl hdd
        go_enter Try.func6, Try.ntmps6
        go_wp2_with fail
        refine hc.out.mono ?_
        rintro e w1 ⟨rfl, hb1⟩
        have HB1 := Lib.hid (HW3.out.trans (hb1.mono (by simp; omega)))
        have cD : w1.cell? ⟨w.heap.size + 1, 0, none⟩ = some (.int .i64 day) := by
          rw [hb1.cell (p := ⟨w.heap.size + 1, 0, none⟩) (by simp)]
          rw [World.cell?_alloc_past _ _ _ (by simp), World.cell?_alloc_at _ _ _ _ (by simp)]; rfl
        clear hb1
        go_wp2_with fail
        refine (hd.out _).mono ?_
        rintro e w2 ⟨rfl, rfl⟩
        go_wp2_with fail
        go_ret2
        exact ⟨⟨_, rfl, IntsAt.nil _⟩, HB1.out⟩
      · rw [hdd] at hd
        by_cases hs0 : second < 0
        · have t1 : decide (second < 0) = true := by simpa using hs0
          clear h0 h1 he hl hdd hs0
          go_enter Try.func6, Try.ntmps6
          go_wp2_with fail
          refine hc.out.mono ?_
          rintro e w1 ⟨rfl, hb1⟩
          have HB1 := Lib.hid (HW3.out.trans (hb1.mono (by simp; omega)))
          have cD : w1.cell? ⟨w.heap.size + 1, 0, none⟩ = some (.int .i64 day) := by
            rw [hb1.cell (p := ⟨w.heap.size + 1, 0, none⟩) (by simp)]
            rw [World.cell?_alloc_past _ _ _ (by simp), World.cell?_alloc_at _ _ _ _ (by simp)]; rfl
          have cS : w1.cell? ⟨w.heap.size + 2, 0, none⟩ = some (.int .i64 second) := by
            rw [hb1.cell (p := ⟨w.heap.size + 2, 0, none⟩) (by simp)]
            rw [World.cell?_alloc_at _ _ _ _ (by simp)]; rfl
          clear hb1
          go_wp2_with fail
          refine (hd.out _).mono ?_
          rintro e w2 ⟨rfl, rfl⟩
          go_wp2_with fail
          go_ret2
          exact ⟨⟨_, rfl, IntsAt.nil _⟩, HB1.out⟩
        · have hs1 : 86400 ≤ second := by
            rcases Int.lt_or_le second 86400 with h | h
            · exact absurd ⟨hdd, by omega, by omega⟩ h1
            · exact h
          have t1 : decide (second < 0) = false := by simpa using hs0
          have t2 : decide (86400 ≤ second) = true := by simpa using hs1
          clear h0 h1 he hl hdd hs0
          go_enter Try.func6, Try.ntmps6
          go_wp2_with fail
          refine hc.out.mono ?_
          rintro e w1 ⟨rfl, hb1⟩
          have HB1 := Lib.hid (HW3.out.trans (hb1.mono (by simp; omega)))
          have cD : w1.cell? ⟨w.heap.size + 1, 0, none⟩ = some (.int .i64 day) := by
            rw [hb1.cell (p := ⟨w.heap.size + 1, 0, none⟩) (by simp)]
            rw [World.cell?_alloc_past _ _ _ (by simp), World.cell?_alloc_at _ _ _ _ (by simp)]; rfl
          have cS : w1.cell? ⟨w.heap.size + 2, 0, none⟩ = some (.int .i64 second) := by
            rw [hb1.cell (p := ⟨w.heap.size + 2, 0, none⟩) (by simp)]
            rw [World.cell?_alloc_at _ _ _ _ (by simp)]; rfl
          clear hb1
          go_wp2_with fail
          refine (hd.out _).mono ?_
          rintro e w2 ⟨rfl, rfl⟩
          go_wp2_with fail
          go_ret2
          exact ⟨⟨_, rfl, IntsAt.nil _⟩, HB1.out⟩
  · have he : momErr first F O len day second = chk first F O len := by unfold momErr; rw [if_neg h0]
    have hl : momList first F O len day second = [] := by unfold momList; rw [he, if_neg h0]
    rw [he, hl]
    generalize chk first F O len = z at hc h0 ⊢
    have hz' : (z != 0) = true := by simpa using h0
    clear h0 he hl
    go_enter Try.func6, Try.ntmps6
    go_wp2_with fail
    refine hc.out.mono ?_
    rintro e w1 ⟨rfl, hb1⟩
    have HB1 := Lib.hid (HW3.out.trans (hb1.mono (by simp; omega)))
    clear hb1
    go_wp2_with fail
    go_ret2
    exact ⟨⟨_, rfl, IntsAt.nil _⟩, HB1.out⟩
end Go.Proofs.Ythcddmjgehcgaab
