/- The reader's pair. -/
import Derived.Test.YthcddmjgehcgaaaT
namespace Go.Proofs.Ythcddmjgehcgaaa
open Go.RowKit Go.BigFrame

def PairTo (s : ByteArray) (most : Int) (p : Nat) (ok : Bool) (i : Nat) (x : Int × Nat × Bool) : Prop :=
  (i = 0 → x = (0, p, ok)) ∧ (i = 1 → x = Rd.pairStep s most 10 (0, p, ok)) ∧ (i = 2 → x = Rd.pairAt s most p ok)
theorem PairTo.start (s : ByteArray) (most : Int) (p : Nat) (ok : Bool) : PairTo s most p ok 0 (0, p, ok) := ⟨fun _ => rfl, fun h => (by cases h), fun h => by cases h⟩
theorem PairTo.step {s : ByteArray} {most : Int} {p : Nat} {ok : Bool} {i : Nat} {x y : Int × Nat × Bool} (h : PairTo s most p ok i x) (hi : i = 0 ∧ y = Rd.pairStep s most 10 x ∨ i = 1 ∧ y = Rd.pairStep s most 1 x) : PairTo s most p ok (i + 1) y := by
  rcases hi with ⟨rfl, rfl⟩ | ⟨rfl, rfl⟩
  · refine ⟨fun h => (by omega), fun _ => ?_, fun h => (by omega)⟩
    rw [h.1 rfl]
  · refine ⟨fun h => (by omega), fun h => (by omega), fun _ => ?_⟩
    rw [h.2.1 rfl]; rfl
theorem pairStep_no {s : ByteArray} {most u n : Int} {q : Nat} {b : Bool} (h : ¬ (Rd.digAt s q b = true ∧ n + u * ((Rd.byte s q : Int) - 48) ≤ most)) : Rd.pairStep s most u (n, q, b) = (n, q, false) := by
  unfold Rd.pairStep; rw [if_neg h]
theorem pairStep_yes {s : ByteArray} {most u n : Int} {q : Nat} {b : Bool} (h : Rd.digAt s q b = true ∧ n + u * ((Rd.byte s q : Int) - 48) ≤ most) : Rd.pairStep s most u (n, q, b) = (n + u * ((Rd.byte s q : Int) - 48), q + 1, true) := by
  unfold Rd.pairStep; rw [if_pos h]

set_option maxHeartbeats 2000000 in
set_option maxRecDepth 100000 in
theorem pair_any {B : Nat} {s : ByteArray} {p : Nat} {ok : Bool} (most : Int) (w : World) (h : IsRd w B s p ok) (hs : s.size ≤ 9223372036854775807) :
    Calls Try.prog 98 #[.int .i64 most, pt (B + 4), pt B, pt (B + 2), pt (B + 3), pt (B + 5)] w fun e w' =>
      e = .returned (.int .i64 (Rd.pairAt s most p ok).1) ∧ IsRd w' B s (Rd.pairAt s most p ok).2.1 (Rd.pairAt s most p ok).2.2 ∧ Kp B w w' := by
  have hsz := h.size
  have h0 := Lib.hid ((Below.refl w.heap.size w).alloc (Nat.le_refl _) (.cells #[.int .i64 10, .int .i64 1] 3))
  have h' := Lib.hid (h.kept h0.out)
  clear h
  unfold pt
  go_enter Try.func98, Try.ntmps98
  go_wp2_with fail
  go_loopw [8, 13] (fun nv iv wr => ∃ (n : Int) (i q : Nat) (b : Bool), nv = .int .i64 n ∧ iv = .int .i64 i ∧ i ≤ 2 ∧ 0 ≤ n ∧ n ≤ 90 * i ∧ IsRd wr B s q b ∧ Kp B w wr ∧
      wr.cell? ⟨w.heap.size, 0, none⟩ = some (.int .i64 10) ∧ wr.cell? ⟨w.heap.size, 1, none⟩ = some (.int .i64 1) ∧ PairTo s most p ok i (n, q, b)) (fun _ iv _ => 2 - (intOf iv).toNat)
  case atStart => exact ⟨0, 0, p, ok, rfl, rfl, by omega, by omega, by omega, h'.out, Kp.of_below h0.out, by rw [World.cell?_alloc_at _ _ _ _ rfl]; rfl, by rw [World.cell?_alloc_at _ _ _ _ rfl]; rfl, PairTo.start s most p ok⟩
  case round =>
    obtain ⟨n, i, q, b, rfl, rfl, hi, hn0, hn1, hR, hK, u0, u1, hE⟩ := hrel
    have HR := Lib.hid hR
    have HK := Lib.hid hK
    have HE := Lib.hid hE
    have U0 := Lib.hid u0
    have U1 := Lib.hid u1
    obtain ⟨_, c0, c2, cf2, c3, cf3, cd, ct⟩ := hR
    unfold digF pt at cd
    unfold takeF pt at ct
    clear hK hE h' h0
    by_cases h2 : i = 2
    · subst h2
      have hz := Lib.hid (HE.out.2.2 rfl)
      go_wp2
      go_ret
      rw [← hz.out]
      exact ⟨rfl, HR.out, HK.out⟩
    by_cases h1 : i = 1
    · subst h1
      go_wp2_with fail
      refine (digit_any wr HR.out).mono ?_
      rintro e w1 ⟨rfl, rfl⟩
      cases hdg : Rd.digAt s q b
      · skip
        have HZ := Lib.hid (pairStep_no (s := s) (most := most) (u := 1) (n := n) (q := q) (b := b) (by simp [hdg])).symm
        clear hdg
        go_wp2
        go_roundw
        case rel =>
          exact ⟨n, 2, q, false, rfl, by go_num, by omega, by omega, by omega, HR.out.setOk false, HK.out.setOk _, by rw [cell_set_far (by omega)]; exact U0.out, by rw [cell_set_far (by omega)]; exact U1.out, HE.out.step (.inr ⟨rfl, HZ.out⟩)⟩
        case measure => simp [intOf]
      · obtain ⟨hok, hq, hb0, hb1⟩ := Rd.digAt_true hdg
        subst hok
        have HD := Lib.hid hdg
        have e1 := Rd.byte_lt hq
        have He1 := Lib.hid e1
        rw [e1] at hb0 hb1
        clear hdg e1
        by_cases hm : n + ((s[q].toNat : Int) - 48) ≤ most
        · have t3 : decide (n + ((s[q].toNat : Int) - 48) ≤ most) = true := by simpa using hm
          have HZ := Lib.hid (pairStep_yes (s := s) (most := most) (u := 1) (n := n) (q := q) (b := true) ⟨HD.out, by rw [He1.out]; omega⟩).symm
          clear hm
          go_wp2_with fail
          have hR2 := HR.out.setOk true
          have hK2 := HK.out.setOk (.bool true)
          have v0 : (wr.setCell ⟨B + 3, 0, none⟩ (.bool true)).cell? ⟨w.heap.size, 0, none⟩ = some (.int .i64 10) := by rw [cell_set_far (by omega)]; exact U0.out
          have v1 : (wr.setCell ⟨B + 3, 0, none⟩ (.bool true)).cell? ⟨w.heap.size, 1, none⟩ = some (.int .i64 1) := by rw [cell_set_far (by omega)]; exact U1.out
          generalize wr.setCell ⟨B + 3, 0, none⟩ (.bool true) = w2 at hR2 hK2 v0 v1 ⊢
          refine (take_any w2 hR2 hs hq (by rw [He1.out]; exact hb0)).mono ?_
          rintro e w1 ⟨rfl, hR1, hK1⟩
          rw [He1.out]
          have HR1 := Lib.hid hR1
          have HK1 := Lib.hid (hK2.trans hK1)
          have V0 := Lib.hid (IsRd.of_kp hK1 v0 (by omega) (by omega))
          have V1 := Lib.hid (IsRd.of_kp hK1 v1 (by omega) (by omega))
          clear hR1 hK1 hR2 hK2 v0 v1 c0 c2 cf2 c3 cf3 cd ct u0 u1
          go_wp2
          go_roundw
          case rel =>
            refine ⟨_, 2, q + 1, true, rfl, by go_num, by omega, by omega, by omega, HR1.out, HK1.out, V0.out, V1.out, HE.out.step ?_⟩
            rw [← He1.out]
            have HZ' := HZ.out
            rw [Int.one_mul] at HZ'; exact .inr ⟨rfl, HZ'⟩
          case measure => simp [intOf]
        · have t3 : decide (n + ((s[q].toNat : Int) - 48) ≤ most) = false := by simpa using hm
          have HZ := Lib.hid (pairStep_no (s := s) (most := most) (u := 1) (n := n) (q := q) (b := true) (by rw [He1.out]; omega)).symm
          go_wp2
          go_roundw
          case rel =>
            exact ⟨n, 2, q, false, rfl, by go_num, by omega, by omega, by omega, HR.out.setOk false, HK.out.setOk _, by rw [cell_set_far (by omega)]; exact U0.out, by rw [cell_set_far (by omega)]; exact U1.out, HE.out.step (.inr ⟨rfl, HZ.out⟩)⟩
          case measure => simp [intOf]
    · obtain rfl : i = 0 := by omega
      go_wp2_with fail
      refine (digit_any wr HR.out).mono ?_
      rintro e w1 ⟨rfl, rfl⟩
      cases hdg : Rd.digAt s q b
      · skip
        have HZ := Lib.hid (pairStep_no (s := s) (most := most) (u := 10) (n := n) (q := q) (b := b) (by simp [hdg])).symm
        clear hdg
        go_wp2
        go_roundw
        case rel =>
          exact ⟨n, 1, q, false, rfl, by go_num, by omega, by omega, by omega, HR.out.setOk false, HK.out.setOk _, by rw [cell_set_far (by omega)]; exact U0.out, by rw [cell_set_far (by omega)]; exact U1.out, HE.out.step (.inl ⟨rfl, HZ.out⟩)⟩
        case measure => simp [intOf]
      · obtain ⟨hok, hq, hb0, hb1⟩ := Rd.digAt_true hdg
        subst hok
        have HD := Lib.hid hdg
        have e1 := Rd.byte_lt hq
        have He1 := Lib.hid e1
        rw [e1] at hb0 hb1
        clear hdg e1
        by_cases hm : n + 10 * ((s[q].toNat : Int) - 48) ≤ most
        · have t3 : decide (n + 10 * ((s[q].toNat : Int) - 48) ≤ most) = true := by simpa using hm
          have HZ := Lib.hid (pairStep_yes (s := s) (most := most) (u := 10) (n := n) (q := q) (b := true) ⟨HD.out, by rw [He1.out]; omega⟩).symm
          clear hm
          go_wp2_with fail
          have hR2 := HR.out.setOk true
          have hK2 := HK.out.setOk (.bool true)
          have v0 : (wr.setCell ⟨B + 3, 0, none⟩ (.bool true)).cell? ⟨w.heap.size, 0, none⟩ = some (.int .i64 10) := by rw [cell_set_far (by omega)]; exact U0.out
          have v1 : (wr.setCell ⟨B + 3, 0, none⟩ (.bool true)).cell? ⟨w.heap.size, 1, none⟩ = some (.int .i64 1) := by rw [cell_set_far (by omega)]; exact U1.out
          generalize wr.setCell ⟨B + 3, 0, none⟩ (.bool true) = w2 at hR2 hK2 v0 v1 ⊢
          refine (take_any w2 hR2 hs hq (by rw [He1.out]; exact hb0)).mono ?_
          rintro e w1 ⟨rfl, hR1, hK1⟩
          rw [He1.out]
          have HR1 := Lib.hid hR1
          have HK1 := Lib.hid (hK2.trans hK1)
          have V0 := Lib.hid (IsRd.of_kp hK1 v0 (by omega) (by omega))
          have V1 := Lib.hid (IsRd.of_kp hK1 v1 (by omega) (by omega))
          clear hR1 hK1 hR2 hK2 v0 v1 c0 c2 cf2 c3 cf3 cd ct u0 u1
          go_wp2
          go_roundw
          case rel =>
            refine ⟨_, 1, q + 1, true, rfl, by go_num, by omega, by omega, by omega, HR1.out, HK1.out, V0.out, V1.out, HE.out.step ?_⟩
            rw [← He1.out]
            have HZ' := HZ.out
            exact .inl ⟨rfl, HZ'⟩
          case measure => simp [intOf]
        · have t3 : decide (n + 10 * ((s[q].toNat : Int) - 48) ≤ most) = false := by simpa using hm
          have HZ := Lib.hid (pairStep_no (s := s) (most := most) (u := 10) (n := n) (q := q) (b := true) (by rw [He1.out]; omega)).symm
          go_wp2
          go_roundw
          case rel =>
            exact ⟨n, 1, q, false, rfl, by go_num, by omega, by omega, by omega, HR.out.setOk false, HK.out.setOk _, by rw [cell_set_far (by omega)]; exact U0.out, by rw [cell_set_far (by omega)]; exact U1.out, HE.out.step (.inl ⟨rfl, HZ.out⟩)⟩
          case measure => simp [intOf]
end Go.Proofs.Ythcddmjgehcgaaa
