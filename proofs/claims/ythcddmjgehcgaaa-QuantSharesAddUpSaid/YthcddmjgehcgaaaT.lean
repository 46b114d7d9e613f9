/- The reader's exact, pair, one, place. -/
import Derived.Test.YthcddmjgehcgaaaS
import Derived.StillTailTactics
namespace Go.Proofs.Ythcddmjgehcgaaa
open Go.RowKit Go.BigFrame

theorem IsRd.drew {w : World} {B : Nat} {s : ByteArray} {p : Nat} {ok : Bool} (h : IsRd w B s p ok) : IsRd w.drew B s p ok := h.kept (Below.refl _ _).drew
theorem Kp.drew {B : Nat} {a w : World} (h : Kp B a w) : Kp B a w.drew := h.trans (Kp.of_below (Below.refl _ _).drew)
def ExactTo (s t : ByteArray) (i q : Nat) (b : Bool) (z : Nat × Bool) : Prop := (b = false → z = (q, false)) ∧ (b = true → Rd.exactLoop s t (t.size - i) i q = z)

theorem ExactTo.no {s t : ByteArray} {i q : Nat} {z : Nat × Bool} (h : z = (q, false)) : ExactTo s t i q false z := ⟨fun _ => h, fun h => by cases h⟩
theorem ExactTo.yes {s t : ByteArray} {i q : Nat} {z : Nat × Bool} (h : Rd.exactLoop s t (t.size - i) i q = z) : ExactTo s t i q true z := ⟨fun h => (by cases h), fun _ => h⟩
set_option maxHeartbeats 1000000 in
set_option maxRecDepth 100000 in
theorem exact_any {B : Nat} {s : ByteArray} {p : Nat} {ok : Bool} (t : ByteArray) (w : World) (h : IsRd w B s p ok) (hs : s.size ≤ 9223372036854775807) (ht : t.size ≤ 9223372036854775807) :
    Calls Try.prog 99 #[.string t, pt (B + 3), pt (B + 2), pt B] w fun e w' =>
      e = .returned (.tuple #[]) ∧ IsRd w' B s (Rd.exactAt s t p ok).1 (Rd.exactAt s t p ok).2 ∧ Kp B w w' := by
  have h' := Lib.hid h
  have hst : ExactTo s t 0 p ok (Rd.exactAt s t p ok) := by
    unfold ExactTo Rd.exactAt
    cases ok <;> simp
  have Hst := Lib.hid hst
  generalize hz : Rd.exactAt s t p ok = z at Hst ⊢
  clear h hst hz
  unfold pt
  go_enter Try.func99, Try.ntmps99
  go_wp2_with fail
  go_loopw [5] (fun iv wr => ∃ (i q : Nat) (b : Bool), iv = .int .i64 i ∧ i ≤ t.size ∧ IsRd wr B s q b ∧ Kp B w wr ∧ ExactTo s t i q b z) (fun iv _ => t.size - (intOf iv).toNat)
  case atStart => exact ⟨0, p, ok, rfl, by omega, h'.out, Kp.refl _ _, Hst.out⟩
  case round =>
    obtain ⟨i, q, b, rfl, hi, hR, hK, hE⟩ := hrel
    have HR := Lib.hid hR
    have HK := Lib.hid hK
    have HE := Lib.hid hE
    obtain ⟨_, c0, c2, cf2, c3, cf3, _, _⟩ := hR
    clear hK hE h' Hst
    cases b
    · have hz := Lib.hid (HE.out.1 rfl)
      go_wp2
      go_end0
      rw [hz.out]
      exact ⟨rfl, HR.out, HK.out⟩
    · by_cases hit : i < t.size
      · have t1 : decide (i < t.size) = true := by simpa using hit
        by_cases hq : q < s.size
        · have t2 : decide (q < s.size) = true := by simpa using hq
          cases he : (((s[q]).toNat : Int) == ((t[i]).toNat : Int))
          · have hz : z = (q, false) := by
              rw [← HE.out.2 rfl, show t.size - i = (t.size - i - 1) + 1 by omega, Rd.exactLoop, if_pos hit, if_neg]
              rw [Rd.byte_lt hq, Rd.byte_lt hit]
              simp only [beq_eq_false_iff_ne, ne_eq] at he
              omega
            have Hz := Lib.hid hz
            clear hz HE
            go_wp2_with fail
            go_still_tail 13, (by kernel_rfl)
            change wpList _ _ _ _ _ wr.drew
            clear c0 c2 cf2 c3 cf3
            have hR2 := HR.out.drew
            have hK2 := HK.out.drew
            clear HR HK
            generalize wr.drew = w2 at hR2 hK2 ⊢
            have HR := Lib.hid hR2
            have HK := Lib.hid hK2
            obtain ⟨_, c0, c2, cf2, c3, cf3, _, _⟩ := hR2
            clear hK2
            go_wp2
            go_roundw
            case rel => exact ⟨i + 1, q, false, by go_num, by omega, HR.out.setOk false, HK.out.setOk _, ExactTo.no Hz.out⟩
            case measure => simp [intOf]; omega
          · have hz : Rd.exactLoop s t (t.size - (i + 1)) (i + 1) (q + 1) = z := by
              rw [← HE.out.2 rfl, show t.size - i = (t.size - (i + 1)) + 1 by omega]
              conv => rhs; rw [Rd.exactLoop, if_pos hit]
              rw [if_pos]
              rw [Rd.byte_lt hq, Rd.byte_lt hit]
              simp only [beq_iff_eq] at he
              exact ⟨hq, by omega⟩
            have Hz := Lib.hid hz
            clear hz HE
            go_wp2_with fail
            go_still_tail 13, (by kernel_rfl)
            change wpList _ _ _ _ _ wr.drew
            clear c0 c2 cf2 c3 cf3
            have hR2 := HR.out.drew
            have hK2 := HK.out.drew
            clear HR HK
            generalize wr.drew = w2 at hR2 hK2 ⊢
            have HR := Lib.hid hR2
            have HK := Lib.hid hK2
            obtain ⟨_, c0, c2, cf2, c3, cf3, _, _⟩ := hR2
            clear hK2
            go_wp2
            go_roundw
            case rel => exact ⟨i + 1, q + 1, true, by go_num, by omega, (HR.out.setOk true).setAt (q + 1), (HK.out.setOk _).setAt _, ExactTo.yes Hz.out⟩
            case measure => simp [intOf]; omega
        · have t2 : decide (q < s.size) = false := by simpa using hq
          have hz : z = (q, false) := by
            rw [← HE.out.2 rfl, show t.size - i = (t.size - i - 1) + 1 by omega, Rd.exactLoop, if_pos hit, if_neg]
            omega
          have Hz := Lib.hid hz
          clear hz HE
          go_wp2_with fail
          go_region
          go_wp2
          go_roundw
          case rel => exact ⟨i + 1, q, false, by go_num, by omega, (HR.out.setOk false).drew, (HK.out.setOk _).drew, ExactTo.no Hz.out⟩
          case measure => simp [intOf]; omega
      · have t1 : decide (i < t.size) = false := by simpa using hit
        have hz := Lib.hid (HE.out.2 rfl)
        go_wp2
        go_end0
        rw [← hz.out]
        have : Rd.exactLoop s t (t.size - i) i q = (q, true) := by rw [show t.size - i = 0 by omega]; rfl
        rw [this]
        exact ⟨rfl, HR.out, HK.out⟩

theorem place_any {B : Nat} {s : ByteArray} {p : Nat} {ok : Bool} (w : World) (h : IsRd w B s p ok) :
    Calls Try.prog 106 #[pt (B + 2), pt (B + 3), pt B] w fun e w' => e = .returned (.tuple #[.int .i64 p, .bool (ok && decide (p = s.size))]) ∧ ∃ n, w' = w.drewN n := by
  obtain ⟨_, c0, c2, cf2, c3, cf3, _, _⟩ := h
  unfold pt
  cases ok
  · go_enter Try.func106, Try.ntmps106
    go_wp2_with fail
    go_quiet (fail)
    go_wp2
    go_ret2
    exact ⟨by simp, _, rfl⟩
  · go_enter Try.func106, Try.ntmps106
    go_wp2_with fail
    go_quiet (fail)
    go_wp2
    go_ret2
    refine ⟨?_, _, rfl⟩
    have : ((p : Int) == (s.size : Int)) = (true && decide (p = s.size)) := by rw [Bool.eq_iff_iff, Bool.true_and, beq_iff_eq, decide_eq_true_eq]; omega
    rw [← this]; rfl
/-- one of these bytes: which -/
theorem one_any {B : Nat} {s : ByteArray} {p : Nat} {ok : Bool} (t : ByteArray) (w : World) (h : IsRd w B s p ok) (hs : s.size ≤ 9223372036854775807) :
    Calls Try.prog 100 #[.string t, pt (B + 3), pt (B + 2), pt B] w fun e w' =>
      e = .returned (.int .i64 (Rd.oneAt s t p ok).1) ∧ IsRd w' B s (Rd.oneAt s t p ok).2.1 (Rd.oneAt s t p ok).2.2 ∧ Kp B w w' := by
  have HR := Lib.hid h
  obtain ⟨_, c0, c2, cf2, c3, cf3, _, _⟩ := h
  unfold pt
  cases ok
  · go_enter Try.func100, Try.ntmps100
    go_wp2
    go_ret
    exact ⟨rfl, HR.out.setOk false, (Kp.refl _ _).setOk _⟩
  · by_cases hp : p < s.size
    · have t2 : decide (p < s.size) = true := by simpa using hp
      have hib := Lib.hid (Go.Proofs.Try.strings_IndexByte t ((s[p]).toNat : Int))
      go_enter Try.func100, Try.ntmps100
      go_wp2_with fail
      refine (hib.out _).mono ?_
      rintro e w1 ⟨rfl, rfl⟩
      have hby : (((s[p]).toNat : Int).toNat).toUInt8 = (Rd.byte s p).toUInt8 := by rw [Rd.byte_lt hp, Int.toNat_natCast]
      rw [hby]
      have hz := Lib.hid (show Rd.oneAt s t p true = if 0 ≤ Lib.indexByte t.data.toList (Rd.byte s p).toUInt8 then (Lib.indexByte t.data.toList (Rd.byte s p).toUInt8, p + 1, true) else (Lib.indexByte t.data.toList (Rd.byte s p).toUInt8, p, false) by unfold Rd.oneAt; rw [if_pos ⟨rfl, hp⟩])
      generalize Lib.indexByte t.data.toList (Rd.byte s p).toUInt8 = k at hz ⊢
      clear hib hby
      by_cases hk : 0 ≤ k
      · have t3 : decide (0 ≤ k) = true := by simpa using hk
        go_wp2
        go_ret
        have hz' := hz.out
        rw [if_pos hk] at hz'
        rw [hz']
        exact ⟨rfl, (HR.out.setOk true).setAt (p + 1), ((Kp.refl _ _).setOk _).setAt _⟩
      · have t3 : decide (0 ≤ k) = false := by simpa using hk
        have hk2 : k < 0 := by omega
        go_wp2
        go_ret
        have hz' := hz.out
        rw [if_neg (by omega)] at hz'
        rw [hz']
        exact ⟨rfl, HR.out.setOk false, (Kp.refl _ _).setOk _⟩
    · have t2 : decide (p < s.size) = false := by simpa using hp
      go_enter Try.func100, Try.ntmps100
      go_wp2
      go_ret
      have hz : Rd.oneAt s t p true = (-1, p, false) := by unfold Rd.oneAt; rw [if_neg (by simp [hp])]
      rw [hz]
      exact ⟨rfl, HR.out.setOk false, (Kp.refl _ _).setOk _⟩

theorem IsRd.of_kp {w w' : World} {B b j : Nat} {v : Value} (hk : Kp B w w') (h : w.cell? ⟨b, j, none⟩ = some v) (h2 : b ≠ B + 2) (h3 : b ≠ B + 3) : w'.cell? ⟨b, j, none⟩ = some v := by
  rcases Nat.lt_or_ge b w.heap.size with h1 | h1
  · rw [World.cell?_of_block (w := w) (hk.block b h1 h2 h3)]; exact h
  · simp [World.cell?, Array.getElem?_eq_none h1] at h
end Go.Proofs.Ythcddmjgehcgaaa
