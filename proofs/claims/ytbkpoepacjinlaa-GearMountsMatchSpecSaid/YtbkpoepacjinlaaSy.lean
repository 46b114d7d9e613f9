/- The stable sort of the library: the merge at every place; the stable sort. -/
import Derived.Test.YtbkpoepacjinlaaSx
namespace Go.Proofs.Ytbkpoepacjinlaa
open Go.RowKit Go.BigFrame
open Stb (at' sw2 Srt Res Mrg)

theorem merge_any (R : Int → Int) (w0 : World) (base g cap n c : Nat) (M0 : List Int) (hcmp : CmpOk R w0 base g cap n c M0) (hn : (n : Int) ≤ 1000000) :
    ∀ (k a m b : Nat) (w : World) (M : List Int), b - a ≤ k → SW w0 w base g cap n M → M.Perm M0 → Mrg R M a m b → b ≤ n →
      Calls Try.prog 196 #[.slice (some ⟨g, 0, none⟩) n cap, .int .i64 a, .int .i64 m, .int .i64 b, .func (.func 158) #[] #[.pointer (some ⟨c, 0, none⟩)]] w (Merged R w0 base g cap n a b M)
  | 0, a, m, b, w, M, hk, h, hM, hm, hb => by have := hm.am; have := hm.mb; omega
  | k + 1, a, m, b, w, M, hk, h, hM, hm, hb => by
    have h1 := hm.am
    have h2 := hm.mb
    by_cases e1 : m = a + 1
    · subst e1
      exact merge_one R w0 w base g cap n c a b M0 M h hM hcmp hb hn hm
    · by_cases e2 : b = m + 1
      · subst e2
        exact merge_last R w0 w base g cap n c a (m + 1) M0 M h hM hcmp hb hn m hm e1 rfl
      · have ih : ∀ a' m' b' w M, b' - a' < b - a → SW w0 w base g cap n M → M.Perm M0 → Mrg R M a' m' b' → b' ≤ n →
            Calls Try.prog 196 #[.slice (some ⟨g, 0, none⟩) n cap, .int .i64 a', .int .i64 m', .int .i64 b', .func (.func 158) #[] #[.pointer (some ⟨c, 0, none⟩)]] w (Merged R w0 base g cap n a' b' M) :=
          fun a' m' b' w M hlt hs hp hg hb' => merge_any R w0 base g cap n c M0 hcmp hn k a' m' b' w M (by omega) hs hp hg hb'
        by_cases e3 : (a + b) / 2 < m
        · exact merge_hi R w0 w base g cap n c a m b ((a + b) / 2) M0 M h hM hcmp hb hn hm (by omega) (by omega) rfl e3 ih
        · exact merge_lo R w0 w base g cap n c a m b ((a + b) / 2) M0 M h hM hcmp hb hn hm (by omega) (by omega) rfl (by omega) ih

/-- blocks of s numbers: each number lies in its own block -/
def Blk (s n : Nat) (M : List Int) (lo : Nat) : Prop := ∀ p, lo ≤ p → p < n → ∃ v : Nat, at' M p = v ∧ v < n ∧ v / s = p / s
/-- each block before hi is sorted -/
def Chk (R : Int → Int) (s n : Nat) (M : List Int) (lo hi : Nat) : Prop := ∀ p q, lo ≤ p → p < q → q < hi → q < n → p / s = q / s → Stb.Bf R (at' M p) (at' M q)

theorem div_mono {p q s : Nat} (h : p ≤ q) : p / s ≤ q / s := Nat.div_le_div_right h
theorem div_block {p s t : Nat} (_hs : 0 < s) (h1 : s * t ≤ p) (h2 : p < s * t + s) : p / s = t := by
  apply Nat.div_eq_of_lt_le
  · rw [Nat.mul_comm]; exact h1
  · rw [Nat.succ_mul, Nat.mul_comm]; exact h2
theorem div_double {v p s : Nat} (h : v / s = p / s) : v / (2 * s) = p / (2 * s) := by
  rw [Nat.mul_comm, ← Nat.div_div_eq_div_mul, ← Nat.div_div_eq_div_mul, h]
theorem Res.blk {M M' : List Int} {s n a b lo : Nat} (h : Res M M' a b) (hb : b ≤ n) (hs : ∀ p, a ≤ p → p < b → p / s = a / s) (g : Blk s n M lo) (hlo : lo ≤ a) : Blk s n M' lo := by
  intro p h1 h2
  by_cases hp : a ≤ p ∧ p < b
  · obtain ⟨q, q1, q2, e⟩ := h.img p hp.1 hp.2
    obtain ⟨v, v1, v2, v3⟩ := g q (by omega) (by omega)
    exact ⟨v, by rw [e, v1], v2, by rw [v3, hs q q1 q2, hs p hp.1 hp.2]⟩
  · obtain ⟨v, v1, v2, v3⟩ := g p h1 h2
    exact ⟨v, by rw [h.out p (by omega), v1], v2, v3⟩
theorem Res.chk {R : Int → Int} {M M' : List Int} {s n a b lo : Nat} (h : Res M M' a b) (_hb : b ≤ n) (hs : ∀ p, a ≤ p → p < b → p / s = a / s) (g : Chk R s n M lo a) (hsrt : Srt R M' a b) (hlo : ∀ p, p < a → p / s ≠ a / s) : Chk R s n M' lo b := by
  intro p q h1 h2 h3 h4 h5
  by_cases hq : q < a
  · show Stb.Bf R _ _
    rw [h.out p (Or.inl (by omega)), h.out q (Or.inl hq)]
    exact g p q h1 h2 hq h4 h5
  · by_cases hp : a ≤ p
    · exact hsrt p q hp h2 h3
    · exact absurd (h5.trans (hs q (by omega) h3)) (hlo p (by omega))
/-- what a merge of two neighbour blocks finds -/
theorem mrg_of {R : Int → Int} {M : List Int} {s n a t b : Nat} (hs : 0 < s) (ha : a = 2 * s * t) (h1 : a + s < b) (hb : b ≤ a + 2 * s) (hbn : b ≤ n) (hl : M.length = n) (hB : Blk s n M a) (hC : Chk R s n M a n) : Mrg R M a (a + s) b := by
  have d1 : ∀ p, a ≤ p → p < a + s → p / s = 2 * t := fun p h2 h3 => div_block hs (by rw [← Nat.mul_assoc, Nat.mul_comm s 2, ← ha]; exact h2) (by rw [← Nat.mul_assoc, Nat.mul_comm s 2, ← ha]; exact h3)
  have e2 : s * (2 * t + 1) = a + s := by rw [Nat.mul_add, Nat.mul_one, ← Nat.mul_assoc, Nat.mul_comm s 2, ← ha]
  have d2 : ∀ p, a + s ≤ p → p < b → p / s = 2 * t + 1 := fun p h2 h3 => div_block hs (by rw [e2]; exact h2) (by rw [e2]; omega)
  refine ⟨by omega, h1, by omega, ?_, ?_, ?_⟩
  · intro p q h2 h3 h4
    exact hC p q h2 h3 (by omega) (by omega) (by rw [d1 p h2 (by omega), d1 q (by omega) h4])
  · intro p q h2 h3 h4
    exact hC p q (by omega) h3 (by omega) (by omega) (by rw [d2 p h2 (by omega), d2 q (by omega) h4])
  · intro p q h2 h3 h4 h5
    obtain ⟨v, v1, _, v3⟩ := hB p h2 (by omega)
    obtain ⟨u, u1, _, u3⟩ := hB q (by omega) (by omega)
    rw [v1, u1]
    rw [d1 p h2 h3] at v3
    rw [d2 q h4 h5] at u3
    have hvu : v < u := Nat.lt_of_not_le fun hle => by
      have := div_mono (s := s) hle
      rw [v3, u3] at this
      omega
    exact_mod_cast hvu
theorem srt_of_chk {R : Int → Int} {M : List Int} {s n : Nat} (h : n ≤ s) (g : Chk R s n M 0 n) : Srt R M 0 n := fun p q h1 h2 h3 =>
  g p q h1 h2 h3 h3 (by rw [Nat.div_eq_of_lt (by omega), Nat.div_eq_of_lt (by omega)])
theorem Blk.lo {s n lo lo' : Nat} {M : List Int} (h : Blk s n M lo) (hl : lo ≤ lo') : Blk s n M lo' := fun p h1 h2 => h p (by omega) h2
theorem Blk.double {s n lo : Nat} {M : List Int} (h : Blk s n M lo) : Blk (2 * s) n M lo := fun p h1 h2 => by
  obtain ⟨v, v1, v2, v3⟩ := h p h1 h2
  exact ⟨v, v1, v2, div_double v3⟩
theorem Blk.res {s n a b : Nat} {M M' : List Int} (h : Blk s n M a) (r : Res M M' a b) (hab : a ≤ b) : Blk s n M' b := fun p h1 h2 => by
  obtain ⟨v, v1, v2, v3⟩ := h p (by omega) h2
  exact ⟨v, by rw [r.out p (Or.inr h1), v1], v2, v3⟩
theorem Chk.res {R : Int → Int} {s n a b : Nat} {M M' : List Int} (h : Chk R s n M a n) (r : Res M M' a b) (hab : a ≤ b) : Chk R s n M' b n := fun p q h1 h2 h3 h4 h5 => by
  rw [r.out p (Or.inr h1), r.out q (Or.inr (by omega))]
  exact h p q (by omega) h2 h3 h4 h5
theorem blk_div {s a t p : Nat} (hs : 0 < s) (ha : a = s * t) (h1 : a ≤ p) (h2 : p < a + s) : p / s = a / s := by
  rw [div_block hs (by omega : s * t ≤ p) (by omega), div_block hs (by omega : s * t ≤ a) (by omega)]
theorem blk_ne {s a t p : Nat} (hs : 0 < s) (ha : a = s * t) (h1 : p < a) : p / s ≠ a / s := by
  have h2 : a / s = t := div_block hs (by omega) (by omega)
  rw [h2]
  have := (Nat.div_lt_iff_lt_mul hs).2 (show p < t * s by rw [Nat.mul_comm, ← ha]; exact h1)
  omega
/-- the rest behind the last merge of a round -/
theorem chk_rest {R : Int → Int} {M : List Int} {s n a t : Nat} (hs : 0 < s) (ha : a = 2 * s * t) (hn : n ≤ a + s) (hC : Chk R s n M a n) (hD : Chk R (2 * s) n M 0 a) : Chk R (2 * s) n M 0 n := by
  intro p q h1 h2 h3 h4 h5
  by_cases hq : q < a
  · exact hD p q h1 h2 hq h4 h5
  · have hp : a ≤ p := Nat.le_of_not_lt fun hlt => by
      have e := blk_ne (by omega : 0 < 2 * s) ha hlt
      rw [h5, blk_div (by omega : 0 < 2 * s) ha (by omega : a ≤ q) (by omega)] at e
      exact e rfl
    have d1 : ∀ p, a ≤ p → p < a + s → p / s = 2 * t := fun p h2 h3 => div_block hs (by rw [← Nat.mul_assoc, Nat.mul_comm s 2, ← ha]; exact h2) (by rw [← Nat.mul_assoc, Nat.mul_comm s 2, ← ha]; exact h3)
    exact hC p q hp h2 h3 h4 (by rw [d1 p hp (by omega), d1 q (by omega) (by omega)])

set_option maxHeartbeats 4000000 in
set_option maxRecDepth 100000 in
theorem stable_any (R : Int → Int) (w0 w : World) (base g cap n c : Nat) (M0 : List Int) (h : SW w0 w base g cap n M0) (hid : ∀ p, p < n → at' M0 p = (p : Int)) (hcmp : CmpOk R w0 base g cap n c M0) (hn0 : 0 < n) (hn : (n : Int) ≤ 1000000) :
    Calls Try.prog 179 #[.slice (some ⟨g, 0, none⟩) n cap, .int .i64 n, .func (.func 158) #[] #[.pointer (some ⟨c, 0, none⟩)]] w fun e w' =>
      e = .returned (.tuple #[]) ∧ ∃ M', SW w0 w' base g cap n M' ∧ M'.Perm M0 ∧ Srt R M' 0 n := by
  have H := Lib.hid h
  have HID := Lib.hid hid
  have HC := Lib.hid hcmp
  clear h hid hcmp
  go_enter Try.func179, Try.ntmps179
  go_wp2_with fail
  go_loopw [7, 8] (fun av bv wr => ∃ (a : Nat) (M : List Int), av = .int .i64 a ∧ bv = .int .i64 ((a + 20 : Nat) : Int) ∧ a ≤ n ∧ Hid (∃ t, a = 20 * t) ∧ Hid (SW w0 wr base g cap n M) ∧ Hid (Res M0 M 0 a) ∧ Hid (Blk 20 n M 0) ∧ Hid (Chk R 20 n M 0 a)) (fun av _ _ => n - (intOf av).toNat)
  case atStart => exact ⟨0, M0, rfl, rfl, by omega, Lib.hid ⟨0, rfl⟩, H, Lib.hid (Res.refl _ _ _), Lib.hid (fun p _ h2 => ⟨p, HID.out p h2, h2, rfl⟩), Lib.hid (fun p q h1 h2 h3 => by omega)⟩
  case round =>
    obtain ⟨a, M, rfl, rfl, han, HT, HS, HR, HB, HK⟩ := hrel
    have hinc : ∀ b, b ≤ n → ∀ p q, a ≤ p → p < q → q < b → at' M p < at' M q := fun b hb p q h1 h2 h3 => by
      rw [HR.out.out p (Or.inr h1), HR.out.out q (Or.inr (by omega)), HID.out p (by omega), HID.out q (by omega)]
      omega
    have hblk : ∀ p, a ≤ p → p < a + 20 → p / 20 = a / 20 := fun p h1 h2 => by
      obtain ⟨t, ht⟩ := HT.out
      exact blk_div (by omega) ht h1 h2
    have hne : ∀ p, p < a → p / 20 ≠ a / 20 := fun p h1 => by
      obtain ⟨t, ht⟩ := HT.out
      exact blk_ne (by omega) ht h1
    have HBK := Lib.hid hblk
    have HNE := Lib.hid hne
    have HINC := Lib.hid hinc
    clear hinc hblk hne
    obtain ⟨b, hb⟩ : ∃ b, a + 20 = b := ⟨_, rfl⟩
    have HBB := Lib.hid hb
    by_cases hlt : b ≤ n
    · rw [hb]
      have t1 : decide ((b : Int) ≤ (n : Int)) = true := by rw [decide_eq_true_eq]; omega
      have t1' : decide (b ≤ n) = true := by simpa using hlt
      have hlt2 : a < b := by omega
      clear hb
      go_wp2_with fail
      refine (insertion_any R w0 wr base g cap n c a b M0 M HS.out HR.out.perm HC.out hlt hn han (HINC.out b hlt)).mono ?_
      rintro e w1 ⟨rfl, M1, hS, hR, hO⟩
      have HS1 := Lib.hid hS
      have HR1 := Lib.hid (show Res M0 M1 0 b from (HR.out.mono (Nat.le_refl _) (by omega)).trans (hR.mono (by omega) (Nat.le_refl _)))
      have HB1 := Lib.hid (Res.blk hR hlt (fun p h1 h2 => HBK.out p h1 (by have := HBB.out; omega)) HB.out (by omega))
      have HK1 := Lib.hid (Res.chk hR hlt (fun p h1 h2 => HBK.out p h1 (by have := HBB.out; omega)) HK.out hO (fun p h1 => HNE.out p h1))
      have HT1 := Lib.hid (show ∃ t, b = 20 * t from by obtain ⟨t, ht⟩ := HT.out; exact ⟨t + 1, by have := HBB.out; omega⟩)
      clear hS hR hO
      go_wp2_with fail
      go_roundw
      case rel => exact ⟨b, M1, rfl, by first | rfl | go_num, hlt, HT1, HS1, HR1, HB1, HK1⟩
      case measure => simp [intOf]; omega
    · rw [hb]
      have t1 : decide ((b : Int) ≤ (n : Int)) = false := by rw [decide_eq_false_iff_not]; omega
      have t1' : decide (b ≤ n) = false := by simpa using hlt
      have hlt2 : n < b := by omega
      clear hb hlt
      go_wp2_with fail
      refine (insertion_any R w0 wr base g cap n c a n M0 M HS.out HR.out.perm HC.out (Nat.le_refl _) hn han (HINC.out n (Nat.le_refl _))).mono ?_
      rintro e w1 ⟨rfl, M1, hS, hR, hO⟩
      have HS1 := Lib.hid hS
      have HP1 := Lib.hid (hR.perm.trans HR.out.perm)
      have HB1 := Lib.hid (Res.blk hR (Nat.le_refl _) (fun p h1 h2 => HBK.out p h1 (by have := HBB.out; omega)) HB.out (by omega))
      have HK1 := Lib.hid (Res.chk hR (Nat.le_refl _) (fun p h1 h2 => HBK.out p h1 (by have := HBB.out; omega)) HK.out hO (fun p h1 => HNE.out p h1))
      clear hS hR hO
      go_wp2_with fail
      go_loopw [6] (fun sv w2 => ∃ (s : Nat) (M : List Int), sv = .int .i64 s ∧ 0 < s ∧ (s : Int) ≤ 2000000 ∧ Hid (SW w0 w2 base g cap n M) ∧ Hid (M.Perm M0) ∧ Hid (Blk s n M 0) ∧ Hid (Chk R s n M 0 n)) (fun sv _ => n - (intOf sv).toNat)
      case atStart => exact ⟨20, M1, rfl, by omega, by omega, HS1, HP1, HB1, HK1⟩
      case round =>
        obtain ⟨s, M2, rfl, hs0, hs1, HS2, HP2, HB2, HK2⟩ := hrel
        by_cases hsn : s < n
        · have t2 : decide ((s : Int) < (n : Int)) = true := by rw [decide_eq_true_eq]; omega
          have t2' : decide (s < n) = true := by simpa using hsn
          go_wp2_with fail
          obtain ⟨wo, rfl⟩ : ∃ wo : World, wo = wr := ⟨_, rfl⟩
          go_loopw [7, 8] (fun av bv w3 => ∃ (a b : Nat) (M3 : List Int), av = .int .i64 a ∧ bv = .int .i64 b ∧ a ≤ n ∧ a + 2 * s ≤ b ∧ b ≤ a + 2 * s ∧ Hid (∃ t, a = 2 * s * t) ∧ Hid (SW w0 w3 base g cap n M3) ∧ Hid (M3.Perm M0) ∧ Hid (Blk (2 * s) n M3 0) ∧ Hid (Blk s n M3 a) ∧ Hid (Chk R (2 * s) n M3 0 a) ∧ Hid (Chk R s n M3 a n)) (fun av _ _ => n - (intOf av).toNat)
          case atStart => exact ⟨0, 2 * s, M2, rfl, by congr 1, by omega, by omega, by omega, Lib.hid ⟨0, rfl⟩, HS2, HP2, Lib.hid HB2.out.double, HB2, Lib.hid (fun p q h1 h2 h3 => by omega), HK2⟩
          case round =>
            obtain ⟨a, b, M3, rfl, rfl, han, hb1, hb2, HT, HS3, HP3, HBD, HBS, HKD, HKS⟩ := hrel
            obtain ⟨m, hm⟩ : ∃ m : Nat, a + s = m := ⟨_, rfl⟩
            have em : (a : Int) + (s : Int) = (m : Int) := by omega
            have hm1 : m < b := by omega
            have HMM := Lib.hid hm
            have HDB := Lib.hid (show ∀ p, a ≤ p → p < b → p / (2 * s) = a / (2 * s) from fun p h1 h2 => by
              obtain ⟨t, ht⟩ := HT.out
              exact blk_div (by omega) ht h1 (by omega))
            have HDN := Lib.hid (show ∀ p, p < a → p / (2 * s) ≠ a / (2 * s) from fun p h1 => by
              obtain ⟨t, ht⟩ := HT.out
              exact blk_ne (by omega) ht h1)
            by_cases hlt : b ≤ n
            · have t3 : decide ((b : Int) ≤ (n : Int)) = true := by rw [decide_eq_true_eq]; omega
              have t3' : decide (b ≤ n) = true := by simpa using hlt
              have HMG := Lib.hid (show Mrg R M3 a m b from by
                obtain ⟨t, ht⟩ := HT.out
                rw [← hm]
                exact mrg_of hs0 ht (by omega) hb2 hlt HS3.out.len HBS.out HKS.out)
              have hab : a ≤ b := by omega
              clear hm
              go_wp2_with fail
              refine (merge_any R w0 base g cap n c M0 HC.out hn (b - a) a m b wr M3 (Nat.le_refl _) HS3.out HP3.out HMG.out hlt).mono ?_
              rintro e w4 ⟨rfl, M4, hS, hR, hO⟩
              have HS4 := Lib.hid hS
              have HP4 := Lib.hid (hR.perm.trans HP3.out)
              have HBD4 := Lib.hid (Res.blk hR hlt HDB.out HBD.out (Nat.zero_le _))
              have HBS4 := Lib.hid (Blk.res HBS.out hR hab)
              have HKD4 := Lib.hid (Res.chk hR hlt HDB.out HKD.out hO HDN.out)
              have HKS4 := Lib.hid (Chk.res HKS.out hR hab)
              have HT4 := Lib.hid (show ∃ t, b = 2 * s * t from by
                obtain ⟨t, ht⟩ := HT.out
                exact ⟨t + 1, by rw [Nat.mul_add, Nat.mul_one, ← ht]; omega⟩)
              clear hS hR hO
              go_wp2_with fail
              go_roundw
              case rel => exact ⟨b, b + 2 * s, M4, rfl, by congr 1, hlt, by omega, by omega, HT4, HS4, HP4, HBD4, HBS4, HKD4, HKS4⟩
              case measure => simp [intOf]; omega
            · have t3 : decide ((b : Int) ≤ (n : Int)) = false := by rw [decide_eq_false_iff_not]; omega
              have t3' : decide (b ≤ n) = false := by simpa using hlt
              have hnb : n < b := by omega
              by_cases hmn : m < n
              · have t4 : decide ((m : Int) < (n : Int)) = true := by rw [decide_eq_true_eq]; omega
                have t4' : decide (m < n) = true := by simpa using hmn
                have HMG := Lib.hid (show Mrg R M3 a m n from by
                  obtain ⟨t, ht⟩ := HT.out
                  rw [← hm]
                  exact mrg_of hs0 ht (by omega) (by omega) (Nat.le_refl _) HS3.out.len HBS.out HKS.out)
                clear hm hlt
                go_wp2_with fail
                refine (merge_any R w0 base g cap n c M0 HC.out hn (n - a) a m n wr M3 (Nat.le_refl _) HS3.out HP3.out HMG.out (Nat.le_refl _)).mono ?_
                rintro e w4 ⟨rfl, M4, hS, hR, hO⟩
                have HS4 := Lib.hid hS
                have HP4 := Lib.hid (hR.perm.trans HP3.out)
                have HBD4 := Lib.hid (Res.blk hR (Nat.le_refl _) (fun p h1 h2 => HDB.out p h1 (by omega)) HBD.out (Nat.zero_le _))
                have HKD4 := Lib.hid (Res.chk hR (Nat.le_refl _) (fun p h1 h2 => HDB.out p h1 (by omega)) HKD.out hO HDN.out)
                clear hS hR hO
                go_wp2_with fail
                go_roundw
                case rel => exact ⟨2 * s, M4, by congr 1; omega, by omega, by omega, HS4, HP4, HBD4, HKD4⟩
                case measure => simp [intOf]; omega
              · have t4 : decide ((m : Int) < (n : Int)) = false := by rw [decide_eq_false_iff_not]; omega
                have t4' : decide (m < n) = false := by simpa using hmn
                have HKD4 := Lib.hid (show Chk R (2 * s) n M3 0 n from by
                  obtain ⟨t, ht⟩ := HT.out
                  exact chk_rest hs0 ht (by omega) HKS.out HKD.out)
                clear hm hlt hmn
                go_wp2_with fail
                go_roundw
                case rel => exact ⟨2 * s, M3, by congr 1; omega, by omega, by omega, HS3, HP3, HBD, HKD4⟩
                case measure => simp [intOf]; omega
        · have t2 : decide ((s : Int) < (n : Int)) = false := by rw [decide_eq_false_iff_not]; omega
          have t2' : decide (s < n) = false := by simpa using hsn
          have HF := Lib.hid (srt_of_chk (by omega) HK2.out)
          clear hsn
          go_wp2_with fail
          go_end0
          exact ⟨rfl, M2, HS2.out, HP2.out, HF.out⟩
end Go.Proofs.Ytbkpoepacjinlaa
