/- readForms, ranged. -/
import Derived.Test.YthcddmjgehcgaaaV
namespace Go.Proofs.Ythcddmjgehcgaaa
open Go.RowKit Go.BigFrame

theorem ranged_any (n e lo hi : Int) (a : Nat) (w : World) : Calls Try.prog 60 #[.int .i64 n, .int .i64 a, .int .i64 e, .int .i64 lo, .int .i64 hi] w fun r w' =>
    r = .returned (.tuple #[.int .i64 (Rd.ranged (n, a, e) lo hi).1, .int .i64 (Rd.ranged (n, a, e) lo hi).2.1, .int .i64 (Rd.ranged (n, a, e) lo hi).2.2]) ∧ w = w' := by
  cases h0 : (e == 0)
  · have hz : Rd.ranged (n, a, e) lo hi = (n, a, e) := by unfold Rd.ranged; rw [if_neg]; simp only [beq_eq_false_iff_ne] at h0; exact fun h => h0 h.1
    rw [hz]
    clear hz
    go_enter Try.func60, Try.ntmps60
    go_wp2
    go_ret3
    exact ⟨rfl, rfl⟩
  · have he : e = 0 := by simpa using h0
    subst he
    clear h0
    by_cases h1 : n < lo
    · have hz : Rd.ranged (n, a, 0) lo hi = (0, 0, 9) := by unfold Rd.ranged; rw [if_pos]; exact ⟨rfl, .inl h1⟩
      rw [hz]
      have t1 : decide (n < lo) = true := by simpa using h1
      clear hz h1
      go_enter Try.func60, Try.ntmps60
      go_wp2
      go_ret3
      exact ⟨rfl, rfl⟩
    · have t1 : decide (n < lo) = false := by simpa using h1
      by_cases h2 : hi < n
      · have hz : Rd.ranged (n, a, 0) lo hi = (0, 0, 9) := by unfold Rd.ranged; rw [if_pos]; exact ⟨rfl, .inr h2⟩
        rw [hz]
        have t2 : decide (hi < n) = true := by simpa using h2
        clear hz h1 h2
        go_enter Try.func60, Try.ntmps60
        go_wp2
        go_ret3
        exact ⟨rfl, rfl⟩
      · have hz : Rd.ranged (n, a, 0) lo hi = (n, a, 0) := by unfold Rd.ranged; rw [if_neg]; intro h; rcases h.2 with h | h; exact h1 h; exact h2 h
        rw [hz]
        have t2 : decide (hi < n) = false := by simpa using h2
        clear hz h1 h2
        go_enter Try.func60, Try.ntmps60
        go_wp2
        go_ret3
        exact ⟨rfl, rfl⟩

structure IsForm (f : FuncId) (F : ByteArray → Int × Nat × Bool) : Prop where
  enter : ∀ args w, Sem.run Try.prog (callFunc f args) w = .ok (.enter f args) w
  ok : FormOk f F
/-- a slice of forms in memory, without captured variables -/
def Forms (w : World) (R : Nat) : List FuncId → Nat → Prop
  | [], _ => True
  | f :: l, j => w.cell? ⟨R, j, none⟩ = some (.func (.func f) #[] #[]) ∧ Forms w R l (j + 1)

set_option maxHeartbeats 2000000 in
set_option maxRecDepth 100000 in
theorem readForms_any (s : ByteArray) (w : World) (R n : Nat) (fs : Nat → FuncId) (Fs : Nat → ByteArray → Int × Nat × Bool) (hn : n ≤ 100) (hR : R < w.heap.size)
    (hf : ∀ j, j < n → w.cell? ⟨R, j, none⟩ = some (.func (.func (fs j)) #[] #[])) (hF : ∀ j, j < n → IsForm (fs j) (Fs j)) (hs : s.size ≤ 9223372036854775807) (z : Int × Nat × Int)
    (hz : Rd.readForms s ((List.range n).map Fs) = z) :
    Calls Try.prog 58 #[.string s, .slice (some ⟨R, 0, none⟩) n n] w fun r w' =>
      r = .returned (.tuple #[.int .i64 z.1, .int .i64 z.2.1, .int .i64 z.2.2]) ∧ Below w.heap.size w w' := by
  have Hf := Lib.hid hf
  have HF := Lib.hid hF
  have Hz := Lib.hid hz
  clear hf hF hz
  by_cases h1 : 1000 < s.size
  · have t1 : decide ((1000 : Int) < (s.size : Int)) = true := by rw [decide_eq_true_eq]; omega
    have hzz : z = (0, 0, 3) := by rw [← Hz.out]; unfold Rd.readForms; rw [if_pos h1]
    subst hzz
    clear h1
    go_enter Try.func58, Try.ntmps58
    go_wp2_with fail
    go_ret3
    exact ⟨rfl, Below.refl _ _⟩
  · have t1 : decide ((1000 : Int) < (s.size : Int)) = false := by rw [decide_eq_false_iff_not]; omega
    have hsz : (s.size : Int) ≤ 1000 := by omega
    have hst := Lib.hid (show Rd.formsLoop s ((List.range n).map Fs) 0 = z by rw [← Hz.out]; unfold Rd.readForms; rw [if_neg h1])
    clear h1
    go_enter Try.func58, Try.ntmps58
    go_wp2_with fail
    go_loopw [5, 18] (fun av iv wr => ∃ (a i : Nat), av = .int .i64 a ∧ iv = .int .i64 i ∧ i ≤ n ∧ Below w.heap.size w wr ∧ Rd.formsLoop s (((List.range n).map Fs).drop i) a = z) (fun _ iv _ => n - (intOf iv).toNat)
    case atStart => exact ⟨0, 0, rfl, rfl, by omega, Below.refl _ _, hst.out⟩
    case round =>
      obtain ⟨a, i, rfl, rfl, hi, hb, hl⟩ := hrel
      have HB := Lib.hid hb
      have HL := Lib.hid hl
      have hbs := hb.size
      clear hb hl hst
      by_cases hin : i < n
      · have t2 : decide ((i : Int) < (n : Int)) = true := by rw [decide_eq_true_eq]; omega
        have hcf := (HF.out i hin).enter
        have c0 := (HB.out.cell (p := ⟨R, i, none⟩) hR).trans (Hf.out i hin)
        have hrd := Lib.hid (readerOf_any s wr)
        go_wp2_with fail
        refine hrd.out.mono ?_
        rintro e w1 ⟨rfl, hR1, hb1⟩
        unfold rdVals digF pt
        have hb1s := hb1.size
        have h6 := hR1.size
        have HR1 := Lib.hid (hR1.boxed (.cells (rdVals wr.heap.size) 83))
        have HX1 := Lib.hid (isBox_new w1 wr.heap.size 83)
        have HB1 := Lib.hid ((HB.out.trans (hb1.mono hbs)).alloc (by omega) (.cells (rdVals wr.heap.size) 83))
        clear hb1 hR1
        go_wp2_with fail
        change Calls Try.prog (fs i) #[.agg (rdVals wr.heap.size)] (w1.alloc (.cells (rdVals wr.heap.size) 83)) _
        refine ((HF.out i hin).ok wr.heap.size s _ HR1.out (by omega)).mono ?_
        rintro e w2 ⟨rfl, hR2, hK2⟩
        have HX2 := Lib.hid (HX1.out.kp hK2 (by omega))
        have hk2s := hK2.size
        have HB2 := Lib.hid (HB1.out.trans (hK2.below (C := w.heap.size) (by omega) (by simp; omega)))
        have HR2 := Lib.hid hR2
        have k8 := HX2.out.place
        unfold placeF at k8
        have hpl := Lib.hid (place_any w2 hR2)
        have hcons : (((List.range n).map Fs).drop i) = Fs i :: (((List.range n).map Fs).drop (i + 1)) := by
          rw [List.drop_eq_getElem_cons (by simpa using hin)]
          simp
        have hL := HL.out
        rw [hcons, Rd.formsLoop] at hL
        have HL' := Lib.hid hL
        clear hR2 hK2 hL hcons HL
        generalize Fs i s = F at HL' HR2 hpl ⊢
        go_wp2_with fail
        refine hpl.out.mono ?_
        rintro e w3 ⟨rfl, nd, rfl⟩
        have HB3 := Lib.hid (below_drewN HB2.out nd)
        clear k8 hpl
        cases hw : (F.2.2 && decide (F.2.1 = s.size))
        · have hL := HL'.out
          rw [hw, if_neg (by simp)] at hL
          have HL2 := Lib.hid hL
          clear hL HL' hw
          go_wp2
          go_roundw
          case rel => exact ⟨max a F.2.1, i + 1, congrArg (Value.int .i64) (by omega), by go_num, by omega, HB3.out, HL2.out⟩
          case measure => simp [intOf]; omega
        · have hL := HL'.out
          rw [hw, if_pos rfl] at hL
          subst hL
          clear HL' hw
          go_wp2
          go_ret3
          exact ⟨rfl, HB3.out⟩
      · have t2 : decide (i < n) = false := by simpa using hin
        have hL := HL.out
        rw [List.drop_of_length_le (by simp; omega), Rd.formsLoop] at hL
        subst hL
        clear HL hin
        go_wp2
        go_ret3
        exact ⟨rfl, HB.out⟩
end Go.Proofs.Ythcddmjgehcgaaa
