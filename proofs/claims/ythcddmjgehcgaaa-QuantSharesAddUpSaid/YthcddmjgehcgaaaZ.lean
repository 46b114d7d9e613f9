/- ReadDuration; what every law asks besides: told. -/
import Derived.Test.YthcddmjgehcgaaaY
namespace Go.Proofs.Ythcddmjgehcgaaa
open Go.RowKit Go.BigFrame

def durForms : Nat → FuncId | 0 => 56 | 1 => 57 | _ => 59
def durFs : Nat → ByteArray → Int × Nat × Bool | 0 => Rd.shortF | 1 => Rd.longF | _ => Rd.letteredF
theorem dur_isForm (j : Nat) (hj : j < 3) : IsForm (durForms j) (durFs j) := by
  rcases (show j = 0 ∨ j = 1 ∨ j = 2 by omega) with rfl | rfl | rfl
  · exact ⟨fun _ _ => by kernel_rfl, short_form⟩
  · exact ⟨fun _ _ => by kernel_rfl, long_form⟩
  · exact ⟨fun _ _ => by kernel_rfl, lettered_form⟩
def readDur (s : ByteArray) : Int × Nat × Int := Rd.ranged (Rd.readForms s [Rd.shortF, Rd.longF, Rd.letteredF]) 0 3599999
theorem readDuration_any (s : ByteArray) (w : World) (hs : s.size ≤ 9223372036854775807) :
    Calls Try.prog 33 #[.string s] w fun r w' => r = .returned (.tuple #[.int .i64 (readDur s).1, .int .i64 (readDur s).2.1, .int .i64 (readDur s).2.2]) ∧ Below w.heap.size w w' := by
  obtain ⟨z, hz⟩ : ∃ z, Rd.readForms s ((List.range 3).map durFs) = z := ⟨_, rfl⟩
  have hrf := fun (w : World) (R : Nat) (hR : R < w.heap.size) hf => readForms_any s w R 3 durForms durFs (by omega) hR hf dur_isForm hs z hz
  have Hrf := Lib.hid hrf
  have hd : readDur s = Rd.ranged z 0 3599999 := by rw [← hz]; rfl
  rw [hd]
  obtain ⟨n, a, e⟩ := z
  have hra := Lib.hid (ranged_any n e 0 3599999 a)
  generalize Rd.ranged (n, a, e) 0 3599999 = y at hra ⊢
  clear hz hd hrf
  go_enter Try.func33, Try.ntmps33
  go_wp2_with fail
  refine (Hrf.out _ w.heap.size (by simp) ?hf).mono ?_
  case hf =>
    intro j hj
    rw [World.cell?_alloc_at _ _ _ _ rfl]
    rcases (show j = 0 ∨ j = 1 ∨ j = 2 by omega) with rfl | rfl | rfl <;> rfl
  rintro r w1 ⟨rfl, hb1⟩
  have HB := Lib.hid (((Below.refl w.heap.size w).alloc (Nat.le_refl _) _).trans (hb1.mono (by simp)))
  clear hb1
  go_wp2_with fail
  refine (hra.out _).mono ?_
  rintro r w2 ⟨rfl, rfl⟩
  go_wp2
  go_ret3
  exact ⟨rfl, HB.out⟩
theorem told_dur : readDur ⟨#[49, 104, 53, 115]⟩ = (3605, 0, 0) := by decide +kernel
theorem told_sc : Sc.sc (-7) 1 2 5 = (-4, 0) := by decide +kernel
theorem told_any (w : World) : Calls Try.prog 9 #[] w fun e w' => e = .returned (.bool true) ∧ Below w.heap.size w w' := by
  have h1 := Lib.hid (scale_any (-7) 1 2 5 w (by omega) (by omega) (by omega) (by omega))
  have h2 := Lib.hid (fun w => readDuration_any ⟨#[49, 104, 53, 115]⟩ w (by decide))
  rw [told_dur] at h2
  rw [told_sc] at h1
  unfold scRet at h1
  go_enter Try.func9, Try.ntmps9
  go_wp2_with fail
  refine h1.out.mono ?_
  rintro e w1 ⟨rfl, hb⟩
  go_wp2_with fail
  refine (h2.out _).mono ?_
  rintro e w2 ⟨rfl, hb2⟩
  have HB := Lib.hid (hb.trans (hb2.mono hb.size))
  clear hb hb2
  go_wp2
  go_ret
  exact ⟨rfl, HB.out⟩
end Go.Proofs.Ythcddmjgehcgaaa
