/- The law QuantDivMatchesSpec: its walk. -/
import Derived.Test.YtkekpnompooaiaaM
namespace Go.Proofs.Ytkekpnompooaiaa
open Go.RowKit Go.BigFrame

set_option maxHeartbeats 2000000 in
set_option maxRecDepth 100000 in
theorem divs_any (a b c how : Int) (w : World) (a1 : -9223372036854775808 ≤ a) (a2 : a ≤ 9223372036854775807) (_b1 : -9223372036854775808 ≤ b) (b2 : b ≤ 9223372036854775807) (_c1 : -9223372036854775808 ≤ c) (c2 : c ≤ 9223372036854775807) (_h1 : -9223372036854775808 ≤ how) (_h2 : how ≤ 9223372036854775807) :
    Calls Try.prog 4 #[.int .i64 a, .int .i64 b, .int .i64 c, .int .i64 how] w (Whole w) := by
  have ht := Lib.hid (fun w => told_any w)
  have d1 := Lib.hid (fun w => div_any a b how w a1 a2 b2)
  have d2 := Lib.hid (fun w => rdiv_any a b how w a1 a2 b2)
  have d3 := Lib.hid (fun w => scale_any a b c how w a1 a2 b2 c2)
  have d4 := Lib.hid (fun w => rscale_any a b c how w a1 a2 b2 c2)
  have d5 := Lib.hid (fun w => root_any a w a2)
  have d6 := Lib.hid (fun w => rroot_any a w a2)
  obtain ⟨r, hr⟩ : ∃ r : Int × Int, rootRet a = scRet r := by
    unfold rootRet
    split
    · exact ⟨(0, 1), rfl⟩
    · exact ⟨(Root.isq a.toNat, 0), rfl⟩
  rw [hr] at d5 d6
  generalize Sc.sc a 1 b how = p at d1 d2
  generalize Sc.sc a b c how = q at d3 d4
  unfold scRet at d1 d2 d3 d4 d5 d6
  clear hr
  go_enter Try.func4, Try.ntmps4
  go_wp2_with fail
  refine (d1.out _).mono ?_
  rintro e w1 ⟨rfl, hb1⟩
  have HB1 := Lib.hid hb1
  clear hb1
  go_wp2_with fail
  refine (d2.out _).mono ?_
  rintro e w2 ⟨rfl, hb2⟩
  have HB2 := Lib.hid (HB1.out.trans (hb2.mono HB1.out.size))
  clear hb2 HB1
  go_wp2_with fail
  refine (d3.out _).mono ?_
  rintro e w3 ⟨rfl, hb3⟩
  have HB3 := Lib.hid (HB2.out.trans (hb3.mono HB2.out.size))
  clear hb3 HB2
  go_wp2_with fail
  refine (d4.out _).mono ?_
  rintro e w4 ⟨rfl, hb4⟩
  have HB4 := Lib.hid (HB3.out.trans (hb4.mono HB3.out.size))
  clear hb4 HB3
  go_wp2_with fail
  refine (d5.out _).mono ?_
  rintro e w5 ⟨rfl, rfl⟩
  go_wp2_with fail
  refine (d6.out _).mono ?_
  rintro e w6 ⟨rfl, rfl⟩
  go_wp2_with fail
  refine (ht.out _).mono ?_
  rintro e w7 ⟨rfl, hb7⟩
  have HB7 := Lib.hid (HB4.out.trans (hb7.mono HB4.out.size))
  clear hb7 HB4
  go_wp2
  go_ret
  exact ⟨rfl, HB7.out⟩
end Go.Proofs.Ytkekpnompooaiaa
