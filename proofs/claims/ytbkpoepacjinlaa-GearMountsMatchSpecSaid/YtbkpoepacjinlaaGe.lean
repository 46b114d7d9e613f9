/- Gear: a use is checked (printed by wip/g/gen_use.py). -/
import Derived.Test.YtbkpoepacjinlaaGb
namespace Go.Proofs.Ytbkpoepacjinlaa
open Go.RowKit Go.BigFrame
open Gar (momG endG chkUse)

set_option maxHeartbeats 2000000 in
set_option maxRecDepth 100000 in
theorem checkUse_any (n r : ByteArray) (f s x : Int) (tw : Bool) (w : World) (hn : n.size ≤ maxLen) (hr : r.size ≤ maxLen) :
    Calls Try.prog 52 #[useV n r f s x, .bool tw] w fun e w' => e = .returned (.int .i64 (chkUse n r tw f s x)) ∧ Below w.heap.size w w' := by
  have D1 := Lib.hid (fun W => isName_any n W hn)
  have D2 := Lib.hid (fun W => isName_any r W hr)
  have D3 := Lib.hid (fun W => gmoment_any f W)
  have D4 := Lib.hid (fun W => gin_any s 1 1000000 W)
  have D5 := Lib.hid (fun W => gin_any x 0 1000000000 W)
  have hv : chkUse n r tw f s x = if (nameB n && nameB r) = false then 8 else if tw = true then 5 else if (momG f && inB s 1 1000000 && inB x 0 1000000000) = false then 9 else 0 := by
    unfold chkUse inB
    simp only [Bool.and_assoc]
  rw [hv]
  clear hv hn hr
  unfold useV
  generalize nameB n = b1 at D1 ⊢
  generalize nameB r = b2 at D2 ⊢
  generalize momG f = b3 at D3 ⊢
  generalize inB s 1 1000000 = b4 at D4 ⊢
  generalize inB x 0 1000000000 = b5 at D5 ⊢
  have HB := Lib.hid ((Below.refl w.heap.size w).alloc (Nat.le_refl _) (.cells #[.string n, .string r, .int .i64 f, .int .i64 s, .int .i64 x] 38))
  cases b1
  · go_enter Try.func52, Try.ntmps52
    go_wp2_with fail
    refine (D1.out _).mono ?_
    rintro e w1 ⟨rfl, rfl⟩
    go_wp2_with fail
    go_ret
    exact ⟨ret_int (by simp), HB.out⟩
  · cases b2
    · go_enter Try.func52, Try.ntmps52
      go_wp2_with fail
      refine (D1.out _).mono ?_
      rintro e w1 ⟨rfl, rfl⟩
      go_wp2_with fail
      refine (D2.out _).mono ?_
      rintro e w1 ⟨rfl, rfl⟩
      go_wp2_with fail
      go_ret
      exact ⟨ret_int (by simp), HB.out⟩
    · cases tw
      · cases b3
        · go_enter Try.func52, Try.ntmps52
          go_wp2_with fail
          refine (D1.out _).mono ?_
          rintro e w1 ⟨rfl, rfl⟩
          go_wp2_with fail
          refine (D2.out _).mono ?_
          rintro e w1 ⟨rfl, rfl⟩
          go_wp2_with fail
          refine (D3.out _).mono ?_
          rintro e w1 ⟨rfl, rfl⟩
          go_wp2_with fail
          go_ret
          exact ⟨ret_int (by simp), HB.out⟩
        · cases b4
          · go_enter Try.func52, Try.ntmps52
            go_wp2_with fail
            refine (D1.out _).mono ?_
            rintro e w1 ⟨rfl, rfl⟩
            go_wp2_with fail
            refine (D2.out _).mono ?_
            rintro e w1 ⟨rfl, rfl⟩
            go_wp2_with fail
            refine (D3.out _).mono ?_
            rintro e w1 ⟨rfl, rfl⟩
            go_wp2_with fail
            refine (D4.out _).mono ?_
            rintro e w1 ⟨rfl, rfl⟩
            go_wp2_with fail
            go_ret
            exact ⟨ret_int (by simp), HB.out⟩
          · cases b5
            · go_enter Try.func52, Try.ntmps52
              go_wp2_with fail
              refine (D1.out _).mono ?_
              rintro e w1 ⟨rfl, rfl⟩
              go_wp2_with fail
              refine (D2.out _).mono ?_
              rintro e w1 ⟨rfl, rfl⟩
              go_wp2_with fail
              refine (D3.out _).mono ?_
              rintro e w1 ⟨rfl, rfl⟩
              go_wp2_with fail
              refine (D4.out _).mono ?_
              rintro e w1 ⟨rfl, rfl⟩
              go_wp2_with fail
              refine (D5.out _).mono ?_
              rintro e w1 ⟨rfl, rfl⟩
              go_wp2_with fail
              go_ret
              exact ⟨ret_int (by simp), HB.out⟩
            · go_enter Try.func52, Try.ntmps52
              go_wp2_with fail
              refine (D1.out _).mono ?_
              rintro e w1 ⟨rfl, rfl⟩
              go_wp2_with fail
              refine (D2.out _).mono ?_
              rintro e w1 ⟨rfl, rfl⟩
              go_wp2_with fail
              refine (D3.out _).mono ?_
              rintro e w1 ⟨rfl, rfl⟩
              go_wp2_with fail
              refine (D4.out _).mono ?_
              rintro e w1 ⟨rfl, rfl⟩
              go_wp2_with fail
              refine (D5.out _).mono ?_
              rintro e w1 ⟨rfl, rfl⟩
              go_wp2_with fail
              go_ret
              exact ⟨ret_int (by simp), HB.out⟩
      · go_enter Try.func52, Try.ntmps52
        go_wp2_with fail
        refine (D1.out _).mono ?_
        rintro e w1 ⟨rfl, rfl⟩
        go_wp2_with fail
        refine (D2.out _).mono ?_
        rintro e w1 ⟨rfl, rfl⟩
        go_wp2_with fail
        go_ret
        exact ⟨ret_int (by simp), HB.out⟩
end Go.Proofs.Ytbkpoepacjinlaa
