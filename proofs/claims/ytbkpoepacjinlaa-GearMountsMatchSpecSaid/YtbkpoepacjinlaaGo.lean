/- Gear: two mounts overlap (reference). -/
import Derived.Test.YtbkpoepacjinlaaGp
import Derived.Test.YtbkpoepacjinlaaQx
namespace Go.Proofs.Ytbkpoepacjinlaa
open Go.RowKit Go.BigFrame
open Gar (endG)

def overM (s p s' p' : ByteArray) (f t f' t' : Int) : Bool := (decide (s = s') || decide (p = p')) && decide (max f f' < min (endG t) (endG t'))
set_option maxHeartbeats 2000000 in
set_option maxRecDepth 100000 in
theorem overlap_any (s p s' p' : ByteArray) (f t f' t' : Int) (w : World) :
    Calls Try.prog 108 #[mountV s p f t, mountV s' p' f' t'] w fun e w' => e = .returned (.bool (overM s p s' p' f t f' t')) ∧ Below w.heap.size w w' := by
  have D1 := Lib.hid (fun W => rend_any s p f t W)
  have D2 := Lib.hid (fun W => rend_any s' p' f' t' W)
  have h1 := str_eq s s'
  have h2 := str_eq p p'
  unfold overM
  unfold mountV at D1 D2 ⊢
  generalize endG t = en at D1 ⊢
  generalize endG t' = en' at D2 ⊢
  generalize decide (s = s') = b1 at h1 ⊢
  generalize decide (p = p') = b2 at h2 ⊢
  have HB := Lib.hid (((Below.refl w.heap.size w).alloc (Nat.le_refl _) (.cells #[.string s, .string p, .int .i64 f, .int .i64 t] 54)).alloc (by simp) (.cells #[.string s', .string p', .int .i64 f', .int .i64 t'] 54))
  obtain ⟨W, hW⟩ : ∃ W, ((w.alloc (.cells #[.string s, .string p, .int .i64 f, .int .i64 t] 54)).alloc (.cells #[.string s', .string p', .int .i64 f', .int .i64 t'] 54)) = W := ⟨_, rfl⟩
  have e0 : ∀ i v, (#[.string s, .string p, .int .i64 f, .int .i64 t] : Array Value)[i]? = some v → W.cell? ⟨w.heap.size, i, none⟩ = some v := by
    intro i v h
    rw [← hW, World.cell?_alloc_past _ _ _ (by simp), World.cell?_alloc_at _ _ _ _ rfl, h]
  have e1 : ∀ i v, (#[.string s', .string p', .int .i64 f', .int .i64 t'] : Array Value)[i]? = some v → W.cell? ⟨w.heap.size + 1, i, none⟩ = some v := by
    intro i v h
    rw [← hW, World.cell?_alloc_at _ _ _ _ (by simp), h]
  have E0 := Ext.ex (e0 0 _ rfl)
  have E1 := Ext.ex (e0 1 _ rfl)
  have E2 := Ext.ex (e0 2 _ rfl)
  have E3 := Ext.ex (e0 3 _ rfl)
  have F0 := Ext.ex (e1 0 _ rfl)
  have F1 := Ext.ex (e1 1 _ rfl)
  have F2 := Ext.ex (e1 2 _ rfl)
  have F3 := Ext.ex (e1 3 _ rfl)
  rw [hW] at HB
  have HW := Lib.hid hW
  clear e0 e1 hW
  cases b1 <;> cases b2
  all_goals
    go_enter Try.func108, Try.ntmps108
    go_wp2_with fail
    rw [HW.out]
    refine ext_wp fun X0 => ?_
    refine wp_region_ext X0 (by kernel_rfl) (by kernel_rfl) ?_
    repeat (first
      | go_big_quiet_step ((first
        | (go_at_call 107; with_reducible exact Ext.calls _ (D1.out _))
        | (go_at_call 107; with_reducible exact Ext.calls _ (D2.out _)))))
    refine wpQuiet_nil ?_
    intro _ hw'
    obtain ⟨X, rfl⟩ := hw'
    go_wp2_with fail
    go_ret
    exact ⟨ret_bool (by simp), HB.out.trans (X.2.mono HB.out.size)⟩
end Go.Proofs.Ytbkpoepacjinlaa
