/- Several texts of this claim in one. -/
import Derived.Test.YtbkpoepacjinlaaMj
import Derived.Test.YtbkpoepacjinlaaMi
import Derived.WalkKit
/- Gear: Put of the reference. (Printed by gen_rput.py.) -/
namespace Go.Proofs.Ytbkpoepacjinlaa
open Go.RowKit Go.BigFrame
open Gar (chk momG hasS hasP putErr putG)

theorem takeM_flat (L : List Mo) {k : Nat} (h : k < L.length) : (L.take (k + 1)).flatMap encM = (L.take k).flatMap encM ++ encM (L.getD k default) := by
  rw [List.take_add_one, List.getElem?_eq_getElem h, List.flatMap_append, List.getD_eq_getElem?_getD, List.getElem?_eq_getElem h]
  simp
theorem dropM_flat (L : List Mo) (k : Nat) : (List.range (L.length - k)).flatMap (fun i => encM (L.getD (k + i) default)) = (L.drop k).flatMap encM := by
  have e : L.drop k = (List.range (L.length - k)).map fun i => L.getD (k + i) default := by
    apply List.ext_getElem (by simp)
    intro i h1 h2
    rw [List.length_drop] at h1
    simp [List.getD_eq_getElem?_getD, List.getElem?_eq_getElem (show k + i < L.length by omega)]
  rw [e]
  have h : ∀ r : List Nat, r.flatMap (fun i => encM (L.getD (k + i) default)) = (r.map fun i => L.getD (k + i) default).flatMap encM := by
    intro r
    induction r with
    | nil => rfl
    | cons x r ih => rw [List.flatMap_cons, List.map_cons, List.flatMap_cons, ih]
  exact h _
def mAt (L : List Mo) (k i : Nat) : List Value := encM (L.getD (k + i) default)
theorem mAt_flat (L : List Mo) (k : Nat) : (List.range (L.length - k)).flatMap (mAt L k) = (L.drop k).flatMap encM := dropM_flat L k
theorem rowM_next {w : World} {b off n k m : Nat} {f : Nat → List Value} (h : RowK w (some ⟨b, off, none⟩) m 4 (fun i => f (k + i))) (hm : n - k = m) : RowK w (some ⟨b, off + 4, none⟩) (n - (k + 1)) 4 (fun i => f (k + 1 + i)) := by
  refine ⟨fun hl => ?_⟩
  obtain ⟨b1, off1, e, h1, h2⟩ := h.here (by omega)
  injection e with e
  injection e with e1 e2
  subst e1
  subst e2
  refine ⟨b, off + 4, rfl, h1, fun i hi j hj => ?_⟩
  have := h2 (i + 1) (by omega) j hj
  rw [show off + (i + 1) * 4 + j = off + 4 + i * 4 + j by omega] at this
  rw [this, show k + (i + 1) = k + 1 + i by omega]
/-- the loop of Put: what stands before the new mount is passed by -/
structure RMp (L : List Mo) (u : Mo) (V wr : World) (o : Nat) (s0 s1 s3 : Value) (k cv : Nat) (av : Option Addr) (v : Value) : Prop where
  kn : k ≤ L.length
  keep : Kept (fun b => b = o) V wr
  row : wr.ownsRow V.heap.size 54 4 v k ((L.take k).flatMap encM)
  box : wr.heap[o]? = some (.cells #[s0, s1, v, s3] 27 (0, 0))
  src : RowK V av (L.length - k) 4 (fun i => encM (L.getD (k + i) default))
  apart : ∀ b off, av = some ⟨b, off, none⟩ → b ≠ o
  le : L.length - k ≤ cv
  pass : ∀ i, i < k → befm (L.getD i default) u = true
section
variable {L : List Mo} {u : Mo} {V wr wx V3 w7 : World} {o : Nat} {s0 s1 s3 : Value} {k cv cv' : Nat} {av av' : Option Addr} {v v' : Value}
theorem RMp.below (h : RMp L u V wr o s0 s1 s3 k cv av v) (hb : Below wr.heap.size wr wx) : RMp L u V wx o s0 s1 s3 k cv av v :=
  ⟨h.kn, h.keep.trans (Kept.of_below hb), ownsRow_below h.row hb, below_block hb h.box, h.src, h.apart, h.le, h.pass⟩
theorem RMp.next (h : RMp L u V wr o s0 s1 s3 k cv av v) (hk : k < L.length) (hb : Below wr.heap.size wr V3) (hg : V3.grownBy w7 v.ownBlock)
    (ho : w7.ownsRow V.heap.size 54 4 v' (k + 1) ((L.take k).flatMap encM ++ encM (L.getD k default))) (hs : RowK V av' (L.length - (k + 1)) 4 (fun i => encM (L.getD (k + 1 + i) default))) (ha : ∀ b off, av' = some ⟨b, off, none⟩ → b ≠ o) (hl : L.length - (k + 1) ≤ cv') (hp : befm (L.getD k default) u = true) :
    RMp L u V (w7.setCell ⟨o, 2, none⟩ v') o s0 s1 s3 (k + 1) cv' av' v' := by
  have r3 := ownsRow_below h.row hb
  have b3 := below_block hb h.box
  have b7 := grown_block hg b3 (row_box r3 b3 (by decide))
  have k7 : Kept (fun b => b = o) V w7 := (h.keep.trans (Kept.of_below hb)).grown hg (fun q hq hl => by have := (r3.lt q hq).1; omega)
  have k9 : Kept (fun b => b = o) w7 (w7.setCell ⟨o, 2, none⟩ v') := kept_set (O := fun b => b = o) (Kept.refl _ _) rfl _
  refine ⟨hk, k7.trans k9, ?_, cells_setCell b7, hs, ha, hl, fun i hi => ?_⟩
  · rw [takeM_flat L hk]
    exact own_keep ho k9 (row_box ho b7 (by decide))
  · by_cases e : i = k
    · subst e; exact hp
    · exact h.pass i (by omega)
theorem RMp.stop (h : RMp L u V wr o s0 s1 s3 k cv av v) (hs : k = L.length ∨ (k < L.length ∧ befm (L.getD k default) u = false)) : insL befm u L = L.take k ++ u :: L.drop k := by
  have hk := h.kn
  have eg : ∀ i (hi : i < L.length), L.getD i default = L[i] := fun i hi => by rw [List.getD_eq_getElem?_getD, List.getElem?_eq_getElem hi, Option.getD_some]
  conv => lhs; rw [← List.take_append_drop k L]
  rw [insL_pass]
  · rw [insL_stop]
    intro a r he
    rcases hs with hs | ⟨h1, h2⟩
    · rw [List.drop_eq_nil_of_le (by omega)] at he
      cases he
    · rw [List.drop_eq_getElem_cons h1] at he
      injection he with he
      rw [← he, ← eg k h1]
      exact h2
  · intro x hx
    obtain ⟨i, hi, rfl⟩ := List.getElem_of_mem hx
    rw [List.getElem_take]
    rw [List.length_take] at hi
    have := h.pass i (by omega)
    rw [eg i (by omega)] at this
    exact this
end
theorem rowM_own {w : World} {base n cv : Nat} {av : Option Addr} {L : List Mo} (hn : L.length = n) (h : w.ownsRow base 54 4 (.slice av n cv) n (L.flatMap encM)) : n ≤ cv ∧ RowK w av n 4 (fun i => encM (L.getD i default)) := by
  subst hn
  rw [← flatM_range] at h
  exact ownRow_of (f := fun i => encM (L.getD i default)) (fun _ => rfl) h

set_option maxHeartbeats 8000000 in
set_option maxRecDepth 200000 in
theorem rput_any (g : Gar) (a0 a1 a2 a3 : Option Addr) (c0 c1 c2 c3 : Nat) (slot part : ByteArray) (x : Int) (w : World) (h : GarIn w g a0 a1 a2 a3) (hc2 : g.nm ≤ c2) (hc3 : g.nu ≤ c3) :
    Calls Try.prog 39 #[garV g a0 a1 a2 a3 c0 c1 c2 c3, .string slot, .string part, .int .i64 x] w fun e w' => RetG w w' e (putG g slot part x) (putErr g slot part x) := by
  have HG := Lib.hid h
  obtain ⟨W0, hW0, hb0, hs0', hq0⟩ := allocs w [.cells #[.slice a0 g.np c0, .slice a1 g.ns c1, .slice a2 g.nm c2, .slice a3 g.nu c3] 27, .cells #[.slice none 0 0, .slice none 0 0, .slice none 0 0, .slice none 0 0] 27]
  have hs0 : W0.heap.size = w.heap.size + 2 := hs0'
  clear hs0'
  have G0 := Ext.ex (show W0.cell? ⟨w.heap.size, 0, none⟩ = some (.slice a0 g.np c0) from block_cell (hq0 0 _ rfl) rfl)
  have G1 := Ext.ex (show W0.cell? ⟨w.heap.size, 1, none⟩ = some (.slice a1 g.ns c1) from block_cell (hq0 0 _ rfl) rfl)
  have G2 := Ext.ex (show W0.cell? ⟨w.heap.size, 2, none⟩ = some (.slice a2 g.nm c2) from block_cell (hq0 0 _ rfl) rfl)
  have G3 := Ext.ex (show W0.cell? ⟨w.heap.size, 3, none⟩ = some (.slice a3 g.nu c3) from block_cell (hq0 0 _ rfl) rfl)
  have HR := Lib.hid (fun (X : Ext W0) => below_block X.2 (hq0 1 _ rfl))
  have Z0 : ∀ X : Ext W0, X.1.cell? ⟨w.heap.size + 1, 0, none⟩ = some (.slice none 0 0) := fun X => block_cell (HR.out X) rfl
  have Z1 : ∀ X : Ext W0, X.1.cell? ⟨w.heap.size + 1, 1, none⟩ = some (.slice none 0 0) := fun X => block_cell (HR.out X) rfl
  have Z2 : ∀ X : Ext W0, X.1.cell? ⟨w.heap.size + 1, 2, none⟩ = some (.slice none 0 0) := fun X => block_cell (HR.out X) rfl
  have Z3 : ∀ X : Ext W0, X.1.cell? ⟨w.heap.size + 1, 3, none⟩ = some (.slice none 0 0) := fun X => block_cell (HR.out X) rfl
  have F0 : ∀ X : Ext W0, X.1.frozen? ⟨w.heap.size + 1, 0, none⟩ = false := fun X => block_free (HR.out X)
  have F1 : ∀ X : Ext W0, X.1.frozen? ⟨w.heap.size + 1, 1, none⟩ = false := fun X => block_free (HR.out X)
  have F2 : ∀ X : Ext W0, X.1.frozen? ⟨w.heap.size + 1, 2, none⟩ = false := fun X => block_free (HR.out X)
  have F3 : ∀ X : Ext W0, X.1.frozen? ⟨w.heap.size + 1, 3, none⟩ = false := fun X => block_free (HR.out X)
  have HW0 := Lib.hid (show (w.alloc (.cells #[.slice a0 g.np c0, .slice a1 g.ns c1, .slice a2 g.nm c2, .slice a3 g.nu c3] 27)).alloc (.cells #[.slice none 0 0, .slice none 0 0, .slice none 0 0, .slice none 0 0] 27) = W0 from hW0)
  have HB := Lib.hid hb0
  have hbs : w.heap.size ≤ W0.heap.size := by omega
  have DK := Lib.hid (fun (Y : Ext W0) => rCheck_any g a0 a1 a2 a3 c0 c1 c2 c3 Y.1 (HG.out.below (Y.down HB.out hbs)) hc2 hc3)
  have DS := Lib.hid (fun (Y : Ext W0) => slotAt_any g a0 a1 a2 a3 c0 c1 c2 c3 slot Y.1 (HG.out.below (Y.down HB.out hbs)))
  have DP := Lib.hid (fun (Y : Ext W0) => partAt_any g a0 a1 a2 a3 c0 c1 c2 c3 part Y.1 (HG.out.below (Y.down HB.out hbs)))
  have DM := Lib.hid (fun W => rmoment_any x W)
  have DI := Lib.hid (fun (Y : Ext W0) => rin_any g a0 a1 a2 a3 c0 c1 c2 c3 slot x Y.1 (HG.out.below (Y.down HB.out hbs)) _ rfl)
  have DC0 := Lib.hid (fun (hk : chk g = 0) (Y : Ext W0) => copied_any g a0 a1 a2 a3 c0 c1 c2 c3 Y.1 (HG.out.below (Y.down HB.out hbs)) hk)
  have is1 := hasS_idx g slot
  generalize idxF (fun i => decide (g.sn i = slot)) g.ns 0 = i1 at DS is1
  have is2 := hasP_idx g part
  generalize idxF (fun i => decide (g.pn i = part)) g.np 0 = i2 at DP is2
  have T1 := Lib.hid (fun h => Gar.put_c1 (g := g) (slot := slot) (part := part) (x := x) h)
  have T2 := Lib.hid (fun h1 h2 => Gar.put_c2 (g := g) (slot := slot) (part := part) (x := x) h1 h2)
  have T3 := Lib.hid (fun h1 h2 h3 => Gar.put_c3 (g := g) (slot := slot) (part := part) (x := x) h1 h2 h3)
  have T4 := Lib.hid (fun h1 h2 h3 h4 => Gar.put_c4 (g := g) (slot := slot) (part := part) (x := x) h1 h2 h3 h4)
  have T5 := Lib.hid (fun h1 h2 h3 h4 => Gar.put_c5 (g := g) (slot := slot) (part := part) (x := x) h1 h2 h3 h4)
  have TB := Lib.hid (fun (e : Int) h he => Gar.put_bad (g := g) (slot := slot) (part := part) (x := x) (e := e) h he)
  have TO := Lib.hid (fun h => Gar.put_ok (g := g) (slot := slot) (part := part) (x := x) h)
  obtain ⟨er, her⟩ : ∃ z, putErr g slot part x = z := ⟨_, rfl⟩
  obtain ⟨gg, hgg⟩ : ∃ z, putG g slot part x = z := ⟨_, rfl⟩
  have HGE : Hid (putG g slot part x = gg) := Lib.hid hgg
  rw [her] at T1 T2 T3 T4 T5 TB TO
  rw [hgg] at TB
  rw [her, hgg]
  unfold garV at DK DS DP DI DC0
  unfold garV
  clear h hW0 hb0 hq0 her hgg hc2 hc3
  by_cases k1 : chk g = 0
  case neg =>
    have HX : Hid (gg = Gar.zero ∧ er = chk g) := Lib.hid ⟨TB.out _ (T1.out k1) k1, T1.out k1⟩
    have n1 : (chk g != 0) = true := by rw [bne_iff_ne]; exact k1
    clear k1 DC0 T1 T2 T3 T4 T5 TB TO DI DS DM DP
    generalize chk g = ck at *
    go_enter Try.func39, Try.ntmps39
    go_upto_region 1 with (fail)
    rw [HW0.out]
    refine ext_wp fun X => ?_
    go_wp2_with fail
    refine (Ext.calls _ (DK.out _)).mono ?_
    rintro e w2 ⟨rfl, Y, rfl⟩
    go_wp2_with fail
    obtain ⟨W5, hW5, hr5, hk5, _⟩ := store4 (HR.out Y) (.slice none 0 0) (.slice none 0 0) (.slice none 0 0) (.slice none 0 0)
    have x0 : W5.cell? ⟨w.heap.size + 1, 0, none⟩ = some (.slice none 0 0) := block_cell hr5 rfl
    have x1 : W5.cell? ⟨w.heap.size + 1, 1, none⟩ = some (.slice none 0 0) := block_cell hr5 rfl
    have x2 : W5.cell? ⟨w.heap.size + 1, 2, none⟩ = some (.slice none 0 0) := block_cell hr5 rfl
    have x3 : W5.cell? ⟨w.heap.size + 1, 3, none⟩ = some (.slice none 0 0) := block_cell hr5 rfl
    have HB5 := Lib.hid (Kept.below (Y.down HB.out hbs) hk5 (Nat.le_trans hbs Y.2.size) (fun k hk e => by omega))
    rw [hW5]
    clear hW5 hr5 hk5
    exact bodyPost_ret (v := .tuple #[garV Gar.zero none none none none 0 0 0 0, .int .i64 ck]) (by unfold garV; simp [results, Try.results39, go_sem, x0, x1, x2, x3, Gar.zero]) rfl (by rw [HX.out.1, HX.out.2]; exact RetG.zero HB5.out)
  rw [k1] at DK
  have n1 : ((0 : Int) != 0) = false := rfl
  cases k2 : hasS g slot
  case false =>
    have h2 : (hasS g slot && hasP g part) = false := by rw [k2]; rfl
    have HX : Hid (gg = Gar.zero ∧ er = 4) := Lib.hid ⟨TB.out _ (T2.out k1 h2) (by simp), T2.out k1 h2⟩
    rw [k2] at is1
    clear k1 k2 h2 DC0 T1 T2 T3 T4 T5 TB TO DI DM DP is2
    go_enter Try.func39, Try.ntmps39
    go_upto_region 1 with (fail)
    rw [HW0.out]
    refine ext_wp fun X => ?_
    go_wp2_with fail
    refine (Ext.calls _ (DK.out _)).mono ?_
    rintro e w2 ⟨rfl, Y, rfl⟩
    go_wp2_with fail
    refine (Ext.calls _ (DS.out _)).mono ?_
    rintro e w2 ⟨rfl, Y2, rfl⟩
    go_wp2_with fail
    obtain ⟨W5, hW5, hr5, hk5, _⟩ := store4 (HR.out Y2) (.slice none 0 0) (.slice none 0 0) (.slice none 0 0) (.slice none 0 0)
    have x0 : W5.cell? ⟨w.heap.size + 1, 0, none⟩ = some (.slice none 0 0) := block_cell hr5 rfl
    have x1 : W5.cell? ⟨w.heap.size + 1, 1, none⟩ = some (.slice none 0 0) := block_cell hr5 rfl
    have x2 : W5.cell? ⟨w.heap.size + 1, 2, none⟩ = some (.slice none 0 0) := block_cell hr5 rfl
    have x3 : W5.cell? ⟨w.heap.size + 1, 3, none⟩ = some (.slice none 0 0) := block_cell hr5 rfl
    have HB5 := Lib.hid (Kept.below (Y2.down HB.out hbs) hk5 (Nat.le_trans hbs Y2.2.size) (fun k hk e => by omega))
    rw [hW5]
    clear hW5 hr5 hk5
    exact bodyPost_ret (v := .tuple #[garV Gar.zero none none none none 0 0 0 0, .int .i64 4]) (by unfold garV; simp [results, Try.results39, go_sem, x0, x1, x2, x3, Gar.zero]) rfl (by rw [HX.out.1, HX.out.2]; exact RetG.zero HB5.out)
  rw [k2] at is1
  cases k2' : hasP g part
  case false =>
    have h2 : (hasS g slot && hasP g part) = false := by rw [k2, k2']; rfl
    have HX : Hid (gg = Gar.zero ∧ er = 4) := Lib.hid ⟨TB.out _ (T2.out k1 h2) (by simp), T2.out k1 h2⟩
    rw [k2'] at is2
    clear k1 k2 k2' h2 DC0 T1 T2 T3 T4 T5 TB TO DI DM
    go_enter Try.func39, Try.ntmps39
    go_upto_region 1 with (fail)
    rw [HW0.out]
    refine ext_wp fun X => ?_
    go_wp2_with fail
    refine (Ext.calls _ (DK.out _)).mono ?_
    rintro e w2 ⟨rfl, Y, rfl⟩
    go_wp2_with fail
    refine (Ext.calls _ (DS.out _)).mono ?_
    rintro e w2 ⟨rfl, Y2, rfl⟩
    go_wp2_with fail
    refine (Ext.calls _ (DP.out _)).mono ?_
    rintro e w2 ⟨rfl, Y3, rfl⟩
    go_wp2_with fail
    obtain ⟨W5, hW5, hr5, hk5, _⟩ := store4 (HR.out Y3) (.slice none 0 0) (.slice none 0 0) (.slice none 0 0) (.slice none 0 0)
    have x0 : W5.cell? ⟨w.heap.size + 1, 0, none⟩ = some (.slice none 0 0) := block_cell hr5 rfl
    have x1 : W5.cell? ⟨w.heap.size + 1, 1, none⟩ = some (.slice none 0 0) := block_cell hr5 rfl
    have x2 : W5.cell? ⟨w.heap.size + 1, 2, none⟩ = some (.slice none 0 0) := block_cell hr5 rfl
    have x3 : W5.cell? ⟨w.heap.size + 1, 3, none⟩ = some (.slice none 0 0) := block_cell hr5 rfl
    have HB5 := Lib.hid (Kept.below (Y3.down HB.out hbs) hk5 (Nat.le_trans hbs Y3.2.size) (fun k hk e => by omega))
    rw [hW5]
    clear hW5 hr5 hk5
    exact bodyPost_ret (v := .tuple #[garV Gar.zero none none none none 0 0 0 0, .int .i64 4]) (by unfold garV; simp [results, Try.results39, go_sem, x0, x1, x2, x3, Gar.zero]) rfl (by rw [HX.out.1, HX.out.2]; exact RetG.zero HB5.out)
  rw [k2'] at is2
  have h2 : (hasS g slot && hasP g part) = true := by rw [k2, k2']; rfl
  cases k3 : momG x
  case false =>
    have HX : Hid (gg = Gar.zero ∧ er = 9) := Lib.hid ⟨TB.out _ (T3.out k1 h2 k3) (by simp), T3.out k1 h2 k3⟩
    rw [k3] at DM
    clear k1 k2 k2' k3 h2 DC0 T1 T2 T3 T4 T5 TB TO DI
    go_enter Try.func39, Try.ntmps39
    go_upto_region 1 with (fail)
    rw [HW0.out]
    refine ext_wp fun X => ?_
    go_wp2_with fail
    refine (Ext.calls _ (DK.out _)).mono ?_
    rintro e w2 ⟨rfl, Y, rfl⟩
    go_wp2_with fail
    refine (Ext.calls _ (DS.out _)).mono ?_
    rintro e w2 ⟨rfl, Y2, rfl⟩
    go_wp2_with fail
    refine (Ext.calls _ (DP.out _)).mono ?_
    rintro e w2 ⟨rfl, Y3, rfl⟩
    go_wp2_with fail
    refine (DM.out _).mono ?_
    rintro e w2 ⟨rfl, rfl⟩
    go_wp2_with fail
    obtain ⟨W5, hW5, hr5, hk5, _⟩ := store4 (HR.out Y3) (.slice none 0 0) (.slice none 0 0) (.slice none 0 0) (.slice none 0 0)
    have x0 : W5.cell? ⟨w.heap.size + 1, 0, none⟩ = some (.slice none 0 0) := block_cell hr5 rfl
    have x1 : W5.cell? ⟨w.heap.size + 1, 1, none⟩ = some (.slice none 0 0) := block_cell hr5 rfl
    have x2 : W5.cell? ⟨w.heap.size + 1, 2, none⟩ = some (.slice none 0 0) := block_cell hr5 rfl
    have x3 : W5.cell? ⟨w.heap.size + 1, 3, none⟩ = some (.slice none 0 0) := block_cell hr5 rfl
    have HB5 := Lib.hid (Kept.below (Y3.down HB.out hbs) hk5 (Nat.le_trans hbs Y3.2.size) (fun k hk e => by omega))
    rw [hW5]
    clear hW5 hr5 hk5
    exact bodyPost_ret (v := .tuple #[garV Gar.zero none none none none 0 0 0 0, .int .i64 9]) (by unfold garV; simp [results, Try.results39, go_sem, x0, x1, x2, x3, Gar.zero]) rfl (by rw [HX.out.1, HX.out.2]; exact RetG.zero HB5.out)
  rw [k3] at DM
  have hse := str_eq (inR (inF g slot x g.nm 0)).1 part
  by_cases k4 : (inR (inF g slot x g.nm 0)).1 = part
  case pos =>
    have HX : Hid (gg = Gar.zero ∧ er = 5) := Lib.hid ⟨TB.out _ (T4.out k1 h2 k3 k4) (by simp), T4.out k1 h2 k3 k4⟩
    rw [decide_eq_true k4] at hse
    clear k1 k2 k2' k3 k4 h2 DC0 T1 T2 T3 T4 T5 TB TO
    generalize inR (inF g slot x g.nm 0) = ps at DI hse
    go_enter Try.func39, Try.ntmps39
    go_upto_region 1 with (fail)
    rw [HW0.out]
    refine ext_wp fun X => ?_
    go_wp2_with fail
    refine (Ext.calls _ (DK.out _)).mono ?_
    rintro e w2 ⟨rfl, Y, rfl⟩
    go_wp2_with fail
    refine (Ext.calls _ (DS.out _)).mono ?_
    rintro e w2 ⟨rfl, Y2, rfl⟩
    go_wp2_with fail
    refine (Ext.calls _ (DP.out _)).mono ?_
    rintro e w2 ⟨rfl, Y3, rfl⟩
    go_wp2_with fail
    refine (DM.out _).mono ?_
    rintro e w2 ⟨rfl, rfl⟩
    go_wp2_with fail
    refine (Ext.calls _ (DI.out _)).mono ?_
    rintro e w2 ⟨rfl, Y4, rfl⟩
    go_wp2_with fail
    obtain ⟨W5, hW5, hr5, hk5, _⟩ := store4 (HR.out Y4) (.slice none 0 0) (.slice none 0 0) (.slice none 0 0) (.slice none 0 0)
    have x0 : W5.cell? ⟨w.heap.size + 1, 0, none⟩ = some (.slice none 0 0) := block_cell hr5 rfl
    have x1 : W5.cell? ⟨w.heap.size + 1, 1, none⟩ = some (.slice none 0 0) := block_cell hr5 rfl
    have x2 : W5.cell? ⟨w.heap.size + 1, 2, none⟩ = some (.slice none 0 0) := block_cell hr5 rfl
    have x3 : W5.cell? ⟨w.heap.size + 1, 3, none⟩ = some (.slice none 0 0) := block_cell hr5 rfl
    have HB5 := Lib.hid (Kept.below (Y4.down HB.out hbs) hk5 (Nat.le_trans hbs Y4.2.size) (fun k hk e => by omega))
    rw [hW5]
    clear hW5 hr5 hk5
    exact bodyPost_ret (v := .tuple #[garV Gar.zero none none none none 0 0 0 0, .int .i64 5]) (by unfold garV; simp [results, Try.results39, go_sem, x0, x1, x2, x3, Gar.zero]) rfl (by rw [HX.out.1, HX.out.2]; exact RetG.zero HB5.out)
  rw [decide_eq_false k4] at hse
  have hnm : g.nm ≤ 2000 := (Gar.chk_parts k1).2.2.1
  have HT5 := Lib.hid (T5.out k1 h2 k3 k4)
  have DC := Lib.hid (DC0.out k1)
  generalize inR (inF g slot x g.nm 0) = ps at DI hse
  obtain ⟨i0, hi0, hz0, hz1, hz2⟩ := info_parts (show (Try.prog.info? 54).map (fun i => (i.zero, i.size, i.bytes)) = some (some (.agg #[.string ⟨#[]⟩, .string ⟨#[]⟩, .int .i64 0, .int .i64 0]), 4, 48) by kernel_rfl)
  have HI0 := Lib.hid hi0
  have HZ0 := Lib.hid hz0
  have HZ1 := Lib.hid hz1
  have HZ2 := Lib.hid hz2
  have HUS := Lib.hid (show Try.prog.underlying 24 = some (.slice 54) by kernel_rfl)
  clear hi0 hz0 hz1 hz2 k1 k2 k2' k3 k4 h2 DC0 T1 T2 T3 T4 T5
  go_enter Try.func39, Try.ntmps39
  go_upto_region 1 with (fail)
  rw [HW0.out]
  refine ext_wp fun X => ?_
  go_wp2_with fail
  refine (Ext.calls _ (DK.out _)).mono ?_
  rintro e w2 ⟨rfl, Y, rfl⟩
  go_wp2_with fail
  refine (Ext.calls _ (DS.out _)).mono ?_
  rintro e w2 ⟨rfl, Y2, rfl⟩
  go_wp2_with fail
  refine (Ext.calls _ (DP.out _)).mono ?_
  rintro e w2 ⟨rfl, Y3, rfl⟩
  go_wp2_with fail
  refine (DM.out _).mono ?_
  rintro e w2 ⟨rfl, rfl⟩
  go_wp2_with fail
  refine (Ext.calls _ (DI.out _)).mono ?_
  rintro e w2 ⟨rfl, Y4, rfl⟩
  clear DK DS DP DM DI is1 is2
  go_wp2_with fail
  refine (DC.out _).mono ?_
  rintro e w5 ⟨b0, b1, b2, b3, d0, d1, d2, d3, rfl, hog, hb5⟩
  have HOG := Lib.hid hog
  have HB5 := Lib.hid hb5
  obtain ⟨Y5, rfl⟩ : ∃ Y : Ext W0, w5 = Y.1 := ⟨⟨w5, Y4.2.trans (hb5.mono Y4.2.size)⟩, rfl⟩
  clear hog hb5 hse
  go_upto_region 12 with (fail)
  obtain ⟨V2, hV2, hvb2, hvs2, hvq2⟩ := alloc_block Y5.1 #[.slice b0 g.np d0, .slice b1 g.ns d1, .slice b2 g.nm d2, .slice b3 g.nu d3] 27
  rw [hV2]
  obtain ⟨o, ho⟩ : ∃ o, Y5.1.heap.size = o := ⟨_, rfl⟩
  rw [ho] at hvs2 hvq2 ⊢
  have hbase : W0.heap.size ≤ Y4.1.heap.size := Y4.2.size
  have hO0 := ownsRow_below (ownsRow_lower HOG.out.o0 hbase) hvb2
  have hO1 := ownsRow_below (ownsRow_lower HOG.out.o1 hbase) hvb2
  have hO2 := ownsRow_below (ownsRow_lower HOG.out.o2 hbase) hvb2
  have hO3 := ownsRow_below (ownsRow_lower HOG.out.o3 hbase) hvb2
  have hy5 := Y5.2.size
  obtain ⟨Y6, rfl⟩ : ∃ Y : Ext W0, V2 = Y.1 := ⟨⟨V2, below_step Y5.2 hvb2⟩, rfl⟩
  have k3 : Y6.1.cell? ⟨o, 2, none⟩ = some (.slice b2 g.nm d2) := block_cell hvq2 rfl
  have hr2 := (ownRow_of (f := g.cellsM) (fun _ => rfl) hO2).2
  obtain ⟨L, hL⟩ : ∃ L, endL (mineB slot part) x g.mnts = L := ⟨_, rfl⟩
  obtain ⟨n, hn⟩ : ∃ n, L.length = n := ⟨_, rfl⟩
  have hn2 : n ≤ 2000 := by
    have := endL_len (mineB slot part) x g.mnts
    rw [hL, hn, Gar.mnts_len] at this
    omega
  have DE0 := rended_any g.mnts b2 d2 x slot part Y6.1 (rowM_of hr2) (by rw [Gar.mnts_len]; exact hnm)
  rw [Gar.mnts_len, hL, hn] at DE0
  have DE := Lib.hid DE0
  have HL := Lib.hid hL
  have HN := Lib.hid hn
  have HOo := Lib.hid (And.intro hO0 (And.intro hO1 (And.intro hO3 hvq2)))
  have HSO : Hid (W0.heap.size ≤ o) := Lib.hid (by omega)
  clear hO0 hO1 hO2 hO3 hvb2 hvq2 hvs2 hV2 HOG HB5 ho hy5 hbase DE0 hL hn hr2
  go_wp2_with fail
  refine DE.out.mono ?_
  rintro e w6 ⟨v0, rfl, hown6, hb6⟩
  have hown6' := hown6
  rw [← HN.out, ← flatM_range, HN.out] at hown6'
  obtain ⟨av0, cv0, rfl, hcv0, _⟩ := ownRow_hdr (f := fun i => encM (L.getD i default)) (fun _ => rfl) hown6'
  have hy6 := Y6.2.size
  have h6 := ownsRow_lower hown6 hy6
  have HW6 := Lib.hid hb6
  have HO6 := Lib.hid h6
  have HCV : Hid (n ≤ cv0) := Lib.hid hcv0
  obtain ⟨Y7, rfl⟩ : ∃ Y : Ext W0, w6 = Y.1 := ⟨⟨w6, below_step Y6.2 hb6⟩, rfl⟩
  clear hown6 hown6' hb6 h6 hy6 DE k3 hcv0
  go_upto_region 14 with (fail)
  obtain ⟨Vb, hVb, hvb, hvs, hvq⟩ := alloc_block Y7.1 #[.string slot, .string part, .int .i64 x, .int .i64 (-1)] 54
  rw [hVb]
  obtain ⟨pm, hp⟩ : ∃ p, Y7.1.heap.size = p := ⟨_, rfl⟩
  rw [hp] at hvq hvs ⊢
  have hbb0 := below_step Y7.2 hvb
  have HBB0 := Lib.hid hbb0
  obtain ⟨q0, q1, q3, qB⟩ := HOo.out
  have r0 := ownsRow_below q0 HW6.out
  have r1 := ownsRow_below q1 HW6.out
  have r3 := ownsRow_below q3 HW6.out
  have rB := below_block HW6.out qB
  have hpo : pm ≠ o := by have := lt_of_block rB; omega
  have HPO := Lib.hid hpo
  have HOB := Lib.hid (below_block hvb rB)
  have HO0 := Lib.hid (ownsRow_below r0 hvb)
  have HO1 := Lib.hid (ownsRow_below r1 hvb)
  have HO3 := Lib.hid (ownsRow_below r3 hvb)
  have HA0 : Hid (∀ q, (Value.slice b0 g.np d0).ownBlock = some q → q ≠ pm) := Lib.hid (fun q hq e => by have := (r0.lt q hq).2; omega)
  have HA1 : Hid (∀ q, (Value.slice b1 g.ns d1).ownBlock = some q → q ≠ pm) := Lib.hid (fun q hq e => by have := (r1.lt q hq).2; omega)
  have HA3 : Hid (∀ q, (Value.slice b3 g.nu d3).ownBlock = some q → q ≠ pm) := Lib.hid (fun q hq e => by have := (r3.lt q hq).2; omega)
  have hr6 := (rowM_own HN.out HO6.out).2
  have HROW := Lib.hid (hr6.below hvb (Nat.le_refl _))
  have HAP : Hid (∀ b off, av0 = some ⟨b, off, none⟩ → b ≠ pm) := Lib.hid (fun b off e e2 => by
    subst e
    have := (HO6.out.lt b rfl).2
    omega)
  have HAO : Hid (∀ b off, av0 = some ⟨b, off, none⟩ → b ≠ o) := Lib.hid (fun b off e e2 => by
    subst e
    exact row_box HO6.out rB (by decide) (by rw [e2]; rfl))
  have HSB : Hid (W0.heap.size ≤ o ∧ W0.heap.size ≤ Vb.heap.size ∧ W0.heap.size ≤ pm) := Lib.hid ⟨HSO.out, hbb0.size, hp ▸ Y7.2.size⟩
  have HL0 : Hid (NXp L (mineB slot part) x slot part Vb Vb pm 0 (-1)) := Lib.hid ⟨Kept.refl _ _, rfl, hvq⟩
  clear hVb hvb hvs hvq hp hbb0 q0 q1 q3 qB r0 r1 r3 rB hpo hr6 HO6 HW6 HOo HSO
  go_wp2_with fail
  go_loopw [64] (fun iv wr => ∃ (k : Nat) (T : Int), iv = .int .i64 k ∧ k ≤ n ∧ Hid (NXp L (mineB slot part) x slot part Vb wr pm k T)) (fun iv _ => n - (intOf iv).toNat)
  case atStart => exact ⟨0, -1, rfl, by omega, HL0⟩
  case round =>
    obtain ⟨k, T, rfl, hk, HD⟩ := hrel
    by_cases hlt : k < n
    · have t1 : decide ((k : Int) < (n : Int)) = true := by rw [decide_eq_true_eq]; omega
      have t1' : decide (k < n) = true := by simpa using hlt
      have t2 : (k : Int) < (n : Int) := by omega
      have hrw := Kept.row HROW.out HD.out.keep (fun b off e => HAP.out b off e)
      obtain ⟨b, off, rfl, hbl, hc⟩ := hrw.here (by omega)
      have e0 : wr.cell? ⟨b, off + k * 4, none⟩ = some (.string (L.getD k default).s) := hc k hlt 0 (by omega)
      have e1 : wr.cell? ⟨b, off + k * 4 + 1, none⟩ = some (.string (L.getD k default).p) := hc k hlt 1 (by omega)
      have e2 : wr.cell? ⟨b, off + k * 4 + 2, none⟩ = some (.int .i64 (L.getD k default).f) := hc k hlt 2 (by omega)
      have e3 : wr.cell? ⟨b, off + k * 4 + 3, none⟩ = some (.int .i64 (L.getD k default).t) := hc k hlt 3 (by omega)
      have hkl : k < L.length := by rw [HN.out]; exact hlt
      have HSM := Lib.hid (fun (wx : World) (h : NXp L (mineB slot part) x slot part Vb wx pm k T) (e : nxt (mineB slot part) x T (L.getD k default) = T) => h.same hkl e)
      have HTU := Lib.hid (fun (wx : World) (h : NXp L (mineB slot part) x slot part Vb wx pm k T) (e : nxt (mineB slot part) x T (L.getD k default) = (L.getD k default).f) => h.turn hkl e)
      obtain ⟨m, hm⟩ : ∃ m, L.getD k default = m := ⟨_, rfl⟩
      rw [hm] at HSM HTU e0 e1 e2 e3
      obtain ⟨V1, hV1, hvb, hvs, hvl⟩ := alloc_block wr #[.string m.s, .string m.p, .int .i64 m.f, .int .i64 m.t] 54
      obtain ⟨pb, hp⟩ : ∃ p, wr.heap.size = p := ⟨_, rfl⟩
      have z0 : ∀ X : Ext V1, X.1.cell? ⟨pb, 0, none⟩ = some (.string m.s) := fun X => block_cell (below_block X.2 (hp ▸ hvl)) rfl
      have z1 : ∀ X : Ext V1, X.1.cell? ⟨pb, 1, none⟩ = some (.string m.p) := fun X => block_cell (below_block X.2 (hp ▸ hvl)) rfl
      have z2 : ∀ X : Ext V1, X.1.cell? ⟨pb, 2, none⟩ = some (.int .i64 m.f) := fun X => block_cell (below_block X.2 (hp ▸ hvl)) rfl
      have z3 : ∀ X : Ext V1, X.1.cell? ⟨pb, 3, none⟩ = some (.int .i64 m.t) := fun X => block_cell (below_block X.2 (hp ▸ hvl)) rfl
      have HDX := Lib.hid (fun X : Ext V1 => (HD.out.below hvb).below X.2)
      have y3 : ∀ X : Ext V1, X.1.cell? ⟨pm, 3, none⟩ = some (.int .i64 T) := fun X => block_cell (HDX.out X).box rfl
      have f3 : ∀ X : Ext V1, X.1.frozen? ⟨pm, 3, none⟩ = false := fun X => block_free (HDX.out X).box
      have HV1 : Hid (wr.alloc (.cells #[.string m.s, .string m.p, .int .i64 m.f, .int .i64 m.t] 54) = V1) := Lib.hid hV1
      have HP := Lib.hid hp
      have hs1 := str_eq m.s slot
      have hs2 := str_eq m.p part
      clear hV1 hvb hvs hvl hc hbl hm hp hkl hrw G0 G1 G2 G3 Z0 Z1 Z2 Z3 F0 F1 F2 F3
      by_cases hb1 : m.s = slot
      · have hq : mineB slot part m = true := mine_iff.2 (Or.inl hb1)
        rw [decide_eq_true hb1] at hs1
        clear hb1 hs2
        cases hg1 : decide (x < m.f)
        · have HEO : Hid (nxt (mineB slot part) x T m = T) := Lib.hid (by unfold nxt; rw [hq, hg1]; rfl)
          clear hq
          go_upto_region 17 with (fail)
          rw [HV1.out]
          rw [HP.out]
          refine ext_wp fun X2 => ?_
          clear e0 e1 e2 e3
          have HD9 := Lib.hid (HSM.out X2.1 (HDX.out X2) HEO.out)
          go_wp2_with fail
          go_roundw
          case rel => exact ⟨k + 1, T, by go_num, by omega, HD9⟩
          case measure => simp [intOf]; omega
        cases hg2 : decide (T < 0)
        · cases hg3 : decide (m.f < T)
          · have HEO : Hid (nxt (mineB slot part) x T m = T) := Lib.hid (by unfold nxt; rw [hq, hg1, hg2, hg3]; rfl)
            clear hq
            go_upto_region 17 with (fail)
            rw [HV1.out]
            rw [HP.out]
            refine ext_wp fun X2 => ?_
            clear e0 e1 e2 e3
            have HD9 := Lib.hid (HSM.out X2.1 (HDX.out X2) HEO.out)
            go_wp2_with fail
            go_roundw
            case rel => exact ⟨k + 1, T, by go_num, by omega, HD9⟩
            case measure => simp [intOf]; omega
          · have HEO : Hid (nxt (mineB slot part) x T m = m.f) := Lib.hid (by unfold nxt; rw [hq, hg1, hg2, hg3]; rfl)
            clear hq
            go_upto_region 17 with (fail)
            rw [HV1.out]
            rw [HP.out]
            refine ext_wp fun X2 => ?_
            clear e0 e1 e2 e3
            have HD9 := Lib.hid (HTU.out X2.1 (HDX.out X2) HEO.out)
            go_wp2_with fail
            go_roundw
            case rel => exact ⟨k + 1, m.f, by go_num, by omega, HD9⟩
            case measure => simp [intOf]; omega
        · have HEO : Hid (nxt (mineB slot part) x T m = m.f) := Lib.hid (by unfold nxt; rw [hq, hg1, hg2]; rfl)
          clear hq
          go_upto_region 17 with (fail)
          rw [HV1.out]
          rw [HP.out]
          refine ext_wp fun X2 => ?_
          clear e0 e1 e2 e3
          have HD9 := Lib.hid (HTU.out X2.1 (HDX.out X2) HEO.out)
          go_wp2_with fail
          go_roundw
          case rel => exact ⟨k + 1, m.f, by go_num, by omega, HD9⟩
          case measure => simp [intOf]; omega
      · rw [decide_eq_false hb1] at hs1
        by_cases hb2 : m.p = part
        · have hq : mineB slot part m = true := mine_iff.2 (Or.inr hb2)
          rw [decide_eq_true hb2] at hs2
          clear hb1 hb2
          cases hg1 : decide (x < m.f)
          · have HEO : Hid (nxt (mineB slot part) x T m = T) := Lib.hid (by unfold nxt; rw [hq, hg1]; rfl)
            clear hq
            go_upto_region 17 with (fail)
            rw [HV1.out]
            rw [HP.out]
            refine ext_wp fun X2 => ?_
            clear e0 e1 e2 e3
            have HD9 := Lib.hid (HSM.out X2.1 (HDX.out X2) HEO.out)
            go_wp2_with fail
            go_roundw
            case rel => exact ⟨k + 1, T, by go_num, by omega, HD9⟩
            case measure => simp [intOf]; omega
          cases hg2 : decide (T < 0)
          · cases hg3 : decide (m.f < T)
            · have HEO : Hid (nxt (mineB slot part) x T m = T) := Lib.hid (by unfold nxt; rw [hq, hg1, hg2, hg3]; rfl)
              clear hq
              go_upto_region 17 with (fail)
              rw [HV1.out]
              rw [HP.out]
              refine ext_wp fun X2 => ?_
              clear e0 e1 e2 e3
              have HD9 := Lib.hid (HSM.out X2.1 (HDX.out X2) HEO.out)
              go_wp2_with fail
              go_roundw
              case rel => exact ⟨k + 1, T, by go_num, by omega, HD9⟩
              case measure => simp [intOf]; omega
            · have HEO : Hid (nxt (mineB slot part) x T m = m.f) := Lib.hid (by unfold nxt; rw [hq, hg1, hg2, hg3]; rfl)
              clear hq
              go_upto_region 17 with (fail)
              rw [HV1.out]
              rw [HP.out]
              refine ext_wp fun X2 => ?_
              clear e0 e1 e2 e3
              have HD9 := Lib.hid (HTU.out X2.1 (HDX.out X2) HEO.out)
              go_wp2_with fail
              go_roundw
              case rel => exact ⟨k + 1, m.f, by go_num, by omega, HD9⟩
              case measure => simp [intOf]; omega
          · have HEO : Hid (nxt (mineB slot part) x T m = m.f) := Lib.hid (by unfold nxt; rw [hq, hg1, hg2]; rfl)
            clear hq
            go_upto_region 17 with (fail)
            rw [HV1.out]
            rw [HP.out]
            refine ext_wp fun X2 => ?_
            clear e0 e1 e2 e3
            have HD9 := Lib.hid (HTU.out X2.1 (HDX.out X2) HEO.out)
            go_wp2_with fail
            go_roundw
            case rel => exact ⟨k + 1, m.f, by go_num, by omega, HD9⟩
            case measure => simp [intOf]; omega
        · have hq : mineB slot part m = false := by unfold mineB; simp [hb1, hb2]
          rw [decide_eq_false hb2] at hs2
          have HEO : Hid (nxt (mineB slot part) x T m = T) := Lib.hid (by unfold nxt; rw [hq]; rfl)
          clear hb1 hb2 hq
          go_upto_region 17 with (fail)
          rw [HV1.out]
          rw [HP.out]
          refine ext_wp fun X2 => ?_
          clear e0 e1 e2 e3
          have HD9 := Lib.hid (HSM.out X2.1 (HDX.out X2) HEO.out)
          go_wp2_with fail
          go_roundw
          case rel => exact ⟨k + 1, T, by go_num, by omega, HD9⟩
          case measure => simp [intOf]; omega
    · have t1 : decide ((k : Int) < (n : Int)) = false := by rw [decide_eq_false_iff_not]; omega
      have t1' : decide (k < n) = false := by simpa using hlt
      obtain rfl : k = n := by omega
      have hval := HD.out.val
      rw [show L.take k = L by rw [← HN.out, List.take_length]] at hval
      have HNEW : Hid (newM slot part x g.mnts = ⟨slot, part, x, T⟩) := Lib.hid (by
        have e : nextT (mineB slot part) x L = nextT (mineB slot part) x g.mnts := by rw [← HL.out, nextT_end (mine_sp slot part)]
        unfold newM
        rw [← e, hval]
        rfl)
      have rO : wr.heap[o]? = some (.cells #[.slice b0 g.np d0, .slice b1 g.ns d1, .slice b2 g.nm d2, .slice b3 g.nu d3] 27 (0, 0)) := (HD.out.keep.block o (lt_of_block HOB.out) (fun e => HPO.out e.symm)).trans HOB.out
      have k3 : wr.cell? ⟨o, 2, none⟩ = some (.slice b2 g.nm d2) := block_cell rO rfl
      have f3 : wr.frozen? ⟨o, 2, none⟩ = false := block_free rO
      have HRO := Lib.hid rO
      have HKP := Lib.hid HD.out.keep
      have HPX := Lib.hid HD.out.box
      clear hval rO HD HL0 hlt
      go_upto_region 20 with (fail)
      go_wp2_with fail
      obtain ⟨V, hV⟩ : ∃ V, wr.setCell ⟨o, 2, none⟩ (.slice none 0 0) = V := ⟨_, rfl⟩
      rw [hV]
      have hkO : Kept (fun b => b = o) wr V := hV ▸ kept_set (O := fun b => b = o) (Kept.refl _ _) rfl _
      have tB : V.heap[o]? = some (.cells #[.slice b0 g.np d0, .slice b1 g.ns d1, .slice none 0 0, .slice b3 g.nu d3] 27 (0, 0)) := hV ▸ cells_setCell HRO.out
      have hkA : Kept (fun b => b = o ∨ b = pm) Vb V := ⟨hkO.os.trans HKP.out.os, hkO.tape.trans HKP.out.tape, hkO.output.trans HKP.out.output, Nat.le_trans HKP.out.size hkO.size, fun b hb hn => (hkO.block b (Nat.lt_of_lt_of_le hb HKP.out.size) (fun e => hn (Or.inl e))).trans (HKP.out.block b hb (fun e => hn (Or.inr e)))⟩
      obtain ⟨hso, hVb0, hpm0⟩ := HSB.out
      have hVb1 : Vb.heap.size ≤ V.heap.size := hkA.size
      have hbV : Below W0.heap.size W0 V := Kept.below HBB0.out hkA hVb0 (fun k hk e => by omega)
      have aux : ∀ {e : TypeId} {kk nn : Nat} {vv : Value} {xs : List Value}, Vb.ownsRow W0.heap.size e kk vv nn xs → e ≠ 27 → (∀ q, vv.ownBlock = some q → q ≠ pm) → V.ownsRow W0.heap.size e kk vv nn xs := fun h h1 h2 => own_keep (own_keep h HKP.out (fun e => h2 pm e rfl)) hkO (row_box (own_keep h HKP.out (fun e => h2 pm e rfl)) HRO.out h1)
      have t0 := aux HO0.out (by decide) HA0.out
      have t1 := aux HO1.out (by decide) HA1.out
      have t3 := aux HO3.out (by decide) HA3.out
      have hVs : o < V.heap.size := lt_of_block tB
      have rP : V.heap[pm]? = some (.cells #[.string slot, .string part, .int .i64 x, .int .i64 T] 54 (0, 0)) := (hkO.block pm (lt_of_block HPX.out) HPO.out).trans HPX.out
      have HVU : Hid (V.cell? ⟨pm, 0, none⟩ = some (.string slot) ∧ V.cell? ⟨pm, 1, none⟩ = some (.string part) ∧ V.cell? ⟨pm, 2, none⟩ = some (.int .i64 x) ∧ V.cell? ⟨pm, 3, none⟩ = some (.int .i64 T)) := Lib.hid ⟨block_cell rP rfl, block_cell rP rfl, block_cell rP rfl, block_cell rP rfl⟩
      have hsrc := Kept.row HROW.out hkA (fun b off e h => h.elim (fun e2 => HAO.out b off e e2) (fun e2 => HAP.out b off e e2))
      have HL0 : Hid (RMp L ⟨slot, part, x, T⟩ V V o (.slice b0 g.np d0) (.slice b1 g.ns d1) (.slice b3 g.nu d3) 0 cv0 av0 (.slice none 0 0)) := Lib.hid
        ⟨Nat.zero_le _, Kept.refl _ _, by rw [List.take_zero]; exact World.ownsRow_nil _ _ _ _, tB, ⟨fun hl => by
          obtain ⟨b, off, h1, h2, h4⟩ := hsrc.here (by rw [← HN.out]; exact hl)
          exact ⟨b, off, h1, h2, fun i hi j hj => by rw [Nat.zero_add]; exact h4 i (by rw [← HN.out]; exact hi) j hj⟩⟩, fun b off e => HAO.out b off e, by rw [HN.out]; exact HCV.out, fun i hi => absurd hi (Nat.not_lt_zero _)⟩
      have HQV := Lib.hid (And.intro t0 (And.intro t1 (And.intro t3 (And.intro tB hbV))))
      have HSZ : Hid (W0.heap.size ≤ o ∧ W0.heap.size ≤ V.heap.size ∧ o < V.heap.size) := Lib.hid ⟨hso, by omega, hVs⟩
      have DF := Lib.hid (fun (mm : Mo) (W : World) => comes_any mm.s mm.p slot part mm.f mm.t x T W)
      unfold mountV at DF
      obtain ⟨n, hnk⟩ : ∃ n, k = n := ⟨_, rfl⟩
      rw [hnk] at HN hn2 ⊢
      clear hV hkO tB hkA hso hVb0 hpm0 hVb1 hbV aux t0 t1 t3 hVs rP hsrc k3 f3 HRO HKP HPX HROW HAP HAO HCV HOB HO0 HO1 HO3 HA0 HA1 HA3 HBB0 HSB G0 G1 G2 G3 DC
      go_loopw [14] (fun lv wr => ∃ (k cv : Nat) (av : Option Addr) (v : Value), lv = .slice av (L.length - k) cv ∧ Hid (RMp L ⟨slot, part, x, T⟩ V wr o (.slice b0 g.np d0) (.slice b1 g.ns d1) (.slice b3 g.nu d3) k cv av v)) (fun lv _ => sliceLen lv)
      case atStart => exact ⟨0, cv0, av0, .slice none 0 0, by rw [HN.out]; rfl, HL0⟩
      case round =>
        obtain ⟨k, cv, av, v, rfl, HI⟩ := hrel
        by_cases hlt : k < L.length
        · obtain ⟨b, off, rfl, hbl, hc⟩ := HI.out.src.here (by omega)
          have hbo := HI.out.apart b off rfl
          have hkp := HI.out.keep
          have hle := HI.out.le
          have el : ∀ (j : Nat) (z : Value), j < 4 → (encM (L.getD k default))[j]? = some z → V.cell? ⟨b, off + j, none⟩ = some z := fun j z hj hx => by
            have h1 := hc 0 (by omega) j hj
            rw [Nat.zero_mul, Nat.add_zero, Nat.add_zero] at h1
            rw [h1, hx]
          obtain ⟨mm, hmm⟩ : ∃ mm, L.getD k default = mm := ⟨_, rfl⟩
          rw [hmm] at el
          have c0 := el 0 _ (by omega) rfl
          have c1 := el 1 _ (by omega) rfl
          have c2 := el 2 _ (by omega) rfl
          have c3 := el 3 _ (by omega) rfl
          rw [Nat.add_zero] at c0
          have e0 := Ext.ex (hkp.cell (p := ⟨b, off, none⟩) hbo c0)
          have e1 := Ext.ex (hkp.cell (p := ⟨b, off + 1, none⟩) hbo c1)
          have e2 := Ext.ex (hkp.cell (p := ⟨b, off + 2, none⟩) hbo c2)
          have e3 := Ext.ex (hkp.cell (p := ⟨b, off + 3, none⟩) hbo c3)
          have p0 := Ext.ex (hkp.cell (p := ⟨pm, 0, none⟩) HPO.out HVU.out.1)
          have p1 := Ext.ex (hkp.cell (p := ⟨pm, 1, none⟩) HPO.out HVU.out.2.1)
          have p2 := Ext.ex (hkp.cell (p := ⟨pm, 2, none⟩) HPO.out HVU.out.2.2.1)
          have p3 := Ext.ex (hkp.cell (p := ⟨pm, 3, none⟩) HPO.out HVU.out.2.2.2)
          have DF1 := Lib.hid (DF.out mm)
          have HMK := Lib.hid hmm
          have HSRC := Lib.hid HI.out.src
          have hkl2 : k ≤ 2000 := by have := HN.out; omega
          obtain ⟨m, hm⟩ : ∃ m, L.length - k = m := ⟨_, rfl⟩
          rw [hm] at hle HSRC ⊢
          have hm0 : 0 < m := by omega
          have t1 : decide ((0 : Int) < (m : Int)) = true := by rw [decide_eq_true_eq]; omega
          have t1' : decide (0 < m) = true := by simpa using hm0
          have t2 : (0 : Int) < (m : Int) := by omega
          have t5 : (1 : Int) ≤ (m : Int) := by omega
          have HBL := Lib.hid hbl
          have HBO := Lib.hid hbo
          have HM := Lib.hid hm
          obtain ⟨bb, hbb⟩ : ∃ z, befB mm.f x mm.s slot = z := ⟨_, rfl⟩
          rw [hbb] at DF1
          have HBB : Hid (befm (L.getD k default) ⟨slot, part, x, T⟩ = bb) := Lib.hid (by rw [hmm]; exact hbb)
          clear hbb c0 c1 c2 c3 el hc hbo hkp hbl hm hmm
          cases bb
          · go_upto_region 21 with (fail)
            refine ext_wp fun X => ?_
            refine wp_region_ext (W := wr) _ (by kernel_rfl) (by kernel_rfl) ?_
            repeat go_big_quiet_step ((go_at_call 92; exact Ext.calls _ (DF1.out _)))
            refine wpQuiet_nil ?_
            intro _ hw'
            obtain ⟨X2, rfl⟩ := hw'
            go_upto_region 24 with (fail)
            have hwx := X2.2
            have HP := Lib.hid (HI.out.below hwx)
            obtain ⟨wx, hwe⟩ : ∃ w, X2.1 = w := ⟨_, rfl⟩
            rw [hwe] at HP hwx ⊢
            have hkx := HP.out.keep
            have y0 := hkx.cell (p := ⟨pm, 0, none⟩) HPO.out HVU.out.1
            have y1 := hkx.cell (p := ⟨pm, 1, none⟩) HPO.out HVU.out.2.1
            have y2 := hkx.cell (p := ⟨pm, 2, none⟩) HPO.out HVU.out.2.2.1
            have y3 := hkx.cell (p := ⟨pm, 3, none⟩) HPO.out HVU.out.2.2.2
            have z3 : wx.cell? ⟨o, 2, none⟩ = some v := block_cell HP.out.box rfl
            have HINS := Lib.hid (HP.out.stop (Or.inr ⟨hlt, HBB.out⟩))
            have hsV : V.heap.size ≤ wx.heap.size := hkx.size
            have hkn := HP.out.kn
            have hkm : k + 1 + m = n + 1 := by have := HM.out; have := HN.out; omega
            have HKM := Lib.hid hkm
            have hkm2 : k + 1 + m ≤ 5001 := by omega
            clear hkm
            clear e0 e1 e2 e3 p0 p1 p2 p3 X HI DF1 DF hwe X2
            go_wp2_with (at_builtin; refine wpList_append_where _ rfl (.tmp 122) (.tmp 124) 24 rfl V.heap.size 54 i0 (.agg #[.string ⟨#[]⟩, .string ⟨#[]⟩, .int .i64 0, .int .i64 0]) 4 48 HUS.out HI0.out HZ0.out HZ1.out HZ2.out rfl (by decide) v k ((L.take k).flatMap encM) rfl (HP.out.row.alloc _) ⟨wx.heap.size, 0, none⟩ 1 1 (encM ⟨slot, part, x, T⟩) rfl (by decide) rfl ?c1 ?c2 ?c3 ?c4 ?c5 ?_)
            case c1 =>
              intro jj uu hu
              rw [addr_add0, World.cell?_alloc_at _ _ _ _ rfl]
              simpa [encM] using hu
            case c2 => exact encM_one _
            case c3 => unfold maxLen; omega
            case c4 => omega
            case c5 => simp; omega
            intro v7 w7 hown7 hg7 _
            obtain ⟨V3, hV3, hvb3, _, _⟩ := alloc_block wx #[.string slot, .string part, .int .i64 x, .int .i64 T] 54
            rw [hV3] at hg7
            have p3 := ownsRow_below HP.out.row hvb3
            have hk7 : Kept (fun b => b = o) V w7 := (hkx.trans (Kept.of_below hvb3)).grown hg7 (fun q hq hl => by have := (p3.lt q hq).1; omega)
            have hs7 := Kept.row HP.out.src hk7 (fun b off e => HP.out.apart b off e)
            rw [HM.out] at hs7
            have hs7' : RowK w7 (some ⟨b, off, none⟩) m 4 (mAt L k) := hs7
            have pB := below_block hvb3 HP.out.box
            have qB := grown_block hg7 pB (row_box p3 pB (by decide))
            have hs7V : V.heap.size ≤ w7.heap.size := hk7.size
            have HS7 := Lib.hid hs7'
            have HK7 := Lib.hid hk7
            have HQB := Lib.hid qB
            have HO7 := Lib.hid hown7
            clear hV3 hvb3 p3 hk7 hs7 hs7' pB qB hg7 hown7 y0 y1 y2 y3 z3
            go_wp2_with (at_builtin; refine wpList_append_row _ rfl (.tmp 125) (.tmp 126) 24 rfl V.heap.size 54 i0 (.agg #[.string ⟨#[]⟩, .string ⟨#[]⟩, .int .i64 0, .int .i64 0]) 4 48 HUS.out HI0.out HZ0.out HZ1.out HZ2.out rfl (by decide) v7 (k + 1) _ rfl HO7.out (some ⟨b, off, none⟩) m cv (mAt L k) (fun _ => rfl) (fun i => encM_one _) rfl HS7.out ?d1 ?d2 ?d3 ?_)
            case d1 => unfold maxLen; omega
            case d2 => omega
            case d3 => exact hs7V
            intro v8 w8 hown8 hg8
            rw [HKM.out] at hown8
            have hxs : (L.take k).flatMap encM ++ (encM ⟨slot, part, x, T⟩ ++ (List.range m).flatMap (mAt L k)) = (putL slot part x g.mnts).flatMap encM := by
              unfold putL
              rw [HL.out, HNEW.out, HINS.out, ← HM.out, mAt_flat, List.flatMap_append, List.flatMap_cons]
            rw [hxs] at hown8
            obtain ⟨q, cap, rfl⟩ := ownsRow_succ hown8
            have rB := grown_block hg8 HQB.out (row_box HO7.out HQB.out (by decide))
            have hk8 : Kept (fun b => b = o) V w8 := HK7.out.grown hg8 (fun q hq hl => by have := (HO7.out.lt q hq).1; omega)
            have s3 : w8.cell? ⟨o, 2, none⟩ = some v := block_cell rB rfl
            have g3 : w8.frozen? ⟨o, 2, none⟩ = false := block_free rB
            have HQ8 := Lib.hid (And.intro hk8 (And.intro rB hown8))
            clear hk8 rB hown8 hg8 hxs HS7 HO7 HQB HK7
            go_upto_region 25 with (fail)
            obtain ⟨w9, hw9⟩ : ∃ w9, w8.setCell ⟨o, 2, none⟩ (.slice (some ⟨q, 0, none⟩) (n + 1) cap) = w9 := ⟨_, rfl⟩
            rw [hw9]
            obtain ⟨hk8, rB, hown8⟩ := HQ8.out
            obtain ⟨s0, s1, s2, sB, hbV⟩ := HQV.out
            obtain ⟨hso, hV0, hVs⟩ := HSZ.out
            have hk9 : Kept (fun k => k = o) w8 w9 := hw9 ▸ kept_set (O := fun k => k = o) (Kept.refl _ _) rfl _
            have hkV := hk8.trans hk9
            have tB : w9.heap[o]? = some (.cells #[.slice b0 g.np d0, .slice b1 g.ns d1, .slice (some ⟨q, 0, none⟩) (n + 1) cap, .slice b3 g.nu d3] 27 (0, 0)) := hw9 ▸ cells_setCell rB
            have t0 := own_keep s0 hkV (row_box s0 sB (by decide))
            have t1 := own_keep s1 hkV (row_box s1 sB (by decide))
            have t3 := own_keep s2 hkV (row_box s2 sB (by decide))
            have t2 := ownsRow_lower (own_keep hown8 hk9 (row_box hown8 rB (by decide))) hV0
            have hb9 : Below W0.heap.size W0 w9 := Kept.below hbV hkV hV0 (fun k hk e => by omega)
            have hpl : (putL slot part x g.mnts).length = n + 1 := by unfold putL; rw [insL_len, HL.out, HN.out]
            have HQ9 := Lib.hid (And.intro t0 (And.intro t1 (And.intro t2 (And.intro t3 (And.intro tB (And.intro hb9 hpl))))))
            clear hk8 rB hown8 s0 s1 s2 sB hbV hso hV0 hVs hk9 hkV tB t0 t1 t2 t3 hb9 hw9 s3 g3 HQ8 hpl
            obtain ⟨t0, t1, t2, t3, tB, hb9, hmm⟩ := HQ9.out
            obtain ⟨Y9, rfl⟩ : ∃ Y : Ext W0, w9 = Y.1 := ⟨⟨w9, hb9⟩, rfl⟩
            have m0 : Y9.1.cell? ⟨o, 0, none⟩ = some (.slice b0 g.np d0) := block_cell tB rfl
            have m1 : Y9.1.cell? ⟨o, 1, none⟩ = some (.slice b1 g.ns d1) := block_cell tB rfl
            have m2 : Y9.1.cell? ⟨o, 2, none⟩ = some (.slice (some ⟨q, 0, none⟩) (n + 1) cap) := block_cell tB rfl
            have m3 : Y9.1.cell? ⟨o, 3, none⟩ = some (.slice b3 g.nu d3) := block_cell tB rfl
            have HT9 := Lib.hid (And.intro t0 (And.intro t1 (And.intro t2 t3)))
            clear t0 t1 t2 t3 tB hb9 HQ9
            by_cases hbig : 2000 < n + 1
            · have hx5 := HT5.out
              rw [hmm, if_pos hbig] at hx5
              have HX : Hid (gg = Gar.zero ∧ er = 3) := Lib.hid ⟨TB.out _ hx5 (by simp), hx5⟩
              have t5 : decide ((2000 : Int) < (n : Int) + 1) = true := by rw [decide_eq_true_eq]; omega
              have t5' : decide (2000 < n + 1) = true := by simpa using hbig
              clear hx5 hbig hmm
              go_wp2_with fail
              obtain ⟨W5, hW5, hr5, hk5, _⟩ := store4 (HR.out Y9) (.slice none 0 0) (.slice none 0 0) (.slice none 0 0) (.slice none 0 0)
              have x0 : W5.cell? ⟨w.heap.size + 1, 0, none⟩ = some (.slice none 0 0) := block_cell hr5 rfl
              have x1 : W5.cell? ⟨w.heap.size + 1, 1, none⟩ = some (.slice none 0 0) := block_cell hr5 rfl
              have x2 : W5.cell? ⟨w.heap.size + 1, 2, none⟩ = some (.slice none 0 0) := block_cell hr5 rfl
              have x3 : W5.cell? ⟨w.heap.size + 1, 3, none⟩ = some (.slice none 0 0) := block_cell hr5 rfl
              have HB5 := Lib.hid (Kept.below (Y9.down HB.out hbs) hk5 (Nat.le_trans hbs Y9.2.size) (fun k hk e => by omega))
              rw [hW5]
              clear hW5 hr5 hk5
              exact bodyPost_ret (v := .tuple #[garV Gar.zero none none none none 0 0 0 0, .int .i64 3]) (by unfold garV; simp [results, Try.results39, go_sem, x0, x1, x2, x3, Gar.zero]) rfl (by rw [HX.out.1, HX.out.2]; exact RetG.zero HB5.out)
            · have hx5 := HT5.out
              rw [hmm, if_neg hbig] at hx5
              have hok := TO.out hx5
              have hge := HGE.out
              have HX2 : Hid (gg = g.setM (putL slot part x g.mnts) ∧ er = 0) := Lib.hid ⟨hge.symm.trans hok.e, hx5⟩
              have HRI2 := Lib.hid hok.r
              have t5 : decide ((2000 : Int) < (n : Int) + 1) = false := by rw [decide_eq_false_iff_not]; omega
              have t5' : decide (2000 < n + 1) = false := by simpa using hbig
              have HMM := Lib.hid hmm
              clear hx5 hbig hmm hok hge
              go_wp2_with fail
              obtain ⟨t0, t1, t2, t3⟩ := HT9.out
              obtain ⟨W5, hW5, hr5, hk5, _⟩ := store4 (HR.out Y9) (.slice b0 g.np d0) (.slice b1 g.ns d1) (.slice (some ⟨q, 0, none⟩) (n + 1) cap) (.slice b3 g.nu d3)
              have x0 : W5.cell? ⟨w.heap.size + 1, 0, none⟩ = some (.slice b0 g.np d0) := block_cell hr5 rfl
              have x1 : W5.cell? ⟨w.heap.size + 1, 1, none⟩ = some (.slice b1 g.ns d1) := block_cell hr5 rfl
              have x2 : W5.cell? ⟨w.heap.size + 1, 2, none⟩ = some (.slice (some ⟨q, 0, none⟩) (n + 1) cap) := block_cell hr5 rfl
              have x3 : W5.cell? ⟨w.heap.size + 1, 3, none⟩ = some (.slice b3 g.nu d3) := block_cell hr5 rfl
              have low : ∀ b, W0.heap.size ≤ b → ¬ b = w.heap.size + 1 := fun b hb e => by omega
              have z0 := ownsRow_kept t0 hk5 low
              have z1 := ownsRow_kept t1 hk5 low
              have z2 := ownsRow_kept t2 hk5 low
              have z3 := ownsRow_kept t3 hk5 low
              rw [← HMM.out, ← flatM_range] at z2
              have e0 := ownRow_of (f := g.cellsP) (fun _ => rfl) z0
              have e1 := ownRow_of (f := g.cellsS) (fun _ => rfl) z1
              have e2 := ownRow_of (f := fun i => encM ((putL slot part x g.mnts).getD i default)) (fun _ => rfl) z2
              have e3 := ownRow_of (f := g.cellsU) (fun _ => rfl) z3
              have HB5 := Lib.hid (Kept.below (Y9.down HB.out hbs) hk5 (Nat.le_trans hbs Y9.2.size) (fun k hk e => by omega))
              have HFIN : Hid (RetG w W5 (.returned (.tuple #[garV (g.setM (putL slot part x g.mnts)) b0 b1 (some ⟨q, 0, none⟩) b3 d0 d1 cap d3, .int .i64 0])) gg er) := Lib.hid (by
                rw [HX2.out.1, HX2.out.2]
                exact ⟨⟨b0, b1, some ⟨q, 0, none⟩, b3, d0, d1, cap, d3, rfl, setM_in HG.out HRI2.out e0.2 e1.2 e2.2 e3.2, e2.1, e3.1⟩, HB5.out⟩)
              rw [hW5]
              have hlI : (g.setM (putL slot part x g.mnts)).nm = n + 1 := HMM.out
              exact bodyPost_ret (v := .tuple #[garV (g.setM (putL slot part x g.mnts)) b0 b1 (some ⟨q, 0, none⟩) b3 d0 d1 cap d3, .int .i64 0]) (by unfold garV; rw [hlI]; simp [results, Try.results39, go_sem, x0, x1, x2, x3, Gar.setM]) rfl HFIN.out
          · go_upto_region 21 with (fail)
            refine ext_wp fun X => ?_
            refine wp_region_ext (W := wr) _ (by kernel_rfl) (by kernel_rfl) ?_
            repeat go_big_quiet_step ((go_at_call 92; exact Ext.calls _ (DF1.out _)))
            refine wpQuiet_nil ?_
            intro _ hw'
            obtain ⟨X2, rfl⟩ := hw'
            go_upto_region 22 with (fail)
            have hwx := X2.2
            have HP := Lib.hid (HI.out.below hwx)
            obtain ⟨wx, hwe⟩ : ∃ w, X2.1 = w := ⟨_, rfl⟩
            rw [hwe] at HP hwx ⊢
            have hno : ∀ q, v.ownBlock = some q → V.heap.size ≤ q := fun q hq => (HP.out.row.lt q hq).1
            have hOb : ¬ (b = o ∨ v.ownBlock = some b) := fun h => h.elim HBO.out (fun e => by have := hno b e; have := HBL.out; omega)
            have y0 := ExtO.ex (O := fun q => q = o ∨ v.ownBlock = some q) (p := ⟨b, off, none⟩) hOb (below_cell hwx (e0 ⟨wr, Below.refl _ _⟩))
            have y1 := ExtO.ex (O := fun q => q = o ∨ v.ownBlock = some q) (p := ⟨b, off + 1, none⟩) hOb (below_cell hwx (e1 ⟨wr, Below.refl _ _⟩))
            have y2 := ExtO.ex (O := fun q => q = o ∨ v.ownBlock = some q) (p := ⟨b, off + 2, none⟩) hOb (below_cell hwx (e2 ⟨wr, Below.refl _ _⟩))
            have y3 := ExtO.ex (O := fun q => q = o ∨ v.ownBlock = some q) (p := ⟨b, off + 3, none⟩) hOb (below_cell hwx (e3 ⟨wr, Below.refl _ _⟩))
            have z3 : wx.cell? ⟨o, 2, none⟩ = some v := block_cell HP.out.box rfl
            clear e0 e1 e2 e3 p0 p1 p2 p3 hno hOb hwx hwe X X2 HI DF1 DF
            refine held_start (C := fun w' => ∃ Z : ExtO (fun q => q = o ∨ v.ownBlock = some q) wx, w' = Z.1) (by kernel_rfl) ?_
            obtain ⟨Z0, hZ0⟩ : ∃ Z : ExtO (fun q => q = o ∨ v.ownBlock = some q) wx, ({ wx with drawn := wx.drawn + 1 } : World) = Z.1 := ⟨⟨{ wx with drawn := wx.drawn + 1 }, ⟨rfl, rfl, rfl, Nat.le_refl _, fun _ _ _ => rfl⟩⟩, rfl⟩
            have zc : Z0.1.cell? ⟨o, 2, none⟩ = some v := by rw [← hZ0]; exact z3
            have HB0 : Hid (Below wx.heap.size wx Z0.1) := Lib.hid (by rw [← hZ0]; exact ⟨rfl, rfl, rfl, Nat.le_refl _, fun _ _ => rfl⟩)
            rw [hZ0]
            clear hZ0 z3
            refine held_quiet (by kernel_rfl) (fun _ _ d _ _ h => by cases d <;> exact h) ⟨Z0, rfl⟩ [0, 2, 3, 4] 5 _ _ (by kernel_rfl) ?_
            change wpQuiet _ _ _ _ (_ :: _ :: _ :: _ :: []) _
            repeat go_big_quiet_step (fail)
            refine wpQuiet_nil ?_
            clear y0 y1 y2 y3
            refine held_two (i := 1) (j := 5) _ _ rfl rfl (by kernel_rfl) rfl rfl (fun K hK => ?_) (fun K hK => ?_)
            · go_simp
              refine hK _ _ ⟨Z0, rfl⟩ ?_
              clear hK K
              try simp only [Act.put, List.setIfInBounds_toArray, List.set_cons_zero, List.set_cons_succ]
              refine held_do (i := 5) _ rfl (by kernel_rfl) rfl (fun K hK => ?_)
              go_simp
              obtain ⟨V3, hV3, hvb3, _, hvq3⟩ := alloc_block Z0.1 #[.string mm.s, .string mm.p, .int .i64 mm.f, .int .i64 mm.t] 54
              rw [hV3]
              have HB3 := Lib.hid hvb3
              have HVQ3 := Lib.hid hvq3
              have z4 := below_cell hvb3 zc
              refine hK _ _ ⟨⟨V3, Z0.2.trans (Kept.of_below hvb3)⟩, rfl⟩ ?_
              clear hK K hV3 hvb3 hvq3
              try simp only [Act.put, List.setIfInBounds_toArray, List.set_cons_zero, List.set_cons_succ]
              refine held_do (i := 6) _ rfl (by kernel_rfl) rfl (fun K hK => ?_)
              refine wp_append_own V3 (.tmp 112) (.tmp 116) 24 rfl V.heap.size 54 i0 (.agg #[.string ⟨#[]⟩, .string ⟨#[]⟩, .int .i64 0, .int .i64 0]) 4 48 HUS.out HI0.out HZ0.out HZ1.out HZ2.out rfl (by decide) v k ((L.take k).flatMap encM) rfl (ownsRow_below HP.out.row (below_step HB0.out HB3.out)) ⟨Z0.1.heap.size, 0, none⟩ 1 1 (encM mm) rfl rfl (fun j uu hu => by rw [addr_add0]; exact block_cell HVQ3.out (by rw [← Array.getElem?_toList]; exact hu)) (encM_one mm) (by unfold maxLen; omega) (by omega) (by have := HP.out.keep.size; have := HB0.out.size; have := HB3.out.size; omega) (fun v7 w7 hown7 hg7 _ => ?_)
              obtain ⟨q7, cap7, rfl⟩ := ownsRow_succ hown7
              have hb03 := below_step HB0.out HB3.out
              have hk7 : Kept (fun q => q = o ∨ v.ownBlock = some q) wx w7 := (Kept.of_below hb03).grown hg7 (fun q hq _ => Or.inr hq)
              have b7 := grown_block hg7 (below_block hb03 HP.out.box) (row_box (ownsRow_below HP.out.row hb03) (below_block hb03 HP.out.box) (by decide))
              have s7 : w7.cell? ⟨o, 2, none⟩ = some v := block_cell b7 rfl
              have f7 : w7.frozen? ⟨o, 2, none⟩ = false := block_free b7
              have HNX := Lib.hid (fun (cv' : Nat) (av' : Option Addr) hs ha hl => RMp.next HP.out hlt hb03 hg7 (by rw [HMK.out]; exact hown7) (cv' := cv') (av' := av') hs ha hl HBB.out)
              refine hK _ _ ⟨⟨w7, hk7⟩, rfl⟩ ?_
              clear hK K
              try simp only [Act.put, List.setIfInBounds_toArray, List.set_cons_zero, List.set_cons_succ]
              refine held_do (i := 7) _ rfl (by kernel_rfl) rfl (fun K hK => ?_)
              go_simp
              refine hK _ _ ⟨⟨w7, hk7⟩, rfl⟩ ?_
              clear hK K
              try simp only [Act.put, List.setIfInBounds_toArray, List.set_cons_zero, List.set_cons_succ]
              refine held_do (i := 8) _ rfl (by kernel_rfl) rfl (fun K hK => ?_)
              go_simp
              refine hK _ _ ⟨⟨w7.setCell ⟨o, 2, none⟩ (.slice (some ⟨q7, 0, none⟩) (k + 1) cap7), kept_set hk7 (Or.inl rfl) _⟩, rfl⟩ ?_
              clear hK K hk7 b7 hown7 hg7 hb03
              try simp only [Act.put, List.setIfInBounds_toArray, List.set_cons_zero, List.set_cons_succ]
              refine wpAnyH_done (by kernel_rfl) ?_ _
              by_cases hcv : cv = 1
              · obtain rfl : m = 1 := by omega
                subst hcv
                go_wp2_with fail
                refine ⟨⟨k + 1, 0, some ⟨b, off, none⟩, _, ?_, Lib.hid (HNX.out 0 (some ⟨b, off, none⟩) ⟨fun hl => by have := HM.out; omega⟩ (fun b1 off1 e => by injection e with e; injection e with e; rw [← e]; exact HBO.out) (by have := HM.out; omega))⟩, ?_⟩
                · rw [show L.length - (k + 1) = 0 by have := HM.out; omega]
                · exact Nat.zero_lt_one
              · have hcv2 : 1 < cv := by omega
                go_wp2_with fail
                refine ⟨⟨k + 1, cv - 1, some ⟨b, off + 4, none⟩, _, ?_, Lib.hid (HNX.out (cv - 1) (some ⟨b, off + 4, none⟩) (rowM_next (f := fun i => encM (L.getD i default)) HSRC.out HM.out) (fun b1 off1 e => by injection e with e; injection e with e; rw [← e]; exact HBO.out) (by have := HM.out; omega))⟩, ?_⟩
                · rw [show L.length - (k + 1) = m - 1 by have := HM.out; omega]
                · show m - 1 < m
                  omega
            · go_simp
              obtain ⟨V3, hV3, hvb3, _, hvq3⟩ := alloc_block Z0.1 #[.string mm.s, .string mm.p, .int .i64 mm.f, .int .i64 mm.t] 54
              rw [hV3]
              have HB3 := Lib.hid hvb3
              have HVQ3 := Lib.hid hvq3
              have z4 := below_cell hvb3 zc
              refine hK _ _ ⟨⟨V3, Z0.2.trans (Kept.of_below hvb3)⟩, rfl⟩ ?_
              clear hK K hV3 hvb3 hvq3
              try simp only [Act.put, List.setIfInBounds_toArray, List.set_cons_zero, List.set_cons_succ]
              refine held_do (i := 1) _ rfl (by kernel_rfl) rfl (fun K hK => ?_)
              go_simp
              refine hK _ _ ⟨⟨V3, Z0.2.trans (Kept.of_below HB3.out)⟩, rfl⟩ ?_
              clear hK K
              try simp only [Act.put, List.setIfInBounds_toArray, List.set_cons_zero, List.set_cons_succ]
              refine held_do (i := 6) _ rfl (by kernel_rfl) rfl (fun K hK => ?_)
              refine wp_append_own V3 (.tmp 112) (.tmp 116) 24 rfl V.heap.size 54 i0 (.agg #[.string ⟨#[]⟩, .string ⟨#[]⟩, .int .i64 0, .int .i64 0]) 4 48 HUS.out HI0.out HZ0.out HZ1.out HZ2.out rfl (by decide) v k ((L.take k).flatMap encM) rfl (ownsRow_below HP.out.row (below_step HB0.out HB3.out)) ⟨Z0.1.heap.size, 0, none⟩ 1 1 (encM mm) rfl rfl (fun j uu hu => by rw [addr_add0]; exact block_cell HVQ3.out (by rw [← Array.getElem?_toList]; exact hu)) (encM_one mm) (by unfold maxLen; omega) (by omega) (by have := HP.out.keep.size; have := HB0.out.size; have := HB3.out.size; omega) (fun v7 w7 hown7 hg7 _ => ?_)
              obtain ⟨q7, cap7, rfl⟩ := ownsRow_succ hown7
              have hb03 := below_step HB0.out HB3.out
              have hk7 : Kept (fun q => q = o ∨ v.ownBlock = some q) wx w7 := (Kept.of_below hb03).grown hg7 (fun q hq _ => Or.inr hq)
              have b7 := grown_block hg7 (below_block hb03 HP.out.box) (row_box (ownsRow_below HP.out.row hb03) (below_block hb03 HP.out.box) (by decide))
              have s7 : w7.cell? ⟨o, 2, none⟩ = some v := block_cell b7 rfl
              have f7 : w7.frozen? ⟨o, 2, none⟩ = false := block_free b7
              have HNX := Lib.hid (fun (cv' : Nat) (av' : Option Addr) hs ha hl => RMp.next HP.out hlt hb03 hg7 (by rw [HMK.out]; exact hown7) (cv' := cv') (av' := av') hs ha hl HBB.out)
              refine hK _ _ ⟨⟨w7, hk7⟩, rfl⟩ ?_
              clear hK K
              try simp only [Act.put, List.setIfInBounds_toArray, List.set_cons_zero, List.set_cons_succ]
              refine held_do (i := 7) _ rfl (by kernel_rfl) rfl (fun K hK => ?_)
              go_simp
              refine hK _ _ ⟨⟨w7, hk7⟩, rfl⟩ ?_
              clear hK K
              try simp only [Act.put, List.setIfInBounds_toArray, List.set_cons_zero, List.set_cons_succ]
              refine held_do (i := 8) _ rfl (by kernel_rfl) rfl (fun K hK => ?_)
              go_simp
              refine hK _ _ ⟨⟨w7.setCell ⟨o, 2, none⟩ (.slice (some ⟨q7, 0, none⟩) (k + 1) cap7), kept_set hk7 (Or.inl rfl) _⟩, rfl⟩ ?_
              clear hK K hk7 b7 hown7 hg7 hb03
              try simp only [Act.put, List.setIfInBounds_toArray, List.set_cons_zero, List.set_cons_succ]
              refine wpAnyH_done (by kernel_rfl) ?_ _
              by_cases hcv : cv = 1
              · obtain rfl : m = 1 := by omega
                subst hcv
                go_wp2_with fail
                refine ⟨⟨k + 1, 0, some ⟨b, off, none⟩, _, ?_, Lib.hid (HNX.out 0 (some ⟨b, off, none⟩) ⟨fun hl => by have := HM.out; omega⟩ (fun b1 off1 e => by injection e with e; injection e with e; rw [← e]; exact HBO.out) (by have := HM.out; omega))⟩, ?_⟩
                · rw [show L.length - (k + 1) = 0 by have := HM.out; omega]
                · exact Nat.zero_lt_one
              · have hcv2 : 1 < cv := by omega
                go_wp2_with fail
                refine ⟨⟨k + 1, cv - 1, some ⟨b, off + 4, none⟩, _, ?_, Lib.hid (HNX.out (cv - 1) (some ⟨b, off + 4, none⟩) (rowM_next (f := fun i => encM (L.getD i default)) HSRC.out HM.out) (fun b1 off1 e => by injection e with e; injection e with e; rw [← e]; exact HBO.out) (by have := HM.out; omega))⟩, ?_⟩
                · rw [show L.length - (k + 1) = m - 1 by have := HM.out; omega]
                · show m - 1 < m
                  omega
        · have hk2 : k = L.length := by have := HI.out.kn; omega
          have HBB := Lib.hid hk2
          have hkp := HI.out.keep
          have p0 := Ext.ex (hkp.cell (p := ⟨pm, 0, none⟩) HPO.out HVU.out.1)
          have p1 := Ext.ex (hkp.cell (p := ⟨pm, 1, none⟩) HPO.out HVU.out.2.1)
          have p2 := Ext.ex (hkp.cell (p := ⟨pm, 2, none⟩) HPO.out HVU.out.2.2.1)
          have p3 := Ext.ex (hkp.cell (p := ⟨pm, 3, none⟩) HPO.out HVU.out.2.2.2)
          have hkl2 : k ≤ 2000 := by have := HN.out; omega
          obtain ⟨m, hm⟩ : ∃ m, L.length - k = m := ⟨_, rfl⟩
          rw [hm]
          have t1 : decide ((0 : Int) < (m : Int)) = false := by rw [decide_eq_false_iff_not]; omega
          have t1' : decide (0 < m) = false := by rw [decide_eq_false_iff_not]; omega
          have HM := Lib.hid hm
          clear hm hlt hk2 hkp DF
          go_upto_region 21 with (fail)
          refine ext_wp fun X => ?_
          refine wp_region_ext (W := wr) _ (by kernel_rfl) (by kernel_rfl) ?_
          repeat go_big_quiet_step (fail)
          refine wpQuiet_nil ?_
          intro _ hw'
          obtain ⟨X2, rfl⟩ := hw'
          go_upto_region 24 with (fail)
          have hwx := X2.2
          have HP := Lib.hid (HI.out.below hwx)
          obtain ⟨wx, hwe⟩ : ∃ w, X2.1 = w := ⟨_, rfl⟩
          rw [hwe] at HP hwx ⊢
          have hkx := HP.out.keep
          have y0 := hkx.cell (p := ⟨pm, 0, none⟩) HPO.out HVU.out.1
          have y1 := hkx.cell (p := ⟨pm, 1, none⟩) HPO.out HVU.out.2.1
          have y2 := hkx.cell (p := ⟨pm, 2, none⟩) HPO.out HVU.out.2.2.1
          have y3 := hkx.cell (p := ⟨pm, 3, none⟩) HPO.out HVU.out.2.2.2
          have z3 : wx.cell? ⟨o, 2, none⟩ = some v := block_cell HP.out.box rfl
          have HINS := Lib.hid (HP.out.stop (Or.inl HBB.out))
          have hsV : V.heap.size ≤ wx.heap.size := hkx.size
          have hkn := HP.out.kn
          have hkm : k + 1 + m = n + 1 := by have := HM.out; have := HN.out; omega
          have HKM := Lib.hid hkm
          have hkm2 : k + 1 + m ≤ 5001 := by omega
          clear hkm
          clear p0 p1 p2 p3 X HI hwe X2
          go_wp2_with (at_builtin; refine wpList_append_where _ rfl (.tmp 122) (.tmp 124) 24 rfl V.heap.size 54 i0 (.agg #[.string ⟨#[]⟩, .string ⟨#[]⟩, .int .i64 0, .int .i64 0]) 4 48 HUS.out HI0.out HZ0.out HZ1.out HZ2.out rfl (by decide) v k ((L.take k).flatMap encM) rfl (HP.out.row.alloc _) ⟨wx.heap.size, 0, none⟩ 1 1 (encM ⟨slot, part, x, T⟩) rfl (by decide) rfl ?c1 ?c2 ?c3 ?c4 ?c5 ?_)
          case c1 =>
            intro jj uu hu
            rw [addr_add0, World.cell?_alloc_at _ _ _ _ rfl]
            simpa [encM] using hu
          case c2 => exact encM_one _
          case c3 => unfold maxLen; omega
          case c4 => omega
          case c5 => simp; omega
          intro v7 w7 hown7 hg7 _
          obtain ⟨V3, hV3, hvb3, _, _⟩ := alloc_block wx #[.string slot, .string part, .int .i64 x, .int .i64 T] 54
          rw [hV3] at hg7
          have p3 := ownsRow_below HP.out.row hvb3
          have hk7 : Kept (fun b => b = o) V w7 := (hkx.trans (Kept.of_below hvb3)).grown hg7 (fun q hq hl => by have := (p3.lt q hq).1; omega)
          have hs7 := Kept.row HP.out.src hk7 (fun b off e => HP.out.apart b off e)
          rw [HM.out] at hs7
          have hs7' : RowK w7 av m 4 (mAt L k) := hs7
          have pB := below_block hvb3 HP.out.box
          have qB := grown_block hg7 pB (row_box p3 pB (by decide))
          have hs7V : V.heap.size ≤ w7.heap.size := hk7.size
          have HS7 := Lib.hid hs7'
          have HK7 := Lib.hid hk7
          have HQB := Lib.hid qB
          have HO7 := Lib.hid hown7
          clear hV3 hvb3 p3 hk7 hs7 hs7' pB qB hg7 hown7 y0 y1 y2 y3 z3
          go_wp2_with (at_builtin; refine wpList_append_row _ rfl (.tmp 125) (.tmp 126) 24 rfl V.heap.size 54 i0 (.agg #[.string ⟨#[]⟩, .string ⟨#[]⟩, .int .i64 0, .int .i64 0]) 4 48 HUS.out HI0.out HZ0.out HZ1.out HZ2.out rfl (by decide) v7 (k + 1) _ rfl HO7.out av m cv (mAt L k) (fun _ => rfl) (fun i => encM_one _) rfl HS7.out ?d1 ?d2 ?d3 ?_)
          case d1 => unfold maxLen; omega
          case d2 => omega
          case d3 => exact hs7V
          intro v8 w8 hown8 hg8
          rw [HKM.out] at hown8
          have hxs : (L.take k).flatMap encM ++ (encM ⟨slot, part, x, T⟩ ++ (List.range m).flatMap (mAt L k)) = (putL slot part x g.mnts).flatMap encM := by
            unfold putL
            rw [HL.out, HNEW.out, HINS.out, ← HM.out, mAt_flat, List.flatMap_append, List.flatMap_cons]
          rw [hxs] at hown8
          obtain ⟨q, cap, rfl⟩ := ownsRow_succ hown8
          have rB := grown_block hg8 HQB.out (row_box HO7.out HQB.out (by decide))
          have hk8 : Kept (fun b => b = o) V w8 := HK7.out.grown hg8 (fun q hq hl => by have := (HO7.out.lt q hq).1; omega)
          have s3 : w8.cell? ⟨o, 2, none⟩ = some v := block_cell rB rfl
          have g3 : w8.frozen? ⟨o, 2, none⟩ = false := block_free rB
          have HQ8 := Lib.hid (And.intro hk8 (And.intro rB hown8))
          clear hk8 rB hown8 hg8 hxs HS7 HO7 HQB HK7
          go_upto_region 25 with (fail)
          obtain ⟨w9, hw9⟩ : ∃ w9, w8.setCell ⟨o, 2, none⟩ (.slice (some ⟨q, 0, none⟩) (n + 1) cap) = w9 := ⟨_, rfl⟩
          rw [hw9]
          obtain ⟨hk8, rB, hown8⟩ := HQ8.out
          obtain ⟨s0, s1, s2, sB, hbV⟩ := HQV.out
          obtain ⟨hso, hV0, hVs⟩ := HSZ.out
          have hk9 : Kept (fun k => k = o) w8 w9 := hw9 ▸ kept_set (O := fun k => k = o) (Kept.refl _ _) rfl _
          have hkV := hk8.trans hk9
          have tB : w9.heap[o]? = some (.cells #[.slice b0 g.np d0, .slice b1 g.ns d1, .slice (some ⟨q, 0, none⟩) (n + 1) cap, .slice b3 g.nu d3] 27 (0, 0)) := hw9 ▸ cells_setCell rB
          have t0 := own_keep s0 hkV (row_box s0 sB (by decide))
          have t1 := own_keep s1 hkV (row_box s1 sB (by decide))
          have t3 := own_keep s2 hkV (row_box s2 sB (by decide))
          have t2 := ownsRow_lower (own_keep hown8 hk9 (row_box hown8 rB (by decide))) hV0
          have hb9 : Below W0.heap.size W0 w9 := Kept.below hbV hkV hV0 (fun k hk e => by omega)
          have hpl : (putL slot part x g.mnts).length = n + 1 := by unfold putL; rw [insL_len, HL.out, HN.out]
          have HQ9 := Lib.hid (And.intro t0 (And.intro t1 (And.intro t2 (And.intro t3 (And.intro tB (And.intro hb9 hpl))))))
          clear hk8 rB hown8 s0 s1 s2 sB hbV hso hV0 hVs hk9 hkV tB t0 t1 t2 t3 hb9 hw9 s3 g3 HQ8 hpl
          obtain ⟨t0, t1, t2, t3, tB, hb9, hmm⟩ := HQ9.out
          obtain ⟨Y9, rfl⟩ : ∃ Y : Ext W0, w9 = Y.1 := ⟨⟨w9, hb9⟩, rfl⟩
          have m0 : Y9.1.cell? ⟨o, 0, none⟩ = some (.slice b0 g.np d0) := block_cell tB rfl
          have m1 : Y9.1.cell? ⟨o, 1, none⟩ = some (.slice b1 g.ns d1) := block_cell tB rfl
          have m2 : Y9.1.cell? ⟨o, 2, none⟩ = some (.slice (some ⟨q, 0, none⟩) (n + 1) cap) := block_cell tB rfl
          have m3 : Y9.1.cell? ⟨o, 3, none⟩ = some (.slice b3 g.nu d3) := block_cell tB rfl
          have HT9 := Lib.hid (And.intro t0 (And.intro t1 (And.intro t2 t3)))
          clear t0 t1 t2 t3 tB hb9 HQ9
          by_cases hbig : 2000 < n + 1
          · have hx5 := HT5.out
            rw [hmm, if_pos hbig] at hx5
            have HX : Hid (gg = Gar.zero ∧ er = 3) := Lib.hid ⟨TB.out _ hx5 (by simp), hx5⟩
            have t5 : decide ((2000 : Int) < (n : Int) + 1) = true := by rw [decide_eq_true_eq]; omega
            have t5' : decide (2000 < n + 1) = true := by simpa using hbig
            clear hx5 hbig hmm
            go_wp2_with fail
            obtain ⟨W5, hW5, hr5, hk5, _⟩ := store4 (HR.out Y9) (.slice none 0 0) (.slice none 0 0) (.slice none 0 0) (.slice none 0 0)
            have x0 : W5.cell? ⟨w.heap.size + 1, 0, none⟩ = some (.slice none 0 0) := block_cell hr5 rfl
            have x1 : W5.cell? ⟨w.heap.size + 1, 1, none⟩ = some (.slice none 0 0) := block_cell hr5 rfl
            have x2 : W5.cell? ⟨w.heap.size + 1, 2, none⟩ = some (.slice none 0 0) := block_cell hr5 rfl
            have x3 : W5.cell? ⟨w.heap.size + 1, 3, none⟩ = some (.slice none 0 0) := block_cell hr5 rfl
            have HB5 := Lib.hid (Kept.below (Y9.down HB.out hbs) hk5 (Nat.le_trans hbs Y9.2.size) (fun k hk e => by omega))
            rw [hW5]
            clear hW5 hr5 hk5
            exact bodyPost_ret (v := .tuple #[garV Gar.zero none none none none 0 0 0 0, .int .i64 3]) (by unfold garV; simp [results, Try.results39, go_sem, x0, x1, x2, x3, Gar.zero]) rfl (by rw [HX.out.1, HX.out.2]; exact RetG.zero HB5.out)
          · have hx5 := HT5.out
            rw [hmm, if_neg hbig] at hx5
            have hok := TO.out hx5
            have hge := HGE.out
            have HX2 : Hid (gg = g.setM (putL slot part x g.mnts) ∧ er = 0) := Lib.hid ⟨hge.symm.trans hok.e, hx5⟩
            have HRI2 := Lib.hid hok.r
            have t5 : decide ((2000 : Int) < (n : Int) + 1) = false := by rw [decide_eq_false_iff_not]; omega
            have t5' : decide (2000 < n + 1) = false := by simpa using hbig
            have HMM := Lib.hid hmm
            clear hx5 hbig hmm hok hge
            go_wp2_with fail
            obtain ⟨t0, t1, t2, t3⟩ := HT9.out
            obtain ⟨W5, hW5, hr5, hk5, _⟩ := store4 (HR.out Y9) (.slice b0 g.np d0) (.slice b1 g.ns d1) (.slice (some ⟨q, 0, none⟩) (n + 1) cap) (.slice b3 g.nu d3)
            have x0 : W5.cell? ⟨w.heap.size + 1, 0, none⟩ = some (.slice b0 g.np d0) := block_cell hr5 rfl
            have x1 : W5.cell? ⟨w.heap.size + 1, 1, none⟩ = some (.slice b1 g.ns d1) := block_cell hr5 rfl
            have x2 : W5.cell? ⟨w.heap.size + 1, 2, none⟩ = some (.slice (some ⟨q, 0, none⟩) (n + 1) cap) := block_cell hr5 rfl
            have x3 : W5.cell? ⟨w.heap.size + 1, 3, none⟩ = some (.slice b3 g.nu d3) := block_cell hr5 rfl
            have low : ∀ b, W0.heap.size ≤ b → ¬ b = w.heap.size + 1 := fun b hb e => by omega
            have z0 := ownsRow_kept t0 hk5 low
            have z1 := ownsRow_kept t1 hk5 low
            have z2 := ownsRow_kept t2 hk5 low
            have z3 := ownsRow_kept t3 hk5 low
            rw [← HMM.out, ← flatM_range] at z2
            have e0 := ownRow_of (f := g.cellsP) (fun _ => rfl) z0
            have e1 := ownRow_of (f := g.cellsS) (fun _ => rfl) z1
            have e2 := ownRow_of (f := fun i => encM ((putL slot part x g.mnts).getD i default)) (fun _ => rfl) z2
            have e3 := ownRow_of (f := g.cellsU) (fun _ => rfl) z3
            have HB5 := Lib.hid (Kept.below (Y9.down HB.out hbs) hk5 (Nat.le_trans hbs Y9.2.size) (fun k hk e => by omega))
            have HFIN : Hid (RetG w W5 (.returned (.tuple #[garV (g.setM (putL slot part x g.mnts)) b0 b1 (some ⟨q, 0, none⟩) b3 d0 d1 cap d3, .int .i64 0])) gg er) := Lib.hid (by
              rw [HX2.out.1, HX2.out.2]
              exact ⟨⟨b0, b1, some ⟨q, 0, none⟩, b3, d0, d1, cap, d3, rfl, setM_in HG.out HRI2.out e0.2 e1.2 e2.2 e3.2, e2.1, e3.1⟩, HB5.out⟩)
            rw [hW5]
            have hlI : (g.setM (putL slot part x g.mnts)).nm = n + 1 := HMM.out
            exact bodyPost_ret (v := .tuple #[garV (g.setM (putL slot part x g.mnts)) b0 b1 (some ⟨q, 0, none⟩) b3 d0 d1 cap d3, .int .i64 0]) (by unfold garV; rw [hlI]; simp [results, Try.results39, go_sem, x0, x1, x2, x3, Gar.setM]) rfl HFIN.out
end Go.Proofs.Ytbkpoepacjinlaa

/- Gear: the walks of GearMountsMatchSpec and of GearMountsStayRight. (Printed by gen_mlaw.py.) -/
namespace Go.Proofs.Ytbkpoepacjinlaa
open Go.RowKit Go.BigFrame
open Gar (chk momG hasS hasP putErr putG takeErr takeG)

set_option maxHeartbeats 4000000 in
set_option maxRecDepth 100000 in
theorem mountsMatch_law (g : Gar) (a0 a1 a2 a3 : Option Addr) (c0 c1 c2 c3 : Nat) (slot part : ByteArray) (x : Int) (w : World) (h : GarIn w g a0 a1 a2 a3) (hc2 : g.nm ≤ c2) (hc3 : g.nu ≤ c3) :
    Calls Try.prog 10 #[garV g a0 a1 a2 a3 c0 c1 c2 c3, .string slot, .string part, .int .i64 x] w fun e w' => e = .returned (.bool true) ∧ Below w.heap.size w w' := by
  obtain ⟨W0, hW0, hb0, hs0, hq0⟩ := allocs w [.cells #[.slice a0 g.np c0, .slice a1 g.ns c1, .slice a2 g.nm c2, .slice a3 g.nu c3] 27]
  have hbs0 : w.heap.size ≤ W0.heap.size := hb0.size
  have hDN0 := hb0
  have B00 := Ext.ex (show W0.cell? ⟨w.heap.size, 0, none⟩ = some (.slice a0 g.np c0) from block_cell (hq0 0 _ rfl) rfl)
  have B01 := Ext.ex (show W0.cell? ⟨w.heap.size, 1, none⟩ = some (.slice a1 g.ns c1) from block_cell (hq0 0 _ rfl) rfl)
  have B02 := Ext.ex (show W0.cell? ⟨w.heap.size, 2, none⟩ = some (.slice a2 g.nm c2) from block_cell (hq0 0 _ rfl) rfl)
  have B03 := Ext.ex (show W0.cell? ⟨w.heap.size, 3, none⟩ = some (.slice a3 g.nu c3) from block_cell (hq0 0 _ rfl) rfl)
  have HW0 := Lib.hid (show (w.alloc (.cells #[.slice a0 g.np c0, .slice a1 g.ns c1, .slice a2 g.nm c2, .slice a3 g.nu c3] 27)) = W0 from hW0)
  have HIA := Lib.hid (fun (X : Ext W0) => h.below (hDN0.trans (X.2.mono hbs0)))
  have D1 := Lib.hid (fun (W : World) (hW : GarIn W g a0 a1 a2 a3) => put_any g a0 a1 a2 a3 c0 c1 c2 c3 slot part x W hW)
  have D2 := Lib.hid (fun (W : World) (hW : GarIn W g a0 a1 a2 a3) => rput_any g a0 a1 a2 a3 c0 c1 c2 c3 slot part x W hW hc2 hc3)
  have D3 := Lib.hid (fun (W : World) (hW : GarIn W g a0 a1 a2 a3) => take_any g a0 a1 a2 a3 c0 c1 c2 c3 slot x W hW)
  have D4 := Lib.hid (fun (W : World) (hW : GarIn W g a0 a1 a2 a3) => rtake_any g a0 a1 a2 a3 c0 c1 c2 c3 slot x W hW hc2 hc3)
  have DS := Lib.hid (fun (g : Gar) (a0 a1 a2 a3 b0 b1 b2 b3 : Option Addr) (c0 c1 c2 c3 d0 d1 d2 d3 : Nat) (w : World) (h : GarIn w g a0 a1 a2 a3) (h' : GarIn w g b0 b1 b2 b3) => same_any g a0 a1 a2 a3 b0 b1 b2 b3 c0 c1 c2 c3 d0 d1 d2 d3 w h h')
  have DT := Lib.hid (fun W => told_any W)
  obtain ⟨g1, hg1⟩ : ∃ z, putG g slot part x = z := ⟨_, rfl⟩
  obtain ⟨g2, hg2⟩ : ∃ z, takeG g slot x = z := ⟨_, rfl⟩
  obtain ⟨e1, he1⟩ : ∃ z, putErr g slot part x = z := ⟨_, rfl⟩
  obtain ⟨e2, he2⟩ : ∃ z, takeErr g slot x = z := ⟨_, rfl⟩
  rw [hg1, he1] at D1 D2
  rw [hg2, he2] at D3 D4
  unfold garV at D1 D2 D3 D4 DS ⊢
  clear h hW0 hb0 hs0 hq0 hc2 hc3 hg1 hg2 he1 he2
  go_enter Try.func10, Try.ntmps10
  go_upto_region 1 with (fail)
  rw [HW0.out]
  refine ext_wp fun X0 => ?_
  go_wp2_with fail
  refine (D1.out X0.1 (HIA.out X0)).mono ?_
  rintro e y1 hret
  obtain ⟨b10, b11, b12, b13, d10, d11, d12, d13, rfl, hin1, hm1, hu1, hbl1⟩ := hret.split
  have HIN1 := Lib.hid hin1
  obtain ⟨Y1, rfl⟩ : ∃ Y : Ext W0, y1 = Y.1 := ⟨⟨y1, X0.2.trans (hbl1.mono X0.2.size)⟩, rfl⟩
  clear hret hin1 hbl1
  go_upto_region 2 with (fail)
  obtain ⟨V1, hV1, hvb1, hvs1, hvq1⟩ := alloc_block Y1.1 #[.slice b10 g1.np d10, .slice b11 g1.ns d11, .slice b12 g1.nm d12, .slice b13 g1.nu d13] 27
  rw [hV1]
  obtain ⟨p1, hp1⟩ : ∃ p, Y1.1.heap.size = p := ⟨_, rfl⟩
  rw [hp1] at hvq1 ⊢
  have hre1 := below_step Y1.2 hvb1
  replace B00 := Ext.re hre1 B00
  replace B01 := Ext.re hre1 B01
  replace B02 := Ext.re hre1 B02
  replace B03 := Ext.re hre1 B03
  replace HIA := Lib.hid (Ext.reP (p := fun w => GarIn w g a0 a1 a2 a3) hre1 HIA.out)
  have q10 := Ext.ex (show V1.cell? ⟨p1, 0, none⟩ = some (.slice b10 g1.np d10) from block_cell hvq1 rfl)
  have q11 := Ext.ex (show V1.cell? ⟨p1, 1, none⟩ = some (.slice b11 g1.ns d11) from block_cell hvq1 rfl)
  have q12 := Ext.ex (show V1.cell? ⟨p1, 2, none⟩ = some (.slice b12 g1.nm d12) from block_cell hvq1 rfl)
  have q13 := Ext.ex (show V1.cell? ⟨p1, 3, none⟩ = some (.slice b13 g1.nu d13) from block_cell hvq1 rfl)
  have hDN1 : Below w.heap.size w V1 := hDN0.trans (hre1.mono hbs0)
  have hbs1 : w.heap.size ≤ V1.heap.size := hDN1.size
  have HI1 := Lib.hid (fun (X : Ext V1) => (HIN1.out.below hvb1).below X.2)
  have HBX1 := Lib.hid hvq1
  have HSP1 := Lib.hid (show W0.heap.size ≤ p1 from hp1 ▸ Y1.2.size)
  have HRE1 := Lib.hid hre1
  clear hV1 hvb1 hvs1 hvq1 hre1 hp1
  refine ext_wp fun X1 => ?_
  go_wp2_with fail
  refine (D2.out X1.1 (HIA.out X1)).mono ?_
  rintro e y2 hret
  obtain ⟨b20, b21, b22, b23, d20, d21, d22, d23, rfl, hin2, hm2, hu2, hbl2⟩ := hret.split
  have HIN2 := Lib.hid hin2
  obtain ⟨Y2, rfl⟩ : ∃ Y : Ext V1, y2 = Y.1 := ⟨⟨y2, X1.2.trans (hbl2.mono X1.2.size)⟩, rfl⟩
  clear hret hin2 hbl2
  go_upto_region 3 with (fail)
  obtain ⟨V2, hV2, hvb2, hvs2, hvq2⟩ := alloc_block Y2.1 #[.slice b20 g1.np d20, .slice b21 g1.ns d21, .slice b22 g1.nm d22, .slice b23 g1.nu d23] 27
  rw [hV2]
  obtain ⟨p2, hp2⟩ : ∃ p, Y2.1.heap.size = p := ⟨_, rfl⟩
  rw [hp2] at hvq2 ⊢
  have hre2 := below_step Y2.2 hvb2
  replace B00 := Ext.re hre2 B00
  replace B01 := Ext.re hre2 B01
  replace B02 := Ext.re hre2 B02
  replace B03 := Ext.re hre2 B03
  replace q10 := Ext.re hre2 q10
  replace q11 := Ext.re hre2 q11
  replace q12 := Ext.re hre2 q12
  replace q13 := Ext.re hre2 q13
  replace HIA := Lib.hid (Ext.reP (p := fun w => GarIn w g a0 a1 a2 a3) hre2 HIA.out)
  replace HI1 := Lib.hid (Ext.reP (p := fun w => GarIn w g1 b10 b11 b12 b13) hre2 HI1.out)
  have q20 := Ext.ex (show V2.cell? ⟨p2, 0, none⟩ = some (.slice b20 g1.np d20) from block_cell hvq2 rfl)
  have q21 := Ext.ex (show V2.cell? ⟨p2, 1, none⟩ = some (.slice b21 g1.ns d21) from block_cell hvq2 rfl)
  have q22 := Ext.ex (show V2.cell? ⟨p2, 2, none⟩ = some (.slice b22 g1.nm d22) from block_cell hvq2 rfl)
  have q23 := Ext.ex (show V2.cell? ⟨p2, 3, none⟩ = some (.slice b23 g1.nu d23) from block_cell hvq2 rfl)
  have hDN2 : Below w.heap.size w V2 := hDN1.trans (hre2.mono hbs1)
  have hbs2 : w.heap.size ≤ V2.heap.size := hDN2.size
  have HI2 := Lib.hid (fun (X : Ext V2) => (HIN2.out.below hvb2).below X.2)
  have HBX2 := Lib.hid hvq2
  have HSP2 := Lib.hid (show V1.heap.size ≤ p2 from hp2 ▸ Y2.2.size)
  have HRE2 := Lib.hid hre2
  clear hV2 hvb2 hvs2 hvq2 hre2 hp2
  refine ext_wp fun X2 => ?_
  go_wp2_with fail
  refine (D3.out X2.1 (HIA.out X2)).mono ?_
  rintro e y3 hret
  obtain ⟨b30, b31, b32, b33, d30, d31, d32, d33, rfl, hin3, hm3, hu3, hbl3⟩ := hret.split
  have HIN3 := Lib.hid hin3
  obtain ⟨Y3, rfl⟩ : ∃ Y : Ext V2, y3 = Y.1 := ⟨⟨y3, X2.2.trans (hbl3.mono X2.2.size)⟩, rfl⟩
  clear hret hin3 hbl3
  go_upto_region 4 with (fail)
  obtain ⟨V3, hV3, hvb3, hvs3, hvq3⟩ := alloc_block Y3.1 #[.slice b30 g2.np d30, .slice b31 g2.ns d31, .slice b32 g2.nm d32, .slice b33 g2.nu d33] 27
  rw [hV3]
  obtain ⟨p3, hp3⟩ : ∃ p, Y3.1.heap.size = p := ⟨_, rfl⟩
  rw [hp3] at hvq3 ⊢
  have hre3 := below_step Y3.2 hvb3
  replace B00 := Ext.re hre3 B00
  replace B01 := Ext.re hre3 B01
  replace B02 := Ext.re hre3 B02
  replace B03 := Ext.re hre3 B03
  replace q10 := Ext.re hre3 q10
  replace q11 := Ext.re hre3 q11
  replace q12 := Ext.re hre3 q12
  replace q13 := Ext.re hre3 q13
  replace q20 := Ext.re hre3 q20
  replace q21 := Ext.re hre3 q21
  replace q22 := Ext.re hre3 q22
  replace q23 := Ext.re hre3 q23
  replace HIA := Lib.hid (Ext.reP (p := fun w => GarIn w g a0 a1 a2 a3) hre3 HIA.out)
  replace HI1 := Lib.hid (Ext.reP (p := fun w => GarIn w g1 b10 b11 b12 b13) hre3 HI1.out)
  replace HI2 := Lib.hid (Ext.reP (p := fun w => GarIn w g1 b20 b21 b22 b23) hre3 HI2.out)
  have q30 := Ext.ex (show V3.cell? ⟨p3, 0, none⟩ = some (.slice b30 g2.np d30) from block_cell hvq3 rfl)
  have q31 := Ext.ex (show V3.cell? ⟨p3, 1, none⟩ = some (.slice b31 g2.ns d31) from block_cell hvq3 rfl)
  have q32 := Ext.ex (show V3.cell? ⟨p3, 2, none⟩ = some (.slice b32 g2.nm d32) from block_cell hvq3 rfl)
  have q33 := Ext.ex (show V3.cell? ⟨p3, 3, none⟩ = some (.slice b33 g2.nu d33) from block_cell hvq3 rfl)
  have hDN3 : Below w.heap.size w V3 := hDN2.trans (hre3.mono hbs2)
  have hbs3 : w.heap.size ≤ V3.heap.size := hDN3.size
  have HI3 := Lib.hid (fun (X : Ext V3) => (HIN3.out.below hvb3).below X.2)
  have HBX3 := Lib.hid hvq3
  have HSP3 := Lib.hid (show V2.heap.size ≤ p3 from hp3 ▸ Y3.2.size)
  have HRE3 := Lib.hid hre3
  clear hV3 hvb3 hvs3 hvq3 hre3 hp3
  refine ext_wp fun X3 => ?_
  go_wp2_with fail
  refine (D4.out X3.1 (HIA.out X3)).mono ?_
  rintro e y4 hret
  obtain ⟨b40, b41, b42, b43, d40, d41, d42, d43, rfl, hin4, hm4, hu4, hbl4⟩ := hret.split
  have HIN4 := Lib.hid hin4
  obtain ⟨Y4, rfl⟩ : ∃ Y : Ext V3, y4 = Y.1 := ⟨⟨y4, X3.2.trans (hbl4.mono X3.2.size)⟩, rfl⟩
  clear hret hin4 hbl4
  go_upto_region 5 with (fail)
  obtain ⟨V4, hV4, hvb4, hvs4, hvq4⟩ := alloc_block Y4.1 #[.slice b40 g2.np d40, .slice b41 g2.ns d41, .slice b42 g2.nm d42, .slice b43 g2.nu d43] 27
  rw [hV4]
  obtain ⟨p4, hp4⟩ : ∃ p, Y4.1.heap.size = p := ⟨_, rfl⟩
  rw [hp4] at hvq4 ⊢
  have hre4 := below_step Y4.2 hvb4
  replace B00 := Ext.re hre4 B00
  replace B01 := Ext.re hre4 B01
  replace B02 := Ext.re hre4 B02
  replace B03 := Ext.re hre4 B03
  replace q10 := Ext.re hre4 q10
  replace q11 := Ext.re hre4 q11
  replace q12 := Ext.re hre4 q12
  replace q13 := Ext.re hre4 q13
  replace q20 := Ext.re hre4 q20
  replace q21 := Ext.re hre4 q21
  replace q22 := Ext.re hre4 q22
  replace q23 := Ext.re hre4 q23
  replace q30 := Ext.re hre4 q30
  replace q31 := Ext.re hre4 q31
  replace q32 := Ext.re hre4 q32
  replace q33 := Ext.re hre4 q33
  replace HIA := Lib.hid (Ext.reP (p := fun w => GarIn w g a0 a1 a2 a3) hre4 HIA.out)
  replace HI1 := Lib.hid (Ext.reP (p := fun w => GarIn w g1 b10 b11 b12 b13) hre4 HI1.out)
  replace HI2 := Lib.hid (Ext.reP (p := fun w => GarIn w g1 b20 b21 b22 b23) hre4 HI2.out)
  replace HI3 := Lib.hid (Ext.reP (p := fun w => GarIn w g2 b30 b31 b32 b33) hre4 HI3.out)
  have q40 := Ext.ex (show V4.cell? ⟨p4, 0, none⟩ = some (.slice b40 g2.np d40) from block_cell hvq4 rfl)
  have q41 := Ext.ex (show V4.cell? ⟨p4, 1, none⟩ = some (.slice b41 g2.ns d41) from block_cell hvq4 rfl)
  have q42 := Ext.ex (show V4.cell? ⟨p4, 2, none⟩ = some (.slice b42 g2.nm d42) from block_cell hvq4 rfl)
  have q43 := Ext.ex (show V4.cell? ⟨p4, 3, none⟩ = some (.slice b43 g2.nu d43) from block_cell hvq4 rfl)
  have hDN4 : Below w.heap.size w V4 := hDN3.trans (hre4.mono hbs3)
  have hbs4 : w.heap.size ≤ V4.heap.size := hDN4.size
  have HI4 := Lib.hid (fun (X : Ext V4) => (HIN4.out.below hvb4).below X.2)
  have HBX4 := Lib.hid hvq4
  have HSP4 := Lib.hid (show V3.heap.size ≤ p4 from hp4 ▸ Y4.2.size)
  have HRE4 := Lib.hid hre4
  clear hV4 hvb4 hvs4 hvq4 hre4 hp4
  refine ext_wp fun X4 => ?_
  go_wp2_with fail
  refine (Ext.calls _ (DS.out g1 b10 b11 b12 b13 b20 b21 b22 b23 d10 d11 d12 d13 d20 d21 d22 d23 X4.1 (HI1.out X4) (HI2.out X4))).mono ?_
  rintro e ys ⟨rfl, X4s, rfl⟩
  go_wp2_with fail
  refine (Ext.calls _ (DS.out g2 b30 b31 b32 b33 b40 b41 b42 b43 d30 d31 d32 d33 d40 d41 d42 d43 X4s.1 (HI3.out X4s) (HI4.out X4s))).mono ?_
  rintro e ys ⟨rfl, X4ss, rfl⟩
  go_wp2_with fail
  refine (Ext.calls _ (DT.out X4ss.1)).mono ?_
  rintro e yt ⟨rfl, XT, rfl⟩
  go_wp2_with fail
  go_ret
  exact ⟨rfl, XT.down hDN4 hbs4⟩
set_option maxHeartbeats 8000000 in
set_option maxRecDepth 200000 in
theorem mountsStay_law (g : Gar) (a0 a1 a2 a3 : Option Addr) (c0 c1 c2 c3 : Nat) (slot part : ByteArray) (x y : Int) (w : World) (h : GarIn w g a0 a1 a2 a3) :
    Calls Try.prog 11 #[garV g a0 a1 a2 a3 c0 c1 c2 c3, .string slot, .string part, .int .i64 x, .int .i64 y] w fun e w' => e = .returned (.bool true) ∧ Below w.heap.size w w' := by
  obtain ⟨W0, hW0, hb0, hs0, hq0⟩ := allocs w [.cells #[.slice a0 g.np c0, .slice a1 g.ns c1, .slice a2 g.nm c2, .slice a3 g.nu c3] 27]
  have hbs0 : w.heap.size ≤ W0.heap.size := hb0.size
  have hDN0 := hb0
  have B00 := Ext.ex (show W0.cell? ⟨w.heap.size, 0, none⟩ = some (.slice a0 g.np c0) from block_cell (hq0 0 _ rfl) rfl)
  have B01 := Ext.ex (show W0.cell? ⟨w.heap.size, 1, none⟩ = some (.slice a1 g.ns c1) from block_cell (hq0 0 _ rfl) rfl)
  have B02 := Ext.ex (show W0.cell? ⟨w.heap.size, 2, none⟩ = some (.slice a2 g.nm c2) from block_cell (hq0 0 _ rfl) rfl)
  have B03 := Ext.ex (show W0.cell? ⟨w.heap.size, 3, none⟩ = some (.slice a3 g.nu c3) from block_cell (hq0 0 _ rfl) rfl)
  have HW0 := Lib.hid (show (w.alloc (.cells #[.slice a0 g.np c0, .slice a1 g.ns c1, .slice a2 g.nm c2, .slice a3 g.nu c3] 27)) = W0 from hW0)
  have HIA := Lib.hid (fun (X : Ext W0) => h.below (hDN0.trans (X.2.mono hbs0)))
  have D1 := Lib.hid (fun (W : World) (hW : GarIn W g a0 a1 a2 a3) => put_any g a0 a1 a2 a3 c0 c1 c2 c3 slot part x W hW)
  have D3 := Lib.hid (fun (W : World) (hW : GarIn W g a0 a1 a2 a3) => take_any g a0 a1 a2 a3 c0 c1 c2 c3 slot x W hW)
  have DG := Lib.hid (fun (g : Gar) (a0 a1 a2 a3 : Option Addr) (c0 c1 c2 c3 : Nat) (s : ByteArray) (m : Int) (W : World) (hW : GarIn W g a0 a1 a2 a3) => gIn_any g a0 a1 a2 a3 c0 c1 c2 c3 s m W hW)
  have DCK := Lib.hid (fun (g : Gar) (a0 a1 a2 a3 : Option Addr) (c0 c1 c2 c3 : Nat) (W : World) (hW : GarIn W g a0 a1 a2 a3) => gCheck_any g a0 a1 a2 a3 c0 c1 c2 c3 W hW)
  have DT := Lib.hid (fun W => told_any W)
  have HPO := Lib.hid (fun he => Gar.put_ok (g := g) (slot := slot) (part := part) (x := x) he)
  have HTO := Lib.hid (fun he => Gar.take_ok (g := g) (slot := slot) (x := x) he)
  have HSN := Lib.hid (fun (k : Nat) (hk : k < g.ns) => show hasS g (g.sn k) = true from by
    unfold hasS
    rw [List.any_eq_true]
    exact ⟨k, List.mem_range.2 hk, by simp⟩)
  have hl1 := h.l1
  obtain ⟨g1, hg1⟩ : ∃ z, putG g slot part x = z := ⟨_, rfl⟩
  obtain ⟨g2, hg2⟩ : ∃ z, takeG g slot x = z := ⟨_, rfl⟩
  obtain ⟨e1, he1⟩ : ∃ z, putErr g slot part x = z := ⟨_, rfl⟩
  obtain ⟨e2, he2⟩ : ∃ z, takeErr g slot x = z := ⟨_, rfl⟩
  rw [hg1, he1] at D1
  rw [hg2, he2] at D3
  have HK1 : Hid (e1 = 0 → chk g1 = 0 ∧ InS g1 slot x = (part, true, 0) ∧ (∀ s, hasS g s = true → s ≠ slot → (InS g1 s x).1 ≠ part) ∧ (∀ s z, hasS g s = true → 0 ≤ z → z < x → InS g1 s z = InS g s z)) := Lib.hid (fun e => by
    have k := HPO.out (he1.trans e)
    rw [← hg1]
    exact ⟨k.k, k.i, k.o, k.b⟩)
  have HK2 : Hid (e2 = 0 → chk g2 = 0 ∧ InS g2 slot x = (⟨#[]⟩, false, 0)) := Lib.hid (fun e => by
    have k := HTO.out (he2.trans e)
    rw [← hg2]
    exact ⟨k.k, k.i⟩)
  unfold garV at D1 D3 DG DCK ⊢
  unfold tri at DG
  clear h hW0 hb0 hs0 hq0 hg1 hg2 he1 he2 HPO HTO
  by_cases k1 : e1 = 0
  case neg =>
    have n1 : (e1 == 0) = false := by rw [beq_eq_false_iff_ne]; exact k1
    clear HK1 k1 HSN
    by_cases k2 : e2 = 0
    case neg =>
      have n2 : (e2 != 0) = true := by rw [bne_iff_ne]; exact k2
      clear HK2 k2
      go_enter Try.func11, Try.ntmps11
      go_upto_region 1 with (fail)
      rw [HW0.out]
      refine ext_wp fun X0 => ?_
      go_wp2_with fail
      refine (D1.out X0.1 (HIA.out X0)).mono ?_
      rintro e y1 hret
      obtain ⟨b10, b11, b12, b13, d10, d11, d12, d13, rfl, hin1, hm1, hu1, hbl1⟩ := hret.split
      have HIN1 := Lib.hid hin1
      obtain ⟨Y1, rfl⟩ : ∃ Y : Ext W0, y1 = Y.1 := ⟨⟨y1, X0.2.trans (hbl1.mono X0.2.size)⟩, rfl⟩
      clear hret hin1 hbl1
      go_upto_region 2 with (fail)
      obtain ⟨V1, hV1, hvb1, hvs1, hvq1⟩ := alloc_block Y1.1 #[.slice b10 g1.np d10, .slice b11 g1.ns d11, .slice b12 g1.nm d12, .slice b13 g1.nu d13] 27
      rw [hV1]
      obtain ⟨p1, hp1⟩ : ∃ p, Y1.1.heap.size = p := ⟨_, rfl⟩
      rw [hp1] at hvq1 ⊢
      have hre1 := below_step Y1.2 hvb1
      replace B00 := Ext.re hre1 B00
      replace B01 := Ext.re hre1 B01
      replace B02 := Ext.re hre1 B02
      replace B03 := Ext.re hre1 B03
      replace HIA := Lib.hid (Ext.reP (p := fun w => GarIn w g a0 a1 a2 a3) hre1 HIA.out)
      have q10 := Ext.ex (show V1.cell? ⟨p1, 0, none⟩ = some (.slice b10 g1.np d10) from block_cell hvq1 rfl)
      have q11 := Ext.ex (show V1.cell? ⟨p1, 1, none⟩ = some (.slice b11 g1.ns d11) from block_cell hvq1 rfl)
      have q12 := Ext.ex (show V1.cell? ⟨p1, 2, none⟩ = some (.slice b12 g1.nm d12) from block_cell hvq1 rfl)
      have q13 := Ext.ex (show V1.cell? ⟨p1, 3, none⟩ = some (.slice b13 g1.nu d13) from block_cell hvq1 rfl)
      have hDN1 : Below w.heap.size w V1 := hDN0.trans (hre1.mono hbs0)
      have hbs1 : w.heap.size ≤ V1.heap.size := hDN1.size
      have HI1 := Lib.hid (fun (X : Ext V1) => (HIN1.out.below hvb1).below X.2)
      have HBX1 := Lib.hid hvq1
      have HSP1 := Lib.hid (show W0.heap.size ≤ p1 from hp1 ▸ Y1.2.size)
      have HRE1 := Lib.hid hre1
      clear hV1 hvb1 hvs1 hvq1 hre1 hp1
      refine ext_wp fun X1 => ?_
      have z0 : ∀ X : Ext V1, X.1.frozen? ⟨p1, 0, none⟩ = false := fun X => block_free (below_block X.2 HBX1.out)
      have z1 : ∀ X : Ext V1, X.1.frozen? ⟨p1, 1, none⟩ = false := fun X => block_free (below_block X.2 HBX1.out)
      have z2 : ∀ X : Ext V1, X.1.frozen? ⟨p1, 2, none⟩ = false := fun X => block_free (below_block X.2 HBX1.out)
      have z3 : ∀ X : Ext V1, X.1.frozen? ⟨p1, 3, none⟩ = false := fun X => block_free (below_block X.2 HBX1.out)
      go_wp2_with fail
      refine (D3.out X1.1 (HIA.out X1)).mono ?_
      rintro e y5 hret
      obtain ⟨b50, b51, b52, b53, d50, d51, d52, d53, rfl, hin5, hm5, hu5, hbl5⟩ := hret.split
      have HIN5 := Lib.hid hin5
      obtain ⟨Y5, rfl⟩ : ∃ Y : Ext V1, y5 = Y.1 := ⟨⟨y5, X1.2.trans (hbl5.mono X1.2.size)⟩, rfl⟩
      clear hret hin5 hbl5
      go_upto_region 19 with (fail)
      have hB4 := below_block Y5.2 HBX1.out
      obtain ⟨W6, hW6, hr6, hk6, _⟩ := store4 hB4 (.slice b50 g2.np d50) (.slice b51 g2.ns d51) (.slice b52 g2.nm d52) (.slice b53 g2.nu d53)
      rw [hW6]
      have hin6 := HIN5.out.notbox hB4 hk6
      have hsp := HSP1.out
      have hb6 : Below W0.heap.size W0 W6 := Kept.below (HRE1.out.trans (Y5.2.mono HRE1.out.size)) hk6 (Nat.le_trans HRE1.out.size Y5.2.size) (fun k hk e => by omega)
      have hdn6 : Below w.heap.size w W6 := hDN0.trans (hb6.mono hbs0)
      have hbs6 : w.heap.size ≤ W6.heap.size := hdn6.size
      have r50 := Ext.ex (show W6.cell? ⟨p1, 0, none⟩ = some (.slice b50 g2.np d50) from block_cell hr6 rfl)
      have r51 := Ext.ex (show W6.cell? ⟨p1, 1, none⟩ = some (.slice b51 g2.ns d51) from block_cell hr6 rfl)
      have r52 := Ext.ex (show W6.cell? ⟨p1, 2, none⟩ = some (.slice b52 g2.nm d52) from block_cell hr6 rfl)
      have r53 := Ext.ex (show W6.cell? ⟨p1, 3, none⟩ = some (.slice b53 g2.nu d53) from block_cell hr6 rfl)
      have HI5 := Lib.hid (fun (X : Ext W6) => hin6.below X.2)
      clear B00 B01 B02 B03 q10 q11 q12 q13 z0 z1 z2 z3 hW6 hr6 hk6 hB4 hin6 hsp hb6
      refine ext_wp fun X6 => ?_
      go_wp2_with fail
      refine (Ext.calls _ (DT.out X6.1)).mono ?_
      rintro e yt ⟨rfl, XT, rfl⟩
      go_wp2_with fail
      go_ret
      exact ⟨rfl, XT.down hdn6 hbs6⟩
    subst k2
    replace HK2 := Lib.hid (HK2.out rfl)
    have n2 : ((0 : Int) != 0) = false := rfl
    have n3 : ((0 : Int) == 0) = true := rfl
    go_enter Try.func11, Try.ntmps11
    go_upto_region 1 with (fail)
    rw [HW0.out]
    refine ext_wp fun X0 => ?_
    go_wp2_with fail
    refine (D1.out X0.1 (HIA.out X0)).mono ?_
    rintro e y1 hret
    obtain ⟨b10, b11, b12, b13, d10, d11, d12, d13, rfl, hin1, hm1, hu1, hbl1⟩ := hret.split
    have HIN1 := Lib.hid hin1
    obtain ⟨Y1, rfl⟩ : ∃ Y : Ext W0, y1 = Y.1 := ⟨⟨y1, X0.2.trans (hbl1.mono X0.2.size)⟩, rfl⟩
    clear hret hin1 hbl1
    go_upto_region 2 with (fail)
    obtain ⟨V1, hV1, hvb1, hvs1, hvq1⟩ := alloc_block Y1.1 #[.slice b10 g1.np d10, .slice b11 g1.ns d11, .slice b12 g1.nm d12, .slice b13 g1.nu d13] 27
    rw [hV1]
    obtain ⟨p1, hp1⟩ : ∃ p, Y1.1.heap.size = p := ⟨_, rfl⟩
    rw [hp1] at hvq1 ⊢
    have hre1 := below_step Y1.2 hvb1
    replace B00 := Ext.re hre1 B00
    replace B01 := Ext.re hre1 B01
    replace B02 := Ext.re hre1 B02
    replace B03 := Ext.re hre1 B03
    replace HIA := Lib.hid (Ext.reP (p := fun w => GarIn w g a0 a1 a2 a3) hre1 HIA.out)
    have q10 := Ext.ex (show V1.cell? ⟨p1, 0, none⟩ = some (.slice b10 g1.np d10) from block_cell hvq1 rfl)
    have q11 := Ext.ex (show V1.cell? ⟨p1, 1, none⟩ = some (.slice b11 g1.ns d11) from block_cell hvq1 rfl)
    have q12 := Ext.ex (show V1.cell? ⟨p1, 2, none⟩ = some (.slice b12 g1.nm d12) from block_cell hvq1 rfl)
    have q13 := Ext.ex (show V1.cell? ⟨p1, 3, none⟩ = some (.slice b13 g1.nu d13) from block_cell hvq1 rfl)
    have hDN1 : Below w.heap.size w V1 := hDN0.trans (hre1.mono hbs0)
    have hbs1 : w.heap.size ≤ V1.heap.size := hDN1.size
    have HI1 := Lib.hid (fun (X : Ext V1) => (HIN1.out.below hvb1).below X.2)
    have HBX1 := Lib.hid hvq1
    have HSP1 := Lib.hid (show W0.heap.size ≤ p1 from hp1 ▸ Y1.2.size)
    have HRE1 := Lib.hid hre1
    clear hV1 hvb1 hvs1 hvq1 hre1 hp1
    refine ext_wp fun X1 => ?_
    have z0 : ∀ X : Ext V1, X.1.frozen? ⟨p1, 0, none⟩ = false := fun X => block_free (below_block X.2 HBX1.out)
    have z1 : ∀ X : Ext V1, X.1.frozen? ⟨p1, 1, none⟩ = false := fun X => block_free (below_block X.2 HBX1.out)
    have z2 : ∀ X : Ext V1, X.1.frozen? ⟨p1, 2, none⟩ = false := fun X => block_free (below_block X.2 HBX1.out)
    have z3 : ∀ X : Ext V1, X.1.frozen? ⟨p1, 3, none⟩ = false := fun X => block_free (below_block X.2 HBX1.out)
    go_wp2_with fail
    refine (D3.out X1.1 (HIA.out X1)).mono ?_
    rintro e y5 hret
    obtain ⟨b50, b51, b52, b53, d50, d51, d52, d53, rfl, hin5, hm5, hu5, hbl5⟩ := hret.split
    have HIN5 := Lib.hid hin5
    obtain ⟨Y5, rfl⟩ : ∃ Y : Ext V1, y5 = Y.1 := ⟨⟨y5, X1.2.trans (hbl5.mono X1.2.size)⟩, rfl⟩
    clear hret hin5 hbl5
    go_upto_region 19 with (fail)
    have hB4 := below_block Y5.2 HBX1.out
    obtain ⟨W6, hW6, hr6, hk6, _⟩ := store4 hB4 (.slice b50 g2.np d50) (.slice b51 g2.ns d51) (.slice b52 g2.nm d52) (.slice b53 g2.nu d53)
    rw [hW6]
    have hin6 := HIN5.out.notbox hB4 hk6
    have hsp := HSP1.out
    have hb6 : Below W0.heap.size W0 W6 := Kept.below (HRE1.out.trans (Y5.2.mono HRE1.out.size)) hk6 (Nat.le_trans HRE1.out.size Y5.2.size) (fun k hk e => by omega)
    have hdn6 : Below w.heap.size w W6 := hDN0.trans (hb6.mono hbs0)
    have hbs6 : w.heap.size ≤ W6.heap.size := hdn6.size
    have r50 := Ext.ex (show W6.cell? ⟨p1, 0, none⟩ = some (.slice b50 g2.np d50) from block_cell hr6 rfl)
    have r51 := Ext.ex (show W6.cell? ⟨p1, 1, none⟩ = some (.slice b51 g2.ns d51) from block_cell hr6 rfl)
    have r52 := Ext.ex (show W6.cell? ⟨p1, 2, none⟩ = some (.slice b52 g2.nm d52) from block_cell hr6 rfl)
    have r53 := Ext.ex (show W6.cell? ⟨p1, 3, none⟩ = some (.slice b53 g2.nu d53) from block_cell hr6 rfl)
    have HI5 := Lib.hid (fun (X : Ext W6) => hin6.below X.2)
    clear B00 B01 B02 B03 q10 q11 q12 q13 z0 z1 z2 z3 hW6 hr6 hk6 hB4 hin6 hsp hb6
    refine ext_wp fun X6 => ?_
    have DJ := Lib.hid (fun X : Ext W6 => DG.out g2 b50 b51 b52 b53 d50 d51 d52 d53 slot x X.1 (HI5.out X))
    rw [HK2.out.2] at DJ
    have DJK := Lib.hid (fun X : Ext W6 => DCK.out g2 b50 b51 b52 b53 d50 d51 d52 d53 X.1 (HI5.out X))
    rw [HK2.out.1] at DJK
    simp only at DJ
    go_wp2_with fail
    refine (Ext.calls _ (DJ.out X6)).mono ?_
    rintro e y6 ⟨rfl, X7, rfl⟩
    go_wp2_with fail
    refine (Ext.calls _ (DJK.out X7)).mono ?_
    rintro e y7 ⟨rfl, X8, rfl⟩
    go_wp2_with fail
    refine (Ext.calls _ (DT.out X8.1)).mono ?_
    rintro e yt ⟨rfl, XT, rfl⟩
    go_wp2_with fail
    go_ret
    exact ⟨rfl, XT.down hdn6 hbs6⟩
  subst k1
  replace HK1 := Lib.hid (HK1.out rfl)
  have n1 : ((0 : Int) == 0) = true := rfl
  have n2 : ((0 : Int) != 0) = false := rfl
  by_cases k2 : e2 = 0
  case neg =>
    have n4 : (e2 != 0) = true := by rw [bne_iff_ne]; exact k2
    clear HK2 k2
    go_enter Try.func11, Try.ntmps11
    go_upto_region 1 with (fail)
    rw [HW0.out]
    refine ext_wp fun X0 => ?_
    go_wp2_with fail
    refine (D1.out X0.1 (HIA.out X0)).mono ?_
    rintro e y1 hret
    obtain ⟨b10, b11, b12, b13, d10, d11, d12, d13, rfl, hin1, hm1, hu1, hbl1⟩ := hret.split
    have HIN1 := Lib.hid hin1
    obtain ⟨Y1, rfl⟩ : ∃ Y : Ext W0, y1 = Y.1 := ⟨⟨y1, X0.2.trans (hbl1.mono X0.2.size)⟩, rfl⟩
    clear hret hin1 hbl1
    go_upto_region 2 with (fail)
    obtain ⟨V1, hV1, hvb1, hvs1, hvq1⟩ := alloc_block Y1.1 #[.slice b10 g1.np d10, .slice b11 g1.ns d11, .slice b12 g1.nm d12, .slice b13 g1.nu d13] 27
    rw [hV1]
    obtain ⟨p1, hp1⟩ : ∃ p, Y1.1.heap.size = p := ⟨_, rfl⟩
    rw [hp1] at hvq1 ⊢
    have hre1 := below_step Y1.2 hvb1
    replace B00 := Ext.re hre1 B00
    replace B01 := Ext.re hre1 B01
    replace B02 := Ext.re hre1 B02
    replace B03 := Ext.re hre1 B03
    replace HIA := Lib.hid (Ext.reP (p := fun w => GarIn w g a0 a1 a2 a3) hre1 HIA.out)
    have q10 := Ext.ex (show V1.cell? ⟨p1, 0, none⟩ = some (.slice b10 g1.np d10) from block_cell hvq1 rfl)
    have q11 := Ext.ex (show V1.cell? ⟨p1, 1, none⟩ = some (.slice b11 g1.ns d11) from block_cell hvq1 rfl)
    have q12 := Ext.ex (show V1.cell? ⟨p1, 2, none⟩ = some (.slice b12 g1.nm d12) from block_cell hvq1 rfl)
    have q13 := Ext.ex (show V1.cell? ⟨p1, 3, none⟩ = some (.slice b13 g1.nu d13) from block_cell hvq1 rfl)
    have hDN1 : Below w.heap.size w V1 := hDN0.trans (hre1.mono hbs0)
    have hbs1 : w.heap.size ≤ V1.heap.size := hDN1.size
    have HI1 := Lib.hid (fun (X : Ext V1) => (HIN1.out.below hvb1).below X.2)
    have HBX1 := Lib.hid hvq1
    have HSP1 := Lib.hid (show W0.heap.size ≤ p1 from hp1 ▸ Y1.2.size)
    have HRE1 := Lib.hid hre1
    clear hV1 hvb1 hvs1 hvq1 hre1 hp1
    refine ext_wp fun X1 => ?_
    have DA1 := Lib.hid (fun (X : Ext V1) => DG.out g1 b10 b11 b12 b13 d10 d11 d12 d13 slot x X.1 (HI1.out X))
    rw [HK1.out.2.1] at DA1
    simp only at DA1
    have DA2 := Lib.hid (fun (X : Ext V1) => DCK.out g1 b10 b11 b12 b13 d10 d11 d12 d13 X.1 (HI1.out X))
    rw [HK1.out.1] at DA2
    have hpp : (part.toList != part.toList) = false := by simp
    go_wp2_with fail
    refine (Ext.calls _ (DA1.out X1)).mono ?_
    rintro e u1 ⟨rfl, X2, rfl⟩
    go_wp2_with fail
    refine (Ext.calls _ (DA2.out X2)).mono ?_
    rintro e u2 ⟨rfl, X3, rfl⟩
    clear DA1 DA2
    go_wp2_with fail
    go_loopw [67] (fun iv wr => ∃ (k : Nat), iv = .int .i64 k ∧ k ≤ g.ns ∧ Hid (Below V1.heap.size V1 wr)) (fun iv _ => g.ns - (intOf iv).toNat)
    case atStart => exact ⟨0, rfl, by omega, Lib.hid X3.2⟩
    case round =>
      obtain ⟨k, rfl, hk, HBW⟩ := hrel
      obtain ⟨X4, rfl⟩ : ∃ X : Ext V1, wr = X.1 := ⟨⟨wr, HBW.out⟩, rfl⟩
      clear HBW
      by_cases hlt : k < g.ns
      · have t1 : decide ((k : Int) < (g.ns : Int)) = true := by rw [decide_eq_true_eq]; omega
        have t1' : decide (k < g.ns) = true := by simpa using hlt
        have t2 : (k : Int) < (g.ns : Int) := by omega
        obtain ⟨b, off, rfl, hbl, hc⟩ := (HIA.out X4).r1.here (by omega)
        have e0 : X4.1.cell? ⟨b, off + k * 2, none⟩ = some (.string (g.sn k)) := hc k hlt 0 (by omega)
        have e1 : X4.1.cell? ⟨b, off + k * 2 + 1, none⟩ = some (.string (g.sr k)) := hc k hlt 1 (by omega)
        have hsn := HSN.out k hlt
        have hne := HK1.out.2.2.1 (g.sn k) hsn
        have hbf := HK1.out.2.2.2 (g.sn k) y hsn
        have hs1 := str_eq (g.sn k) slot
        have hs2 := str_eq (InS g1 (g.sn k) x).1 part
        have E1 := Lib.hid (fun (X : Ext V1) => DG.out g1 b10 b11 b12 b13 d10 d11 d12 d13 (g.sn k) x X.1 (HI1.out X))
        have E2 := Lib.hid (fun (X : Ext V1) => DG.out g (a0) (some ⟨b, off, none⟩) a2 a3 c0 c1 c2 c3 (g.sn k) y X.1 (HIA.out X))
        have E3 := Lib.hid (fun (X : Ext V1) => DG.out g1 b10 b11 b12 b13 d10 d11 d12 d13 (g.sn k) y X.1 (HI1.out X))
        obtain ⟨r1, hr1⟩ : ∃ r, InS g1 (g.sn k) x = r := ⟨_, rfl⟩
        obtain ⟨r2, hr2⟩ : ∃ r, InS g (g.sn k) y = r := ⟨_, rfl⟩
        obtain ⟨r3, hr3⟩ : ∃ r, InS g1 (g.sn k) y = r := ⟨_, rfl⟩
        rw [hr1] at E1 hne hs2
        rw [hr2] at E2
        rw [hr3] at E3
        rw [hr2, hr3] at hbf
        have HNE := Lib.hid hne
        have HBF := Lib.hid hbf
        obtain ⟨V5, hV5, hvb, hvs, hvl⟩ := alloc_block X4.1 #[.string (g.sn k), .string (g.sr k)] 40
        obtain ⟨ps, hps⟩ : ∃ p, X4.1.heap.size = p := ⟨_, rfl⟩
        have hre := below_step X4.2 hvb
        have l0 : ∀ X : Ext V5, X.1.cell? ⟨ps, 0, none⟩ = some (.string (g.sn k)) := fun X => block_cell (below_block X.2 (hps ▸ hvl)) rfl
        have l1 : ∀ X : Ext V5, X.1.cell? ⟨ps, 1, none⟩ = some (.string (g.sr k)) := fun X => block_cell (below_block X.2 (hps ▸ hvl)) rfl
        replace E1 := Lib.hid (fun (X : Ext V5) => (show Calls _ _ _ X.1 _ from E1.out ⟨X.1, below_step hre X.2⟩))
        replace E2 := Lib.hid (fun (X : Ext V5) => (show Calls _ _ _ X.1 _ from E2.out ⟨X.1, below_step hre X.2⟩))
        replace E3 := Lib.hid (fun (X : Ext V5) => (show Calls _ _ _ X.1 _ from E3.out ⟨X.1, below_step hre X.2⟩))
        replace B00 := Ext.re hre B00
        replace B01 := Ext.re hre B01
        replace B02 := Ext.re hre B02
        replace B03 := Ext.re hre B03
        replace q10 := Ext.re hre q10
        replace q11 := Ext.re hre q11
        replace q12 := Ext.re hre q12
        replace q13 := Ext.re hre q13
        have HDV := Lib.hid (fun (X : Ext V5) => below_step hre X.2)
        have HV5 : Hid (X4.1.alloc (.cells #[.string (g.sn k), .string (g.sr k)] 40) = V5) := Lib.hid hV5
        have HPS := Lib.hid hps
        obtain ⟨q1, w1, i1⟩ := r1
        obtain ⟨q2, w2, i2⟩ := r2
        obtain ⟨q3, w3, i3⟩ := r3
        simp only at E1 E2 E3 hs2
        clear hV5 hvb hvs hvl hc hbl hps hne hbf hr1 hr2 hr3 hsn hre
        by_cases hb1 : g.sn k = slot
        · rw [decide_eq_true hb1] at hs1
          have hne1 : ((g.sn k).toList != slot.toList) = false := by rw [bne, hs1]; rfl
          clear hb1 hs2 HNE
          cases hy1 : decide (y < 0)
          · cases hy2 : decide (x ≤ y)
            · have hq := HBF.out (by have := of_decide_eq_false hy1; omega) (by have := of_decide_eq_false hy2; omega)
              injection hq with hq1 hq2
              injection hq2 with hq2 hq3
              subst hq1
              subst hq2
              have hqq : (q3.toList != q3.toList) = false := by simp
              clear hq3
              go_upto_region 9 with (fail)
              rw [HV5.out]
              rw [HPS.out]
              refine ext_wp fun X5 => ?_
              clear e0 e1
              go_wp2_with fail
              refine (Ext.calls _ (E1.out X5)).mono ?_
              rintro e u3 ⟨rfl, X6, rfl⟩
              go_wp2_with fail
              refine (Ext.calls _ (E2.out X6)).mono ?_
              rintro e u4 ⟨rfl, X7, rfl⟩
              go_wp2_with fail
              refine (Ext.calls _ (E3.out X7)).mono ?_
              rintro e u5 ⟨rfl, X8, rfl⟩
              have HE9 := Lib.hid (HDV.out X8)
              go_wp2_with fail
              go_roundw
              case rel => exact ⟨k + 1, by go_num, by omega, HE9⟩
              case measure => simp [intOf]; omega
            · clear E2 E3
              go_upto_region 9 with (fail)
              rw [HV5.out]
              rw [HPS.out]
              refine ext_wp fun X5 => ?_
              clear e0 e1
              go_wp2_with fail
              refine (Ext.calls _ (E1.out X5)).mono ?_
              rintro e u3 ⟨rfl, X6, rfl⟩
              have HE9 := Lib.hid (HDV.out X6)
              go_wp2_with fail
              go_roundw
              case rel => exact ⟨k + 1, by go_num, by omega, HE9⟩
              case measure => simp [intOf]; omega
          · clear E2 E3
            go_upto_region 9 with (fail)
            rw [HV5.out]
            rw [HPS.out]
            refine ext_wp fun X5 => ?_
            clear e0 e1
            go_wp2_with fail
            refine (Ext.calls _ (E1.out X5)).mono ?_
            rintro e u3 ⟨rfl, X6, rfl⟩
            have HE9 := Lib.hid (HDV.out X6)
            go_wp2_with fail
            go_roundw
            case rel => exact ⟨k + 1, by go_num, by omega, HE9⟩
            case measure => simp [intOf]; omega
        · have hn2 := HNE.out hb1
          rw [decide_eq_false hb1] at hs1
          have hne1 : ((g.sn k).toList != slot.toList) = true := by rw [bne, hs1]; rfl
          have hs3 : (q1.toList == part.toList) = false := by rw [hs2]; exact decide_eq_false hn2
          clear hb1 hs2 HNE hn2
          cases hy1 : decide (y < 0)
          · cases hy2 : decide (x ≤ y)
            · have hq := HBF.out (by have := of_decide_eq_false hy1; omega) (by have := of_decide_eq_false hy2; omega)
              injection hq with hq1 hq2
              injection hq2 with hq2 hq3
              subst hq1
              subst hq2
              have hqq : (q3.toList != q3.toList) = false := by simp
              clear hq3
              go_upto_region 9 with (fail)
              rw [HV5.out]
              rw [HPS.out]
              refine ext_wp fun X5 => ?_
              clear e0 e1
              go_wp2_with fail
              refine (Ext.calls _ (E1.out X5)).mono ?_
              rintro e u3 ⟨rfl, X6, rfl⟩
              go_wp2_with fail
              refine (Ext.calls _ (E2.out X6)).mono ?_
              rintro e u4 ⟨rfl, X7, rfl⟩
              go_wp2_with fail
              refine (Ext.calls _ (E3.out X7)).mono ?_
              rintro e u5 ⟨rfl, X8, rfl⟩
              have HE9 := Lib.hid (HDV.out X8)
              go_wp2_with fail
              go_roundw
              case rel => exact ⟨k + 1, by go_num, by omega, HE9⟩
              case measure => simp [intOf]; omega
            · clear E2 E3
              go_upto_region 9 with (fail)
              rw [HV5.out]
              rw [HPS.out]
              refine ext_wp fun X5 => ?_
              clear e0 e1
              go_wp2_with fail
              refine (Ext.calls _ (E1.out X5)).mono ?_
              rintro e u3 ⟨rfl, X6, rfl⟩
              have HE9 := Lib.hid (HDV.out X6)
              go_wp2_with fail
              go_roundw
              case rel => exact ⟨k + 1, by go_num, by omega, HE9⟩
              case measure => simp [intOf]; omega
          · clear E2 E3
            go_upto_region 9 with (fail)
            rw [HV5.out]
            rw [HPS.out]
            refine ext_wp fun X5 => ?_
            clear e0 e1
            go_wp2_with fail
            refine (Ext.calls _ (E1.out X5)).mono ?_
            rintro e u3 ⟨rfl, X6, rfl⟩
            have HE9 := Lib.hid (HDV.out X6)
            go_wp2_with fail
            go_roundw
            case rel => exact ⟨k + 1, by go_num, by omega, HE9⟩
            case measure => simp [intOf]; omega
      · have t1 : decide ((k : Int) < (g.ns : Int)) = false := by rw [decide_eq_false_iff_not]; omega
        have t1' : decide (k < g.ns) = false := by simpa using hlt
        clear hlt
        obtain ⟨X9, hX9⟩ : ∃ Y : Ext V1, X4 = Y := ⟨_, rfl⟩
        rw [hX9]
        clear hX9
        have z0 : ∀ X : Ext V1, X.1.frozen? ⟨p1, 0, none⟩ = false := fun X => block_free (below_block X.2 HBX1.out)
        have z1 : ∀ X : Ext V1, X.1.frozen? ⟨p1, 1, none⟩ = false := fun X => block_free (below_block X.2 HBX1.out)
        have z2 : ∀ X : Ext V1, X.1.frozen? ⟨p1, 2, none⟩ = false := fun X => block_free (below_block X.2 HBX1.out)
        have z3 : ∀ X : Ext V1, X.1.frozen? ⟨p1, 3, none⟩ = false := fun X => block_free (below_block X.2 HBX1.out)
        go_wp2_with fail
        refine (D3.out X9.1 (HIA.out X9)).mono ?_
        rintro e y5 hret
        obtain ⟨b50, b51, b52, b53, d50, d51, d52, d53, rfl, hin5, hm5, hu5, hbl5⟩ := hret.split
        have HIN5 := Lib.hid hin5
        obtain ⟨Y5, rfl⟩ : ∃ Y : Ext V1, y5 = Y.1 := ⟨⟨y5, X9.2.trans (hbl5.mono X9.2.size)⟩, rfl⟩
        clear hret hin5 hbl5
        go_upto_region 19 with (fail)
        have hB4 := below_block Y5.2 HBX1.out
        obtain ⟨W6, hW6, hr6, hk6, _⟩ := store4 hB4 (.slice b50 g2.np d50) (.slice b51 g2.ns d51) (.slice b52 g2.nm d52) (.slice b53 g2.nu d53)
        rw [hW6]
        have hin6 := HIN5.out.notbox hB4 hk6
        have hsp := HSP1.out
        have hb6 : Below W0.heap.size W0 W6 := Kept.below (HRE1.out.trans (Y5.2.mono HRE1.out.size)) hk6 (Nat.le_trans HRE1.out.size Y5.2.size) (fun k hk e => by omega)
        have hdn6 : Below w.heap.size w W6 := hDN0.trans (hb6.mono hbs0)
        have hbs6 : w.heap.size ≤ W6.heap.size := hdn6.size
        have r50 := Ext.ex (show W6.cell? ⟨p1, 0, none⟩ = some (.slice b50 g2.np d50) from block_cell hr6 rfl)
        have r51 := Ext.ex (show W6.cell? ⟨p1, 1, none⟩ = some (.slice b51 g2.ns d51) from block_cell hr6 rfl)
        have r52 := Ext.ex (show W6.cell? ⟨p1, 2, none⟩ = some (.slice b52 g2.nm d52) from block_cell hr6 rfl)
        have r53 := Ext.ex (show W6.cell? ⟨p1, 3, none⟩ = some (.slice b53 g2.nu d53) from block_cell hr6 rfl)
        have HI5 := Lib.hid (fun (X : Ext W6) => hin6.below X.2)
        clear B00 B01 B02 B03 q10 q11 q12 q13 z0 z1 z2 z3 hW6 hr6 hk6 hB4 hin6 hsp hb6
        refine ext_wp fun X6 => ?_
        go_wp2_with fail
        refine (Ext.calls _ (DT.out X6.1)).mono ?_
        rintro e yt ⟨rfl, XT, rfl⟩
        go_wp2_with fail
        go_ret
        exact ⟨rfl, XT.down hdn6 hbs6⟩
  subst k2
  replace HK2 := Lib.hid (HK2.out rfl)
  go_enter Try.func11, Try.ntmps11
  go_upto_region 1 with (fail)
  rw [HW0.out]
  refine ext_wp fun X0 => ?_
  go_wp2_with fail
  refine (D1.out X0.1 (HIA.out X0)).mono ?_
  rintro e y1 hret
  obtain ⟨b10, b11, b12, b13, d10, d11, d12, d13, rfl, hin1, hm1, hu1, hbl1⟩ := hret.split
  have HIN1 := Lib.hid hin1
  obtain ⟨Y1, rfl⟩ : ∃ Y : Ext W0, y1 = Y.1 := ⟨⟨y1, X0.2.trans (hbl1.mono X0.2.size)⟩, rfl⟩
  clear hret hin1 hbl1
  go_upto_region 2 with (fail)
  obtain ⟨V1, hV1, hvb1, hvs1, hvq1⟩ := alloc_block Y1.1 #[.slice b10 g1.np d10, .slice b11 g1.ns d11, .slice b12 g1.nm d12, .slice b13 g1.nu d13] 27
  rw [hV1]
  obtain ⟨p1, hp1⟩ : ∃ p, Y1.1.heap.size = p := ⟨_, rfl⟩
  rw [hp1] at hvq1 ⊢
  have hre1 := below_step Y1.2 hvb1
  replace B00 := Ext.re hre1 B00
  replace B01 := Ext.re hre1 B01
  replace B02 := Ext.re hre1 B02
  replace B03 := Ext.re hre1 B03
  replace HIA := Lib.hid (Ext.reP (p := fun w => GarIn w g a0 a1 a2 a3) hre1 HIA.out)
  have q10 := Ext.ex (show V1.cell? ⟨p1, 0, none⟩ = some (.slice b10 g1.np d10) from block_cell hvq1 rfl)
  have q11 := Ext.ex (show V1.cell? ⟨p1, 1, none⟩ = some (.slice b11 g1.ns d11) from block_cell hvq1 rfl)
  have q12 := Ext.ex (show V1.cell? ⟨p1, 2, none⟩ = some (.slice b12 g1.nm d12) from block_cell hvq1 rfl)
  have q13 := Ext.ex (show V1.cell? ⟨p1, 3, none⟩ = some (.slice b13 g1.nu d13) from block_cell hvq1 rfl)
  have hDN1 : Below w.heap.size w V1 := hDN0.trans (hre1.mono hbs0)
  have hbs1 : w.heap.size ≤ V1.heap.size := hDN1.size
  have HI1 := Lib.hid (fun (X : Ext V1) => (HIN1.out.below hvb1).below X.2)
  have HBX1 := Lib.hid hvq1
  have HSP1 := Lib.hid (show W0.heap.size ≤ p1 from hp1 ▸ Y1.2.size)
  have HRE1 := Lib.hid hre1
  clear hV1 hvb1 hvs1 hvq1 hre1 hp1
  refine ext_wp fun X1 => ?_
  have DA1 := Lib.hid (fun (X : Ext V1) => DG.out g1 b10 b11 b12 b13 d10 d11 d12 d13 slot x X.1 (HI1.out X))
  rw [HK1.out.2.1] at DA1
  simp only at DA1
  have DA2 := Lib.hid (fun (X : Ext V1) => DCK.out g1 b10 b11 b12 b13 d10 d11 d12 d13 X.1 (HI1.out X))
  rw [HK1.out.1] at DA2
  have hpp : (part.toList != part.toList) = false := by simp
  go_wp2_with fail
  refine (Ext.calls _ (DA1.out X1)).mono ?_
  rintro e u1 ⟨rfl, X2, rfl⟩
  go_wp2_with fail
  refine (Ext.calls _ (DA2.out X2)).mono ?_
  rintro e u2 ⟨rfl, X3, rfl⟩
  clear DA1 DA2
  go_wp2_with fail
  go_loopw [67] (fun iv wr => ∃ (k : Nat), iv = .int .i64 k ∧ k ≤ g.ns ∧ Hid (Below V1.heap.size V1 wr)) (fun iv _ => g.ns - (intOf iv).toNat)
  case atStart => exact ⟨0, rfl, by omega, Lib.hid X3.2⟩
  case round =>
    obtain ⟨k, rfl, hk, HBW⟩ := hrel
    obtain ⟨X4, rfl⟩ : ∃ X : Ext V1, wr = X.1 := ⟨⟨wr, HBW.out⟩, rfl⟩
    clear HBW
    by_cases hlt : k < g.ns
    · have t1 : decide ((k : Int) < (g.ns : Int)) = true := by rw [decide_eq_true_eq]; omega
      have t1' : decide (k < g.ns) = true := by simpa using hlt
      have t2 : (k : Int) < (g.ns : Int) := by omega
      obtain ⟨b, off, rfl, hbl, hc⟩ := (HIA.out X4).r1.here (by omega)
      have e0 : X4.1.cell? ⟨b, off + k * 2, none⟩ = some (.string (g.sn k)) := hc k hlt 0 (by omega)
      have e1 : X4.1.cell? ⟨b, off + k * 2 + 1, none⟩ = some (.string (g.sr k)) := hc k hlt 1 (by omega)
      have hsn := HSN.out k hlt
      have hne := HK1.out.2.2.1 (g.sn k) hsn
      have hbf := HK1.out.2.2.2 (g.sn k) y hsn
      have hs1 := str_eq (g.sn k) slot
      have hs2 := str_eq (InS g1 (g.sn k) x).1 part
      have E1 := Lib.hid (fun (X : Ext V1) => DG.out g1 b10 b11 b12 b13 d10 d11 d12 d13 (g.sn k) x X.1 (HI1.out X))
      have E2 := Lib.hid (fun (X : Ext V1) => DG.out g (a0) (some ⟨b, off, none⟩) a2 a3 c0 c1 c2 c3 (g.sn k) y X.1 (HIA.out X))
      have E3 := Lib.hid (fun (X : Ext V1) => DG.out g1 b10 b11 b12 b13 d10 d11 d12 d13 (g.sn k) y X.1 (HI1.out X))
      obtain ⟨r1, hr1⟩ : ∃ r, InS g1 (g.sn k) x = r := ⟨_, rfl⟩
      obtain ⟨r2, hr2⟩ : ∃ r, InS g (g.sn k) y = r := ⟨_, rfl⟩
      obtain ⟨r3, hr3⟩ : ∃ r, InS g1 (g.sn k) y = r := ⟨_, rfl⟩
      rw [hr1] at E1 hne hs2
      rw [hr2] at E2
      rw [hr3] at E3
      rw [hr2, hr3] at hbf
      have HNE := Lib.hid hne
      have HBF := Lib.hid hbf
      obtain ⟨V5, hV5, hvb, hvs, hvl⟩ := alloc_block X4.1 #[.string (g.sn k), .string (g.sr k)] 40
      obtain ⟨ps, hps⟩ : ∃ p, X4.1.heap.size = p := ⟨_, rfl⟩
      have hre := below_step X4.2 hvb
      have l0 : ∀ X : Ext V5, X.1.cell? ⟨ps, 0, none⟩ = some (.string (g.sn k)) := fun X => block_cell (below_block X.2 (hps ▸ hvl)) rfl
      have l1 : ∀ X : Ext V5, X.1.cell? ⟨ps, 1, none⟩ = some (.string (g.sr k)) := fun X => block_cell (below_block X.2 (hps ▸ hvl)) rfl
      replace E1 := Lib.hid (fun (X : Ext V5) => (show Calls _ _ _ X.1 _ from E1.out ⟨X.1, below_step hre X.2⟩))
      replace E2 := Lib.hid (fun (X : Ext V5) => (show Calls _ _ _ X.1 _ from E2.out ⟨X.1, below_step hre X.2⟩))
      replace E3 := Lib.hid (fun (X : Ext V5) => (show Calls _ _ _ X.1 _ from E3.out ⟨X.1, below_step hre X.2⟩))
      replace B00 := Ext.re hre B00
      replace B01 := Ext.re hre B01
      replace B02 := Ext.re hre B02
      replace B03 := Ext.re hre B03
      replace q10 := Ext.re hre q10
      replace q11 := Ext.re hre q11
      replace q12 := Ext.re hre q12
      replace q13 := Ext.re hre q13
      have HDV := Lib.hid (fun (X : Ext V5) => below_step hre X.2)
      have HV5 : Hid (X4.1.alloc (.cells #[.string (g.sn k), .string (g.sr k)] 40) = V5) := Lib.hid hV5
      have HPS := Lib.hid hps
      obtain ⟨q1, w1, i1⟩ := r1
      obtain ⟨q2, w2, i2⟩ := r2
      obtain ⟨q3, w3, i3⟩ := r3
      simp only at E1 E2 E3 hs2
      clear hV5 hvb hvs hvl hc hbl hps hne hbf hr1 hr2 hr3 hsn hre
      by_cases hb1 : g.sn k = slot
      · rw [decide_eq_true hb1] at hs1
        have hne1 : ((g.sn k).toList != slot.toList) = false := by rw [bne, hs1]; rfl
        clear hb1 hs2 HNE
        cases hy1 : decide (y < 0)
        · cases hy2 : decide (x ≤ y)
          · have hq := HBF.out (by have := of_decide_eq_false hy1; omega) (by have := of_decide_eq_false hy2; omega)
            injection hq with hq1 hq2
            injection hq2 with hq2 hq3
            subst hq1
            subst hq2
            have hqq : (q3.toList != q3.toList) = false := by simp
            clear hq3
            go_upto_region 9 with (fail)
            rw [HV5.out]
            rw [HPS.out]
            refine ext_wp fun X5 => ?_
            clear e0 e1
            go_wp2_with fail
            refine (Ext.calls _ (E1.out X5)).mono ?_
            rintro e u3 ⟨rfl, X6, rfl⟩
            go_wp2_with fail
            refine (Ext.calls _ (E2.out X6)).mono ?_
            rintro e u4 ⟨rfl, X7, rfl⟩
            go_wp2_with fail
            refine (Ext.calls _ (E3.out X7)).mono ?_
            rintro e u5 ⟨rfl, X8, rfl⟩
            have HE9 := Lib.hid (HDV.out X8)
            go_wp2_with fail
            go_roundw
            case rel => exact ⟨k + 1, by go_num, by omega, HE9⟩
            case measure => simp [intOf]; omega
          · clear E2 E3
            go_upto_region 9 with (fail)
            rw [HV5.out]
            rw [HPS.out]
            refine ext_wp fun X5 => ?_
            clear e0 e1
            go_wp2_with fail
            refine (Ext.calls _ (E1.out X5)).mono ?_
            rintro e u3 ⟨rfl, X6, rfl⟩
            have HE9 := Lib.hid (HDV.out X6)
            go_wp2_with fail
            go_roundw
            case rel => exact ⟨k + 1, by go_num, by omega, HE9⟩
            case measure => simp [intOf]; omega
        · clear E2 E3
          go_upto_region 9 with (fail)
          rw [HV5.out]
          rw [HPS.out]
          refine ext_wp fun X5 => ?_
          clear e0 e1
          go_wp2_with fail
          refine (Ext.calls _ (E1.out X5)).mono ?_
          rintro e u3 ⟨rfl, X6, rfl⟩
          have HE9 := Lib.hid (HDV.out X6)
          go_wp2_with fail
          go_roundw
          case rel => exact ⟨k + 1, by go_num, by omega, HE9⟩
          case measure => simp [intOf]; omega
      · have hn2 := HNE.out hb1
        rw [decide_eq_false hb1] at hs1
        have hne1 : ((g.sn k).toList != slot.toList) = true := by rw [bne, hs1]; rfl
        have hs3 : (q1.toList == part.toList) = false := by rw [hs2]; exact decide_eq_false hn2
        clear hb1 hs2 HNE hn2
        cases hy1 : decide (y < 0)
        · cases hy2 : decide (x ≤ y)
          · have hq := HBF.out (by have := of_decide_eq_false hy1; omega) (by have := of_decide_eq_false hy2; omega)
            injection hq with hq1 hq2
            injection hq2 with hq2 hq3
            subst hq1
            subst hq2
            have hqq : (q3.toList != q3.toList) = false := by simp
            clear hq3
            go_upto_region 9 with (fail)
            rw [HV5.out]
            rw [HPS.out]
            refine ext_wp fun X5 => ?_
            clear e0 e1
            go_wp2_with fail
            refine (Ext.calls _ (E1.out X5)).mono ?_
            rintro e u3 ⟨rfl, X6, rfl⟩
            go_wp2_with fail
            refine (Ext.calls _ (E2.out X6)).mono ?_
            rintro e u4 ⟨rfl, X7, rfl⟩
            go_wp2_with fail
            refine (Ext.calls _ (E3.out X7)).mono ?_
            rintro e u5 ⟨rfl, X8, rfl⟩
            have HE9 := Lib.hid (HDV.out X8)
            go_wp2_with fail
            go_roundw
            case rel => exact ⟨k + 1, by go_num, by omega, HE9⟩
            case measure => simp [intOf]; omega
          · clear E2 E3
            go_upto_region 9 with (fail)
            rw [HV5.out]
            rw [HPS.out]
            refine ext_wp fun X5 => ?_
            clear e0 e1
            go_wp2_with fail
            refine (Ext.calls _ (E1.out X5)).mono ?_
            rintro e u3 ⟨rfl, X6, rfl⟩
            have HE9 := Lib.hid (HDV.out X6)
            go_wp2_with fail
            go_roundw
            case rel => exact ⟨k + 1, by go_num, by omega, HE9⟩
            case measure => simp [intOf]; omega
        · clear E2 E3
          go_upto_region 9 with (fail)
          rw [HV5.out]
          rw [HPS.out]
          refine ext_wp fun X5 => ?_
          clear e0 e1
          go_wp2_with fail
          refine (Ext.calls _ (E1.out X5)).mono ?_
          rintro e u3 ⟨rfl, X6, rfl⟩
          have HE9 := Lib.hid (HDV.out X6)
          go_wp2_with fail
          go_roundw
          case rel => exact ⟨k + 1, by go_num, by omega, HE9⟩
          case measure => simp [intOf]; omega
    · have t1 : decide ((k : Int) < (g.ns : Int)) = false := by rw [decide_eq_false_iff_not]; omega
      have t1' : decide (k < g.ns) = false := by simpa using hlt
      clear hlt
      obtain ⟨X9, hX9⟩ : ∃ Y : Ext V1, X4 = Y := ⟨_, rfl⟩
      rw [hX9]
      clear hX9
      have z0 : ∀ X : Ext V1, X.1.frozen? ⟨p1, 0, none⟩ = false := fun X => block_free (below_block X.2 HBX1.out)
      have z1 : ∀ X : Ext V1, X.1.frozen? ⟨p1, 1, none⟩ = false := fun X => block_free (below_block X.2 HBX1.out)
      have z2 : ∀ X : Ext V1, X.1.frozen? ⟨p1, 2, none⟩ = false := fun X => block_free (below_block X.2 HBX1.out)
      have z3 : ∀ X : Ext V1, X.1.frozen? ⟨p1, 3, none⟩ = false := fun X => block_free (below_block X.2 HBX1.out)
      go_wp2_with fail
      refine (D3.out X9.1 (HIA.out X9)).mono ?_
      rintro e y5 hret
      obtain ⟨b50, b51, b52, b53, d50, d51, d52, d53, rfl, hin5, hm5, hu5, hbl5⟩ := hret.split
      have HIN5 := Lib.hid hin5
      obtain ⟨Y5, rfl⟩ : ∃ Y : Ext V1, y5 = Y.1 := ⟨⟨y5, X9.2.trans (hbl5.mono X9.2.size)⟩, rfl⟩
      clear hret hin5 hbl5
      go_upto_region 19 with (fail)
      have hB4 := below_block Y5.2 HBX1.out
      obtain ⟨W6, hW6, hr6, hk6, _⟩ := store4 hB4 (.slice b50 g2.np d50) (.slice b51 g2.ns d51) (.slice b52 g2.nm d52) (.slice b53 g2.nu d53)
      rw [hW6]
      have hin6 := HIN5.out.notbox hB4 hk6
      have hsp := HSP1.out
      have hb6 : Below W0.heap.size W0 W6 := Kept.below (HRE1.out.trans (Y5.2.mono HRE1.out.size)) hk6 (Nat.le_trans HRE1.out.size Y5.2.size) (fun k hk e => by omega)
      have hdn6 : Below w.heap.size w W6 := hDN0.trans (hb6.mono hbs0)
      have hbs6 : w.heap.size ≤ W6.heap.size := hdn6.size
      have r50 := Ext.ex (show W6.cell? ⟨p1, 0, none⟩ = some (.slice b50 g2.np d50) from block_cell hr6 rfl)
      have r51 := Ext.ex (show W6.cell? ⟨p1, 1, none⟩ = some (.slice b51 g2.ns d51) from block_cell hr6 rfl)
      have r52 := Ext.ex (show W6.cell? ⟨p1, 2, none⟩ = some (.slice b52 g2.nm d52) from block_cell hr6 rfl)
      have r53 := Ext.ex (show W6.cell? ⟨p1, 3, none⟩ = some (.slice b53 g2.nu d53) from block_cell hr6 rfl)
      have HI5 := Lib.hid (fun (X : Ext W6) => hin6.below X.2)
      clear B00 B01 B02 B03 q10 q11 q12 q13 z0 z1 z2 z3 hW6 hr6 hk6 hB4 hin6 hsp hb6
      refine ext_wp fun X6 => ?_
      have DJ := Lib.hid (fun X : Ext W6 => DG.out g2 b50 b51 b52 b53 d50 d51 d52 d53 slot x X.1 (HI5.out X))
      rw [HK2.out.2] at DJ
      have DJK := Lib.hid (fun X : Ext W6 => DCK.out g2 b50 b51 b52 b53 d50 d51 d52 d53 X.1 (HI5.out X))
      rw [HK2.out.1] at DJK
      simp only at DJ
      go_wp2_with fail
      refine (Ext.calls _ (DJ.out X6)).mono ?_
      rintro e y6 ⟨rfl, X7, rfl⟩
      go_wp2_with fail
      refine (Ext.calls _ (DJK.out X7)).mono ?_
      rintro e y7 ⟨rfl, X8, rfl⟩
      go_wp2_with fail
      refine (Ext.calls _ (DT.out X8.1)).mono ?_
      rintro e yt ⟨rfl, XT, rfl⟩
      go_wp2_with fail
      go_ret
      exact ⟨rfl, XT.down hdn6 hbs6⟩
end Go.Proofs.Ytbkpoepacjinlaa

/- GearMountsStayRight: for every input the law returns true, and each argument reads as it did. (The frame is the guide's shell of a law's proof, turned to a garage, two names and two moments; the walk is mountsStay_law.) -/
namespace Go.Proofs.Ytbkpoepacjinlaa.gearMountsStayRightDone
open Go.ChangeShapes Go.WideShapes Go.ChangeAt Go.RowKit Go.ChangeMaps Go.Deep
set_option linter.unusedVariables false

theorem own : ownKnob Try.prog.godebug = none := by kernel_rfl

set_option maxRecDepth 100000 in
theorem lifted (os : Os) (started : os.Started) (H : Type) (enc : TypeId × Value → H) :
    ReturnsInHanded {} Try.checked os 11 .any (Rows.gearMountsStayRightSpec.pre6 enc Try.prog Try.f11 Rows.gearMountsStayRightRow.domain false) (Rows.gearMountsStayRightSpec.post enc Try.prog Try.f11 false true false false) := by
  refine returnsInHanded_of_change (C := Try.checked) own started (by kernel_rfl) Try.func11
    (ChangeSpec.witness6 (enc := enc) (C := Try.checked) false ⟨#[], #[.agg #[.slice none 0 0, .slice none 0 0, .slice none 0 0, .slice none 0 0], .string ⟨#[]⟩, .string ⟨#[]⟩, .int .i64 0, .int .i64 0], []⟩ 8 (by kernel_rfl) (by kernel_rfl) (by kernel_rfl) (by kernel_rfl)) ?_
  intro W base args ds gs before hval0 hW hcnd _
  have hval : ∀ (j : Nat) t v, Try.f11.params[j]? = some t → args[j]? = some v → Value.okWide Try.prog W .any base t v := hval0
  have hW' := hW
  obtain ⟨p, q, hA0, hV, rfl, hfz, hnd⟩ := hW
  have hA : DataW.TrodAll enc Try.prog W 0 (fun _ => true) true Try.f11.params.toList args.toList ds p := hA0
  have hlt := DataW.TrodAll.lt hA
  rw [Try.params11] at hA hval
  obtain ⟨v0, vs0, d0, ds0, p0, q0, hargs, rfl, rfl, h0, r0⟩ := trodAll_cons hA
  obtain ⟨v1, vs1, d1, ds1, p1, q1, rfl, rfl, rfl, h1, r1⟩ := trodAll_cons r0
  obtain ⟨v2, vs2, d2, ds2, p2, q2, rfl, rfl, rfl, h2, r2⟩ := trodAll_cons r1
  obtain ⟨v3, vs3, d3, ds3, p3, q3, rfl, rfl, rfl, h3, r3⟩ := trodAll_cons r2
  obtain ⟨v4, vs4, d4, ds4, p4, q4, rfl, rfl, rfl, h4, r4⟩ := trodAll_cons r3
  obtain ⟨rfl, rfl, rfl⟩ := trodAll_nil r4
  obtain rfl : args = #[v0, v1, v2, v3, v4] := by cases args; simp_all
  obtain ⟨rfl, rfl⟩ := trodVars_none hV
  obtain ⟨g, a0, a1, a2, a3, c0, c1, c2, c3, rfl, hr, hc2, hc3⟩ := open_garage (hval 0 27 v0 rfl rfl) h0
  obtain ⟨s1, rfl, rfl, rfl, w1⟩ := open_string Try.underlying9 (hval 1 9 v1 rfl rfl) h1
  obtain ⟨s2, rfl, rfl, rfl, w2⟩ := open_string Try.underlying9 (hval 2 9 v2 rfl rfl) h2
  obtain ⟨m3, rfl, rfl, rfl, w3⟩ := open_int Try.underlying3 (hval 3 3 v3 rfl rfl) h3
  obtain ⟨m4, rfl, rfl, rfl, w4⟩ := open_int Try.underlying3 (hval 4 3 v4 rfl rfl) h4
  clear hA0 hval0
  simp only [List.append_nil] at hW' hlt
  refine (mountsStay_law g a0 a1 a2 a3 c0 c1 c2 c3 s1 s2 m3 m4 W hr).mono fun e W' hE => ?_
  obtain ⟨he, hg⟩ := hE
  subst he
  have z0 := Below.trod laidOut readGarage rowGarage h0 hg (fun x hx => hlt x (by simp [hx]))
  exact ⟨_, rfl, _, _, _, [], _, [], hW', (trodAll_cons_mk (shut_bool Try.underlying4 _) trodAll_mk0), (trodAll_cons_mk z0 (trodAll_cons_mk (shut_string Try.underlying9 w1) (trodAll_cons_mk (shut_string Try.underlying9 w2) (trodAll_cons_mk (shut_int Try.underlying3 w3) (trodAll_cons_mk (shut_int Try.underlying3 w4) trodAll_mk0))))), rfl, hg.frame _, fun h => by cases h⟩

theorem over : Rows.gearMountsStayRightRow.holds Try.pinned (OpenSpec.ofChange Rows.gearMountsStayRightSpec) :=
  OpenClaim.holds_of_wide 11 Try.f11 rfl rfl rfl rfl rfl rfl rfl ⟨rfl, rfl, rfl, rfl, rfl⟩ rfl rfl rfl rfl rfl (by kernel_rfl) Try.func11 (by kernel_rfl)
    (of_decide_eq_true (by kernel_rfl)) (by unfold Func.isWrapper; first | (rw [if_pos (by decide +kernel)]; kernel_rfl) | (rw [if_neg (by decide +kernel)]; exact ⟨rfl, rfl⟩))
    (fun os started H enc _ => lifted os started H enc)

/-- The statement. -/
theorem proved : Rows.GearMountsStayRightSaid :=
  over
#print axioms proved
end Go.Proofs.Ytbkpoepacjinlaa.gearMountsStayRightDone
