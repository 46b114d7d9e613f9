/- Several texts of this claim in one. -/
import Derived.Test.YtbkpoepacjinlaaMa
import Derived.Test.YtbkpoepacjinlaaGq
import Derived.Test.YtbkpoepacjinlaaGu
import Derived.Test.YtbkpoepacjinlaaLu
import Derived.Laws.StructEq
import Derived.Test.YtbkpoepacjinlaaRows
import Derived.ProofKit
import Derived.OpenShut
import Derived.Lib.SmallJoins
import Derived.Carry
import Derived.ChangeMaps5
/- Gear: Add of the reference. (Printed by gen_radd.py.) -/
namespace Go.Proofs.Ytbkpoepacjinlaa
open Go.RowKit Go.BigFrame
open Gar (chk momG hasS hasP chkUse useErr addErr addG)

theorem anyK_named (g : Gar) (nm : ByteArray) : anyK (fun i => decide (g.un i = nm)) g.nu = named nm g.uses := by
  unfold anyK named Gar.uses
  rw [List.any_map]
  rfl
theorem wpList_append_row {P : Program} {ops : Array Oper} {rest : List Oper} {o : Oper} {a : Act} {Q : Exit → Act → World → Prop} (w : World) (hgd : o.guard = none) (s x : Operand) (t : TypeId) (ho : o.op = .call { callee := .builtin .append, args := #[s, x], argTypes := #[t, t] })
    (base : Nat) (e : TypeId) (i : TypeInfo) (z : Value) (size bytes : Nat) (ht : P.underlying t = some (.slice e)) (hi : P.info? e = some i) (hz : i.zero = some z)
    (hsize : i.size = size) (hby : i.bytes = bytes) (hzs : z.cells.size = size) (hsz : 0 < size) (v : Value) (n : Nat) (xs : List Value) (hs : a.eval s = v) (hown : w.ownsRow base e size v n xs)
    (av : Option Addr) (m c : Nat) (f : Nat → List Value) (hf : ∀ i, (f i).length = size) (h1 : ∀ i, ∀ u ∈ f i, u.oneCell' = true) (hx : a.eval x = .slice av m c) (hr : RowK w av m size f)
    (h63 : n + m ≤ maxLen) (hbytes : (n + m) * bytes ≤ 140737488355328) (hbase : base ≤ w.heap.size)
    (h : ∀ v' w', w'.ownsRow base e size v' (n + m) (xs ++ (List.range m).flatMap f) → w.grownBy w' v.ownBlock → wpList P ops Q rest (a.put o.dst v') w') : wpList P ops Q (o :: rest) a w :=
  wpList_plain hgd fun _ hK => wp_append_row w s x t ho base e i z size bytes ht hi hz hsize hby hzs hsz v n xs hs hown av m c f hf h1 hx hr h63 hbytes hbase fun v' w' h2 h3 => hK _ _ (h v' w' h2 h3)
def sliceLen : Value → Nat
  | .slice _ n _ => n
  | _ => 0
theorem take_flat (g : Gar) {k : Nat} (h : k < g.nu) : (g.uses.take (k + 1)).flatMap encU = (g.uses.take k).flatMap encU ++ g.cellsU k := by
  rw [List.take_add_one, List.getElem?_eq_getElem (by rw [Gar.uses_len]; exact h), Gar.uses_get g h, List.flatMap_append]
  simp
  rfl
theorem drop_flat (g : Gar) (k : Nat) : (List.range (g.nu - k)).flatMap (fun i => g.cellsU (k + i)) = (g.uses.drop k).flatMap encU := by
  have e : g.uses.drop k = (List.range (g.nu - k)).map fun i => g.use (k + i) := by
    apply List.ext_getElem (by simp [Gar.uses_len])
    intro i h1 h2
    simp [Gar.uses]
  rw [e]
  have h : ∀ r : List Nat, r.flatMap (fun i => g.cellsU (k + i)) = (r.map fun i => g.use (k + i)).flatMap encU := by
    intro r
    induction r with
    | nil => rfl
    | cons x r ih => rw [List.flatMap_cons, List.map_cons, List.flatMap_cons, ih]; rfl
  exact h _
theorem row_next {w : World} {b off n k m : Nat} {f : Nat → List Value} (h : RowK w (some ⟨b, off, none⟩) m 5 (fun i => f (k + i))) (hm : n - k = m) : RowK w (some ⟨b, off + 5, none⟩) (n - (k + 1)) 5 (fun i => f (k + 1 + i)) := by
  refine ⟨fun hl => ?_⟩
  obtain ⟨b1, off1, e, h1, h2⟩ := h.here (by omega)
  injection e with e
  injection e with e1 e2
  subst e1
  subst e2
  refine ⟨b, off + 5, rfl, h1, fun i hi j hj => ?_⟩
  have := h2 (i + 1) (by omega) j hj
  rw [show off + (i + 1) * 5 + j = off + 5 + i * 5 + j by omega] at this
  rw [this, show k + (i + 1) = k + 1 + i by omega]
/-- the loop of Add: what stands before the new use is passed by -/
structure RLp (g : Gar) (u : Us) (V wr : World) (o : Nat) (s0 s1 s2 : Value) (k cv : Nat) (av : Option Addr) (v : Value) : Prop where
  kn : k ≤ g.nu
  keep : Kept (fun b => b = o) V wr
  row : wr.ownsRow V.heap.size 38 5 v k ((g.uses.take k).flatMap encU)
  box : wr.heap[o]? = some (.cells #[s0, s1, s2, v] 27 (0, 0))
  src : RowK V av (g.nu - k) 5 (fun i => g.cellsU (k + i))
  apart : ∀ b off, av = some ⟨b, off, none⟩ → b ≠ o
  le : g.nu - k ≤ cv
  pass : ∀ i, i < k → befs (g.use i) u = true
theorem RLp.below {g : Gar} {u : Us} {V wr wx : World} {o : Nat} {s0 s1 s2 : Value} {k cv : Nat} {av : Option Addr} {v : Value} (h : RLp g u V wr o s0 s1 s2 k cv av v) (hb : Below wr.heap.size wr wx) : RLp g u V wx o s0 s1 s2 k cv av v :=
  ⟨h.kn, h.keep.trans (Kept.of_below hb), ownsRow_below h.row hb, below_block hb h.box, h.src, h.apart, h.le, h.pass⟩
/-- the source row behind what the loop does -/
theorem RLp.srcAt {g : Gar} {u : Us} {V wr : World} {o : Nat} {s0 s1 s2 : Value} {k cv : Nat} {av : Option Addr} {v : Value} (h : RLp g u V wr o s0 s1 s2 k cv av v) : RowK wr av (g.nu - k) 5 (fun i => g.cellsU (k + i)) :=
  Kept.row h.src h.keep (fun b off e => h.apart b off e)
theorem RLp.next {g : Gar} {u : Us} {V wr V3 w7 : World} {o : Nat} {s0 s1 s2 : Value} {k cv cv' : Nat} {av av' : Option Addr} {v v' : Value} (h : RLp g u V wr o s0 s1 s2 k cv av v) (hk : k < g.nu) (hb : Below wr.heap.size wr V3) (hg : V3.grownBy w7 v.ownBlock)
    (ho : w7.ownsRow V.heap.size 38 5 v' (k + 1) ((g.uses.take k).flatMap encU ++ g.cellsU k)) (hs : RowK V av' (g.nu - (k + 1)) 5 (fun i => g.cellsU (k + 1 + i))) (ha : ∀ b off, av' = some ⟨b, off, none⟩ → b ≠ o) (hl : g.nu - (k + 1) ≤ cv') (hp : befs (g.use k) u = true) :
    RLp g u V (w7.setCell ⟨o, 3, none⟩ v') o s0 s1 s2 (k + 1) cv' av' v' := by
  have r3 := ownsRow_below h.row hb
  have b3 := below_block hb h.box
  have b7 := grown_block hg b3 (row_box r3 b3 (by decide))
  have k7 : Kept (fun b => b = o) V w7 := (h.keep.trans (Kept.of_below hb)).grown hg (fun q hq hl => by have := (r3.lt q hq).1; omega)
  have k9 : Kept (fun b => b = o) w7 (w7.setCell ⟨o, 3, none⟩ v') := kept_set (O := fun b => b = o) (Kept.refl _ _) rfl _
  refine ⟨hk, k7.trans k9, ?_, cells_setCell b7, hs, ha, hl, fun i hi => ?_⟩
  · rw [take_flat g hk]
    exact own_keep ho k9 (row_box ho b7 (by decide))
  · by_cases e : i = k
    · subst e; exact hp
    · exact h.pass i (by omega)
theorem RLp.stop {g : Gar} {u : Us} {V wr : World} {o : Nat} {s0 s1 s2 : Value} {k cv : Nat} {av : Option Addr} {v : Value} (h : RLp g u V wr o s0 s1 s2 k cv av v) (hs : k = g.nu ∨ (k < g.nu ∧ befs (g.use k) u = false)) : insU u g.uses = g.uses.take k ++ u :: g.uses.drop k := by
  unfold insU
  have hk := h.kn
  conv => lhs; rw [← List.take_append_drop k g.uses]
  rw [insL_pass]
  · rw [insL_stop]
    intro a r he
    rcases hs with hs | ⟨h1, h2⟩
    · rw [List.drop_eq_nil_of_le (by rw [Gar.uses_len]; omega)] at he
      cases he
    · rw [List.drop_eq_getElem_cons (by rw [Gar.uses_len]; exact h1), Gar.uses_get g h1] at he
      injection he with he
      rw [← he]
      exact h2
  · intro x hx
    obtain ⟨i, hi, rfl⟩ := List.getElem_of_mem hx
    rw [List.getElem_take]
    rw [List.length_take, Gar.uses_len] at hi
    rw [Gar.uses_get g (by omega)]
    exact h.pass i (by omega)

set_option maxHeartbeats 8000000 in
set_option maxRecDepth 100000 in
theorem radd_any (g : Gar) (a0 a1 a2 a3 : Option Addr) (c0 c1 c2 c3 : Nat) (u : Us) (w : World) (h : GarIn w g a0 a1 a2 a3) (hun : u.n.size ≤ maxLen) (hur : u.r.size ≤ maxLen) (hc2 : g.nm ≤ c2) (hc3 : g.nu ≤ c3) :
    Calls Try.prog 34 #[garV g a0 a1 a2 a3 c0 c1 c2 c3, useV u.n u.r u.f u.s u.x] w fun e w' => RetG w w' e (addG g u) (addErr g u) := by
  have HG := Lib.hid h
  have hl3 := h.l3
  obtain ⟨W0, hW0, hb0, hs0', hq0⟩ := allocs w [.cells #[.slice a0 g.np c0, .slice a1 g.ns c1, .slice a2 g.nm c2, .slice a3 g.nu c3] 27, .cells #[.string u.n, .string u.r, .int .i64 u.f, .int .i64 u.s, .int .i64 u.x] 38, .cells #[.slice none 0 0, .slice none 0 0, .slice none 0 0, .slice none 0 0] 27]
  have hs0 : W0.heap.size = w.heap.size + 3 := hs0'
  clear hs0'
  have G0 := Ext.ex (show W0.cell? ⟨w.heap.size, 0, none⟩ = some (.slice a0 g.np c0) from block_cell (hq0 0 _ rfl) rfl)
  have G1 := Ext.ex (show W0.cell? ⟨w.heap.size, 1, none⟩ = some (.slice a1 g.ns c1) from block_cell (hq0 0 _ rfl) rfl)
  have G2 := Ext.ex (show W0.cell? ⟨w.heap.size, 2, none⟩ = some (.slice a2 g.nm c2) from block_cell (hq0 0 _ rfl) rfl)
  have G3 := Ext.ex (show W0.cell? ⟨w.heap.size, 3, none⟩ = some (.slice a3 g.nu c3) from block_cell (hq0 0 _ rfl) rfl)
  have U0 := Ext.ex (show W0.cell? ⟨w.heap.size + 1, 0, none⟩ = some (.string u.n) from block_cell (hq0 1 _ rfl) rfl)
  have U1 := Ext.ex (show W0.cell? ⟨w.heap.size + 1, 1, none⟩ = some (.string u.r) from block_cell (hq0 1 _ rfl) rfl)
  have U2 := Ext.ex (show W0.cell? ⟨w.heap.size + 1, 2, none⟩ = some (.int .i64 u.f) from block_cell (hq0 1 _ rfl) rfl)
  have U3 := Ext.ex (show W0.cell? ⟨w.heap.size + 1, 3, none⟩ = some (.int .i64 u.s) from block_cell (hq0 1 _ rfl) rfl)
  have U4 := Ext.ex (show W0.cell? ⟨w.heap.size + 1, 4, none⟩ = some (.int .i64 u.x) from block_cell (hq0 1 _ rfl) rfl)
  have HR := Lib.hid (fun (X : Ext W0) => below_block X.2 (hq0 2 _ rfl))
  have Z0 : ∀ X : Ext W0, X.1.cell? ⟨w.heap.size + 2, 0, none⟩ = some (.slice none 0 0) := fun X => block_cell (HR.out X) rfl
  have Z1 : ∀ X : Ext W0, X.1.cell? ⟨w.heap.size + 2, 1, none⟩ = some (.slice none 0 0) := fun X => block_cell (HR.out X) rfl
  have Z2 : ∀ X : Ext W0, X.1.cell? ⟨w.heap.size + 2, 2, none⟩ = some (.slice none 0 0) := fun X => block_cell (HR.out X) rfl
  have Z3 : ∀ X : Ext W0, X.1.cell? ⟨w.heap.size + 2, 3, none⟩ = some (.slice none 0 0) := fun X => block_cell (HR.out X) rfl
  have F0 : ∀ X : Ext W0, X.1.frozen? ⟨w.heap.size + 2, 0, none⟩ = false := fun X => block_free (HR.out X)
  have F1 : ∀ X : Ext W0, X.1.frozen? ⟨w.heap.size + 2, 1, none⟩ = false := fun X => block_free (HR.out X)
  have F2 : ∀ X : Ext W0, X.1.frozen? ⟨w.heap.size + 2, 2, none⟩ = false := fun X => block_free (HR.out X)
  have F3 : ∀ X : Ext W0, X.1.frozen? ⟨w.heap.size + 2, 3, none⟩ = false := fun X => block_free (HR.out X)
  have HW0 := Lib.hid (show ((w.alloc (.cells #[.slice a0 g.np c0, .slice a1 g.ns c1, .slice a2 g.nm c2, .slice a3 g.nu c3] 27)).alloc (.cells #[.string u.n, .string u.r, .int .i64 u.f, .int .i64 u.s, .int .i64 u.x] 38)).alloc (.cells #[.slice none 0 0, .slice none 0 0, .slice none 0 0, .slice none 0 0] 27) = W0 from hW0)
  have HB := Lib.hid hb0
  have hbs : w.heap.size ≤ W0.heap.size := by omega
  have DK := Lib.hid (fun (Y : Ext W0) => rCheck_any g a0 a1 a2 a3 c0 c1 c2 c3 Y.1 (HG.out.below (Y.down HB.out hbs)) hc2 hc3)
  have DU := Lib.hid (fun (Y : Ext W0) => rcheckUse_any g a3 g.nu c3 u.n u.r u.f u.s u.x Y.1 hun hur (Nat.le_refl _) hl3 (HG.out.below (Y.down HB.out hbs)).r3)
  rw [anyK_named] at DU
  have DC0 := Lib.hid (fun (hk : chk g = 0) (Y : Ext W0) => copied_any g a0 a1 a2 a3 c0 c1 c2 c3 Y.1 (HG.out.below (Y.down HB.out hbs)) hk)
  obtain ⟨er, her⟩ : ∃ x, addErr g u = x := ⟨_, rfl⟩
  obtain ⟨gg, hgg⟩ : ∃ x, addG g u = x := ⟨_, rfl⟩
  rw [her, hgg]
  have HE := Lib.hid her
  have HGG := Lib.hid hgg
  unfold garV at DK DC0
  unfold garV useV
  unfold useV at DU
  clear h hW0 hb0 hq0 her hgg hun hur hc2 hc3
  by_cases k1 : chk g = 0
  case neg =>
    have HX : Hid (gg = Gar.zero ∧ er = chk g) := Lib.hid (by
      have e : addErr g u = chk g := by unfold addErr; rw [if_pos k1]
      have := HE.out
      have h2 := HGG.out
      unfold addG at h2
      rw [if_neg (by rw [e]; exact k1)] at h2
      exact ⟨h2.symm, by rw [← this, e]⟩)
    have n1 : (chk g != 0) = true := by rw [bne_iff_ne]; exact k1
    clear k1 DC0 HE HGG DU
    generalize chk g = ck at *
    go_enter Try.func34, Try.ntmps34
    go_upto_region 1 with (fail)
    rw [HW0.out]
    refine ext_wp fun X => ?_
    go_wp2_with fail
    refine (Ext.calls _ (DK.out _)).mono ?_
    rintro e w2 ⟨rfl, Y, rfl⟩
    go_wp2_with fail
    obtain ⟨W5, hW5, hr5, hk5, _⟩ := store4 (HR.out Y) (.slice none 0 0) (.slice none 0 0) (.slice none 0 0) (.slice none 0 0)
    have x0 : W5.cell? ⟨w.heap.size + 2, 0, none⟩ = some (.slice none 0 0) := block_cell hr5 rfl
    have x1 : W5.cell? ⟨w.heap.size + 2, 1, none⟩ = some (.slice none 0 0) := block_cell hr5 rfl
    have x2 : W5.cell? ⟨w.heap.size + 2, 2, none⟩ = some (.slice none 0 0) := block_cell hr5 rfl
    have x3 : W5.cell? ⟨w.heap.size + 2, 3, none⟩ = some (.slice none 0 0) := block_cell hr5 rfl
    have HB5 := Lib.hid (Kept.below (Y.down HB.out hbs) hk5 (Nat.le_trans hbs Y.2.size) (fun k hk e => by omega))
    try rw [show w.heap.size + 1 + 1 = w.heap.size + 2 from rfl]
    rw [hW5]
    clear hW5 hr5 hk5
    exact bodyPost_ret (v := .tuple #[garV Gar.zero none none none none 0 0 0 0, .int .i64 ck]) (by unfold garV; simp [results, Try.results34, go_sem, x0, x1, x2, x3, Gar.zero]) rfl (by rw [HX.out.1, HX.out.2]; exact RetG.zero HB5.out)
  rw [k1] at DK
  have n1 : ((0 : Int) != 0) = false := rfl
  have HU2 := Lib.hid (show useErr g u = chkUse u.n u.r (named u.n g.uses) u.f u.s u.x from rfl)
  by_cases k2 : useErr g u = 0
  case neg =>
    have HX : Hid (gg = Gar.zero ∧ er = useErr g u) := Lib.hid (by
      have e : addErr g u = useErr g u := by unfold addErr; rw [if_neg (by rw [k1]; simp), if_pos k2]
      have := HE.out
      have h2 := HGG.out
      unfold addG at h2
      rw [if_neg (by rw [e]; exact k2)] at h2
      exact ⟨h2.symm, by rw [← this, e]⟩)
    rw [HU2.out] at HX k2
    generalize chkUse u.n u.r (named u.n g.uses) u.f u.s u.x = ck at *
    generalize named u.n g.uses = tw at *
    have n2 : (ck != 0) = true := by rw [bne_iff_ne]; exact k2
    clear k1 k2 DC0 HE HGG HU2
    go_enter Try.func34, Try.ntmps34
    go_upto_region 1 with (fail)
    rw [HW0.out]
    refine ext_wp fun X => ?_
    go_wp2_with fail
    refine (Ext.calls _ (DK.out _)).mono ?_
    rintro e w2 ⟨rfl, Y, rfl⟩
    go_wp2_with fail
    refine (Ext.calls _ (DU.out _)).mono ?_
    rintro e w4 ⟨rfl, Y4, rfl⟩
    go_wp2_with fail
    obtain ⟨W5, hW5, hr5, hk5, _⟩ := store4 (HR.out Y4) (.slice none 0 0) (.slice none 0 0) (.slice none 0 0) (.slice none 0 0)
    have x0 : W5.cell? ⟨w.heap.size + 2, 0, none⟩ = some (.slice none 0 0) := block_cell hr5 rfl
    have x1 : W5.cell? ⟨w.heap.size + 2, 1, none⟩ = some (.slice none 0 0) := block_cell hr5 rfl
    have x2 : W5.cell? ⟨w.heap.size + 2, 2, none⟩ = some (.slice none 0 0) := block_cell hr5 rfl
    have x3 : W5.cell? ⟨w.heap.size + 2, 3, none⟩ = some (.slice none 0 0) := block_cell hr5 rfl
    have HB5 := Lib.hid (Kept.below (Y4.down HB.out hbs) hk5 (Nat.le_trans hbs Y4.2.size) (fun k hk e => by omega))
    try rw [show w.heap.size + 1 + 1 = w.heap.size + 2 from rfl]
    rw [hW5]
    clear hW5 hr5 hk5
    exact bodyPost_ret (v := .tuple #[garV Gar.zero none none none none 0 0 0 0, .int .i64 ck]) (by unfold garV; simp [results, Try.results34, go_sem, x0, x1, x2, x3, Gar.zero]) rfl (by rw [HX.out.1, HX.out.2]; exact RetG.zero HB5.out)
  have k2' : chkUse u.n u.r (named u.n g.uses) u.f u.s u.x = 0 := k2
  rw [k2'] at DU
  clear HU2
  have HTW : Hid (named u.n g.uses = named u.n g.uses) := Lib.hid rfl
  by_cases k3 : 5000 ≤ g.nu
  case pos =>
    have HX : Hid (gg = Gar.zero ∧ er = 3) := Lib.hid (by
      have e : addErr g u = 3 := by unfold addErr; rw [if_neg (by rw [k1]; simp), if_neg (by rw [k2]; simp), if_pos k3]
      have := HE.out
      have h2 := HGG.out
      unfold addG at h2
      rw [if_neg (by rw [e]; omega)] at h2
      exact ⟨h2.symm, by rw [← this, e]⟩)
    have t3 : decide ((5000 : Int) ≤ (g.nu : Int)) = true := by rw [decide_eq_true_eq]; omega
    have t3' : decide (5000 ≤ g.nu) = true := by simpa using k3
    generalize named u.n g.uses = tw at *
    clear k1 k2 k2' k3 DC0 HE HGG HTW
    go_enter Try.func34, Try.ntmps34
    go_upto_region 1 with (fail)
    rw [HW0.out]
    refine ext_wp fun X => ?_
    go_wp2_with fail
    refine (Ext.calls _ (DK.out _)).mono ?_
    rintro e w2 ⟨rfl, Y, rfl⟩
    go_wp2_with fail
    refine (Ext.calls _ (DU.out _)).mono ?_
    rintro e w4 ⟨rfl, Y4, rfl⟩
    go_wp2_with fail
    obtain ⟨W5, hW5, hr5, hk5, _⟩ := store4 (HR.out Y4) (.slice none 0 0) (.slice none 0 0) (.slice none 0 0) (.slice none 0 0)
    have x0 : W5.cell? ⟨w.heap.size + 2, 0, none⟩ = some (.slice none 0 0) := block_cell hr5 rfl
    have x1 : W5.cell? ⟨w.heap.size + 2, 1, none⟩ = some (.slice none 0 0) := block_cell hr5 rfl
    have x2 : W5.cell? ⟨w.heap.size + 2, 2, none⟩ = some (.slice none 0 0) := block_cell hr5 rfl
    have x3 : W5.cell? ⟨w.heap.size + 2, 3, none⟩ = some (.slice none 0 0) := block_cell hr5 rfl
    have HB5 := Lib.hid (Kept.below (Y4.down HB.out hbs) hk5 (Nat.le_trans hbs Y4.2.size) (fun k hk e => by omega))
    try rw [show w.heap.size + 1 + 1 = w.heap.size + 2 from rfl]
    rw [hW5]
    clear hW5 hr5 hk5
    exact bodyPost_ret (v := .tuple #[garV Gar.zero none none none none 0 0 0 0, .int .i64 3]) (by unfold garV; simp [results, Try.results34, go_sem, x0, x1, x2, x3, Gar.zero]) rfl (by rw [HX.out.1, HX.out.2]; exact RetG.zero HB5.out)
  have HX : Hid (gg = g.setU (insU u g.uses) ∧ er = 0) := Lib.hid (by
    have e : addErr g u = 0 := by unfold addErr; rw [if_neg (by rw [k1]; simp), if_neg (by rw [k2]; simp), if_neg k3]
    have h2 := HGG.out
    have h3 := HE.out
    exact ⟨h2.symm.trans (Gar.addG_ok e).1, h3.symm.trans e⟩)
  have t3 : decide ((5000 : Int) ≤ (g.nu : Int)) = false := by rw [decide_eq_false_iff_not]; omega
  have t3' : decide (5000 ≤ g.nu) = false := by simpa using k3
  have HADD := Lib.hid (Gar.add_zero (g := g) (u := u) (by unfold addErr; rw [if_neg (by rw [k1]; simp), if_neg (by rw [k2]; simp), if_neg k3]))
  have DC := Lib.hid (DC0.out k1)
  obtain ⟨i0, hi0, hz0, hz1, hz2⟩ := info_parts (show (Try.prog.info? 38).map (fun i => (i.zero, i.size, i.bytes)) = some (some (.agg #[.string ⟨#[]⟩, .string ⟨#[]⟩, .int .i64 0, .int .i64 0, .int .i64 0]), 5, 56) by kernel_rfl)
  have HI0 := Lib.hid hi0
  have HZ0 := Lib.hid hz0
  have HZ1 := Lib.hid hz1
  have HZ2 := Lib.hid hz2
  have HUS := Lib.hid (show Try.prog.underlying 25 = some (.slice 38) by kernel_rfl)
  clear k1 k2 k2' DC0 HE HGG HTW hi0 hz0 hz1 hz2
  go_enter Try.func34, Try.ntmps34
  go_upto_region 1 with (fail)
  rw [HW0.out]
  refine ext_wp fun X => ?_
  go_wp2_with fail
  refine (Ext.calls _ (DK.out _)).mono ?_
  rintro e w2 ⟨rfl, Y, rfl⟩
  go_wp2_with fail
  refine (Ext.calls _ (DU.out _)).mono ?_
  rintro e w4 ⟨rfl, Y4, rfl⟩
  go_wp2_with fail
  refine (DC.out _).mono ?_
  rintro e w5 ⟨b0, b1, b2, b3, d0, d1, d2, d3, rfl, hog, hb5⟩
  have HOG := Lib.hid hog
  have HB5 := Lib.hid hb5
  obtain ⟨Y5, rfl⟩ : ∃ Y : Ext W0, w5 = Y.1 := ⟨⟨w5, Y4.2.trans (hb5.mono Y4.2.size)⟩, rfl⟩
  clear hog hb5
  obtain ⟨V2, hV2, hvb2, hvs2, hvq2⟩ := alloc_block Y5.1 #[.slice b0 g.np d0, .slice b1 g.ns d1, .slice b2 g.nm d2, .slice b3 g.nu d3] 27
  obtain ⟨o, ho⟩ : ∃ o, Y5.1.heap.size = o := ⟨_, rfl⟩
  have hbase : W0.heap.size ≤ Y4.1.heap.size := Y4.2.size
  have hO0 := ownsRow_below (ownsRow_lower HOG.out.o0 hbase) hvb2
  have hO1 := ownsRow_below (ownsRow_lower HOG.out.o1 hbase) hvb2
  have hO2 := ownsRow_below (ownsRow_lower HOG.out.o2 hbase) hvb2
  have hO3 := ownsRow_below (ownsRow_lower HOG.out.o3 hbase) hvb2
  have hy5 := Y5.2.size
  have HV2 := Lib.hid hV2
  obtain ⟨Y6, rfl⟩ : ∃ Y : Ext W0, V2 = Y.1 := ⟨⟨V2, below_step Y5.2 hvb2⟩, rfl⟩
  rw [ho] at hvs2 hvq2
  have k3 : Y6.1.cell? ⟨o, 3, none⟩ = some (.slice b3 g.nu d3) := block_cell hvq2 rfl
  have f3 : Y6.1.frozen? ⟨o, 3, none⟩ = false := block_free hvq2
  have HO0 := Lib.hid hO0
  have HO1 := Lib.hid hO1
  have HO2 := Lib.hid hO2
  have HO3 := Lib.hid hO3
  have HOB := Lib.hid hvq2
  have HSZ : Hid (o = Y5.1.heap.size ∧ Y6.1.heap.size = o + 1 ∧ W0.heap.size ≤ o) := Lib.hid ⟨ho.symm, hvs2, by omega⟩
  have hnl : g.nu + 1 ≤ 5000 := by omega
  clear hO0 hO1 hO2 hO3 hvb2 hvq2 hvs2 hV2 HOG HB5 hy5 hbase
  go_upto_region 10 with (fail)
  rw [HV2.out]
  try rw [ho]
  go_wp2_with fail
  obtain ⟨V, hV⟩ : ∃ V, Y6.1.setCell ⟨o, 3, none⟩ (.slice none 0 0) = V := ⟨_, rfl⟩
  rw [hV]
  obtain ⟨hso1, hso3, hso2⟩ := HSZ.out
  have hkV : Kept (fun k => k = o) Y6.1 V := hV ▸ kept_set (O := fun k => k = o) (Kept.refl _ _) rfl _
  have tB : V.heap[o]? = some (.cells #[.slice b0 g.np d0, .slice b1 g.ns d1, .slice b2 g.nm d2, .slice none 0 0] 27 (0, 0)) := hV ▸ cells_setCell HOB.out
  have t0 := own_keep HO0.out hkV (row_box HO0.out HOB.out (by decide))
  have t1 := own_keep HO1.out hkV (row_box HO1.out HOB.out (by decide))
  have t2 := own_keep HO2.out hkV (row_box HO2.out HOB.out (by decide))
  have t3 := own_keep HO3.out hkV (row_box HO3.out HOB.out (by decide))
  have tR := (hkV.block (w.heap.size + 2) (lt_of_block (HR.out Y6)) (by omega)).trans (HR.out Y6)
  have hVs : o < V.heap.size := lt_of_block tB
  have hV0 : W0.heap.size ≤ V.heap.size := by omega
  have hbV : Below W0.heap.size W0 V := Y6.2.trans ⟨hkV.os, hkV.tape, hkV.output, hkV.size, fun k hk => hkV.block k (by omega) (by omega)⟩
  have vu : ∀ (q : Nat) (x : Value), Y6.1.cell? ⟨w.heap.size + 1, q, none⟩ = some x → V.cell? ⟨w.heap.size + 1, q, none⟩ = some x := fun q x h => hkV.cell (p := ⟨w.heap.size + 1, q, none⟩) (by show ¬ w.heap.size + 1 = o; omega) h
  have vu0 := vu 0 _ (U0 Y6)
  have vu1 := vu 1 _ (U1 Y6)
  have vu2 := vu 2 _ (U2 Y6)
  have vu3 := vu 3 _ (U3 Y6)
  have vu4 := vu 4 _ (U4 Y6)
  have h30 := ownRow_of (f := g.cellsU) (fun _ => rfl) t3
  have HL0 : Hid (RLp g u V V o (.slice b0 g.np d0) (.slice b1 g.ns d1) (.slice b2 g.nm d2) 0 d3 b3 (.slice none 0 0)) := Lib.hid
    ⟨Nat.zero_le _, Kept.refl _ _, by rw [List.take_zero]; exact World.ownsRow_nil _ _ _ _, tB, ⟨fun hl => by
      obtain ⟨b, off, h1, h2, h4⟩ := h30.2.here hl
      exact ⟨b, off, h1, h2, fun i hi j hj => by rw [Nat.zero_add]; exact h4 i hi j hj⟩⟩, fun b off e => by
      have := row_box t3 tB (by decide)
      rw [e] at this
      exact fun e2 => this (by rw [e2]; rfl), h30.1, fun i hi => absurd hi (Nat.not_lt_zero _)⟩
  have HQV := Lib.hid (And.intro t0 (And.intro t1 (And.intro t2 (And.intro tR (And.intro hbV tB)))))
  have HVS := Lib.hid (And.intro hVs hV0)
  have HVU := Lib.hid (And.intro vu0 (And.intro vu1 (And.intro vu2 (And.intro vu3 vu4))))
  obtain ⟨hk0, hfu, hnu, hsz⟩ := HADD.out
  have hRI := (Gar.right_uses hk0).ins hfu hnu (by rw [Gar.uses_len]; exact hsz)
  have HRI := Lib.hid hRI
  have HGI := Lib.hid HG.out
  have hlenI : (insU u g.uses).length = g.nu + 1 := by unfold insU; rw [insL_len, Gar.uses_len]
  have HLI := Lib.hid hlenI
  have DF := Lib.hid (fun (k : Nat) (W : World) => first_any (g.un k) (g.ur k) u.n u.r (g.uf k) (g.us k) (g.uw k) u.f u.s u.x W)
  unfold useV at DF
  clear hso1 hso2 hso3 hkV tB t0 t1 t2 t3 tR hVs hV0 hbV vu vu0 vu1 vu2 vu3 vu4 h30 hk0 hfu hnu hsz hRI hlenI k3 f3 HO0 HO1 HO2 HO3 HOB hV U0 U1 U2 U3 U4 G0 G1 G2 G3 Z0 Z1 Z2 Z3 F0 F1 F2 F3 DK DU DC
  go_loopw [9] (fun lv wr => ∃ (k cv : Nat) (av : Option Addr) (v : Value), lv = .slice av (g.nu - k) cv ∧ Hid (RLp g u V wr o (.slice b0 g.np d0) (.slice b1 g.ns d1) (.slice b2 g.nm d2) k cv av v)) (fun lv _ => sliceLen lv)
  case atStart => exact ⟨0, d3, b3, .slice none 0 0, rfl, HL0⟩
  case round =>
    obtain ⟨k, cv, av, v, rfl, HI⟩ := hrel
    by_cases hlt : k < g.nu
    · obtain ⟨b, off, rfl, hbl, hc⟩ := HI.out.src.here (by omega)
      have hbo := HI.out.apart b off rfl
      have hkp := HI.out.keep
      have hle := HI.out.le
      obtain ⟨hVs, hV0⟩ := HVS.out
      have hwo : ¬ w.heap.size + 1 = o := by have := HSZ.out; omega
      have el : ∀ (j : Nat) (x : Value), j < 5 → (g.cellsU k)[j]? = some x → V.cell? ⟨b, off + j, none⟩ = some x := fun j x hj hx => by
        have h1 := hc 0 (by omega) j hj
        rw [Nat.zero_mul, Nat.add_zero, Nat.add_zero] at h1
        rw [h1, hx]
      have c0 := el 0 _ (by omega) rfl
      have c1 := el 1 _ (by omega) rfl
      have c2 := el 2 _ (by omega) rfl
      have c3 := el 3 _ (by omega) rfl
      have c4 := el 4 _ (by omega) rfl
      rw [Nat.add_zero] at c0
      have e0 := Ext.ex (hkp.cell (p := ⟨b, off, none⟩) hbo c0)
      have e1 := Ext.ex (hkp.cell (p := ⟨b, off + 1, none⟩) hbo c1)
      have e2 := Ext.ex (hkp.cell (p := ⟨b, off + 2, none⟩) hbo c2)
      have e3 := Ext.ex (hkp.cell (p := ⟨b, off + 3, none⟩) hbo c3)
      have e4 := Ext.ex (hkp.cell (p := ⟨b, off + 4, none⟩) hbo c4)
      have p0 := Ext.ex (hkp.cell (p := ⟨w.heap.size + 1, 0, none⟩) hwo HVU.out.1)
      have p1 := Ext.ex (hkp.cell (p := ⟨w.heap.size + 1, 1, none⟩) hwo HVU.out.2.1)
      have p2 := Ext.ex (hkp.cell (p := ⟨w.heap.size + 1, 2, none⟩) hwo HVU.out.2.2.1)
      have p3 := Ext.ex (hkp.cell (p := ⟨w.heap.size + 1, 3, none⟩) hwo HVU.out.2.2.2.1)
      have p4 := Ext.ex (hkp.cell (p := ⟨w.heap.size + 1, 4, none⟩) hwo HVU.out.2.2.2.2)
      have DF1 := Lib.hid (DF.out k)
      have HSRC := Lib.hid HI.out.src
      obtain ⟨m, hm⟩ : ∃ m, g.nu - k = m := ⟨_, rfl⟩
      rw [hm] at hle HSRC ⊢
      have hm0 : 0 < m := by omega
      have t1 : decide ((0 : Int) < (m : Int)) = true := by rw [decide_eq_true_eq]; omega
      have t1' : decide (0 < m) = true := by simpa using hm0
      have t2 : (0 : Int) < (m : Int) := by omega
      have t5 : (1 : Int) ≤ (m : Int) := by omega
      have HBL := Lib.hid hbl
      have HBO := Lib.hid hbo
      have HWO := Lib.hid hwo
      have HM := Lib.hid hm
      obtain ⟨bb, hbb⟩ : ∃ x, befB (g.uf k) u.f (g.un k) u.n = x := ⟨_, rfl⟩
      rw [hbb] at DF1
      have HBB : Hid (befs (g.use k) u = bb) := Lib.hid hbb
      clear hbb c0 c1 c2 c3 c4 el hc hbo hkp hwo hbl hVs hV0 hm
      cases bb
      · go_upto_region 12 with (fail)
        refine ext_wp fun X => ?_
        refine wp_region_ext (W := wr) _ (by kernel_rfl) (by kernel_rfl) ?_
        repeat go_big_quiet_step ((go_at_call 57; exact Ext.calls _ (DF1.out _)))
        refine wpQuiet_nil ?_
        intro _ hw'
        obtain ⟨X2, rfl⟩ := hw'
        go_upto_region 15 with (fail)
        have hwx := X2.2
        have HP := Lib.hid (HI.out.below hwx)
        obtain ⟨wx, hwe⟩ : ∃ w, X2.1 = w := ⟨_, rfl⟩
        rw [hwe] at HP hwx ⊢
        have hkx := HP.out.keep
        have y0 := hkx.cell (p := ⟨w.heap.size + 1, 0, none⟩) HWO.out HVU.out.1
        have y1 := hkx.cell (p := ⟨w.heap.size + 1, 1, none⟩) HWO.out HVU.out.2.1
        have y2 := hkx.cell (p := ⟨w.heap.size + 1, 2, none⟩) HWO.out HVU.out.2.2.1
        have y3 := hkx.cell (p := ⟨w.heap.size + 1, 3, none⟩) HWO.out HVU.out.2.2.2.1
        have y4 := hkx.cell (p := ⟨w.heap.size + 1, 4, none⟩) HWO.out HVU.out.2.2.2.2
        have z3 : wx.cell? ⟨o, 3, none⟩ = some v := block_cell HP.out.box rfl
        have HINS := Lib.hid (HP.out.stop (Or.inr ⟨hlt, HBB.out⟩))
        have hsV : V.heap.size ≤ wx.heap.size := hkx.size
        have hkn := HP.out.kn
        have hkm : k + 1 + m = g.nu + 1 := by have := HM.out; omega
        have HKM := Lib.hid hkm
        have hkm2 : k + 1 + m ≤ 5001 := by omega
        clear hkm
        clear e0 e1 e2 e3 e4 p0 p1 p2 p3 p4 X HI DF1 DF hwe X2
        go_wp2_with (at_builtin; refine wpList_append_where _ rfl (.tmp 55) (.tmp 57) 25 rfl V.heap.size 38 i0 (.agg #[.string ⟨#[]⟩, .string ⟨#[]⟩, .int .i64 0, .int .i64 0, .int .i64 0]) 5 56 HUS.out HI0.out HZ0.out HZ1.out HZ2.out rfl (by decide) v k ((g.uses.take k).flatMap encU) rfl (HP.out.row.alloc _) ⟨wx.heap.size, 0, none⟩ 1 1 (encU u) rfl (by decide) rfl ?c1 ?c2 ?c3 ?c4 ?c5 ?_)
        case c1 =>
          intro jj uu hu
          rw [addr_add0, World.cell?_alloc_at _ _ _ _ rfl]
          simpa [encU] using hu
        case c2 => exact encU_one u
        case c3 => unfold maxLen; omega
        case c4 => omega
        case c5 => simp; omega
        intro v7 w7 hown7 hg7 _
        obtain ⟨V3, hV3, hvb3, _, _⟩ := alloc_block wx #[.string u.n, .string u.r, .int .i64 u.f, .int .i64 u.s, .int .i64 u.x] 38
        rw [hV3] at hg7
        have p3 := ownsRow_below HP.out.row hvb3
        have hk7 : Kept (fun b => b = o) V w7 := (hkx.trans (Kept.of_below hvb3)).grown hg7 (fun q hq hl => by have := (p3.lt q hq).1; omega)
        have hs7 := Kept.row HP.out.src hk7 (fun b off e => HP.out.apart b off e)
        rw [HM.out] at hs7
        have pB := below_block hvb3 HP.out.box
        have qB := grown_block hg7 pB (row_box p3 pB (by decide))
        have hs7V : V.heap.size ≤ w7.heap.size := hk7.size
        have HS7 := Lib.hid hs7
        have HK7 := Lib.hid hk7
        have HQB := Lib.hid qB
        have HO7 := Lib.hid hown7
        clear hV3 hvb3 p3 hk7 hs7 pB qB hg7 hown7 y0 y1 y2 y3 y4 z3
        go_wp2_with (at_builtin; refine wpList_append_row _ rfl (.tmp 58) (.tmp 59) 25 rfl V.heap.size 38 i0 (.agg #[.string ⟨#[]⟩, .string ⟨#[]⟩, .int .i64 0, .int .i64 0, .int .i64 0]) 5 56 HUS.out HI0.out HZ0.out HZ1.out HZ2.out rfl (by decide) v7 (k + 1) _ rfl HO7.out (some ⟨b, off, none⟩) m cv (fun i => g.cellsU (k + i)) (fun _ => rfl) (fun i => cellsU_one g (k + i)) rfl HS7.out ?d1 ?d2 ?d3 ?_)
        case d1 => unfold maxLen; omega
        case d2 => omega
        case d3 => exact hs7V
        intro v8 w8 hown8 hg8
        rw [HKM.out] at hown8
        have hxs : (g.uses.take k).flatMap encU ++ (encU u ++ (List.range m).flatMap (fun i => g.cellsU (k + i))) = (insU u g.uses).flatMap encU := by
          rw [HINS.out, ← HM.out, drop_flat, List.flatMap_append, List.flatMap_cons]
        rw [hxs] at hown8
        obtain ⟨q, cap, rfl⟩ := ownsRow_succ hown8
        have rB := grown_block hg8 HQB.out (row_box HO7.out HQB.out (by decide))
        have hk8 : Kept (fun b => b = o) V w8 := HK7.out.grown hg8 (fun q hq hl => by have := (HO7.out.lt q hq).1; omega)
        have s3 : w8.cell? ⟨o, 3, none⟩ = some v := block_cell rB rfl
        have f3 : w8.frozen? ⟨o, 3, none⟩ = false := block_free rB
        have HQ8 := Lib.hid (And.intro hk8 (And.intro rB hown8))
        clear hk8 rB hown8 hg8 hxs HS7 HO7 HQB HK7
        go_upto_region 16 with (fail)
        obtain ⟨w9, hw9⟩ : ∃ w9, w8.setCell ⟨o, 3, none⟩ (.slice (some ⟨q, 0, none⟩) (g.nu + 1) cap) = w9 := ⟨_, rfl⟩
        rw [hw9]
        obtain ⟨hk8, rB, hown8⟩ := HQ8.out
        obtain ⟨s0, s1, s2, sR, hbV, sB⟩ := HQV.out
        obtain ⟨hso1, hso3, hso2⟩ := HSZ.out
        obtain ⟨hVs, hV0⟩ := HVS.out
        have hk9 : Kept (fun k => k = o) w8 w9 := hw9 ▸ kept_set (O := fun k => k = o) (Kept.refl _ _) rfl _
        have hkV := hk8.trans hk9
        have tB : w9.heap[o]? = some (.cells #[.slice b0 g.np d0, .slice b1 g.ns d1, .slice b2 g.nm d2, .slice (some ⟨q, 0, none⟩) (g.nu + 1) cap] 27 (0, 0)) := hw9 ▸ cells_setCell rB
        have t0 := own_keep s0 hkV (row_box s0 sB (by decide))
        have t1 := own_keep s1 hkV (row_box s1 sB (by decide))
        have t2 := own_keep s2 hkV (row_box s2 sB (by decide))
        have t3 := ownsRow_lower (own_keep hown8 hk9 (row_box hown8 rB (by decide))) hV0
        have tR := (hkV.block (w.heap.size + 2) (lt_of_block sR) (by omega)).trans sR
        have hb9 : Below W0.heap.size W0 w9 := hbV.trans ⟨hkV.os, hkV.tape, hkV.output, hkV.size, fun k hk => hkV.block k (by omega) (by omega)⟩
        have m0 : w9.cell? ⟨o, 0, none⟩ = some (.slice b0 g.np d0) := block_cell tB rfl
        have m1 : w9.cell? ⟨o, 1, none⟩ = some (.slice b1 g.ns d1) := block_cell tB rfl
        have m2 : w9.cell? ⟨o, 2, none⟩ = some (.slice b2 g.nm d2) := block_cell tB rfl
        have m3 : w9.cell? ⟨o, 3, none⟩ = some (.slice (some ⟨q, 0, none⟩) (g.nu + 1) cap) := block_cell tB rfl
        have y0 : w9.cell? ⟨w.heap.size + 2, 0, none⟩ = some (.slice none 0 0) := block_cell tR rfl
        have y1 : w9.cell? ⟨w.heap.size + 2, 1, none⟩ = some (.slice none 0 0) := block_cell tR rfl
        have y2 : w9.cell? ⟨w.heap.size + 2, 2, none⟩ = some (.slice none 0 0) := block_cell tR rfl
        have y3 : w9.cell? ⟨w.heap.size + 2, 3, none⟩ = some (.slice none 0 0) := block_cell tR rfl
        have v0 : w9.frozen? ⟨w.heap.size + 2, 0, none⟩ = false := block_free tR
        have v1 : w9.frozen? ⟨w.heap.size + 2, 1, none⟩ = false := block_free tR
        have v2 : w9.frozen? ⟨w.heap.size + 2, 2, none⟩ = false := block_free tR
        have v3 : w9.frozen? ⟨w.heap.size + 2, 3, none⟩ = false := block_free tR
        have HQ9 := Lib.hid (And.intro t0 (And.intro t1 (And.intro t2 (And.intro t3 (And.intro tR hb9)))))
        clear hk8 rB hown8 s0 s1 s2 sR hbV sB hso1 hso2 hso3 hVs hV0 hk9 hkV tB t0 t1 t2 t3 tR hb9 hw9 s3 f3 HQ8
        go_wp2_with fail
        obtain ⟨t0, t1, t2, t3, tR, hb9⟩ := HQ9.out
        have hlenI := HLI.out
        obtain ⟨W5, hW5, hr5, hk5, _⟩ := store4 tR (.slice b0 g.np d0) (.slice b1 g.ns d1) (.slice b2 g.nm d2) (.slice (some ⟨q, 0, none⟩) (g.nu + 1) cap)
        have x0 : W5.cell? ⟨w.heap.size + 2, 0, none⟩ = some (.slice b0 g.np d0) := block_cell hr5 rfl
        have x1 : W5.cell? ⟨w.heap.size + 2, 1, none⟩ = some (.slice b1 g.ns d1) := block_cell hr5 rfl
        have x2 : W5.cell? ⟨w.heap.size + 2, 2, none⟩ = some (.slice b2 g.nm d2) := block_cell hr5 rfl
        have x3 : W5.cell? ⟨w.heap.size + 2, 3, none⟩ = some (.slice (some ⟨q, 0, none⟩) (g.nu + 1) cap) := block_cell hr5 rfl
        have low : ∀ b, W0.heap.size ≤ b → ¬ b = w.heap.size + 2 := fun b hb e => by omega
        have z0 := ownsRow_kept t0 hk5 low
        have z1 := ownsRow_kept t1 hk5 low
        have z2 := ownsRow_kept t2 hk5 low
        have z3 := ownsRow_kept t3 hk5 low
        rw [← hlenI, ← flat_range] at z3
        have e0 := ownRow_of (f := g.cellsP) (fun _ => rfl) z0
        have e1 := ownRow_of (f := g.cellsS) (fun _ => rfl) z1
        have e2 := ownRow_of (f := g.cellsM) (fun _ => rfl) z2
        have e3 := ownRow_of (f := fun i => encU ((insU u g.uses).getD i default)) (fun _ => rfl) z3
        have HB5 := Lib.hid (Kept.below (HB.out.trans (hb9.mono hbs)) hk5 (Nat.le_trans hbs hb9.size) (fun k hk e => by omega))
        have HFIN : Hid (RetG w W5 (.returned (.tuple #[garV (g.setU (insU u g.uses)) b0 b1 b2 (some ⟨q, 0, none⟩) d0 d1 d2 cap, .int .i64 0])) gg er) := Lib.hid (by
          rw [HX.out.1, HX.out.2]
          exact ⟨⟨b0, b1, b2, some ⟨q, 0, none⟩, d0, d1, d2, cap, rfl, setU_in HGI.out HRI.out e0.2 e1.2 e2.2 e3.2, e2.1, e3.1⟩, HB5.out⟩)
        try rw [show w.heap.size + 1 + 1 = w.heap.size + 2 from rfl]
        rw [hW5]
        have hlI : (g.setU (insU u g.uses)).nu = g.nu + 1 := hlenI
        exact bodyPost_ret (v := .tuple #[garV (g.setU (insU u g.uses)) b0 b1 b2 (some ⟨q, 0, none⟩) d0 d1 d2 cap, .int .i64 0]) (by unfold garV; rw [hlI]; simp [results, Try.results34, go_sem, x0, x1, x2, x3, Gar.setU]) rfl HFIN.out
      · go_upto_region 12 with (fail)
        refine ext_wp fun X => ?_
        refine wp_region_ext (W := wr) _ (by kernel_rfl) (by kernel_rfl) ?_
        repeat go_big_quiet_step ((go_at_call 57; exact Ext.calls _ (DF1.out _)))
        refine wpQuiet_nil ?_
        intro _ hw'
        obtain ⟨X2, rfl⟩ := hw'
        go_upto_region 13 with (fail)
        have hwx := X2.2
        have HP := Lib.hid (HI.out.below hwx)
        obtain ⟨wx, hwe⟩ : ∃ w, X2.1 = w := ⟨_, rfl⟩
        rw [hwe] at HP hwx ⊢
        have hno : ∀ q, v.ownBlock = some q → V.heap.size ≤ q := fun q hq => (HP.out.row.lt q hq).1
        have hOb : ¬ (b = o ∨ v.ownBlock = some b) := fun h => h.elim HBO.out (fun e => by have := hno b e; have := HBL.out; omega)
        have y0 := ExtO.ex (O := fun q => q = o ∨ v.ownBlock = some q) (p := ⟨b, off, none⟩) hOb (below_cell hwx (e0 ⟨wr, Below.refl _ _⟩))
        have y1 := ExtO.ex (O := fun q => q = o ∨ v.ownBlock = some q) (p := ⟨b, off + 1, none⟩) hOb (below_cell hwx (e1 ⟨wr, Below.refl _ _⟩))
        have y2 := ExtO.ex (O := fun q => q = o ∨ v.ownBlock = some q) (p := ⟨b, off + 2, none⟩) hOb (below_cell hwx (e2 ⟨wr, Below.refl _ _⟩))
        have y3 := ExtO.ex (O := fun q => q = o ∨ v.ownBlock = some q) (p := ⟨b, off + 3, none⟩) hOb (below_cell hwx (e3 ⟨wr, Below.refl _ _⟩))
        have y4 := ExtO.ex (O := fun q => q = o ∨ v.ownBlock = some q) (p := ⟨b, off + 4, none⟩) hOb (below_cell hwx (e4 ⟨wr, Below.refl _ _⟩))
        have z3 : wx.cell? ⟨o, 3, none⟩ = some v := block_cell HP.out.box rfl
        clear e0 e1 e2 e3 e4 p0 p1 p2 p3 p4 hno hOb hwx hwe X X2 HI DF1 DF
        refine held_start (C := fun w' => ∃ Z : ExtO (fun q => q = o ∨ v.ownBlock = some q) wx, w' = Z.1) (by kernel_rfl) ?_
        obtain ⟨Z0, hZ0⟩ : ∃ Z : ExtO (fun q => q = o ∨ v.ownBlock = some q) wx, ({ wx with drawn := wx.drawn + 1 } : World) = Z.1 := ⟨⟨{ wx with drawn := wx.drawn + 1 }, ⟨rfl, rfl, rfl, Nat.le_refl _, fun _ _ _ => rfl⟩⟩, rfl⟩
        have zc : Z0.1.cell? ⟨o, 3, none⟩ = some v := by rw [← hZ0]; exact z3
        have HB0 : Hid (Below wx.heap.size wx Z0.1) := Lib.hid (by rw [← hZ0]; exact ⟨rfl, rfl, rfl, Nat.le_refl _, fun _ _ => rfl⟩)
        rw [hZ0]
        clear hZ0 z3
        refine held_quiet (by kernel_rfl) (fun _ _ d _ _ h => by cases d <;> exact h) ⟨Z0, rfl⟩ [0, 2, 3, 4] 5 _ _ (by kernel_rfl) ?_
        change wpQuiet _ _ _ _ (_ :: _ :: _ :: _ :: []) _
        repeat go_big_quiet_step (fail)
        refine wpQuiet_nil ?_
        clear y0 y1 y2 y3 y4
        refine held_two (i := 1) (j := 5) _ _ rfl rfl (by kernel_rfl) rfl rfl (fun K hK => ?_) (fun K hK => ?_)
        · go_simp
          refine hK _ _ ⟨Z0, rfl⟩ ?_
          clear hK K
          try simp only [Act.put, List.setIfInBounds_toArray, List.set_cons_zero, List.set_cons_succ]
          refine held_do (i := 5) _ rfl (by kernel_rfl) rfl (fun K hK => ?_)
          go_simp
          obtain ⟨V3, hV3, hvb3, _, hvq3⟩ := alloc_block Z0.1 #[.string (g.un k), .string (g.ur k), .int .i64 (g.uf k), .int .i64 (g.us k), .int .i64 (g.uw k)] 38
          rw [hV3]
          have HB3 := Lib.hid hvb3
          have HVQ3 := Lib.hid hvq3
          have z4 := below_cell hvb3 zc
          refine hK _ _ ⟨⟨V3, Z0.2.trans (Kept.of_below hvb3)⟩, rfl⟩ ?_
          clear hK K hV3 hvb3 hvq3
          try simp only [Act.put, List.setIfInBounds_toArray, List.set_cons_zero, List.set_cons_succ]
          refine held_do (i := 6) _ rfl (by kernel_rfl) rfl (fun K hK => ?_)
          refine wp_append_own V3 (.tmp 45) (.tmp 49) 25 rfl V.heap.size 38 i0 (.agg #[.string ⟨#[]⟩, .string ⟨#[]⟩, .int .i64 0, .int .i64 0, .int .i64 0]) 5 56 HUS.out HI0.out HZ0.out HZ1.out HZ2.out rfl (by decide) v k ((g.uses.take k).flatMap encU) rfl (ownsRow_below HP.out.row (below_step HB0.out HB3.out)) ⟨Z0.1.heap.size, 0, none⟩ 1 1 (g.cellsU k) rfl rfl (fun j uu hu => by rw [addr_add0]; exact block_cell HVQ3.out (by rw [← Array.getElem?_toList]; exact hu)) (cellsU_one g k) (by unfold maxLen; omega) (by omega) (by have := HP.out.keep.size; have := HB0.out.size; have := HB3.out.size; omega) (fun v7 w7 hown7 hg7 _ => ?_)
          obtain ⟨q7, cap7, rfl⟩ := ownsRow_succ hown7
          have hb03 := below_step HB0.out HB3.out
          have hk7 : Kept (fun q => q = o ∨ v.ownBlock = some q) wx w7 := (Kept.of_below hb03).grown hg7 (fun q hq _ => Or.inr hq)
          have b7 := grown_block hg7 (below_block hb03 HP.out.box) (row_box (ownsRow_below HP.out.row hb03) (below_block hb03 HP.out.box) (by decide))
          have s7 : w7.cell? ⟨o, 3, none⟩ = some v := block_cell b7 rfl
          have f7 : w7.frozen? ⟨o, 3, none⟩ = false := block_free b7
          have HN := Lib.hid (fun (cv' : Nat) (av' : Option Addr) hs ha hl => RLp.next HP.out hlt hb03 hg7 hown7 (cv' := cv') (av' := av') hs ha hl HBB.out)
          refine hK _ _ ⟨⟨w7, hk7⟩, rfl⟩ ?_
          clear hK K
          try simp only [Act.put, List.setIfInBounds_toArray, List.set_cons_zero, List.set_cons_succ]
          refine held_do (i := 7) _ rfl (by kernel_rfl) rfl (fun K hK => ?_)
          go_simp
          refine hK _ _ ⟨⟨w7, hk7⟩, rfl⟩ ?_
          clear hK K
          try simp only [Act.put, List.setIfInBounds_toArray, List.set_cons_zero, List.set_cons_succ]
          refine held_do (i := 8) _ rfl (by kernel_rfl) rfl (fun K hK => ?_)
          go_simp
          refine hK _ _ ⟨⟨w7.setCell ⟨o, 3, none⟩ (.slice (some ⟨q7, 0, none⟩) (k + 1) cap7), kept_set hk7 (Or.inl rfl) _⟩, rfl⟩ ?_
          clear hK K hk7 b7 hown7 hg7 hb03
          try simp only [Act.put, List.setIfInBounds_toArray, List.set_cons_zero, List.set_cons_succ]
          refine wpAnyH_done (by kernel_rfl) ?_ _
          by_cases hcv : cv = 1
          · obtain rfl : m = 1 := by omega
            subst hcv
            go_wp2_with fail
            refine ⟨⟨k + 1, 0, some ⟨b, off, none⟩, _, ?_, Lib.hid (HN.out 0 (some ⟨b, off, none⟩) ⟨fun hl => by have := HM.out; omega⟩ (fun b1 off1 e => by injection e with e; injection e with e; rw [← e]; exact HBO.out) (by have := HM.out; omega))⟩, ?_⟩
            · rw [show g.nu - (k + 1) = 0 by have := HM.out; omega]
            · exact Nat.zero_lt_one
          · have hcv2 : 1 < cv := by omega
            go_wp2_with fail
            refine ⟨⟨k + 1, cv - 1, some ⟨b, off + 5, none⟩, _, ?_, Lib.hid (HN.out (cv - 1) (some ⟨b, off + 5, none⟩) (row_next HSRC.out HM.out) (fun b1 off1 e => by injection e with e; injection e with e; rw [← e]; exact HBO.out) (by have := HM.out; omega))⟩, ?_⟩
            · rw [show g.nu - (k + 1) = m - 1 by have := HM.out; omega]
            · show m - 1 < m
              omega
        · go_simp
          obtain ⟨V3, hV3, hvb3, _, hvq3⟩ := alloc_block Z0.1 #[.string (g.un k), .string (g.ur k), .int .i64 (g.uf k), .int .i64 (g.us k), .int .i64 (g.uw k)] 38
          rw [hV3]
          have HB3 := Lib.hid hvb3
          have HVQ3 := Lib.hid hvq3
          have z4 := below_cell hvb3 zc
          refine hK _ _ ⟨⟨V3, Z0.2.trans (Kept.of_below hvb3)⟩, rfl⟩ ?_
          clear hK K hV3 hvb3 hvq3
          try simp only [Act.put, List.setIfInBounds_toArray, List.set_cons_zero, List.set_cons_succ]
          refine held_do (i := 1) _ rfl (by kernel_rfl) rfl (fun K hK => ?_)
          go_simp
          refine hK _ _ ⟨⟨V3, Z0.2.trans (Kept.of_below HB3.out)⟩, rfl⟩ ?_
          clear hK K
          try simp only [Act.put, List.setIfInBounds_toArray, List.set_cons_zero, List.set_cons_succ]
          refine held_do (i := 6) _ rfl (by kernel_rfl) rfl (fun K hK => ?_)
          refine wp_append_own V3 (.tmp 45) (.tmp 49) 25 rfl V.heap.size 38 i0 (.agg #[.string ⟨#[]⟩, .string ⟨#[]⟩, .int .i64 0, .int .i64 0, .int .i64 0]) 5 56 HUS.out HI0.out HZ0.out HZ1.out HZ2.out rfl (by decide) v k ((g.uses.take k).flatMap encU) rfl (ownsRow_below HP.out.row (below_step HB0.out HB3.out)) ⟨Z0.1.heap.size, 0, none⟩ 1 1 (g.cellsU k) rfl rfl (fun j uu hu => by rw [addr_add0]; exact block_cell HVQ3.out (by rw [← Array.getElem?_toList]; exact hu)) (cellsU_one g k) (by unfold maxLen; omega) (by omega) (by have := HP.out.keep.size; have := HB0.out.size; have := HB3.out.size; omega) (fun v7 w7 hown7 hg7 _ => ?_)
          obtain ⟨q7, cap7, rfl⟩ := ownsRow_succ hown7
          have hb03 := below_step HB0.out HB3.out
          have hk7 : Kept (fun q => q = o ∨ v.ownBlock = some q) wx w7 := (Kept.of_below hb03).grown hg7 (fun q hq _ => Or.inr hq)
          have b7 := grown_block hg7 (below_block hb03 HP.out.box) (row_box (ownsRow_below HP.out.row hb03) (below_block hb03 HP.out.box) (by decide))
          have s7 : w7.cell? ⟨o, 3, none⟩ = some v := block_cell b7 rfl
          have f7 : w7.frozen? ⟨o, 3, none⟩ = false := block_free b7
          have HN := Lib.hid (fun (cv' : Nat) (av' : Option Addr) hs ha hl => RLp.next HP.out hlt hb03 hg7 hown7 (cv' := cv') (av' := av') hs ha hl HBB.out)
          refine hK _ _ ⟨⟨w7, hk7⟩, rfl⟩ ?_
          clear hK K
          try simp only [Act.put, List.setIfInBounds_toArray, List.set_cons_zero, List.set_cons_succ]
          refine held_do (i := 7) _ rfl (by kernel_rfl) rfl (fun K hK => ?_)
          go_simp
          refine hK _ _ ⟨⟨w7, hk7⟩, rfl⟩ ?_
          clear hK K
          try simp only [Act.put, List.setIfInBounds_toArray, List.set_cons_zero, List.set_cons_succ]
          refine held_do (i := 8) _ rfl (by kernel_rfl) rfl (fun K hK => ?_)
          go_simp
          refine hK _ _ ⟨⟨w7.setCell ⟨o, 3, none⟩ (.slice (some ⟨q7, 0, none⟩) (k + 1) cap7), kept_set hk7 (Or.inl rfl) _⟩, rfl⟩ ?_
          clear hK K hk7 b7 hown7 hg7 hb03
          try simp only [Act.put, List.setIfInBounds_toArray, List.set_cons_zero, List.set_cons_succ]
          refine wpAnyH_done (by kernel_rfl) ?_ _
          by_cases hcv : cv = 1
          · obtain rfl : m = 1 := by omega
            subst hcv
            go_wp2_with fail
            refine ⟨⟨k + 1, 0, some ⟨b, off, none⟩, _, ?_, Lib.hid (HN.out 0 (some ⟨b, off, none⟩) ⟨fun hl => by have := HM.out; omega⟩ (fun b1 off1 e => by injection e with e; injection e with e; rw [← e]; exact HBO.out) (by have := HM.out; omega))⟩, ?_⟩
            · rw [show g.nu - (k + 1) = 0 by have := HM.out; omega]
            · exact Nat.zero_lt_one
          · have hcv2 : 1 < cv := by omega
            go_wp2_with fail
            refine ⟨⟨k + 1, cv - 1, some ⟨b, off + 5, none⟩, _, ?_, Lib.hid (HN.out (cv - 1) (some ⟨b, off + 5, none⟩) (row_next HSRC.out HM.out) (fun b1 off1 e => by injection e with e; injection e with e; rw [← e]; exact HBO.out) (by have := HM.out; omega))⟩, ?_⟩
            · rw [show g.nu - (k + 1) = m - 1 by have := HM.out; omega]
            · show m - 1 < m
              omega
    · have hk2 : k = g.nu := by have := HI.out.kn; omega
      have HBB := Lib.hid hk2
      have hkp := HI.out.keep
      have hwo : ¬ w.heap.size + 1 = o := by have := HSZ.out; omega
      have HWO := Lib.hid hwo
      have p0 := Ext.ex (hkp.cell (p := ⟨w.heap.size + 1, 0, none⟩) hwo HVU.out.1)
      have p1 := Ext.ex (hkp.cell (p := ⟨w.heap.size + 1, 1, none⟩) hwo HVU.out.2.1)
      have p2 := Ext.ex (hkp.cell (p := ⟨w.heap.size + 1, 2, none⟩) hwo HVU.out.2.2.1)
      have p3 := Ext.ex (hkp.cell (p := ⟨w.heap.size + 1, 3, none⟩) hwo HVU.out.2.2.2.1)
      have p4 := Ext.ex (hkp.cell (p := ⟨w.heap.size + 1, 4, none⟩) hwo HVU.out.2.2.2.2)
      obtain ⟨m, hm⟩ : ∃ m, g.nu - k = m := ⟨_, rfl⟩
      rw [hm]
      have t1 : decide ((0 : Int) < (m : Int)) = false := by rw [decide_eq_false_iff_not]; omega
      have t1' : decide (0 < m) = false := by rw [decide_eq_false_iff_not]; omega
      have HM := Lib.hid hm
      clear hm hlt hk2 hkp hwo DF
      go_upto_region 12 with (fail)
      refine ext_wp fun X => ?_
      refine wp_region_ext (W := wr) _ (by kernel_rfl) (by kernel_rfl) ?_
      repeat go_big_quiet_step (fail)
      refine wpQuiet_nil ?_
      intro _ hw'
      obtain ⟨X2, rfl⟩ := hw'
      go_upto_region 15 with (fail)
      have hwx := X2.2
      have HP := Lib.hid (HI.out.below hwx)
      obtain ⟨wx, hwe⟩ : ∃ w, X2.1 = w := ⟨_, rfl⟩
      rw [hwe] at HP hwx ⊢
      have hkx := HP.out.keep
      have y0 := hkx.cell (p := ⟨w.heap.size + 1, 0, none⟩) HWO.out HVU.out.1
      have y1 := hkx.cell (p := ⟨w.heap.size + 1, 1, none⟩) HWO.out HVU.out.2.1
      have y2 := hkx.cell (p := ⟨w.heap.size + 1, 2, none⟩) HWO.out HVU.out.2.2.1
      have y3 := hkx.cell (p := ⟨w.heap.size + 1, 3, none⟩) HWO.out HVU.out.2.2.2.1
      have y4 := hkx.cell (p := ⟨w.heap.size + 1, 4, none⟩) HWO.out HVU.out.2.2.2.2
      have z3 : wx.cell? ⟨o, 3, none⟩ = some v := block_cell HP.out.box rfl
      have HINS := Lib.hid (HP.out.stop (Or.inl HBB.out))
      have hsV : V.heap.size ≤ wx.heap.size := hkx.size
      have hkn := HP.out.kn
      have hkm : k + 1 + m = g.nu + 1 := by have := HM.out; omega
      have HKM := Lib.hid hkm
      have hkm2 : k + 1 + m ≤ 5001 := by omega
      clear hkm
      clear p0 p1 p2 p3 p4 X HI hwe X2
      go_wp2_with (at_builtin; refine wpList_append_where _ rfl (.tmp 55) (.tmp 57) 25 rfl V.heap.size 38 i0 (.agg #[.string ⟨#[]⟩, .string ⟨#[]⟩, .int .i64 0, .int .i64 0, .int .i64 0]) 5 56 HUS.out HI0.out HZ0.out HZ1.out HZ2.out rfl (by decide) v k ((g.uses.take k).flatMap encU) rfl (HP.out.row.alloc _) ⟨wx.heap.size, 0, none⟩ 1 1 (encU u) rfl (by decide) rfl ?c1 ?c2 ?c3 ?c4 ?c5 ?_)
      case c1 =>
        intro jj uu hu
        rw [addr_add0, World.cell?_alloc_at _ _ _ _ rfl]
        simpa [encU] using hu
      case c2 => exact encU_one u
      case c3 => unfold maxLen; omega
      case c4 => omega
      case c5 => simp; omega
      intro v7 w7 hown7 hg7 _
      obtain ⟨V3, hV3, hvb3, _, _⟩ := alloc_block wx #[.string u.n, .string u.r, .int .i64 u.f, .int .i64 u.s, .int .i64 u.x] 38
      rw [hV3] at hg7
      have p3 := ownsRow_below HP.out.row hvb3
      have hk7 : Kept (fun b => b = o) V w7 := (hkx.trans (Kept.of_below hvb3)).grown hg7 (fun q hq hl => by have := (p3.lt q hq).1; omega)
      have hs7 := Kept.row HP.out.src hk7 (fun b off e => HP.out.apart b off e)
      rw [HM.out] at hs7
      have pB := below_block hvb3 HP.out.box
      have qB := grown_block hg7 pB (row_box p3 pB (by decide))
      have hs7V : V.heap.size ≤ w7.heap.size := hk7.size
      have HS7 := Lib.hid hs7
      have HK7 := Lib.hid hk7
      have HQB := Lib.hid qB
      have HO7 := Lib.hid hown7
      clear hV3 hvb3 p3 hk7 hs7 pB qB hg7 hown7 y0 y1 y2 y3 y4 z3
      go_wp2_with (at_builtin; refine wpList_append_row _ rfl (.tmp 58) (.tmp 59) 25 rfl V.heap.size 38 i0 (.agg #[.string ⟨#[]⟩, .string ⟨#[]⟩, .int .i64 0, .int .i64 0, .int .i64 0]) 5 56 HUS.out HI0.out HZ0.out HZ1.out HZ2.out rfl (by decide) v7 (k + 1) _ rfl HO7.out av m cv (fun i => g.cellsU (k + i)) (fun _ => rfl) (fun i => cellsU_one g (k + i)) rfl HS7.out ?d1 ?d2 ?d3 ?_)
      case d1 => unfold maxLen; omega
      case d2 => omega
      case d3 => exact hs7V
      intro v8 w8 hown8 hg8
      rw [HKM.out] at hown8
      have hxs : (g.uses.take k).flatMap encU ++ (encU u ++ (List.range m).flatMap (fun i => g.cellsU (k + i))) = (insU u g.uses).flatMap encU := by
        rw [HINS.out, ← HM.out, drop_flat, List.flatMap_append, List.flatMap_cons]
      rw [hxs] at hown8
      obtain ⟨q, cap, rfl⟩ := ownsRow_succ hown8
      have rB := grown_block hg8 HQB.out (row_box HO7.out HQB.out (by decide))
      have hk8 : Kept (fun b => b = o) V w8 := HK7.out.grown hg8 (fun q hq hl => by have := (HO7.out.lt q hq).1; omega)
      have s3 : w8.cell? ⟨o, 3, none⟩ = some v := block_cell rB rfl
      have f3 : w8.frozen? ⟨o, 3, none⟩ = false := block_free rB
      have HQ8 := Lib.hid (And.intro hk8 (And.intro rB hown8))
      clear hk8 rB hown8 hg8 hxs HS7 HO7 HQB HK7
      go_upto_region 16 with (fail)
      obtain ⟨w9, hw9⟩ : ∃ w9, w8.setCell ⟨o, 3, none⟩ (.slice (some ⟨q, 0, none⟩) (g.nu + 1) cap) = w9 := ⟨_, rfl⟩
      rw [hw9]
      obtain ⟨hk8, rB, hown8⟩ := HQ8.out
      obtain ⟨s0, s1, s2, sR, hbV, sB⟩ := HQV.out
      obtain ⟨hso1, hso3, hso2⟩ := HSZ.out
      obtain ⟨hVs, hV0⟩ := HVS.out
      have hk9 : Kept (fun k => k = o) w8 w9 := hw9 ▸ kept_set (O := fun k => k = o) (Kept.refl _ _) rfl _
      have hkV := hk8.trans hk9
      have tB : w9.heap[o]? = some (.cells #[.slice b0 g.np d0, .slice b1 g.ns d1, .slice b2 g.nm d2, .slice (some ⟨q, 0, none⟩) (g.nu + 1) cap] 27 (0, 0)) := hw9 ▸ cells_setCell rB
      have t0 := own_keep s0 hkV (row_box s0 sB (by decide))
      have t1 := own_keep s1 hkV (row_box s1 sB (by decide))
      have t2 := own_keep s2 hkV (row_box s2 sB (by decide))
      have t3 := ownsRow_lower (own_keep hown8 hk9 (row_box hown8 rB (by decide))) hV0
      have tR := (hkV.block (w.heap.size + 2) (lt_of_block sR) (by omega)).trans sR
      have hb9 : Below W0.heap.size W0 w9 := hbV.trans ⟨hkV.os, hkV.tape, hkV.output, hkV.size, fun k hk => hkV.block k (by omega) (by omega)⟩
      have m0 : w9.cell? ⟨o, 0, none⟩ = some (.slice b0 g.np d0) := block_cell tB rfl
      have m1 : w9.cell? ⟨o, 1, none⟩ = some (.slice b1 g.ns d1) := block_cell tB rfl
      have m2 : w9.cell? ⟨o, 2, none⟩ = some (.slice b2 g.nm d2) := block_cell tB rfl
      have m3 : w9.cell? ⟨o, 3, none⟩ = some (.slice (some ⟨q, 0, none⟩) (g.nu + 1) cap) := block_cell tB rfl
      have y0 : w9.cell? ⟨w.heap.size + 2, 0, none⟩ = some (.slice none 0 0) := block_cell tR rfl
      have y1 : w9.cell? ⟨w.heap.size + 2, 1, none⟩ = some (.slice none 0 0) := block_cell tR rfl
      have y2 : w9.cell? ⟨w.heap.size + 2, 2, none⟩ = some (.slice none 0 0) := block_cell tR rfl
      have y3 : w9.cell? ⟨w.heap.size + 2, 3, none⟩ = some (.slice none 0 0) := block_cell tR rfl
      have v0 : w9.frozen? ⟨w.heap.size + 2, 0, none⟩ = false := block_free tR
      have v1 : w9.frozen? ⟨w.heap.size + 2, 1, none⟩ = false := block_free tR
      have v2 : w9.frozen? ⟨w.heap.size + 2, 2, none⟩ = false := block_free tR
      have v3 : w9.frozen? ⟨w.heap.size + 2, 3, none⟩ = false := block_free tR
      have HQ9 := Lib.hid (And.intro t0 (And.intro t1 (And.intro t2 (And.intro t3 (And.intro tR hb9)))))
      clear hk8 rB hown8 s0 s1 s2 sR hbV sB hso1 hso2 hso3 hVs hV0 hk9 hkV tB t0 t1 t2 t3 tR hb9 hw9 s3 f3 HQ8
      go_wp2_with fail
      obtain ⟨t0, t1, t2, t3, tR, hb9⟩ := HQ9.out
      have hlenI := HLI.out
      obtain ⟨W5, hW5, hr5, hk5, _⟩ := store4 tR (.slice b0 g.np d0) (.slice b1 g.ns d1) (.slice b2 g.nm d2) (.slice (some ⟨q, 0, none⟩) (g.nu + 1) cap)
      have x0 : W5.cell? ⟨w.heap.size + 2, 0, none⟩ = some (.slice b0 g.np d0) := block_cell hr5 rfl
      have x1 : W5.cell? ⟨w.heap.size + 2, 1, none⟩ = some (.slice b1 g.ns d1) := block_cell hr5 rfl
      have x2 : W5.cell? ⟨w.heap.size + 2, 2, none⟩ = some (.slice b2 g.nm d2) := block_cell hr5 rfl
      have x3 : W5.cell? ⟨w.heap.size + 2, 3, none⟩ = some (.slice (some ⟨q, 0, none⟩) (g.nu + 1) cap) := block_cell hr5 rfl
      have low : ∀ b, W0.heap.size ≤ b → ¬ b = w.heap.size + 2 := fun b hb e => by omega
      have z0 := ownsRow_kept t0 hk5 low
      have z1 := ownsRow_kept t1 hk5 low
      have z2 := ownsRow_kept t2 hk5 low
      have z3 := ownsRow_kept t3 hk5 low
      rw [← hlenI, ← flat_range] at z3
      have e0 := ownRow_of (f := g.cellsP) (fun _ => rfl) z0
      have e1 := ownRow_of (f := g.cellsS) (fun _ => rfl) z1
      have e2 := ownRow_of (f := g.cellsM) (fun _ => rfl) z2
      have e3 := ownRow_of (f := fun i => encU ((insU u g.uses).getD i default)) (fun _ => rfl) z3
      have HB5 := Lib.hid (Kept.below (HB.out.trans (hb9.mono hbs)) hk5 (Nat.le_trans hbs hb9.size) (fun k hk e => by omega))
      have HFIN : Hid (RetG w W5 (.returned (.tuple #[garV (g.setU (insU u g.uses)) b0 b1 b2 (some ⟨q, 0, none⟩) d0 d1 d2 cap, .int .i64 0])) gg er) := Lib.hid (by
        rw [HX.out.1, HX.out.2]
        exact ⟨⟨b0, b1, b2, some ⟨q, 0, none⟩, d0, d1, d2, cap, rfl, setU_in HGI.out HRI.out e0.2 e1.2 e2.2 e3.2, e2.1, e3.1⟩, HB5.out⟩)
      try rw [show w.heap.size + 1 + 1 = w.heap.size + 2 from rfl]
      rw [hW5]
      have hlI : (g.setU (insU u g.uses)).nu = g.nu + 1 := hlenI
      exact bodyPost_ret (v := .tuple #[garV (g.setU (insU u g.uses)) b0 b1 b2 (some ⟨q, 0, none⟩) d0 d1 d2 cap, .int .i64 0]) (by unfold garV; rw [hlI]; simp [results, Try.results34, go_sem, x0, x1, x2, x3, Gar.setU]) rfl HFIN.out
end Go.Proofs.Ytbkpoepacjinlaa

/- Gear: Drop of the reference. (Printed by gen_rdrop.py.) -/
namespace Go.Proofs.Ytbkpoepacjinlaa
open Go.RowKit Go.BigFrame
open Gar (chk momG hasS hasP without dropErr dropG)

theorem without_step {g : Gar} {k : Nat} (h : k < g.nu) (nm : ByteArray) : without nm (g.uses.take (k + 1)) = without nm (g.uses.take k) ++ if g.un k = nm then [] else [g.use k] := by
  unfold without
  rw [List.take_add_one, List.getElem?_eq_getElem (by rw [Gar.uses_len]; exact h), Gar.uses_get g h, List.filter_append]
  have e : (g.use k).n = g.un k := rfl
  by_cases hb : g.un k = nm <;> simp [e, hb]
theorem without_take (g : Gar) (nm : ByteArray) (k : Nat) (hk : k ≤ g.nu) : (without nm (g.uses.take k)).length ≤ k := by
  have := (List.filter_sublist (p := fun y : Us => !decide (y.n = nm)) (l := g.uses.take k)).length_le
  rw [List.length_take, Gar.uses_len] at this
  unfold without
  omega
/-- the loop of Drop -/
structure RDp (g : Gar) (nm : ByteArray) (V wr : World) (o : Nat) (s0 s1 s2 : Value) (k : Nat) (v : Value) : Prop where
  kn : k ≤ g.nu
  keep : Kept (fun b => b = o) V wr
  row : wr.ownsRow V.heap.size 38 5 v (without nm (g.uses.take k)).length ((without nm (g.uses.take k)).flatMap encU)
  box : wr.heap[o]? = some (.cells #[s0, s1, s2, v] 27 (0, 0))
theorem RDp.below {g : Gar} {nm : ByteArray} {V wr wx : World} {o : Nat} {s0 s1 s2 : Value} {k : Nat} {v : Value} (h : RDp g nm V wr o s0 s1 s2 k v) (hb : Below wr.heap.size wr wx) : RDp g nm V wx o s0 s1 s2 k v :=
  ⟨h.kn, h.keep.trans (Kept.of_below hb), ownsRow_below h.row hb, below_block hb h.box⟩
theorem RDp.skip {g : Gar} {nm : ByteArray} {V wr : World} {o : Nat} {s0 s1 s2 : Value} {k : Nat} {v : Value} (h : RDp g nm V wr o s0 s1 s2 k v) (hk : k < g.nu) (e : g.un k = nm) : RDp g nm V wr o s0 s1 s2 (k + 1) v := by
  refine ⟨hk, h.keep, ?_, h.box⟩
  rw [without_step hk, if_pos e, List.append_nil]
  exact h.row
theorem RDp.add {g : Gar} {nm : ByteArray} {V wr w7 : World} {o : Nat} {s0 s1 s2 : Value} {k : Nat} {v v' : Value} (h : RDp g nm V wr o s0 s1 s2 k v) (hk : k < g.nu) (e : g.un k ≠ nm) (V3 : World) (hb : Below wr.heap.size wr V3) (hg : V3.grownBy w7 v.ownBlock)
    (ho : w7.ownsRow V.heap.size 38 5 v' ((without nm (g.uses.take k)).length + 1) ((without nm (g.uses.take k)).flatMap encU ++ g.cellsU k)) : RDp g nm V (w7.setCell ⟨o, 3, none⟩ v') o s0 s1 s2 (k + 1) v' := by
  have r3 := ownsRow_below h.row hb
  have b3 := below_block hb h.box
  have b7 := grown_block hg b3 (row_box r3 b3 (by decide))
  have k7 : Kept (fun b => b = o) V w7 := (h.keep.trans (Kept.of_below hb)).grown hg (fun q hq hl => by have := (r3.lt q hq).1; omega)
  have k9 : Kept (fun b => b = o) w7 (w7.setCell ⟨o, 3, none⟩ v') := kept_set (O := fun b => b = o) (Kept.refl _ _) rfl _
  refine ⟨hk, k7.trans k9, ?_, cells_setCell b7⟩
  have hr := own_keep ho k9 (row_box ho b7 (by decide))
  rw [without_step hk, if_neg e, List.length_append, List.flatMap_append]
  simpa [encU, Gar.use, Gar.cellsU] using hr

set_option maxHeartbeats 8000000 in
set_option maxRecDepth 100000 in
theorem rdrop_any (g : Gar) (a0 a1 a2 a3 : Option Addr) (c0 c1 c2 c3 : Nat) (nm : ByteArray) (w : World) (h : GarIn w g a0 a1 a2 a3) (hc2 : g.nm ≤ c2) (hc3 : g.nu ≤ c3) :
    Calls Try.prog 36 #[garV g a0 a1 a2 a3 c0 c1 c2 c3, .string nm] w fun e w' => RetG w w' e (dropG g nm) (dropErr g nm) := by
  have HG := Lib.hid h
  obtain ⟨W0, hW0, hb0, hs0', hq0⟩ := allocs w [.cells #[.slice a0 g.np c0, .slice a1 g.ns c1, .slice a2 g.nm c2, .slice a3 g.nu c3] 27, .cells #[.slice none 0 0, .slice none 0 0, .slice none 0 0, .slice none 0 0] 27]
  have hs0 : W0.heap.size = w.heap.size + 2 := hs0'
  clear hs0'
  have G0 := Ext.ex (show W0.cell? ⟨w.heap.size, 0, none⟩ = some (.slice a0 g.np c0) from block_cell (hq0 0 _ rfl) rfl)
  have G1 := Ext.ex (show W0.cell? ⟨w.heap.size, 1, none⟩ = some (.slice a1 g.ns c1) from block_cell (hq0 0 _ rfl) rfl)
  have G2 := Ext.ex (show W0.cell? ⟨w.heap.size, 2, none⟩ = some (.slice a2 g.nm c2) from block_cell (hq0 0 _ rfl) rfl)
  have G3 := Ext.ex (show W0.cell? ⟨w.heap.size, 3, none⟩ = some (.slice a3 g.nu c3) from block_cell (hq0 0 _ rfl) rfl)
  have HR := Lib.hid (fun (X : Ext W0) => below_block X.2 (hq0 1 _ rfl))
  have Z0 : ∀ X : Ext W0, X.1.cell? ⟨w.heap.size + 1, 0, none⟩ = some (.slice none 0 0) := fun X => block_cell (HR.out X) rfl
  have Z1 : ∀ X : Ext W0, X.1.cell? ⟨w.heap.size + 1, 1, none⟩ = some (.slice none 0 0) := fun X => block_cell (HR.out X) rfl
  have Z2 : ∀ X : Ext W0, X.1.cell? ⟨w.heap.size + 1, 2, none⟩ = some (.slice none 0 0) := fun X => block_cell (HR.out X) rfl
  have Z3 : ∀ X : Ext W0, X.1.cell? ⟨w.heap.size + 1, 3, none⟩ = some (.slice none 0 0) := fun X => block_cell (HR.out X) rfl
  have F0 : ∀ X : Ext W0, X.1.frozen? ⟨w.heap.size + 1, 0, none⟩ = false := fun X => block_free (HR.out X)
  have F1 : ∀ X : Ext W0, X.1.frozen? ⟨w.heap.size + 1, 1, none⟩ = false := fun X => block_free (HR.out X)
  have F2 : ∀ X : Ext W0, X.1.frozen? ⟨w.heap.size + 1, 2, none⟩ = false := fun X => block_free (HR.out X)
  have F3 : ∀ X : Ext W0, X.1.frozen? ⟨w.heap.size + 1, 3, none⟩ = false := fun X => block_free (HR.out X)
  have HW0 := Lib.hid (show (w.alloc (.cells #[.slice a0 g.np c0, .slice a1 g.ns c1, .slice a2 g.nm c2, .slice a3 g.nu c3] 27)).alloc (.cells #[.slice none 0 0, .slice none 0 0, .slice none 0 0, .slice none 0 0] 27) = W0 from hW0)
  have HB := Lib.hid hb0
  have hbs : w.heap.size ≤ W0.heap.size := by omega
  have DK := Lib.hid (fun (Y : Ext W0) => rCheck_any g a0 a1 a2 a3 c0 c1 c2 c3 Y.1 (HG.out.below (Y.down HB.out hbs)) hc2 hc3)
  have DC0 := Lib.hid (fun (hk : chk g = 0) (Y : Ext W0) => copied_any g a0 a1 a2 a3 c0 c1 c2 c3 Y.1 (HG.out.below (Y.down HB.out hbs)) hk)
  obtain ⟨er, her⟩ : ∃ x, dropErr g nm = x := ⟨_, rfl⟩
  obtain ⟨gg, hgg⟩ : ∃ x, dropG g nm = x := ⟨_, rfl⟩
  rw [her, hgg]
  have HE := Lib.hid her
  have HGG := Lib.hid hgg
  unfold garV at DK DC0
  unfold garV
  clear h hW0 hb0 hq0 her hgg hc2 hc3
  by_cases k1 : chk g = 0
  case neg =>
    have HX : Hid (gg = Gar.zero ∧ er = chk g) := Lib.hid (by
      have e : dropErr g nm = chk g := by unfold dropErr; rw [if_pos k1]
      have := HE.out
      have h2 := HGG.out
      unfold dropG at h2
      rw [if_neg (by rw [e]; exact k1)] at h2
      exact ⟨h2.symm, by rw [← this, e]⟩)
    have n1 : (chk g != 0) = true := by rw [bne_iff_ne]; exact k1
    clear k1 DC0 HE HGG
    generalize chk g = ck at *
    go_enter Try.func36, Try.ntmps36
    go_upto_region 1 with (fail)
    rw [HW0.out]
    refine ext_wp fun X => ?_
    go_wp2_with fail
    refine (Ext.calls _ (DK.out _)).mono ?_
    rintro e w2 ⟨rfl, Y, rfl⟩
    go_wp2_with fail
    obtain ⟨W5, hW5, hr5, hk5, _⟩ := store4 (HR.out Y) (.slice none 0 0) (.slice none 0 0) (.slice none 0 0) (.slice none 0 0)
    have x0 : W5.cell? ⟨w.heap.size + 1, 0, none⟩ = some (.slice none 0 0) := block_cell hr5 rfl
    have x1 : W5.cell? ⟨w.heap.size + 1, 1, none⟩ = some (.slice none 0 0) := block_cell hr5 rfl
    have x2 : W5.cell? ⟨w.heap.size + 1, 2, none⟩ = some (.slice none 0 0) := block_cell hr5 rfl
    have x3 : W5.cell? ⟨w.heap.size + 1, 3, none⟩ = some (.slice none 0 0) := block_cell hr5 rfl
    have HB5 := Lib.hid (Kept.below (Y.down HB.out hbs) hk5 (Nat.le_trans hbs Y.2.size) (fun k hk e => by omega))
    rw [hW5]
    clear hW5 hr5 hk5
    exact bodyPost_ret (v := .tuple #[garV Gar.zero none none none none 0 0 0 0, .int .i64 ck]) (by unfold garV; simp [results, Try.results36, go_sem, x0, x1, x2, x3, Gar.zero]) rfl (by rw [HX.out.1, HX.out.2]; exact RetG.zero HB5.out)
  rw [k1] at DK
  have n1 : ((0 : Int) != 0) = false := rfl
  have DC := Lib.hid (DC0.out k1)
  have HK1 := Lib.hid k1
  have hnu : g.nu ≤ 5000 := (Gar.chk_parts k1).2.2.2.1
  obtain ⟨i0, hi0, hz0, hz1, hz2⟩ := info_parts (show (Try.prog.info? 38).map (fun i => (i.zero, i.size, i.bytes)) = some (some (.agg #[.string ⟨#[]⟩, .string ⟨#[]⟩, .int .i64 0, .int .i64 0, .int .i64 0]), 5, 56) by kernel_rfl)
  have HI0 := Lib.hid hi0
  have HZ0 := Lib.hid hz0
  have HZ1 := Lib.hid hz1
  have HZ2 := Lib.hid hz2
  have HUS := Lib.hid (show Try.prog.underlying 25 = some (.slice 38) by kernel_rfl)
  clear hi0 hz0 hz1 hz2
  obtain ⟨m, hm⟩ : ∃ m, (without nm g.uses).length = m := ⟨_, rfl⟩
  have hmn : m ≤ g.nu := hm ▸ without_len g nm
  have HX : Hid (if m = g.nu then gg = Gar.zero ∧ er = 4 else gg = g.setU (without nm g.uses) ∧ er = 0) := Lib.hid (by
    have e : dropErr g nm = if m = g.nu then 4 else 0 := by unfold dropErr; rw [if_neg (by rw [k1]; simp), hm]
    have h2 := HGG.out
    have h3 := HE.out
    unfold dropG at h2
    split
    · rename_i hh
      rw [if_pos hh] at e
      rw [if_neg (by rw [e]; simp)] at h2
      exact ⟨h2.symm, h3.symm.trans e⟩
    · rename_i hh
      rw [if_neg hh] at e
      rw [if_pos e] at h2
      exact ⟨h2.symm, h3.symm.trans e⟩)
  have HM := Lib.hid hm
  clear k1 DC0 HE HGG hm
  go_enter Try.func36, Try.ntmps36
  go_upto_region 1 with (fail)
  rw [HW0.out]
  refine ext_wp fun X => ?_
  go_wp2_with fail
  refine (Ext.calls _ (DK.out _)).mono ?_
  rintro e w2 ⟨rfl, Y4, rfl⟩
  go_wp2_with fail
  refine (DC.out _).mono ?_
  rintro e w5 ⟨b0, b1, b2, b3, d0, d1, d2, d3, rfl, hog, hb5⟩
  have HOG := Lib.hid hog
  have HB5 := Lib.hid hb5
  obtain ⟨Y5, rfl⟩ : ∃ Y : Ext W0, w5 = Y.1 := ⟨⟨w5, Y4.2.trans (hb5.mono Y4.2.size)⟩, rfl⟩
  clear hog hb5
  go_upto_region 5 with (fail)
  obtain ⟨V2, hV2, hvb2, hvs2, hvq2⟩ := alloc_block Y5.1 #[.slice b0 g.np d0, .slice b1 g.ns d1, .slice b2 g.nm d2, .slice b3 g.nu d3] 27
  rw [hV2]
  obtain ⟨o, ho⟩ : ∃ o, Y5.1.heap.size = o := ⟨_, rfl⟩
  rw [ho] at hvs2 hvq2 ⊢
  have hbase : W0.heap.size ≤ Y4.1.heap.size := Y4.2.size
  have hO0 := ownsRow_below (ownsRow_lower HOG.out.o0 hbase) hvb2
  have hO1 := ownsRow_below (ownsRow_lower HOG.out.o1 hbase) hvb2
  have hO2 := ownsRow_below (ownsRow_lower HOG.out.o2 hbase) hvb2
  have hO3 := ownsRow_below (ownsRow_lower HOG.out.o3 hbase) hvb2
  have hy5 := Y5.2.size
  obtain ⟨Y6, rfl⟩ : ∃ Y : Ext W0, V2 = Y.1 := ⟨⟨V2, below_step Y5.2 hvb2⟩, rfl⟩
  have k3 : Y6.1.cell? ⟨o, 3, none⟩ = some (.slice b3 g.nu d3) := block_cell hvq2 rfl
  have f3 : Y6.1.frozen? ⟨o, 3, none⟩ = false := block_free hvq2
  have HO0 := Lib.hid hO0
  have HO1 := Lib.hid hO1
  have HO2 := Lib.hid hO2
  have HO3 := Lib.hid hO3
  have HOB := Lib.hid hvq2
  have HSZ : Hid (o = Y5.1.heap.size ∧ Y6.1.heap.size = o + 1 ∧ W0.heap.size ≤ o) := Lib.hid ⟨ho.symm, hvs2, by omega⟩
  clear hO0 hO1 hO2 hO3 hvb2 hvq2 hvs2 hV2 HOG HB5 ho hy5 hbase
  go_upto_region 6 with (fail)
  obtain ⟨V, hV⟩ : ∃ V, Y6.1.setCell ⟨o, 3, none⟩ (.slice none 0 0) = V := ⟨_, rfl⟩
  rw [hV]
  obtain ⟨hso1, hso3, hso2⟩ := HSZ.out
  have hkV : Kept (fun k => k = o) Y6.1 V := hV ▸ kept_set (O := fun k => k = o) (Kept.refl _ _) rfl _
  have tB : V.heap[o]? = some (.cells #[.slice b0 g.np d0, .slice b1 g.ns d1, .slice b2 g.nm d2, .slice none 0 0] 27 (0, 0)) := hV ▸ cells_setCell HOB.out
  have t0 := own_keep HO0.out hkV (row_box HO0.out HOB.out (by decide))
  have t1 := own_keep HO1.out hkV (row_box HO1.out HOB.out (by decide))
  have t2 := own_keep HO2.out hkV (row_box HO2.out HOB.out (by decide))
  have hVs : o < V.heap.size := lt_of_block tB
  have hbV : Below W0.heap.size W0 V := Y6.2.trans ⟨hkV.os, hkV.tape, hkV.output, hkV.size, fun k hk => hkV.block k (by omega) (by omega)⟩
  obtain ⟨Y7, rfl⟩ : ∃ Y : Ext W0, V = Y.1 := ⟨⟨V, hbV⟩, rfl⟩
  have HT := Lib.hid (And.intro t0 (And.intro t1 (And.intro t2 tB)))
  have HVS := Lib.hid (And.intro hVs Y7.2.size)
  have HL0 : Hid (RDp g nm Y7.1 Y7.1 o (.slice b0 g.np d0) (.slice b1 g.ns d1) (.slice b2 g.nm d2) 0 (.slice none 0 0)) := Lib.hid ⟨Nat.zero_le _, Kept.refl _ _, World.ownsRow_nil _ _ _ _, tB⟩
  clear hso1 hso2 hso3 hkV tB t0 t1 t2 hVs hbV k3 f3 HO0 HO1 HO2 HO3 HOB hV DK DC
  go_wp2_with fail
  go_loopw [22] (fun iv wr => ∃ (k : Nat) (v : Value), iv = .int .i64 k ∧ k ≤ g.nu ∧ Hid (RDp g nm Y7.1 wr o (.slice b0 g.np d0) (.slice b1 g.ns d1) (.slice b2 g.nm d2) k v)) (fun iv _ => g.nu - (intOf iv).toNat)
  case atStart => exact ⟨0, .slice none 0 0, rfl, by omega, HL0⟩
  case round =>
    obtain ⟨k, v, rfl, hk, HD⟩ := hrel
    have hbw : Below W0.heap.size W0 wr := Y7.2.trans (by
      have h1 := HD.out.keep
      have h2 := HVS.out
      have h3 := HSZ.out
      exact ⟨h1.os, h1.tape, h1.output, h1.size, fun k hk => h1.block k (by omega) (by omega)⟩)
    obtain ⟨X1, rfl⟩ : ∃ X : Ext W0, wr = X.1 := ⟨⟨wr, hbw⟩, rfl⟩
    clear hbw
    by_cases hlt : k < g.nu
    · have t1 : decide ((k : Int) < (g.nu : Int)) = true := by rw [decide_eq_true_eq]; omega
      have t1' : decide (k < g.nu) = true := by simpa using hlt
      have t2 : (k : Int) < (g.nu : Int) := by omega
      obtain ⟨b, off, rfl, hbl, hc⟩ := (HG.out.below (X1.down HB.out hbs)).r3.here (by omega)
      have e0 : X1.1.cell? ⟨b, off + k * 5, none⟩ = some (.string (g.un k)) := hc k hlt 0 (by omega)
      have e1 : X1.1.cell? ⟨b, off + k * 5 + 1, none⟩ = some (.string (g.ur k)) := hc k hlt 1 (by omega)
      have e2 : X1.1.cell? ⟨b, off + k * 5 + 2, none⟩ = some (.int .i64 (g.uf k)) := hc k hlt 2 (by omega)
      have e3 : X1.1.cell? ⟨b, off + k * 5 + 3, none⟩ = some (.int .i64 (g.us k)) := hc k hlt 3 (by omega)
      have e4 : X1.1.cell? ⟨b, off + k * 5 + 4, none⟩ = some (.int .i64 (g.uw k)) := hc k hlt 4 (by omega)
      have hse := str_eq (g.un k) nm
      have HNX := Lib.hid (fun (wx : World) (h : RDp g nm Y7.1 wx o (.slice b0 g.np d0) (.slice b1 g.ns d1) (.slice b2 g.nm d2) k v) (e : g.un k = nm) => h.skip hlt e)
      have HNA := Lib.hid (fun (wx w7 : World) (v' : Value) (h : RDp g nm Y7.1 wx o (.slice b0 g.np d0) (.slice b1 g.ns d1) (.slice b2 g.nm d2) k v) (e : g.un k ≠ nm) => h.add (w7 := w7) (v' := v') hlt e)
      have hlk := without_take g nm k hk
      obtain ⟨V1, hV1, hvb, hvs, hvl⟩ := alloc_cells X1.1 (g.cellsU k).toArray 38
      have HD1 := Lib.hid (HD.out.below hvb)
      have v0 : V1.cell? ⟨X1.1.heap.size, 0, none⟩ = some (.string (g.un k)) := hvl 0 _ rfl
      have v1 : V1.cell? ⟨X1.1.heap.size, 1, none⟩ = some (.string (g.ur k)) := hvl 1 _ rfl
      have v2 : V1.cell? ⟨X1.1.heap.size, 2, none⟩ = some (.int .i64 (g.uf k)) := hvl 2 _ rfl
      have v3 : V1.cell? ⟨X1.1.heap.size, 3, none⟩ = some (.int .i64 (g.us k)) := hvl 3 _ rfl
      have v4 : V1.cell? ⟨X1.1.heap.size, 4, none⟩ = some (.int .i64 (g.uw k)) := hvl 4 _ rfl
      have HV1 : Hid (X1.1.alloc (.cells #[.string (g.un k), .string (g.ur k), .int .i64 (g.uf k), .int .i64 (g.us k), .int .i64 (g.uw k)] 38) = V1) := Lib.hid hV1
      clear hV1 hvb hvs hvl hc HD hbl
      by_cases hn : g.un k = nm
      · have HN := Lib.hid (HNX.out V1 HD1.out hn)
        rw [decide_eq_true hn] at hse
        have hne : ((g.un k).toList != nm.toList) = false := by rw [bne, hse]; rfl
        clear HNX HNA hn
        go_upto_region 9 with (fail)
        rw [HV1.out]
        go_wp2_with fail
        go_roundw
        case rel => exact ⟨k + 1, v, by go_num, by omega, HN⟩
        case measure => simp [intOf]; omega
      · have HN := Lib.hid (fun (w7 : World) (v' : Value) => HNA.out V1 w7 v' HD1.out hn)
        rw [decide_eq_false hn] at hse
        have hne : ((g.un k).toList != nm.toList) = true := by rw [bne, hse]; rfl
        have z3 : V1.cell? ⟨o, 3, none⟩ = some v := block_cell HD1.out.box rfl
        have hown := HD1.out.row
        obtain ⟨n, hnn⟩ : ∃ n, (without nm (g.uses.take k)).length = n := ⟨_, rfl⟩
        rw [hnn] at hown hlk HN
        have HOW := Lib.hid hown
        have hsV : Y7.1.heap.size ≤ V1.heap.size := HD1.out.keep.size
        clear HNX HNA hn hown hnn
        go_upto_region 9 with (fail)
        rw [HV1.out]
        go_upto_region 10 with (fail)
        go_wp2_with (at_builtin; refine wpList_append_where _ rfl (.tmp 31) (.tmp 33) 25 rfl Y7.1.heap.size 38 i0 (.agg #[.string ⟨#[]⟩, .string ⟨#[]⟩, .int .i64 0, .int .i64 0, .int .i64 0]) 5 56 HUS.out HI0.out HZ0.out HZ1.out HZ2.out rfl (by decide) v n _ rfl (HOW.out.alloc _) ⟨V1.heap.size, 0, none⟩ 1 1 (g.cellsU k) rfl (by decide) rfl ?c1 ?c2 ?c3 ?c4 ?c5 ?_)
        case c1 =>
          intro jj uu hu
          rw [addr_add0, World.cell?_alloc_at _ _ _ _ rfl]
          simpa [Gar.cellsU] using hu
        case c2 => exact cellsU_one g k
        case c3 => unfold maxLen; omega
        case c4 => omega
        case c5 => simp; omega
        intro v7 w7 hown7 hg7 _
        obtain ⟨q7, cap7, rfl⟩ := ownsRow_succ hown7
        obtain ⟨V3, hV3, hvb3, _, _⟩ := alloc_block V1 #[.string (g.un k), .string (g.ur k), .int .i64 (g.uf k), .int .i64 (g.us k), .int .i64 (g.uw k)] 38
        rw [hV3] at hg7
        have pB := below_block hvb3 HD1.out.box
        have qB := grown_block hg7 pB (row_box (ownsRow_below HOW.out hvb3) pB (by decide))
        have s3 : w7.cell? ⟨o, 3, none⟩ = some v := block_cell qB rfl
        have f3 : w7.frozen? ⟨o, 3, none⟩ = false := block_free qB
        have HN2 := Lib.hid (HN.out w7 _ V3 hvb3 hg7 hown7)
        clear hV3 hvb3 pB qB hg7 hown7 e0 e1 e2 e3 e4 v0 v1 v2 v3 v4 z3 HN HD1
        go_wp2_with fail
        go_roundw
        case rel => exact ⟨k + 1, _, by go_num, by omega, HN2⟩
        case measure => simp [intOf]; omega
    · have t1 : decide ((k : Int) < (g.nu : Int)) = false := by rw [decide_eq_false_iff_not]; omega
      have t1' : decide (k < g.nu) = false := by simpa using hlt
      obtain rfl : k = g.nu := by omega
      have hrow := HD.out.row
      rw [show g.uses.take g.nu = g.uses by rw [← Gar.uses_len, List.take_length], HM.out] at hrow
      have hkV := HD.out.keep
      have rB := HD.out.box
      obtain ⟨s0, s1, s2, sB⟩ := HT.out
      have t0 := own_keep s0 hkV (row_box s0 sB (by decide))
      have t1 := own_keep s1 hkV (row_box s1 sB (by decide))
      have t2 := own_keep s2 hkV (row_box s2 sB (by decide))
      have t3 := ownsRow_lower hrow HVS.out.2
      obtain ⟨b9, d9, rfl, _, _⟩ := ownRow_hdr (f := fun i => encU ((without nm g.uses).getD i default)) (fun _ => rfl) (show X1.1.ownsRow W0.heap.size 38 5 v m ((List.range m).flatMap fun i => encU ((without nm g.uses).getD i default)) by rw [← HM.out, flat_range, HM.out]; exact t3)
      obtain ⟨Y9, hY9⟩ : ∃ Y : Ext W0, X1 = Y := ⟨_, rfl⟩
      rw [hY9] at t0 t1 t2 t3 rB ⊢
      have m0 : Y9.1.cell? ⟨o, 0, none⟩ = some (.slice b0 g.np d0) := block_cell rB rfl
      have m1 : Y9.1.cell? ⟨o, 1, none⟩ = some (.slice b1 g.ns d1) := block_cell rB rfl
      have m2 : Y9.1.cell? ⟨o, 2, none⟩ = some (.slice b2 g.nm d2) := block_cell rB rfl
      have m3 : Y9.1.cell? ⟨o, 3, none⟩ = some (.slice b9 m d9) := block_cell rB rfl
      have HQ9 := Lib.hid (And.intro t0 (And.intro t1 (And.intro t2 t3)))
      clear hrow hkV rB s0 s1 s2 sB t0 t1 t2 t3 HD HL0 hlt hY9
      by_cases hmm : m = g.nu
      · have hx := HX.out
        rw [if_pos hmm] at hx
        have HX2 := Lib.hid hx
        have t1 : ((m : Int) == (g.nu : Int)) = true := by rw [beq_iff_eq]; omega
        have t1' : (m == g.nu) = true := by rw [beq_iff_eq]; exact hmm
        clear hx HX hmm
        go_wp2_with fail
        obtain ⟨W5, hW5, hr5, hk5, _⟩ := store4 (HR.out Y9) (.slice none 0 0) (.slice none 0 0) (.slice none 0 0) (.slice none 0 0)
        have x0 : W5.cell? ⟨w.heap.size + 1, 0, none⟩ = some (.slice none 0 0) := block_cell hr5 rfl
        have x1 : W5.cell? ⟨w.heap.size + 1, 1, none⟩ = some (.slice none 0 0) := block_cell hr5 rfl
        have x2 : W5.cell? ⟨w.heap.size + 1, 2, none⟩ = some (.slice none 0 0) := block_cell hr5 rfl
        have x3 : W5.cell? ⟨w.heap.size + 1, 3, none⟩ = some (.slice none 0 0) := block_cell hr5 rfl
        have HB5 := Lib.hid (Kept.below (Y9.down HB.out hbs) hk5 (Nat.le_trans hbs Y9.2.size) (fun k hk e => by omega))
        rw [hW5]
        clear hW5 hr5 hk5
        exact bodyPost_ret (v := .tuple #[garV Gar.zero none none none none 0 0 0 0, .int .i64 4]) (by unfold garV; simp [results, Try.results36, go_sem, x0, x1, x2, x3, Gar.zero]) rfl (by rw [HX2.out.1, HX2.out.2]; exact RetG.zero HB5.out)
      · have hx := HX.out
        rw [if_neg hmm] at hx
        have HX2 := Lib.hid hx
        have t1 : ((m : Int) == (g.nu : Int)) = false := by rw [beq_eq_false_iff_ne]; omega
        have t1' : (m == g.nu) = false := by rw [beq_eq_false_iff_ne]; exact hmm
        clear hx HX hmm
        go_wp2_with fail
        obtain ⟨t0, t1, t2, t3⟩ := HQ9.out
        obtain ⟨W5, hW5, hr5, hk5, _⟩ := store4 (HR.out Y9) (.slice b0 g.np d0) (.slice b1 g.ns d1) (.slice b2 g.nm d2) (.slice b9 m d9)
        have x0 : W5.cell? ⟨w.heap.size + 1, 0, none⟩ = some (.slice b0 g.np d0) := block_cell hr5 rfl
        have x1 : W5.cell? ⟨w.heap.size + 1, 1, none⟩ = some (.slice b1 g.ns d1) := block_cell hr5 rfl
        have x2 : W5.cell? ⟨w.heap.size + 1, 2, none⟩ = some (.slice b2 g.nm d2) := block_cell hr5 rfl
        have x3 : W5.cell? ⟨w.heap.size + 1, 3, none⟩ = some (.slice b9 m d9) := block_cell hr5 rfl
        have low : ∀ b, W0.heap.size ≤ b → ¬ b = w.heap.size + 1 := fun b hb e => by omega
        have z0 := ownsRow_kept t0 hk5 low
        have z1 := ownsRow_kept t1 hk5 low
        have z2 := ownsRow_kept t2 hk5 low
        have z3 := ownsRow_kept t3 hk5 low
        rw [← HM.out, ← flat_range] at z3
        have e0 := ownRow_of (f := g.cellsP) (fun _ => rfl) z0
        have e1 := ownRow_of (f := g.cellsS) (fun _ => rfl) z1
        have e2 := ownRow_of (f := g.cellsM) (fun _ => rfl) z2
        have e3 := ownRow_of (f := fun i => encU ((without nm g.uses).getD i default)) (fun _ => rfl) z3
        have HB5 := Lib.hid (Kept.below (Y9.down HB.out hbs) hk5 (Nat.le_trans hbs Y9.2.size) (fun k hk e => by omega))
        have HFIN : Hid (RetG w W5 (.returned (.tuple #[garV (g.setU (without nm g.uses)) b0 b1 b2 b9 d0 d1 d2 d9, .int .i64 0])) gg er) := Lib.hid (by
          rw [HX2.out.1, HX2.out.2]
          exact ⟨⟨b0, b1, b2, b9, d0, d1, d2, d9, rfl, setU_in HG.out (without_right HK1.out nm) e0.2 e1.2 e2.2 e3.2, e2.1, e3.1⟩, HB5.out⟩)
        rw [hW5]
        have hlI : (g.setU (without nm g.uses)).nu = m := HM.out
        exact bodyPost_ret (v := .tuple #[garV (g.setU (without nm g.uses)) b0 b1 b2 b9 d0 d1 d2 d9, .int .i64 0]) (by unfold garV; rw [hlI]; simp [results, Try.results36, go_sem, x0, x1, x2, x3, Gar.setU]) rfl HFIN.out
end Go.Proofs.Ytbkpoepacjinlaa

/- Gear: two garages that read alike are the same. (Printed by gen_eq.py.) -/
namespace Go.Proofs.Ytbkpoepacjinlaa
open Go.RowKit Go.BigFrame
open Gar (chk momG hasS hasP)

set_option maxHeartbeats 1000000 in
theorem eqGearPart (x0 : ByteArray) (x1 : Int) (w : World) : (Op.equalIn 10000 94 (.agg #[.string x0, .int .i64 x1]) (.agg #[.string x0, .int .i64 x1])).run Try.prog w = .ok true w := by
  have u3 := Try.underlying3
  have a3 := Try.isAgg3
  have z3 := Try.sizeOf3
  have u9 := Try.underlying9
  have a9 := Try.isAgg9
  have z9 := Try.sizeOf9
  have hS : Try.prog.underlying 94 = some (.struct (Try.prog.fieldsOf 94)) := by kernel_rfl
  have hp : Try.prog.stoodInHeld 94 = false := by kernel_rfl
  rw [show (10000 : Nat) = 9999 + 1 from rfl, run_equalIn_agg w 9999 94 _ _ hS hp]
  simp only [Program.fieldsOf, Try.underlying94]
  go_simp
set_option maxHeartbeats 2000000 in
set_option maxRecDepth 100000 in
theorem equalGearPart_any (n : Nat) (x0 : Nat → ByteArray) (x1 : Nat → Int) (a b : Option Addr) (c d : Nat) (w : World) (hr : RowK w a n 2 (fun i => [.string (x0 i), .int .i64 (x1 i)])) (hq : RowK w b n 2 (fun i => [.string (x0 i), .int .i64 (x1 i)])) (hl : (n : Int) ≤ 9223372036854775807) :
    Calls Try.prog 83 #[.slice a n c, .slice b n d] w fun e w' => e = .returned (.bool true) ∧ ∃ m, w' = w.drewN m := by
  have hneq : ((n : Int) != (n : Int)) = false := by simp
  have HR := Lib.hid hr
  have HQ := Lib.hid hq
  clear hr hq
  go_enter Try.func83, Try.ntmps83
  go_wp2_with fail
  go_loopw [13] (fun iv wr => ∃ (k : Nat), iv = .int .i64 k ∧ k ≤ n ∧ ∃ m, wr = w.drewN m) (fun iv _ => n - (intOf iv).toNat)
  case atStart => exact ⟨0, rfl, by omega, 0, rfl⟩
  case round =>
    obtain ⟨k, rfl, hk, m, rfl⟩ := hrel
    by_cases hlt : k < n
    · have t1 : decide ((k : Int) < (n : Int)) = true := by rw [decide_eq_true_eq]; omega
      have t1' : decide (k < n) = true := by simpa using hlt
      have t2 : (k : Int) < (n : Int) := by omega
      obtain ⟨b1, o1, rfl, hb1, hc1⟩ := HR.out.here (by omega)
      obtain ⟨b2, o2, rfl, hb2, hc2⟩ := HQ.out.here (by omega)
      have e0 : w.cell? ⟨b1, o1 + k * 2, none⟩ = some (.string (x0 k)) := hc1 k hlt 0 (by omega)
      have e1 : w.cell? ⟨b1, o1 + k * 2 + 1, none⟩ = some (.int .i64 (x1 k)) := hc1 k hlt 1 (by omega)
      have f0 : w.cell? ⟨b2, o2 + k * 2, none⟩ = some (.string (x0 k)) := hc2 k hlt 0 (by omega)
      have f1 : w.cell? ⟨b2, o2 + k * 2 + 1, none⟩ = some (.int .i64 (x1 k)) := hc2 k hlt 1 (by omega)
      clear hc1 hc2
      have hgd : Try.prog.eqGuardType Try.prog.depth 94 = false := by kernel_rfl
      generalize x0 k = y0 at *
      generalize x1 k = y1 at *
      have hq : ∀ W, (Op.equalIn 10000 94 (.agg #[.string y0, .int .i64 y1]) (.agg #[.string y0, .int .i64 y1])).run Try.prog W = .ok true W := fun W => eqGearPart _ _ W
      go_wp2_with fail
      go_quiet (fail)
      go_wp2_with fail
      go_roundw
      case rel => exact ⟨k + 1, by go_num, by omega, _, rfl⟩
      case measure => simp [intOf]; omega
    · have t1 : decide ((k : Int) < (n : Int)) = false := by rw [decide_eq_false_iff_not]; omega
      have t1' : decide (k < n) = false := by simpa using hlt
      clear hlt
      go_wp2_with fail
      go_ret
      exact ⟨rfl, _, rfl⟩
set_option maxHeartbeats 1000000 in
theorem eqSlot (x0 : ByteArray) (x1 : ByteArray) (w : World) : (Op.equalIn 10000 40 (.agg #[.string x0, .string x1]) (.agg #[.string x0, .string x1])).run Try.prog w = .ok true w := by
  have u3 := Try.underlying3
  have a3 := Try.isAgg3
  have z3 := Try.sizeOf3
  have u9 := Try.underlying9
  have a9 := Try.isAgg9
  have z9 := Try.sizeOf9
  have hS : Try.prog.underlying 40 = some (.struct (Try.prog.fieldsOf 40)) := by kernel_rfl
  have hp : Try.prog.stoodInHeld 40 = false := by kernel_rfl
  rw [show (10000 : Nat) = 9999 + 1 from rfl, run_equalIn_agg w 9999 40 _ _ hS hp]
  simp only [Program.fieldsOf, Try.underlying40]
  go_simp
set_option maxHeartbeats 2000000 in
set_option maxRecDepth 100000 in
theorem equalSlot_any (n : Nat) (x0 : Nat → ByteArray) (x1 : Nat → ByteArray) (a b : Option Addr) (c d : Nat) (w : World) (hr : RowK w a n 2 (fun i => [.string (x0 i), .string (x1 i)])) (hq : RowK w b n 2 (fun i => [.string (x0 i), .string (x1 i)])) (hl : (n : Int) ≤ 9223372036854775807) :
    Calls Try.prog 84 #[.slice a n c, .slice b n d] w fun e w' => e = .returned (.bool true) ∧ ∃ m, w' = w.drewN m := by
  have hneq : ((n : Int) != (n : Int)) = false := by simp
  have HR := Lib.hid hr
  have HQ := Lib.hid hq
  clear hr hq
  go_enter Try.func84, Try.ntmps84
  go_wp2_with fail
  go_loopw [13] (fun iv wr => ∃ (k : Nat), iv = .int .i64 k ∧ k ≤ n ∧ ∃ m, wr = w.drewN m) (fun iv _ => n - (intOf iv).toNat)
  case atStart => exact ⟨0, rfl, by omega, 0, rfl⟩
  case round =>
    obtain ⟨k, rfl, hk, m, rfl⟩ := hrel
    by_cases hlt : k < n
    · have t1 : decide ((k : Int) < (n : Int)) = true := by rw [decide_eq_true_eq]; omega
      have t1' : decide (k < n) = true := by simpa using hlt
      have t2 : (k : Int) < (n : Int) := by omega
      obtain ⟨b1, o1, rfl, hb1, hc1⟩ := HR.out.here (by omega)
      obtain ⟨b2, o2, rfl, hb2, hc2⟩ := HQ.out.here (by omega)
      have e0 : w.cell? ⟨b1, o1 + k * 2, none⟩ = some (.string (x0 k)) := hc1 k hlt 0 (by omega)
      have e1 : w.cell? ⟨b1, o1 + k * 2 + 1, none⟩ = some (.string (x1 k)) := hc1 k hlt 1 (by omega)
      have f0 : w.cell? ⟨b2, o2 + k * 2, none⟩ = some (.string (x0 k)) := hc2 k hlt 0 (by omega)
      have f1 : w.cell? ⟨b2, o2 + k * 2 + 1, none⟩ = some (.string (x1 k)) := hc2 k hlt 1 (by omega)
      clear hc1 hc2
      have hgd : Try.prog.eqGuardType Try.prog.depth 40 = false := by kernel_rfl
      generalize x0 k = y0 at *
      generalize x1 k = y1 at *
      have hq : ∀ W, (Op.equalIn 10000 40 (.agg #[.string y0, .string y1]) (.agg #[.string y0, .string y1])).run Try.prog W = .ok true W := fun W => eqSlot _ _ W
      go_wp2_with fail
      go_quiet (fail)
      go_wp2_with fail
      go_roundw
      case rel => exact ⟨k + 1, by go_num, by omega, _, rfl⟩
      case measure => simp [intOf]; omega
    · have t1 : decide ((k : Int) < (n : Int)) = false := by rw [decide_eq_false_iff_not]; omega
      have t1' : decide (k < n) = false := by simpa using hlt
      clear hlt
      go_wp2_with fail
      go_ret
      exact ⟨rfl, _, rfl⟩
set_option maxHeartbeats 1000000 in
theorem eqMount (x0 : ByteArray) (x1 : ByteArray) (x2 : Int) (x3 : Int) (w : World) : (Op.equalIn 10000 54 (.agg #[.string x0, .string x1, .int .i64 x2, .int .i64 x3]) (.agg #[.string x0, .string x1, .int .i64 x2, .int .i64 x3])).run Try.prog w = .ok true w := by
  have u3 := Try.underlying3
  have a3 := Try.isAgg3
  have z3 := Try.sizeOf3
  have u9 := Try.underlying9
  have a9 := Try.isAgg9
  have z9 := Try.sizeOf9
  have hS : Try.prog.underlying 54 = some (.struct (Try.prog.fieldsOf 54)) := by kernel_rfl
  have hp : Try.prog.stoodInHeld 54 = false := by kernel_rfl
  rw [show (10000 : Nat) = 9999 + 1 from rfl, run_equalIn_agg w 9999 54 _ _ hS hp]
  simp only [Program.fieldsOf, Try.underlying54]
  go_simp
set_option maxHeartbeats 2000000 in
set_option maxRecDepth 100000 in
theorem equalMount_any (n : Nat) (x0 : Nat → ByteArray) (x1 : Nat → ByteArray) (x2 : Nat → Int) (x3 : Nat → Int) (a b : Option Addr) (c d : Nat) (w : World) (hr : RowK w a n 4 (fun i => [.string (x0 i), .string (x1 i), .int .i64 (x2 i), .int .i64 (x3 i)])) (hq : RowK w b n 4 (fun i => [.string (x0 i), .string (x1 i), .int .i64 (x2 i), .int .i64 (x3 i)])) (hl : (n : Int) ≤ 9223372036854775807) :
    Calls Try.prog 85 #[.slice a n c, .slice b n d] w fun e w' => e = .returned (.bool true) ∧ ∃ m, w' = w.drewN m := by
  have hneq : ((n : Int) != (n : Int)) = false := by simp
  have HR := Lib.hid hr
  have HQ := Lib.hid hq
  clear hr hq
  go_enter Try.func85, Try.ntmps85
  go_wp2_with fail
  go_loopw [13] (fun iv wr => ∃ (k : Nat), iv = .int .i64 k ∧ k ≤ n ∧ ∃ m, wr = w.drewN m) (fun iv _ => n - (intOf iv).toNat)
  case atStart => exact ⟨0, rfl, by omega, 0, rfl⟩
  case round =>
    obtain ⟨k, rfl, hk, m, rfl⟩ := hrel
    by_cases hlt : k < n
    · have t1 : decide ((k : Int) < (n : Int)) = true := by rw [decide_eq_true_eq]; omega
      have t1' : decide (k < n) = true := by simpa using hlt
      have t2 : (k : Int) < (n : Int) := by omega
      obtain ⟨b1, o1, rfl, hb1, hc1⟩ := HR.out.here (by omega)
      obtain ⟨b2, o2, rfl, hb2, hc2⟩ := HQ.out.here (by omega)
      have e0 : w.cell? ⟨b1, o1 + k * 4, none⟩ = some (.string (x0 k)) := hc1 k hlt 0 (by omega)
      have e1 : w.cell? ⟨b1, o1 + k * 4 + 1, none⟩ = some (.string (x1 k)) := hc1 k hlt 1 (by omega)
      have e2 : w.cell? ⟨b1, o1 + k * 4 + 2, none⟩ = some (.int .i64 (x2 k)) := hc1 k hlt 2 (by omega)
      have e3 : w.cell? ⟨b1, o1 + k * 4 + 3, none⟩ = some (.int .i64 (x3 k)) := hc1 k hlt 3 (by omega)
      have f0 : w.cell? ⟨b2, o2 + k * 4, none⟩ = some (.string (x0 k)) := hc2 k hlt 0 (by omega)
      have f1 : w.cell? ⟨b2, o2 + k * 4 + 1, none⟩ = some (.string (x1 k)) := hc2 k hlt 1 (by omega)
      have f2 : w.cell? ⟨b2, o2 + k * 4 + 2, none⟩ = some (.int .i64 (x2 k)) := hc2 k hlt 2 (by omega)
      have f3 : w.cell? ⟨b2, o2 + k * 4 + 3, none⟩ = some (.int .i64 (x3 k)) := hc2 k hlt 3 (by omega)
      clear hc1 hc2
      have hgd : Try.prog.eqGuardType Try.prog.depth 54 = false := by kernel_rfl
      generalize x0 k = y0 at *
      generalize x1 k = y1 at *
      generalize x2 k = y2 at *
      generalize x3 k = y3 at *
      have hq : ∀ W, (Op.equalIn 10000 54 (.agg #[.string y0, .string y1, .int .i64 y2, .int .i64 y3]) (.agg #[.string y0, .string y1, .int .i64 y2, .int .i64 y3])).run Try.prog W = .ok true W := fun W => eqMount _ _ _ _ W
      go_wp2_with fail
      go_quiet (fail)
      go_wp2_with fail
      go_roundw
      case rel => exact ⟨k + 1, by go_num, by omega, _, rfl⟩
      case measure => simp [intOf]; omega
    · have t1 : decide ((k : Int) < (n : Int)) = false := by rw [decide_eq_false_iff_not]; omega
      have t1' : decide (k < n) = false := by simpa using hlt
      clear hlt
      go_wp2_with fail
      go_ret
      exact ⟨rfl, _, rfl⟩
set_option maxHeartbeats 1000000 in
theorem eqUse (x0 : ByteArray) (x1 : ByteArray) (x2 : Int) (x3 : Int) (x4 : Int) (w : World) : (Op.equalIn 10000 38 (.agg #[.string x0, .string x1, .int .i64 x2, .int .i64 x3, .int .i64 x4]) (.agg #[.string x0, .string x1, .int .i64 x2, .int .i64 x3, .int .i64 x4])).run Try.prog w = .ok true w := by
  have u3 := Try.underlying3
  have a3 := Try.isAgg3
  have z3 := Try.sizeOf3
  have u9 := Try.underlying9
  have a9 := Try.isAgg9
  have z9 := Try.sizeOf9
  have hS : Try.prog.underlying 38 = some (.struct (Try.prog.fieldsOf 38)) := by kernel_rfl
  have hp : Try.prog.stoodInHeld 38 = false := by kernel_rfl
  rw [show (10000 : Nat) = 9999 + 1 from rfl, run_equalIn_agg w 9999 38 _ _ hS hp]
  simp only [Program.fieldsOf, Try.underlying38]
  go_simp
set_option maxHeartbeats 2000000 in
set_option maxRecDepth 100000 in
theorem equalUse_any (n : Nat) (x0 : Nat → ByteArray) (x1 : Nat → ByteArray) (x2 : Nat → Int) (x3 : Nat → Int) (x4 : Nat → Int) (a b : Option Addr) (c d : Nat) (w : World) (hr : RowK w a n 5 (fun i => [.string (x0 i), .string (x1 i), .int .i64 (x2 i), .int .i64 (x3 i), .int .i64 (x4 i)])) (hq : RowK w b n 5 (fun i => [.string (x0 i), .string (x1 i), .int .i64 (x2 i), .int .i64 (x3 i), .int .i64 (x4 i)])) (hl : (n : Int) ≤ 9223372036854775807) :
    Calls Try.prog 86 #[.slice a n c, .slice b n d] w fun e w' => e = .returned (.bool true) ∧ ∃ m, w' = w.drewN m := by
  have hneq : ((n : Int) != (n : Int)) = false := by simp
  have HR := Lib.hid hr
  have HQ := Lib.hid hq
  clear hr hq
  go_enter Try.func86, Try.ntmps86
  go_wp2_with fail
  go_loopw [13] (fun iv wr => ∃ (k : Nat), iv = .int .i64 k ∧ k ≤ n ∧ ∃ m, wr = w.drewN m) (fun iv _ => n - (intOf iv).toNat)
  case atStart => exact ⟨0, rfl, by omega, 0, rfl⟩
  case round =>
    obtain ⟨k, rfl, hk, m, rfl⟩ := hrel
    by_cases hlt : k < n
    · have t1 : decide ((k : Int) < (n : Int)) = true := by rw [decide_eq_true_eq]; omega
      have t1' : decide (k < n) = true := by simpa using hlt
      have t2 : (k : Int) < (n : Int) := by omega
      obtain ⟨b1, o1, rfl, hb1, hc1⟩ := HR.out.here (by omega)
      obtain ⟨b2, o2, rfl, hb2, hc2⟩ := HQ.out.here (by omega)
      have e0 : w.cell? ⟨b1, o1 + k * 5, none⟩ = some (.string (x0 k)) := hc1 k hlt 0 (by omega)
      have e1 : w.cell? ⟨b1, o1 + k * 5 + 1, none⟩ = some (.string (x1 k)) := hc1 k hlt 1 (by omega)
      have e2 : w.cell? ⟨b1, o1 + k * 5 + 2, none⟩ = some (.int .i64 (x2 k)) := hc1 k hlt 2 (by omega)
      have e3 : w.cell? ⟨b1, o1 + k * 5 + 3, none⟩ = some (.int .i64 (x3 k)) := hc1 k hlt 3 (by omega)
      have e4 : w.cell? ⟨b1, o1 + k * 5 + 4, none⟩ = some (.int .i64 (x4 k)) := hc1 k hlt 4 (by omega)
      have f0 : w.cell? ⟨b2, o2 + k * 5, none⟩ = some (.string (x0 k)) := hc2 k hlt 0 (by omega)
      have f1 : w.cell? ⟨b2, o2 + k * 5 + 1, none⟩ = some (.string (x1 k)) := hc2 k hlt 1 (by omega)
      have f2 : w.cell? ⟨b2, o2 + k * 5 + 2, none⟩ = some (.int .i64 (x2 k)) := hc2 k hlt 2 (by omega)
      have f3 : w.cell? ⟨b2, o2 + k * 5 + 3, none⟩ = some (.int .i64 (x3 k)) := hc2 k hlt 3 (by omega)
      have f4 : w.cell? ⟨b2, o2 + k * 5 + 4, none⟩ = some (.int .i64 (x4 k)) := hc2 k hlt 4 (by omega)
      clear hc1 hc2
      have hgd : Try.prog.eqGuardType Try.prog.depth 38 = false := by kernel_rfl
      generalize x0 k = y0 at *
      generalize x1 k = y1 at *
      generalize x2 k = y2 at *
      generalize x3 k = y3 at *
      generalize x4 k = y4 at *
      have hq : ∀ W, (Op.equalIn 10000 38 (.agg #[.string y0, .string y1, .int .i64 y2, .int .i64 y3, .int .i64 y4]) (.agg #[.string y0, .string y1, .int .i64 y2, .int .i64 y3, .int .i64 y4])).run Try.prog W = .ok true W := fun W => eqUse _ _ _ _ _ W
      go_wp2_with fail
      go_quiet (fail)
      go_wp2_with fail
      go_roundw
      case rel => exact ⟨k + 1, by go_num, by omega, _, rfl⟩
      case measure => simp [intOf]; omega
    · have t1 : decide ((k : Int) < (n : Int)) = false := by rw [decide_eq_false_iff_not]; omega
      have t1' : decide (k < n) = false := by simpa using hlt
      clear hlt
      go_wp2_with fail
      go_ret
      exact ⟨rfl, _, rfl⟩
theorem Ext.draws {P : Program} {W : World} {f : FuncId} {args : Array Value} {v : Value} (X : Ext W) (h : Calls P f args X.1 fun e w' => e = .returned v ∧ ∃ m, w' = X.1.drewN m) : Calls P f args X.1 fun e w'' => e = .returned v ∧ ∃ Y : Ext W, w'' = Y.1 :=
  h.mono fun _ _ ⟨he, m, hb⟩ => ⟨he, ⟨X.1.drewN m, below_drewN X.2 m⟩, hb⟩
set_option maxHeartbeats 4000000 in
set_option maxRecDepth 100000 in
theorem same_any (g : Gar) (a0 a1 a2 a3 b0 b1 b2 b3 : Option Addr) (c0 c1 c2 c3 d0 d1 d2 d3 : Nat) (w : World) (h : GarIn w g a0 a1 a2 a3) (h' : GarIn w g b0 b1 b2 b3) :
    Calls Try.prog 37 #[garV g a0 a1 a2 a3 c0 c1 c2 c3, garV g b0 b1 b2 b3 d0 d1 d2 d3] w fun e w' => e = .returned (.bool true) ∧ Below w.heap.size w w' := by
  have HG := Lib.hid h
  have HH := Lib.hid h'
  obtain ⟨W0, hW0, hb0, hs0, hq0⟩ := allocs w [.cells #[.slice a0 g.np c0, .slice a1 g.ns c1, .slice a2 g.nm c2, .slice a3 g.nu c3] 27, .cells #[.slice b0 g.np d0, .slice b1 g.ns d1, .slice b2 g.nm d2, .slice b3 g.nu d3] 27]
  have hbs : w.heap.size ≤ W0.heap.size := hb0.size
  have G0 := Ext.ex (show W0.cell? ⟨w.heap.size, 0, none⟩ = some (.slice a0 g.np c0) from block_cell (hq0 0 _ rfl) rfl)
  have H0 := Ext.ex (show W0.cell? ⟨w.heap.size + 1, 0, none⟩ = some (.slice b0 g.np d0) from block_cell (hq0 1 _ rfl) rfl)
  have G1 := Ext.ex (show W0.cell? ⟨w.heap.size, 1, none⟩ = some (.slice a1 g.ns c1) from block_cell (hq0 0 _ rfl) rfl)
  have H1 := Ext.ex (show W0.cell? ⟨w.heap.size + 1, 1, none⟩ = some (.slice b1 g.ns d1) from block_cell (hq0 1 _ rfl) rfl)
  have G2 := Ext.ex (show W0.cell? ⟨w.heap.size, 2, none⟩ = some (.slice a2 g.nm c2) from block_cell (hq0 0 _ rfl) rfl)
  have H2 := Ext.ex (show W0.cell? ⟨w.heap.size + 1, 2, none⟩ = some (.slice b2 g.nm d2) from block_cell (hq0 1 _ rfl) rfl)
  have G3 := Ext.ex (show W0.cell? ⟨w.heap.size, 3, none⟩ = some (.slice a3 g.nu c3) from block_cell (hq0 0 _ rfl) rfl)
  have H3 := Ext.ex (show W0.cell? ⟨w.heap.size + 1, 3, none⟩ = some (.slice b3 g.nu d3) from block_cell (hq0 1 _ rfl) rfl)
  have HW0 := Lib.hid (show (w.alloc (.cells #[.slice a0 g.np c0, .slice a1 g.ns c1, .slice a2 g.nm c2, .slice a3 g.nu c3] 27)).alloc (.cells #[.slice b0 g.np d0, .slice b1 g.ns d1, .slice b2 g.nm d2, .slice b3 g.nu d3] 27) = W0 from hW0)
  have HB := Lib.hid hb0
  have D0 := Lib.hid (fun (Y : Ext W0) => equalGearPart_any g.np g.pn g.pc a0 b0 c0 d0 Y.1 (HG.out.below (Y.down HB.out hbs)).r0 (HH.out.below (Y.down HB.out hbs)).r0 h.l0)
  have D1 := Lib.hid (fun (Y : Ext W0) => equalSlot_any g.ns g.sn g.sr a1 b1 c1 d1 Y.1 (HG.out.below (Y.down HB.out hbs)).r1 (HH.out.below (Y.down HB.out hbs)).r1 h.l1)
  have D2 := Lib.hid (fun (Y : Ext W0) => equalMount_any g.nm g.ms g.mp g.mf g.mt a2 b2 c2 d2 Y.1 (HG.out.below (Y.down HB.out hbs)).r2 (HH.out.below (Y.down HB.out hbs)).r2 h.l2)
  have D3 := Lib.hid (fun (Y : Ext W0) => equalUse_any g.nu g.un g.ur g.uf g.us g.uw a3 b3 c3 d3 Y.1 (HG.out.below (Y.down HB.out hbs)).r3 (HH.out.below (Y.down HB.out hbs)).r3 h.l3)
  unfold garV
  clear h h' hW0 hb0 hq0 hs0
  go_enter Try.func37, Try.ntmps37
  go_upto_region 1 with (fail)
  rw [HW0.out]
  refine ext_wp fun X => ?_
  go_wp2_with fail
  refine (Ext.draws _ (D0.out _)).mono ?_
  rintro e w0 ⟨rfl, Y0, rfl⟩
  go_wp2_with fail
  refine (Ext.draws _ (D1.out _)).mono ?_
  rintro e w1 ⟨rfl, Y1, rfl⟩
  go_wp2_with fail
  refine (Ext.draws _ (D2.out _)).mono ?_
  rintro e w2 ⟨rfl, Y2, rfl⟩
  go_wp2_with fail
  refine (Ext.draws _ (D3.out _)).mono ?_
  rintro e w3 ⟨rfl, Y3, rfl⟩
  go_wp2_with fail
  go_ret
  exact ⟨rfl, Y3.down HB.out hbs⟩
end Go.Proofs.Ytbkpoepacjinlaa

/- Gear: the walks of GearUsesMatchSpec and of GearUsesGoBack. (Printed by gen_ulaw.py.) -/
namespace Go.Proofs.Ytbkpoepacjinlaa
open Go.RowKit Go.BigFrame
open Gar (chk momG hasS hasP addG addErr dropG dropErr)

/-- a call that returns a garage and an error, in a later world -/
theorem RetG.split {w w' : World} {e : Ending} {g' : Gar} {er : Int} (h : RetG w w' e g' er) : ∃ b0 b1 b2 b3 d0 d1 d2 d3, e = .returned (.tuple #[.agg #[.slice b0 g'.np d0, .slice b1 g'.ns d1, .slice b2 g'.nm d2, .slice b3 g'.nu d3], .int .i64 er]) ∧ GarIn w' g' b0 b1 b2 b3 ∧ g'.nm ≤ d2 ∧ g'.nu ≤ d3 ∧ Below w.heap.size w w' := by
  obtain ⟨⟨b0, b1, b2, b3, d0, d1, d2, d3, h1, h2, h3, h4⟩, h5⟩ := h
  exact ⟨b0, b1, b2, b3, d0, d1, d2, d3, h1, h2, h3, h4, h5⟩
theorem setU_self {g : Gar} {w : World} {a0 a1 a2 a3 : Option Addr} (h : GarIn w g a0 a1 a2 a3) : GarIn w (g.setU g.uses) a0 a1 a2 a3 := by
  have e : ∀ i, i < g.nu → g.uses.getD i default = g.use i := fun i hi => Gar.uses_getD g hi
  refine ⟨h.r0, h.r1, h.r2, ⟨fun h0 => ?_⟩, h.z0, h.z1, h.z2, fun i hi => ?_, h.l0, h.l1, h.l2, ?_⟩
  · have h0 : 0 < g.nu := by rw [← Gar.uses_len]; exact h0
    obtain ⟨b, off, e1, e2, e3⟩ := h.r3.here h0
    refine ⟨b, off, e1, e2, fun i hi j hj => ?_⟩
    have hi : i < g.nu := by rw [← Gar.uses_len]; exact hi
    show _ = (encU (g.uses.getD i default))[j]?
    rw [e i hi]
    exact e3 i hi j hj
  · have hi : i < g.nu := by rw [← Gar.uses_len]; exact hi
    show (g.uses.getD i default).n.size ≤ maxLen ∧ (g.uses.getD i default).r.size ≤ maxLen
    rw [e i hi]
    exact h.z3 i hi
  · show (g.uses.length : Int) ≤ _
    rw [Gar.uses_len]
    exact h.l3
theorem setU_nu (g : Gar) : (g.setU g.uses).nu = g.nu := Gar.uses_len g

theorem Ext.reP {W W' : World} (h : Below W.heap.size W W') {p : World → Prop} (e : ∀ X : Ext W, p X.1) : ∀ X : Ext W', p X.1 := fun X => e ⟨X.1, below_step h X.2⟩
theorem setU_back {g : Gar} {w : World} {a0 a1 a2 a3 : Option Addr} (h : GarIn w (g.setU g.uses) a0 a1 a2 a3) : GarIn w g a0 a1 a2 a3 := by
  have e : ∀ i, i < g.nu → g.uses.getD i default = g.use i := fun i hi => Gar.uses_getD g hi
  have hl : (g.setU g.uses).nu = g.nu := setU_nu g
  refine ⟨h.r0, h.r1, h.r2, ⟨fun h0 => ?_⟩, h.z0, h.z1, h.z2, fun i hi => ?_, h.l0, h.l1, h.l2, by rw [← hl]; exact h.l3⟩
  · obtain ⟨b, off, e1, e2, e3⟩ := h.r3.here (by rw [hl]; exact h0)
    refine ⟨b, off, e1, e2, fun i hi j hj => ?_⟩
    have := e3 i (by rw [hl]; exact hi) j hj
    rw [this]
    show (encU (g.uses.getD i default))[j]? = _
    rw [e i hi]
    rfl
  · have := h.z3 i (by rw [hl]; exact hi)
    have h2 : (g.uses.getD i default).n.size ≤ maxLen ∧ (g.uses.getD i default).r.size ≤ maxLen := this
    rw [e i hi] at h2
    exact h2
theorem RetG.self {w w' : World} {e : Ending} {g : Gar} {er : Int} (h : RetG w w' e (g.setU g.uses) er) : RetG w w' e g er := by
  obtain ⟨⟨b0, b1, b2, b3, d0, d1, d2, d3, h1, h2, h3, h4⟩, h5⟩ := h
  refine ⟨⟨b0, b1, b2, b3, d0, d1, d2, d3, ?_, setU_back h2, h3, ?_⟩, h5⟩
  · rw [h1]
    unfold garV
    rw [setU_nu]
    rfl
  · rw [← setU_nu g]
    exact h4
/-- a row of structs that begin with a string does not lie in a box of slices -/
theorem row_notbox {w : World} {a : Option Addr} {n k o T : Nat} {fr : Nat × Nat} {f : Nat → List Value} {v0 v1 v2 v3 : Value} (hr : RowK w a n k f) (hk : 0 < k) (hf : ∃ s, (f 0)[0]? = some (.string s)) (hb : w.heap[o]? = some (.cells #[v0, v1, v2, v3] T fr))
    (hs : ∀ s, v0 ≠ .string s ∧ v1 ≠ .string s ∧ v2 ≠ .string s ∧ v3 ≠ .string s) {w' : World} (hkp : Kept (fun b => b = o) w w') : RowK w' a n k f := by
  refine ⟨fun hl => ?_⟩
  obtain ⟨b, off, rfl, hlt, hc⟩ := hr.here hl
  refine ⟨b, off, rfl, Nat.lt_of_lt_of_le hlt hkp.size, fun i hi j hj => ?_⟩
  refine (World.cell?_of_block (hkp.block b hlt fun e => ?_)).trans (hc i hi j hj)
  subst e
  obtain ⟨s, hs0⟩ := hf
  have h0 := hc 0 hl 0 hk
  rw [hs0, cell_of_row w b _ _ _ _ hb] at h0
  obtain ⟨n0, n1, n2, n3⟩ := hs s
  generalize off + 0 * k + 0 = t at h0
  match t, h0 with
  | 0, h0 => simp at h0; exact n0 h0
  | 1, h0 => simp at h0; exact n1 h0
  | 2, h0 => simp at h0; exact n2 h0
  | 3, h0 => simp at h0; exact n3 h0
  | t + 4, h0 => simp at h0
theorem GarIn.notbox {w w' : World} {g : Gar} {a0 a1 a2 a3 x0 x1 x2 x3 : Option Addr} {n0 n1 n2 n3 d0 d1 d2 d3 o T : Nat} {fr : Nat × Nat} (h : GarIn w g a0 a1 a2 a3) (hb : w.heap[o]? = some (.cells #[.slice x0 n0 d0, .slice x1 n1 d1, .slice x2 n2 d2, .slice x3 n3 d3] T fr)) (hk : Kept (fun b => b = o) w w') : GarIn w' g a0 a1 a2 a3 :=
  have hs : ∀ s, (Value.slice x0 n0 d0) ≠ .string s ∧ (Value.slice x1 n1 d1) ≠ .string s ∧ (Value.slice x2 n2 d2) ≠ .string s ∧ (Value.slice x3 n3 d3) ≠ .string s := fun s => ⟨by simp, by simp, by simp, by simp⟩
  ⟨row_notbox h.r0 (by omega) ⟨_, rfl⟩ hb hs hk, row_notbox h.r1 (by omega) ⟨_, rfl⟩ hb hs hk, row_notbox h.r2 (by omega) ⟨_, rfl⟩ hb hs hk, row_notbox h.r3 (by omega) ⟨_, rfl⟩ hb hs hk, h.z0, h.z1, h.z2, h.z3, h.l0, h.l1, h.l2, h.l3⟩

set_option maxHeartbeats 4000000 in
set_option maxRecDepth 100000 in
theorem usesMatch_law (g : Gar) (a0 a1 a2 a3 : Option Addr) (c0 c1 c2 c3 : Nat) (u : Us) (nm : ByteArray) (w : World) (h : GarIn w g a0 a1 a2 a3) (hc2 : g.nm ≤ c2) (hc3 : g.nu ≤ c3)  (hun : u.n.size ≤ maxLen) (hur : u.r.size ≤ maxLen) :
    Calls Try.prog 8 #[garV g a0 a1 a2 a3 c0 c1 c2 c3, useV u.n u.r u.f u.s u.x, .string nm] w fun e w' => e = .returned (.bool true) ∧ Below w.heap.size w w' := by
  have HG := Lib.hid h
  obtain ⟨W0, hW0, hb0, hs0, hq0⟩ := allocs w [.cells #[.slice a0 g.np c0, .slice a1 g.ns c1, .slice a2 g.nm c2, .slice a3 g.nu c3] 27, .cells #[.string u.n, .string u.r, .int .i64 u.f, .int .i64 u.s, .int .i64 u.x] 38]
  have hbs0 : w.heap.size ≤ W0.heap.size := hb0.size
  have hDN0 := hb0
  have B00 := Ext.ex (show W0.cell? ⟨w.heap.size, 0, none⟩ = some (.slice a0 g.np c0) from block_cell (hq0 0 _ rfl) rfl)
  have B01 := Ext.ex (show W0.cell? ⟨w.heap.size, 1, none⟩ = some (.slice a1 g.ns c1) from block_cell (hq0 0 _ rfl) rfl)
  have B02 := Ext.ex (show W0.cell? ⟨w.heap.size, 2, none⟩ = some (.slice a2 g.nm c2) from block_cell (hq0 0 _ rfl) rfl)
  have B03 := Ext.ex (show W0.cell? ⟨w.heap.size, 3, none⟩ = some (.slice a3 g.nu c3) from block_cell (hq0 0 _ rfl) rfl)
  have B10 := Ext.ex (show W0.cell? ⟨w.heap.size + 1, 0, none⟩ = some (.string u.n) from block_cell (hq0 1 _ rfl) rfl)
  have B11 := Ext.ex (show W0.cell? ⟨w.heap.size + 1, 1, none⟩ = some (.string u.r) from block_cell (hq0 1 _ rfl) rfl)
  have B12 := Ext.ex (show W0.cell? ⟨w.heap.size + 1, 2, none⟩ = some (.int .i64 u.f) from block_cell (hq0 1 _ rfl) rfl)
  have B13 := Ext.ex (show W0.cell? ⟨w.heap.size + 1, 3, none⟩ = some (.int .i64 u.s) from block_cell (hq0 1 _ rfl) rfl)
  have B14 := Ext.ex (show W0.cell? ⟨w.heap.size + 1, 4, none⟩ = some (.int .i64 u.x) from block_cell (hq0 1 _ rfl) rfl)
  have HW0 := Lib.hid (show ((w.alloc (.cells #[.slice a0 g.np c0, .slice a1 g.ns c1, .slice a2 g.nm c2, .slice a3 g.nu c3] 27)).alloc (.cells #[.string u.n, .string u.r, .int .i64 u.f, .int .i64 u.s, .int .i64 u.x] 38)) = W0 from hW0)
  have HIA := Lib.hid (fun (X : Ext W0) => h.below (hDN0.trans (X.2.mono hbs0)))
  have D1 := Lib.hid (fun (W : World) (hW : GarIn W g a0 a1 a2 a3) => add_any g a0 a1 a2 a3 c0 c1 c2 c3 u W hW hun hur)
  have D2 := Lib.hid (fun (W : World) (hW : GarIn W g a0 a1 a2 a3) => radd_any g a0 a1 a2 a3 c0 c1 c2 c3 u W hW hun hur hc2 hc3)
  have D3 := Lib.hid (fun (W : World) (hW : GarIn W g a0 a1 a2 a3) => drop_any g a0 a1 a2 a3 c0 c1 c2 c3 nm W hW)
  have D4 := Lib.hid (fun (W : World) (hW : GarIn W g a0 a1 a2 a3) => rdrop_any g a0 a1 a2 a3 c0 c1 c2 c3 nm W hW hc2 hc3)
  have DS := Lib.hid (fun (g : Gar) (a0 a1 a2 a3 b0 b1 b2 b3 : Option Addr) (c0 c1 c2 c3 d0 d1 d2 d3 : Nat) (w : World) (h : GarIn w g a0 a1 a2 a3) (h' : GarIn w g b0 b1 b2 b3) => same_any g a0 a1 a2 a3 b0 b1 b2 b3 c0 c1 c2 c3 d0 d1 d2 d3 w h h')
  have DT := Lib.hid (fun W => told_any W)
  obtain ⟨g1, hg1⟩ : ∃ x, addG g u = x := ⟨_, rfl⟩
  obtain ⟨g2, hg2⟩ : ∃ x, dropG g nm = x := ⟨_, rfl⟩
  obtain ⟨e1, he1⟩ : ∃ x, addErr g u = x := ⟨_, rfl⟩
  obtain ⟨e2, he2⟩ : ∃ x, dropErr g nm = x := ⟨_, rfl⟩
  rw [hg1, he1] at D1 D2
  rw [hg2, he2] at D3 D4
  unfold garV at D1 D2 D3 D4 DS ⊢
  unfold useV at D1 D2 ⊢
  clear h hW0 hb0 hs0 hq0 hc2 hc3 hun hur hg1 hg2 he1 he2
  go_enter Try.func8, Try.ntmps8
  go_upto_region 1 with (fail)
  rw [HW0.out]
  refine ext_wp fun X0 => ?_
  go_wp2_with fail
  refine (D1.out X0.1 (HIA.out X0)).mono ?_
  rintro e y1 hret
  obtain ⟨b10, b11, b12, b13, d10, d11, d12, d13, rfl, hin1, hm1, hu1, hbl1⟩ := hret.split
  have HIN1 := Lib.hid hin1
  obtain ⟨Y1, rfl⟩ : ∃ Y : Ext W0, y1 = Y.1 := ⟨⟨y1, X0.2.trans (hbl1.mono X0.2.size)⟩, rfl⟩
  clear hret hin1 hbl1
  go_upto_region 2 with (fail)
  obtain ⟨V1, hV1, hvb1, hvs1, hvq1⟩ := alloc_block Y1.1 #[.slice b10 g1.np d10, .slice b11 g1.ns d11, .slice b12 g1.nm d12, .slice b13 g1.nu d13] 27
  rw [hV1]
  obtain ⟨p1, hp1⟩ : ∃ p, Y1.1.heap.size = p := ⟨_, rfl⟩
  rw [hp1] at hvq1 ⊢
  have hre1 := below_step Y1.2 hvb1
  replace B00 := Ext.re hre1 B00
  replace B01 := Ext.re hre1 B01
  replace B02 := Ext.re hre1 B02
  replace B03 := Ext.re hre1 B03
  replace B10 := Ext.re hre1 B10
  replace B11 := Ext.re hre1 B11
  replace B12 := Ext.re hre1 B12
  replace B13 := Ext.re hre1 B13
  replace B14 := Ext.re hre1 B14
  replace HIA := Lib.hid (Ext.reP (p := fun w => GarIn w g a0 a1 a2 a3) hre1 HIA.out)
  have q10 := Ext.ex (show V1.cell? ⟨p1, 0, none⟩ = some (.slice b10 g1.np d10) from block_cell hvq1 rfl)
  have q11 := Ext.ex (show V1.cell? ⟨p1, 1, none⟩ = some (.slice b11 g1.ns d11) from block_cell hvq1 rfl)
  have q12 := Ext.ex (show V1.cell? ⟨p1, 2, none⟩ = some (.slice b12 g1.nm d12) from block_cell hvq1 rfl)
  have q13 := Ext.ex (show V1.cell? ⟨p1, 3, none⟩ = some (.slice b13 g1.nu d13) from block_cell hvq1 rfl)
  have hDN1 : Below w.heap.size w V1 := hDN0.trans (hre1.mono hbs0)
  have hbs1 : w.heap.size ≤ V1.heap.size := hDN1.size
  have HI1 := Lib.hid (fun (X : Ext V1) => (HIN1.out.below hvb1).below X.2)
  have HBX1 := Lib.hid hvq1
  have HSP1 := Lib.hid (show W0.heap.size ≤ p1 from hp1 ▸ Y1.2.size)
  have HRE1 := Lib.hid hre1
  clear hV1 hvb1 hvs1 hvq1 hre1 hp1
  refine ext_wp fun X1 => ?_
  go_wp2_with fail
  refine (D2.out X1.1 (HIA.out X1)).mono ?_
  rintro e y2 hret
  obtain ⟨b20, b21, b22, b23, d20, d21, d22, d23, rfl, hin2, hm2, hu2, hbl2⟩ := hret.split
  have HIN2 := Lib.hid hin2
  obtain ⟨Y2, rfl⟩ : ∃ Y : Ext V1, y2 = Y.1 := ⟨⟨y2, X1.2.trans (hbl2.mono X1.2.size)⟩, rfl⟩
  clear hret hin2 hbl2
  go_upto_region 3 with (fail)
  obtain ⟨V2, hV2, hvb2, hvs2, hvq2⟩ := alloc_block Y2.1 #[.slice b20 g1.np d20, .slice b21 g1.ns d21, .slice b22 g1.nm d22, .slice b23 g1.nu d23] 27
  rw [hV2]
  obtain ⟨p2, hp2⟩ : ∃ p, Y2.1.heap.size = p := ⟨_, rfl⟩
  rw [hp2] at hvq2 ⊢
  have hre2 := below_step Y2.2 hvb2
  replace B00 := Ext.re hre2 B00
  replace B01 := Ext.re hre2 B01
  replace B02 := Ext.re hre2 B02
  replace B03 := Ext.re hre2 B03
  replace B10 := Ext.re hre2 B10
  replace B11 := Ext.re hre2 B11
  replace B12 := Ext.re hre2 B12
  replace B13 := Ext.re hre2 B13
  replace B14 := Ext.re hre2 B14
  replace q10 := Ext.re hre2 q10
  replace q11 := Ext.re hre2 q11
  replace q12 := Ext.re hre2 q12
  replace q13 := Ext.re hre2 q13
  replace HIA := Lib.hid (Ext.reP (p := fun w => GarIn w g a0 a1 a2 a3) hre2 HIA.out)
  replace HI1 := Lib.hid (Ext.reP (p := fun w => GarIn w g1 b10 b11 b12 b13) hre2 HI1.out)
  have q20 := Ext.ex (show V2.cell? ⟨p2, 0, none⟩ = some (.slice b20 g1.np d20) from block_cell hvq2 rfl)
  have q21 := Ext.ex (show V2.cell? ⟨p2, 1, none⟩ = some (.slice b21 g1.ns d21) from block_cell hvq2 rfl)
  have q22 := Ext.ex (show V2.cell? ⟨p2, 2, none⟩ = some (.slice b22 g1.nm d22) from block_cell hvq2 rfl)
  have q23 := Ext.ex (show V2.cell? ⟨p2, 3, none⟩ = some (.slice b23 g1.nu d23) from block_cell hvq2 rfl)
  have hDN2 : Below w.heap.size w V2 := hDN1.trans (hre2.mono hbs1)
  have hbs2 : w.heap.size ≤ V2.heap.size := hDN2.size
  have HI2 := Lib.hid (fun (X : Ext V2) => (HIN2.out.below hvb2).below X.2)
  have HBX2 := Lib.hid hvq2
  have HSP2 := Lib.hid (show V1.heap.size ≤ p2 from hp2 ▸ Y2.2.size)
  have HRE2 := Lib.hid hre2
  clear hV2 hvb2 hvs2 hvq2 hre2 hp2
  refine ext_wp fun X2 => ?_
  go_wp2_with fail
  refine (D3.out X2.1 (HIA.out X2)).mono ?_
  rintro e y3 hret
  obtain ⟨b30, b31, b32, b33, d30, d31, d32, d33, rfl, hin3, hm3, hu3, hbl3⟩ := hret.split
  have HIN3 := Lib.hid hin3
  obtain ⟨Y3, rfl⟩ : ∃ Y : Ext V2, y3 = Y.1 := ⟨⟨y3, X2.2.trans (hbl3.mono X2.2.size)⟩, rfl⟩
  clear hret hin3 hbl3
  go_upto_region 4 with (fail)
  obtain ⟨V3, hV3, hvb3, hvs3, hvq3⟩ := alloc_block Y3.1 #[.slice b30 g2.np d30, .slice b31 g2.ns d31, .slice b32 g2.nm d32, .slice b33 g2.nu d33] 27
  rw [hV3]
  obtain ⟨p3, hp3⟩ : ∃ p, Y3.1.heap.size = p := ⟨_, rfl⟩
  rw [hp3] at hvq3 ⊢
  have hre3 := below_step Y3.2 hvb3
  replace B00 := Ext.re hre3 B00
  replace B01 := Ext.re hre3 B01
  replace B02 := Ext.re hre3 B02
  replace B03 := Ext.re hre3 B03
  replace B10 := Ext.re hre3 B10
  replace B11 := Ext.re hre3 B11
  replace B12 := Ext.re hre3 B12
  replace B13 := Ext.re hre3 B13
  replace B14 := Ext.re hre3 B14
  replace q10 := Ext.re hre3 q10
  replace q11 := Ext.re hre3 q11
  replace q12 := Ext.re hre3 q12
  replace q13 := Ext.re hre3 q13
  replace q20 := Ext.re hre3 q20
  replace q21 := Ext.re hre3 q21
  replace q22 := Ext.re hre3 q22
  replace q23 := Ext.re hre3 q23
  replace HIA := Lib.hid (Ext.reP (p := fun w => GarIn w g a0 a1 a2 a3) hre3 HIA.out)
  replace HI1 := Lib.hid (Ext.reP (p := fun w => GarIn w g1 b10 b11 b12 b13) hre3 HI1.out)
  replace HI2 := Lib.hid (Ext.reP (p := fun w => GarIn w g1 b20 b21 b22 b23) hre3 HI2.out)
  have q30 := Ext.ex (show V3.cell? ⟨p3, 0, none⟩ = some (.slice b30 g2.np d30) from block_cell hvq3 rfl)
  have q31 := Ext.ex (show V3.cell? ⟨p3, 1, none⟩ = some (.slice b31 g2.ns d31) from block_cell hvq3 rfl)
  have q32 := Ext.ex (show V3.cell? ⟨p3, 2, none⟩ = some (.slice b32 g2.nm d32) from block_cell hvq3 rfl)
  have q33 := Ext.ex (show V3.cell? ⟨p3, 3, none⟩ = some (.slice b33 g2.nu d33) from block_cell hvq3 rfl)
  have hDN3 : Below w.heap.size w V3 := hDN2.trans (hre3.mono hbs2)
  have hbs3 : w.heap.size ≤ V3.heap.size := hDN3.size
  have HI3 := Lib.hid (fun (X : Ext V3) => (HIN3.out.below hvb3).below X.2)
  have HBX3 := Lib.hid hvq3
  have HSP3 := Lib.hid (show V2.heap.size ≤ p3 from hp3 ▸ Y3.2.size)
  have HRE3 := Lib.hid hre3
  clear hV3 hvb3 hvs3 hvq3 hre3 hp3
  refine ext_wp fun X3 => ?_
  go_wp2_with fail
  refine (D4.out X3.1 (HIA.out X3)).mono ?_
  rintro e y4 hret
  obtain ⟨b40, b41, b42, b43, d40, d41, d42, d43, rfl, hin4, hm4, hu4, hbl4⟩ := hret.split
  have HIN4 := Lib.hid hin4
  obtain ⟨Y4, rfl⟩ : ∃ Y : Ext V3, y4 = Y.1 := ⟨⟨y4, X3.2.trans (hbl4.mono X3.2.size)⟩, rfl⟩
  clear hret hin4 hbl4
  go_upto_region 5 with (fail)
  obtain ⟨V4, hV4, hvb4, hvs4, hvq4⟩ := alloc_block Y4.1 #[.slice b40 g2.np d40, .slice b41 g2.ns d41, .slice b42 g2.nm d42, .slice b43 g2.nu d43] 27
  rw [hV4]
  obtain ⟨p4, hp4⟩ : ∃ p, Y4.1.heap.size = p := ⟨_, rfl⟩
  rw [hp4] at hvq4 ⊢
  have hre4 := below_step Y4.2 hvb4
  replace B00 := Ext.re hre4 B00
  replace B01 := Ext.re hre4 B01
  replace B02 := Ext.re hre4 B02
  replace B03 := Ext.re hre4 B03
  replace B10 := Ext.re hre4 B10
  replace B11 := Ext.re hre4 B11
  replace B12 := Ext.re hre4 B12
  replace B13 := Ext.re hre4 B13
  replace B14 := Ext.re hre4 B14
  replace q10 := Ext.re hre4 q10
  replace q11 := Ext.re hre4 q11
  replace q12 := Ext.re hre4 q12
  replace q13 := Ext.re hre4 q13
  replace q20 := Ext.re hre4 q20
  replace q21 := Ext.re hre4 q21
  replace q22 := Ext.re hre4 q22
  replace q23 := Ext.re hre4 q23
  replace q30 := Ext.re hre4 q30
  replace q31 := Ext.re hre4 q31
  replace q32 := Ext.re hre4 q32
  replace q33 := Ext.re hre4 q33
  replace HIA := Lib.hid (Ext.reP (p := fun w => GarIn w g a0 a1 a2 a3) hre4 HIA.out)
  replace HI1 := Lib.hid (Ext.reP (p := fun w => GarIn w g1 b10 b11 b12 b13) hre4 HI1.out)
  replace HI2 := Lib.hid (Ext.reP (p := fun w => GarIn w g1 b20 b21 b22 b23) hre4 HI2.out)
  replace HI3 := Lib.hid (Ext.reP (p := fun w => GarIn w g2 b30 b31 b32 b33) hre4 HI3.out)
  have q40 := Ext.ex (show V4.cell? ⟨p4, 0, none⟩ = some (.slice b40 g2.np d40) from block_cell hvq4 rfl)
  have q41 := Ext.ex (show V4.cell? ⟨p4, 1, none⟩ = some (.slice b41 g2.ns d41) from block_cell hvq4 rfl)
  have q42 := Ext.ex (show V4.cell? ⟨p4, 2, none⟩ = some (.slice b42 g2.nm d42) from block_cell hvq4 rfl)
  have q43 := Ext.ex (show V4.cell? ⟨p4, 3, none⟩ = some (.slice b43 g2.nu d43) from block_cell hvq4 rfl)
  have hDN4 : Below w.heap.size w V4 := hDN3.trans (hre4.mono hbs3)
  have hbs4 : w.heap.size ≤ V4.heap.size := hDN4.size
  have HI4 := Lib.hid (fun (X : Ext V4) => (HIN4.out.below hvb4).below X.2)
  have HBX4 := Lib.hid hvq4
  have HSP4 := Lib.hid (show V3.heap.size ≤ p4 from hp4 ▸ Y4.2.size)
  have HRE4 := Lib.hid hre4
  clear hV4 hvb4 hvs4 hvq4 hre4 hp4
  refine ext_wp fun X4 => ?_
  go_wp2_with fail
  refine (Ext.calls _ (DS.out g1 b10 b11 b12 b13 b20 b21 b22 b23 d10 d11 d12 d13 d20 d21 d22 d23 X4.1 (HI1.out X4) (HI2.out X4))).mono ?_
  rintro e ys ⟨rfl, X4s, rfl⟩
  go_wp2_with fail
  refine (Ext.calls _ (DS.out g2 b30 b31 b32 b33 b40 b41 b42 b43 d30 d31 d32 d33 d40 d41 d42 d43 X4s.1 (HI3.out X4s) (HI4.out X4s))).mono ?_
  rintro e ys ⟨rfl, X4ss, rfl⟩
  go_wp2_with fail
  refine (Ext.calls _ (DT.out X4ss.1)).mono ?_
  rintro e yt ⟨rfl, XT, rfl⟩
  go_wp2_with fail
  go_ret
  exact ⟨rfl, XT.down hDN4 hbs4⟩
set_option maxHeartbeats 4000000 in
set_option maxRecDepth 100000 in
theorem usesBack_law (g : Gar) (a0 a1 a2 a3 : Option Addr) (c0 c1 c2 c3 : Nat) (u v : Us) (w : World) (h : GarIn w g a0 a1 a2 a3) (hun : u.n.size ≤ maxLen) (hur : u.r.size ≤ maxLen) (hvn : v.n.size ≤ maxLen) (hvr : v.r.size ≤ maxLen) :
    Calls Try.prog 9 #[garV g a0 a1 a2 a3 c0 c1 c2 c3, useV u.n u.r u.f u.s u.x, useV v.n v.r v.f v.s v.x] w fun e w' => e = .returned (.bool true) ∧ Below w.heap.size w w' := by
  obtain ⟨W0, hW0, hb0, hs0, hq0⟩ := allocs w [.cells #[.slice a0 g.np c0, .slice a1 g.ns c1, .slice a2 g.nm c2, .slice a3 g.nu c3] 27, .cells #[.string u.n, .string u.r, .int .i64 u.f, .int .i64 u.s, .int .i64 u.x] 38, .cells #[.string v.n, .string v.r, .int .i64 v.f, .int .i64 v.s, .int .i64 v.x] 38]
  have hbs0 : w.heap.size ≤ W0.heap.size := hb0.size
  have hDN0 := hb0
  have B00 := Ext.ex (show W0.cell? ⟨w.heap.size, 0, none⟩ = some (.slice a0 g.np c0) from block_cell (hq0 0 _ rfl) rfl)
  have B01 := Ext.ex (show W0.cell? ⟨w.heap.size, 1, none⟩ = some (.slice a1 g.ns c1) from block_cell (hq0 0 _ rfl) rfl)
  have B02 := Ext.ex (show W0.cell? ⟨w.heap.size, 2, none⟩ = some (.slice a2 g.nm c2) from block_cell (hq0 0 _ rfl) rfl)
  have B03 := Ext.ex (show W0.cell? ⟨w.heap.size, 3, none⟩ = some (.slice a3 g.nu c3) from block_cell (hq0 0 _ rfl) rfl)
  have B10 := Ext.ex (show W0.cell? ⟨w.heap.size + 1, 0, none⟩ = some (.string u.n) from block_cell (hq0 1 _ rfl) rfl)
  have B11 := Ext.ex (show W0.cell? ⟨w.heap.size + 1, 1, none⟩ = some (.string u.r) from block_cell (hq0 1 _ rfl) rfl)
  have B12 := Ext.ex (show W0.cell? ⟨w.heap.size + 1, 2, none⟩ = some (.int .i64 u.f) from block_cell (hq0 1 _ rfl) rfl)
  have B13 := Ext.ex (show W0.cell? ⟨w.heap.size + 1, 3, none⟩ = some (.int .i64 u.s) from block_cell (hq0 1 _ rfl) rfl)
  have B14 := Ext.ex (show W0.cell? ⟨w.heap.size + 1, 4, none⟩ = some (.int .i64 u.x) from block_cell (hq0 1 _ rfl) rfl)
  have B20 := Ext.ex (show W0.cell? ⟨w.heap.size + 2, 0, none⟩ = some (.string v.n) from block_cell (hq0 2 _ rfl) rfl)
  have B21 := Ext.ex (show W0.cell? ⟨w.heap.size + 2, 1, none⟩ = some (.string v.r) from block_cell (hq0 2 _ rfl) rfl)
  have B22 := Ext.ex (show W0.cell? ⟨w.heap.size + 2, 2, none⟩ = some (.int .i64 v.f) from block_cell (hq0 2 _ rfl) rfl)
  have B23 := Ext.ex (show W0.cell? ⟨w.heap.size + 2, 3, none⟩ = some (.int .i64 v.s) from block_cell (hq0 2 _ rfl) rfl)
  have B24 := Ext.ex (show W0.cell? ⟨w.heap.size + 2, 4, none⟩ = some (.int .i64 v.x) from block_cell (hq0 2 _ rfl) rfl)
  have HW0 := Lib.hid (show (((w.alloc (.cells #[.slice a0 g.np c0, .slice a1 g.ns c1, .slice a2 g.nm c2, .slice a3 g.nu c3] 27)).alloc (.cells #[.string u.n, .string u.r, .int .i64 u.f, .int .i64 u.s, .int .i64 u.x] 38)).alloc (.cells #[.string v.n, .string v.r, .int .i64 v.f, .int .i64 v.s, .int .i64 v.x] 38)) = W0 from hW0)
  have HIA := Lib.hid (fun (X : Ext W0) => h.below (hDN0.trans (X.2.mono hbs0)))
  have DU := Lib.hid (fun (g : Gar) (a0 a1 a2 a3 : Option Addr) (c0 c1 c2 c3 : Nat) (W : World) (hW : GarIn W g a0 a1 a2 a3) => add_any g a0 a1 a2 a3 c0 c1 c2 c3 u W hW hun hur)
  have DV := Lib.hid (fun (g : Gar) (a0 a1 a2 a3 : Option Addr) (c0 c1 c2 c3 : Nat) (W : World) (hW : GarIn W g a0 a1 a2 a3) => add_any g a0 a1 a2 a3 c0 c1 c2 c3 v W hW hvn hvr)
  have DS := Lib.hid (fun (g : Gar) (a0 a1 a2 a3 b0 b1 b2 b3 : Option Addr) (c0 c1 c2 c3 d0 d1 d2 d3 : Nat) (w : World) (h : GarIn w g a0 a1 a2 a3) (h' : GarIn w g b0 b1 b2 b3) => same_any g a0 a1 a2 a3 b0 b1 b2 b3 c0 c1 c2 c3 d0 d1 d2 d3 w h h')
  have DT := Lib.hid (fun W => told_any W)
  have D1 := Lib.hid (fun (W : World) (hW : GarIn W g a0 a1 a2 a3) => DU.out g a0 a1 a2 a3 c0 c1 c2 c3 W hW)
  have D4 := Lib.hid (fun (W : World) (hW : GarIn W g a0 a1 a2 a3) => DV.out g a0 a1 a2 a3 c0 c1 c2 c3 W hW)
  have HAD := Lib.hid (fun (he : addErr g u = 0) => Gar.add_drop he)
  have HAS := Lib.hid (fun (he : addErr g u = 0) (h2 : addErr (addG g u) v = 0) (h3 : addErr g v = 0) => Gar.add_swap he h2 h3)
  have D2 := Lib.hid (fun (he : addErr g u = 0) (b0 b1 b2 b3 : Option Addr) (d0 d1 d2 d3 : Nat) (W : World) (hW : GarIn W (addG g u) b0 b1 b2 b3) => (drop_any (addG g u) b0 b1 b2 b3 d0 d1 d2 d3 u.n W hW).mono (R' := fun e w' => RetG W w' e g 0) (fun e w' hr => by rw [(HAD.out he).1, (HAD.out he).2] at hr; exact hr.self))
  have D3 := Lib.hid (fun (b0 b1 b2 b3 : Option Addr) (d0 d1 d2 d3 : Nat) (W : World) (hW : GarIn W (addG g u) b0 b1 b2 b3) => DV.out (addG g u) b0 b1 b2 b3 d0 d1 d2 d3 W hW)
  have D5 := Lib.hid (fun (he : addErr g u = 0) (h2 : addErr (addG g u) v = 0) (h3 : addErr g v = 0) (b0 b1 b2 b3 : Option Addr) (d0 d1 d2 d3 : Nat) (W : World) (hW : GarIn W (addG g v) b0 b1 b2 b3) => (DU.out (addG g v) b0 b1 b2 b3 d0 d1 d2 d3 W hW).mono (R' := fun e w' => RetG W w' e (addG (addG g u) v) 0) (fun e w' hr => by rw [(HAS.out he h2 h3).1, (HAS.out he h2 h3).2] at hr; exact hr))
  obtain ⟨g1, hg1⟩ : ∃ x, addG g u = x := ⟨_, rfl⟩
  rw [hg1] at D1 D2 D3 D5
  obtain ⟨g4, hg4⟩ : ∃ x, addG g v = x := ⟨_, rfl⟩
  rw [hg4] at D4 D5
  obtain ⟨g3, hg3⟩ : ∃ x, addG g1 v = x := ⟨_, rfl⟩
  rw [hg3] at D3 D5
  obtain ⟨e1, he1⟩ : ∃ x, addErr g u = x := ⟨_, rfl⟩
  rw [he1] at D1 D2 D5
  obtain ⟨e3, he3⟩ : ∃ x, addErr g1 v = x := ⟨_, rfl⟩
  rw [he3] at D3 D5
  obtain ⟨e4, he4⟩ : ∃ x, addErr g v = x := ⟨_, rfl⟩
  rw [he4] at D4 D5
  unfold garV at D1 D2 D3 D4 D5 DS ⊢
  unfold useV at D1 D3 D4 D5 ⊢
  clear h hW0 hb0 hs0 hq0 hun hur hvn hvr hg1 hg3 hg4 he1 he3 he4 HAD HAS DU DV
  by_cases k1 : e1 = 0
  case neg =>
    have n1 : (e1 != 0) = true := by rw [bne_iff_ne]; exact k1
    clear k1 D2 D5 D3 D4
    go_enter Try.func9, Try.ntmps9
    go_upto_region 1 with (fail)
    rw [HW0.out]
    refine ext_wp fun X0 => ?_
    go_wp2_with fail
    refine (D1.out X0.1 (HIA.out X0)).mono ?_
    rintro e y1 hret
    obtain ⟨b10, b11, b12, b13, d10, d11, d12, d13, rfl, hin1, hm1, hu1, hbl1⟩ := hret.split
    have HIN1 := Lib.hid hin1
    obtain ⟨Y1, rfl⟩ : ∃ Y : Ext W0, y1 = Y.1 := ⟨⟨y1, X0.2.trans (hbl1.mono X0.2.size)⟩, rfl⟩
    clear hret hin1 hbl1
    go_upto_region 2 with (fail)
    obtain ⟨V1, hV1, hvb1, hvs1, hvq1⟩ := alloc_block Y1.1 #[.slice b10 g1.np d10, .slice b11 g1.ns d11, .slice b12 g1.nm d12, .slice b13 g1.nu d13] 27
    rw [hV1]
    obtain ⟨p1, hp1⟩ : ∃ p, Y1.1.heap.size = p := ⟨_, rfl⟩
    rw [hp1] at hvq1 ⊢
    have hre1 := below_step Y1.2 hvb1
    replace B00 := Ext.re hre1 B00
    replace B01 := Ext.re hre1 B01
    replace B02 := Ext.re hre1 B02
    replace B03 := Ext.re hre1 B03
    replace B10 := Ext.re hre1 B10
    replace B11 := Ext.re hre1 B11
    replace B12 := Ext.re hre1 B12
    replace B13 := Ext.re hre1 B13
    replace B14 := Ext.re hre1 B14
    replace B20 := Ext.re hre1 B20
    replace B21 := Ext.re hre1 B21
    replace B22 := Ext.re hre1 B22
    replace B23 := Ext.re hre1 B23
    replace B24 := Ext.re hre1 B24
    replace HIA := Lib.hid (Ext.reP (p := fun w => GarIn w g a0 a1 a2 a3) hre1 HIA.out)
    have q10 := Ext.ex (show V1.cell? ⟨p1, 0, none⟩ = some (.slice b10 g1.np d10) from block_cell hvq1 rfl)
    have q11 := Ext.ex (show V1.cell? ⟨p1, 1, none⟩ = some (.slice b11 g1.ns d11) from block_cell hvq1 rfl)
    have q12 := Ext.ex (show V1.cell? ⟨p1, 2, none⟩ = some (.slice b12 g1.nm d12) from block_cell hvq1 rfl)
    have q13 := Ext.ex (show V1.cell? ⟨p1, 3, none⟩ = some (.slice b13 g1.nu d13) from block_cell hvq1 rfl)
    have hDN1 : Below w.heap.size w V1 := hDN0.trans (hre1.mono hbs0)
    have hbs1 : w.heap.size ≤ V1.heap.size := hDN1.size
    have HI1 := Lib.hid (fun (X : Ext V1) => (HIN1.out.below hvb1).below X.2)
    have HBX1 := Lib.hid hvq1
    have HSP1 := Lib.hid (show W0.heap.size ≤ p1 from hp1 ▸ Y1.2.size)
    have HRE1 := Lib.hid hre1
    clear hV1 hvb1 hvs1 hvq1 hre1 hp1
    refine ext_wp fun X1 => ?_
    go_wp2_with fail
    refine (Ext.calls _ (DT.out X1.1)).mono ?_
    rintro e yt ⟨rfl, XT, rfl⟩
    go_wp2_with fail
    go_ret
    exact ⟨rfl, XT.down hDN1 hbs1⟩
  subst k1
  have n1 : ((0 : Int) != 0) = false := rfl
  replace D2 := Lib.hid (D2.out rfl)
  replace D5 := Lib.hid (D5.out rfl)
  by_cases k3 : e3 = 0
  case neg =>
    have n3 : (e3 != 0) = true := by rw [bne_iff_ne]; exact k3
    clear k3 D5
    go_enter Try.func9, Try.ntmps9
    go_upto_region 1 with (fail)
    rw [HW0.out]
    refine ext_wp fun X0 => ?_
    go_wp2_with fail
    refine (D1.out X0.1 (HIA.out X0)).mono ?_
    rintro e y1 hret
    obtain ⟨b10, b11, b12, b13, d10, d11, d12, d13, rfl, hin1, hm1, hu1, hbl1⟩ := hret.split
    have HIN1 := Lib.hid hin1
    obtain ⟨Y1, rfl⟩ : ∃ Y : Ext W0, y1 = Y.1 := ⟨⟨y1, X0.2.trans (hbl1.mono X0.2.size)⟩, rfl⟩
    clear hret hin1 hbl1
    go_upto_region 2 with (fail)
    obtain ⟨V1, hV1, hvb1, hvs1, hvq1⟩ := alloc_block Y1.1 #[.slice b10 g1.np d10, .slice b11 g1.ns d11, .slice b12 g1.nm d12, .slice b13 g1.nu d13] 27
    rw [hV1]
    obtain ⟨p1, hp1⟩ : ∃ p, Y1.1.heap.size = p := ⟨_, rfl⟩
    rw [hp1] at hvq1 ⊢
    have hre1 := below_step Y1.2 hvb1
    replace B00 := Ext.re hre1 B00
    replace B01 := Ext.re hre1 B01
    replace B02 := Ext.re hre1 B02
    replace B03 := Ext.re hre1 B03
    replace B10 := Ext.re hre1 B10
    replace B11 := Ext.re hre1 B11
    replace B12 := Ext.re hre1 B12
    replace B13 := Ext.re hre1 B13
    replace B14 := Ext.re hre1 B14
    replace B20 := Ext.re hre1 B20
    replace B21 := Ext.re hre1 B21
    replace B22 := Ext.re hre1 B22
    replace B23 := Ext.re hre1 B23
    replace B24 := Ext.re hre1 B24
    replace HIA := Lib.hid (Ext.reP (p := fun w => GarIn w g a0 a1 a2 a3) hre1 HIA.out)
    have q10 := Ext.ex (show V1.cell? ⟨p1, 0, none⟩ = some (.slice b10 g1.np d10) from block_cell hvq1 rfl)
    have q11 := Ext.ex (show V1.cell? ⟨p1, 1, none⟩ = some (.slice b11 g1.ns d11) from block_cell hvq1 rfl)
    have q12 := Ext.ex (show V1.cell? ⟨p1, 2, none⟩ = some (.slice b12 g1.nm d12) from block_cell hvq1 rfl)
    have q13 := Ext.ex (show V1.cell? ⟨p1, 3, none⟩ = some (.slice b13 g1.nu d13) from block_cell hvq1 rfl)
    have hDN1 : Below w.heap.size w V1 := hDN0.trans (hre1.mono hbs0)
    have hbs1 : w.heap.size ≤ V1.heap.size := hDN1.size
    have HI1 := Lib.hid (fun (X : Ext V1) => (HIN1.out.below hvb1).below X.2)
    have HBX1 := Lib.hid hvq1
    have HSP1 := Lib.hid (show W0.heap.size ≤ p1 from hp1 ▸ Y1.2.size)
    have HRE1 := Lib.hid hre1
    clear hV1 hvb1 hvs1 hvq1 hre1 hp1
    refine ext_wp fun X1 => ?_
    go_wp2_with fail
    refine (D2.out b10 b11 b12 b13 d10 d11 d12 d13 X1.1 (HI1.out X1)).mono ?_
    rintro e y2 hret
    obtain ⟨b20, b21, b22, b23, d20, d21, d22, d23, rfl, hin2, hm2, hu2, hbl2⟩ := hret.split
    have HIN2 := Lib.hid hin2
    obtain ⟨Y2, rfl⟩ : ∃ Y : Ext V1, y2 = Y.1 := ⟨⟨y2, X1.2.trans (hbl2.mono X1.2.size)⟩, rfl⟩
    clear hret hin2 hbl2
    go_upto_region 5 with (fail)
    obtain ⟨V2, hV2, hvb2, hvs2, hvq2⟩ := alloc_block Y2.1 #[.slice b20 g.np d20, .slice b21 g.ns d21, .slice b22 g.nm d22, .slice b23 g.nu d23] 27
    rw [hV2]
    obtain ⟨p2, hp2⟩ : ∃ p, Y2.1.heap.size = p := ⟨_, rfl⟩
    rw [hp2] at hvq2 ⊢
    have hre2 := below_step Y2.2 hvb2
    replace B00 := Ext.re hre2 B00
    replace B01 := Ext.re hre2 B01
    replace B02 := Ext.re hre2 B02
    replace B03 := Ext.re hre2 B03
    replace B10 := Ext.re hre2 B10
    replace B11 := Ext.re hre2 B11
    replace B12 := Ext.re hre2 B12
    replace B13 := Ext.re hre2 B13
    replace B14 := Ext.re hre2 B14
    replace B20 := Ext.re hre2 B20
    replace B21 := Ext.re hre2 B21
    replace B22 := Ext.re hre2 B22
    replace B23 := Ext.re hre2 B23
    replace B24 := Ext.re hre2 B24
    replace q10 := Ext.re hre2 q10
    replace q11 := Ext.re hre2 q11
    replace q12 := Ext.re hre2 q12
    replace q13 := Ext.re hre2 q13
    replace HIA := Lib.hid (Ext.reP (p := fun w => GarIn w g a0 a1 a2 a3) hre2 HIA.out)
    replace HI1 := Lib.hid (Ext.reP (p := fun w => GarIn w g1 b10 b11 b12 b13) hre2 HI1.out)
    have q20 := Ext.ex (show V2.cell? ⟨p2, 0, none⟩ = some (.slice b20 g.np d20) from block_cell hvq2 rfl)
    have q21 := Ext.ex (show V2.cell? ⟨p2, 1, none⟩ = some (.slice b21 g.ns d21) from block_cell hvq2 rfl)
    have q22 := Ext.ex (show V2.cell? ⟨p2, 2, none⟩ = some (.slice b22 g.nm d22) from block_cell hvq2 rfl)
    have q23 := Ext.ex (show V2.cell? ⟨p2, 3, none⟩ = some (.slice b23 g.nu d23) from block_cell hvq2 rfl)
    have hDN2 : Below w.heap.size w V2 := hDN1.trans (hre2.mono hbs1)
    have hbs2 : w.heap.size ≤ V2.heap.size := hDN2.size
    have HI2 := Lib.hid (fun (X : Ext V2) => (HIN2.out.below hvb2).below X.2)
    have HBX2 := Lib.hid hvq2
    have HSP2 := Lib.hid (show V1.heap.size ≤ p2 from hp2 ▸ Y2.2.size)
    have HRE2 := Lib.hid hre2
    clear hV2 hvb2 hvs2 hvq2 hre2 hp2
    refine ext_wp fun X2 => ?_
    go_wp2_with fail
    refine (Ext.calls _ (DS.out g b20 b21 b22 b23 a0 a1 a2 a3 d20 d21 d22 d23 c0 c1 c2 c3 X2.1 (HI2.out X2) (HIA.out X2))).mono ?_
    rintro e ys ⟨rfl, X2s, rfl⟩
    go_wp2_with fail
    refine (D3.out b10 b11 b12 b13 d10 d11 d12 d13 X2s.1 (HI1.out X2s)).mono ?_
    rintro e y3 hret
    obtain ⟨b30, b31, b32, b33, d30, d31, d32, d33, rfl, hin3, hm3, hu3, hbl3⟩ := hret.split
    have HIN3 := Lib.hid hin3
    obtain ⟨Y3, rfl⟩ : ∃ Y : Ext V2, y3 = Y.1 := ⟨⟨y3, X2s.2.trans (hbl3.mono X2s.2.size)⟩, rfl⟩
    clear hret hin3 hbl3
    go_upto_region 8 with (fail)
    obtain ⟨V3, hV3, hvb3, hvs3, hvq3⟩ := alloc_block Y3.1 #[.slice b30 g3.np d30, .slice b31 g3.ns d31, .slice b32 g3.nm d32, .slice b33 g3.nu d33] 27
    rw [hV3]
    obtain ⟨p3, hp3⟩ : ∃ p, Y3.1.heap.size = p := ⟨_, rfl⟩
    rw [hp3] at hvq3 ⊢
    have hre3 := below_step Y3.2 hvb3
    replace B00 := Ext.re hre3 B00
    replace B01 := Ext.re hre3 B01
    replace B02 := Ext.re hre3 B02
    replace B03 := Ext.re hre3 B03
    replace B10 := Ext.re hre3 B10
    replace B11 := Ext.re hre3 B11
    replace B12 := Ext.re hre3 B12
    replace B13 := Ext.re hre3 B13
    replace B14 := Ext.re hre3 B14
    replace B20 := Ext.re hre3 B20
    replace B21 := Ext.re hre3 B21
    replace B22 := Ext.re hre3 B22
    replace B23 := Ext.re hre3 B23
    replace B24 := Ext.re hre3 B24
    replace q10 := Ext.re hre3 q10
    replace q11 := Ext.re hre3 q11
    replace q12 := Ext.re hre3 q12
    replace q13 := Ext.re hre3 q13
    replace q20 := Ext.re hre3 q20
    replace q21 := Ext.re hre3 q21
    replace q22 := Ext.re hre3 q22
    replace q23 := Ext.re hre3 q23
    replace HIA := Lib.hid (Ext.reP (p := fun w => GarIn w g a0 a1 a2 a3) hre3 HIA.out)
    replace HI1 := Lib.hid (Ext.reP (p := fun w => GarIn w g1 b10 b11 b12 b13) hre3 HI1.out)
    replace HI2 := Lib.hid (Ext.reP (p := fun w => GarIn w g b20 b21 b22 b23) hre3 HI2.out)
    have q30 := Ext.ex (show V3.cell? ⟨p3, 0, none⟩ = some (.slice b30 g3.np d30) from block_cell hvq3 rfl)
    have q31 := Ext.ex (show V3.cell? ⟨p3, 1, none⟩ = some (.slice b31 g3.ns d31) from block_cell hvq3 rfl)
    have q32 := Ext.ex (show V3.cell? ⟨p3, 2, none⟩ = some (.slice b32 g3.nm d32) from block_cell hvq3 rfl)
    have q33 := Ext.ex (show V3.cell? ⟨p3, 3, none⟩ = some (.slice b33 g3.nu d33) from block_cell hvq3 rfl)
    have hDN3 : Below w.heap.size w V3 := hDN2.trans (hre3.mono hbs2)
    have hbs3 : w.heap.size ≤ V3.heap.size := hDN3.size
    have HI3 := Lib.hid (fun (X : Ext V3) => (HIN3.out.below hvb3).below X.2)
    have HBX3 := Lib.hid hvq3
    have HSP3 := Lib.hid (show V2.heap.size ≤ p3 from hp3 ▸ Y3.2.size)
    have HRE3 := Lib.hid hre3
    clear hV3 hvb3 hvs3 hvq3 hre3 hp3
    refine ext_wp fun X3 => ?_
    go_wp2_with fail
    refine (D4.out X3.1 (HIA.out X3)).mono ?_
    rintro e y4 hret
    obtain ⟨b40, b41, b42, b43, d40, d41, d42, d43, rfl, hin4, hm4, hu4, hbl4⟩ := hret.split
    have HIN4 := Lib.hid hin4
    obtain ⟨Y4, rfl⟩ : ∃ Y : Ext V3, y4 = Y.1 := ⟨⟨y4, X3.2.trans (hbl4.mono X3.2.size)⟩, rfl⟩
    clear hret hin4 hbl4
    go_upto_region 9 with (fail)
    obtain ⟨V4, hV4, hvb4, hvs4, hvq4⟩ := alloc_block Y4.1 #[.slice b40 g4.np d40, .slice b41 g4.ns d41, .slice b42 g4.nm d42, .slice b43 g4.nu d43] 27
    rw [hV4]
    obtain ⟨p4, hp4⟩ : ∃ p, Y4.1.heap.size = p := ⟨_, rfl⟩
    rw [hp4] at hvq4 ⊢
    have hre4 := below_step Y4.2 hvb4
    replace B00 := Ext.re hre4 B00
    replace B01 := Ext.re hre4 B01
    replace B02 := Ext.re hre4 B02
    replace B03 := Ext.re hre4 B03
    replace B10 := Ext.re hre4 B10
    replace B11 := Ext.re hre4 B11
    replace B12 := Ext.re hre4 B12
    replace B13 := Ext.re hre4 B13
    replace B14 := Ext.re hre4 B14
    replace B20 := Ext.re hre4 B20
    replace B21 := Ext.re hre4 B21
    replace B22 := Ext.re hre4 B22
    replace B23 := Ext.re hre4 B23
    replace B24 := Ext.re hre4 B24
    replace q10 := Ext.re hre4 q10
    replace q11 := Ext.re hre4 q11
    replace q12 := Ext.re hre4 q12
    replace q13 := Ext.re hre4 q13
    replace q20 := Ext.re hre4 q20
    replace q21 := Ext.re hre4 q21
    replace q22 := Ext.re hre4 q22
    replace q23 := Ext.re hre4 q23
    replace q30 := Ext.re hre4 q30
    replace q31 := Ext.re hre4 q31
    replace q32 := Ext.re hre4 q32
    replace q33 := Ext.re hre4 q33
    replace HIA := Lib.hid (Ext.reP (p := fun w => GarIn w g a0 a1 a2 a3) hre4 HIA.out)
    replace HI1 := Lib.hid (Ext.reP (p := fun w => GarIn w g1 b10 b11 b12 b13) hre4 HI1.out)
    replace HI2 := Lib.hid (Ext.reP (p := fun w => GarIn w g b20 b21 b22 b23) hre4 HI2.out)
    replace HI3 := Lib.hid (Ext.reP (p := fun w => GarIn w g3 b30 b31 b32 b33) hre4 HI3.out)
    have q40 := Ext.ex (show V4.cell? ⟨p4, 0, none⟩ = some (.slice b40 g4.np d40) from block_cell hvq4 rfl)
    have q41 := Ext.ex (show V4.cell? ⟨p4, 1, none⟩ = some (.slice b41 g4.ns d41) from block_cell hvq4 rfl)
    have q42 := Ext.ex (show V4.cell? ⟨p4, 2, none⟩ = some (.slice b42 g4.nm d42) from block_cell hvq4 rfl)
    have q43 := Ext.ex (show V4.cell? ⟨p4, 3, none⟩ = some (.slice b43 g4.nu d43) from block_cell hvq4 rfl)
    have hDN4 : Below w.heap.size w V4 := hDN3.trans (hre4.mono hbs3)
    have hbs4 : w.heap.size ≤ V4.heap.size := hDN4.size
    have HI4 := Lib.hid (fun (X : Ext V4) => (HIN4.out.below hvb4).below X.2)
    have HBX4 := Lib.hid hvq4
    have HSP4 := Lib.hid (show V3.heap.size ≤ p4 from hp4 ▸ Y4.2.size)
    have HRE4 := Lib.hid hre4
    clear hV4 hvb4 hvs4 hvq4 hre4 hp4
    refine ext_wp fun X4 => ?_
    go_wp2_with fail
    refine (Ext.calls _ (DT.out X4.1)).mono ?_
    rintro e yt ⟨rfl, XT, rfl⟩
    go_wp2_with fail
    go_ret
    exact ⟨rfl, XT.down hDN4 hbs4⟩
  subst k3
  replace D5 := Lib.hid (D5.out rfl)
  by_cases k4 : e4 = 0
  case neg =>
    have n4 : (e4 != 0) = true := by rw [bne_iff_ne]; exact k4
    clear k4 D5
    go_enter Try.func9, Try.ntmps9
    go_upto_region 1 with (fail)
    rw [HW0.out]
    refine ext_wp fun X0 => ?_
    go_wp2_with fail
    refine (D1.out X0.1 (HIA.out X0)).mono ?_
    rintro e y1 hret
    obtain ⟨b10, b11, b12, b13, d10, d11, d12, d13, rfl, hin1, hm1, hu1, hbl1⟩ := hret.split
    have HIN1 := Lib.hid hin1
    obtain ⟨Y1, rfl⟩ : ∃ Y : Ext W0, y1 = Y.1 := ⟨⟨y1, X0.2.trans (hbl1.mono X0.2.size)⟩, rfl⟩
    clear hret hin1 hbl1
    go_upto_region 2 with (fail)
    obtain ⟨V1, hV1, hvb1, hvs1, hvq1⟩ := alloc_block Y1.1 #[.slice b10 g1.np d10, .slice b11 g1.ns d11, .slice b12 g1.nm d12, .slice b13 g1.nu d13] 27
    rw [hV1]
    obtain ⟨p1, hp1⟩ : ∃ p, Y1.1.heap.size = p := ⟨_, rfl⟩
    rw [hp1] at hvq1 ⊢
    have hre1 := below_step Y1.2 hvb1
    replace B00 := Ext.re hre1 B00
    replace B01 := Ext.re hre1 B01
    replace B02 := Ext.re hre1 B02
    replace B03 := Ext.re hre1 B03
    replace B10 := Ext.re hre1 B10
    replace B11 := Ext.re hre1 B11
    replace B12 := Ext.re hre1 B12
    replace B13 := Ext.re hre1 B13
    replace B14 := Ext.re hre1 B14
    replace B20 := Ext.re hre1 B20
    replace B21 := Ext.re hre1 B21
    replace B22 := Ext.re hre1 B22
    replace B23 := Ext.re hre1 B23
    replace B24 := Ext.re hre1 B24
    replace HIA := Lib.hid (Ext.reP (p := fun w => GarIn w g a0 a1 a2 a3) hre1 HIA.out)
    have q10 := Ext.ex (show V1.cell? ⟨p1, 0, none⟩ = some (.slice b10 g1.np d10) from block_cell hvq1 rfl)
    have q11 := Ext.ex (show V1.cell? ⟨p1, 1, none⟩ = some (.slice b11 g1.ns d11) from block_cell hvq1 rfl)
    have q12 := Ext.ex (show V1.cell? ⟨p1, 2, none⟩ = some (.slice b12 g1.nm d12) from block_cell hvq1 rfl)
    have q13 := Ext.ex (show V1.cell? ⟨p1, 3, none⟩ = some (.slice b13 g1.nu d13) from block_cell hvq1 rfl)
    have hDN1 : Below w.heap.size w V1 := hDN0.trans (hre1.mono hbs0)
    have hbs1 : w.heap.size ≤ V1.heap.size := hDN1.size
    have HI1 := Lib.hid (fun (X : Ext V1) => (HIN1.out.below hvb1).below X.2)
    have HBX1 := Lib.hid hvq1
    have HSP1 := Lib.hid (show W0.heap.size ≤ p1 from hp1 ▸ Y1.2.size)
    have HRE1 := Lib.hid hre1
    clear hV1 hvb1 hvs1 hvq1 hre1 hp1
    refine ext_wp fun X1 => ?_
    go_wp2_with fail
    refine (D2.out b10 b11 b12 b13 d10 d11 d12 d13 X1.1 (HI1.out X1)).mono ?_
    rintro e y2 hret
    obtain ⟨b20, b21, b22, b23, d20, d21, d22, d23, rfl, hin2, hm2, hu2, hbl2⟩ := hret.split
    have HIN2 := Lib.hid hin2
    obtain ⟨Y2, rfl⟩ : ∃ Y : Ext V1, y2 = Y.1 := ⟨⟨y2, X1.2.trans (hbl2.mono X1.2.size)⟩, rfl⟩
    clear hret hin2 hbl2
    go_upto_region 5 with (fail)
    obtain ⟨V2, hV2, hvb2, hvs2, hvq2⟩ := alloc_block Y2.1 #[.slice b20 g.np d20, .slice b21 g.ns d21, .slice b22 g.nm d22, .slice b23 g.nu d23] 27
    rw [hV2]
    obtain ⟨p2, hp2⟩ : ∃ p, Y2.1.heap.size = p := ⟨_, rfl⟩
    rw [hp2] at hvq2 ⊢
    have hre2 := below_step Y2.2 hvb2
    replace B00 := Ext.re hre2 B00
    replace B01 := Ext.re hre2 B01
    replace B02 := Ext.re hre2 B02
    replace B03 := Ext.re hre2 B03
    replace B10 := Ext.re hre2 B10
    replace B11 := Ext.re hre2 B11
    replace B12 := Ext.re hre2 B12
    replace B13 := Ext.re hre2 B13
    replace B14 := Ext.re hre2 B14
    replace B20 := Ext.re hre2 B20
    replace B21 := Ext.re hre2 B21
    replace B22 := Ext.re hre2 B22
    replace B23 := Ext.re hre2 B23
    replace B24 := Ext.re hre2 B24
    replace q10 := Ext.re hre2 q10
    replace q11 := Ext.re hre2 q11
    replace q12 := Ext.re hre2 q12
    replace q13 := Ext.re hre2 q13
    replace HIA := Lib.hid (Ext.reP (p := fun w => GarIn w g a0 a1 a2 a3) hre2 HIA.out)
    replace HI1 := Lib.hid (Ext.reP (p := fun w => GarIn w g1 b10 b11 b12 b13) hre2 HI1.out)
    have q20 := Ext.ex (show V2.cell? ⟨p2, 0, none⟩ = some (.slice b20 g.np d20) from block_cell hvq2 rfl)
    have q21 := Ext.ex (show V2.cell? ⟨p2, 1, none⟩ = some (.slice b21 g.ns d21) from block_cell hvq2 rfl)
    have q22 := Ext.ex (show V2.cell? ⟨p2, 2, none⟩ = some (.slice b22 g.nm d22) from block_cell hvq2 rfl)
    have q23 := Ext.ex (show V2.cell? ⟨p2, 3, none⟩ = some (.slice b23 g.nu d23) from block_cell hvq2 rfl)
    have hDN2 : Below w.heap.size w V2 := hDN1.trans (hre2.mono hbs1)
    have hbs2 : w.heap.size ≤ V2.heap.size := hDN2.size
    have HI2 := Lib.hid (fun (X : Ext V2) => (HIN2.out.below hvb2).below X.2)
    have HBX2 := Lib.hid hvq2
    have HSP2 := Lib.hid (show V1.heap.size ≤ p2 from hp2 ▸ Y2.2.size)
    have HRE2 := Lib.hid hre2
    clear hV2 hvb2 hvs2 hvq2 hre2 hp2
    refine ext_wp fun X2 => ?_
    go_wp2_with fail
    refine (Ext.calls _ (DS.out g b20 b21 b22 b23 a0 a1 a2 a3 d20 d21 d22 d23 c0 c1 c2 c3 X2.1 (HI2.out X2) (HIA.out X2))).mono ?_
    rintro e ys ⟨rfl, X2s, rfl⟩
    go_wp2_with fail
    refine (D3.out b10 b11 b12 b13 d10 d11 d12 d13 X2s.1 (HI1.out X2s)).mono ?_
    rintro e y3 hret
    obtain ⟨b30, b31, b32, b33, d30, d31, d32, d33, rfl, hin3, hm3, hu3, hbl3⟩ := hret.split
    have HIN3 := Lib.hid hin3
    obtain ⟨Y3, rfl⟩ : ∃ Y : Ext V2, y3 = Y.1 := ⟨⟨y3, X2s.2.trans (hbl3.mono X2s.2.size)⟩, rfl⟩
    clear hret hin3 hbl3
    go_upto_region 8 with (fail)
    obtain ⟨V3, hV3, hvb3, hvs3, hvq3⟩ := alloc_block Y3.1 #[.slice b30 g3.np d30, .slice b31 g3.ns d31, .slice b32 g3.nm d32, .slice b33 g3.nu d33] 27
    rw [hV3]
    obtain ⟨p3, hp3⟩ : ∃ p, Y3.1.heap.size = p := ⟨_, rfl⟩
    rw [hp3] at hvq3 ⊢
    have hre3 := below_step Y3.2 hvb3
    replace B00 := Ext.re hre3 B00
    replace B01 := Ext.re hre3 B01
    replace B02 := Ext.re hre3 B02
    replace B03 := Ext.re hre3 B03
    replace B10 := Ext.re hre3 B10
    replace B11 := Ext.re hre3 B11
    replace B12 := Ext.re hre3 B12
    replace B13 := Ext.re hre3 B13
    replace B14 := Ext.re hre3 B14
    replace B20 := Ext.re hre3 B20
    replace B21 := Ext.re hre3 B21
    replace B22 := Ext.re hre3 B22
    replace B23 := Ext.re hre3 B23
    replace B24 := Ext.re hre3 B24
    replace q10 := Ext.re hre3 q10
    replace q11 := Ext.re hre3 q11
    replace q12 := Ext.re hre3 q12
    replace q13 := Ext.re hre3 q13
    replace q20 := Ext.re hre3 q20
    replace q21 := Ext.re hre3 q21
    replace q22 := Ext.re hre3 q22
    replace q23 := Ext.re hre3 q23
    replace HIA := Lib.hid (Ext.reP (p := fun w => GarIn w g a0 a1 a2 a3) hre3 HIA.out)
    replace HI1 := Lib.hid (Ext.reP (p := fun w => GarIn w g1 b10 b11 b12 b13) hre3 HI1.out)
    replace HI2 := Lib.hid (Ext.reP (p := fun w => GarIn w g b20 b21 b22 b23) hre3 HI2.out)
    have q30 := Ext.ex (show V3.cell? ⟨p3, 0, none⟩ = some (.slice b30 g3.np d30) from block_cell hvq3 rfl)
    have q31 := Ext.ex (show V3.cell? ⟨p3, 1, none⟩ = some (.slice b31 g3.ns d31) from block_cell hvq3 rfl)
    have q32 := Ext.ex (show V3.cell? ⟨p3, 2, none⟩ = some (.slice b32 g3.nm d32) from block_cell hvq3 rfl)
    have q33 := Ext.ex (show V3.cell? ⟨p3, 3, none⟩ = some (.slice b33 g3.nu d33) from block_cell hvq3 rfl)
    have hDN3 : Below w.heap.size w V3 := hDN2.trans (hre3.mono hbs2)
    have hbs3 : w.heap.size ≤ V3.heap.size := hDN3.size
    have HI3 := Lib.hid (fun (X : Ext V3) => (HIN3.out.below hvb3).below X.2)
    have HBX3 := Lib.hid hvq3
    have HSP3 := Lib.hid (show V2.heap.size ≤ p3 from hp3 ▸ Y3.2.size)
    have HRE3 := Lib.hid hre3
    clear hV3 hvb3 hvs3 hvq3 hre3 hp3
    refine ext_wp fun X3 => ?_
    go_wp2_with fail
    refine (D4.out X3.1 (HIA.out X3)).mono ?_
    rintro e y4 hret
    obtain ⟨b40, b41, b42, b43, d40, d41, d42, d43, rfl, hin4, hm4, hu4, hbl4⟩ := hret.split
    have HIN4 := Lib.hid hin4
    obtain ⟨Y4, rfl⟩ : ∃ Y : Ext V3, y4 = Y.1 := ⟨⟨y4, X3.2.trans (hbl4.mono X3.2.size)⟩, rfl⟩
    clear hret hin4 hbl4
    go_upto_region 9 with (fail)
    obtain ⟨V4, hV4, hvb4, hvs4, hvq4⟩ := alloc_block Y4.1 #[.slice b40 g4.np d40, .slice b41 g4.ns d41, .slice b42 g4.nm d42, .slice b43 g4.nu d43] 27
    rw [hV4]
    obtain ⟨p4, hp4⟩ : ∃ p, Y4.1.heap.size = p := ⟨_, rfl⟩
    rw [hp4] at hvq4 ⊢
    have hre4 := below_step Y4.2 hvb4
    replace B00 := Ext.re hre4 B00
    replace B01 := Ext.re hre4 B01
    replace B02 := Ext.re hre4 B02
    replace B03 := Ext.re hre4 B03
    replace B10 := Ext.re hre4 B10
    replace B11 := Ext.re hre4 B11
    replace B12 := Ext.re hre4 B12
    replace B13 := Ext.re hre4 B13
    replace B14 := Ext.re hre4 B14
    replace B20 := Ext.re hre4 B20
    replace B21 := Ext.re hre4 B21
    replace B22 := Ext.re hre4 B22
    replace B23 := Ext.re hre4 B23
    replace B24 := Ext.re hre4 B24
    replace q10 := Ext.re hre4 q10
    replace q11 := Ext.re hre4 q11
    replace q12 := Ext.re hre4 q12
    replace q13 := Ext.re hre4 q13
    replace q20 := Ext.re hre4 q20
    replace q21 := Ext.re hre4 q21
    replace q22 := Ext.re hre4 q22
    replace q23 := Ext.re hre4 q23
    replace q30 := Ext.re hre4 q30
    replace q31 := Ext.re hre4 q31
    replace q32 := Ext.re hre4 q32
    replace q33 := Ext.re hre4 q33
    replace HIA := Lib.hid (Ext.reP (p := fun w => GarIn w g a0 a1 a2 a3) hre4 HIA.out)
    replace HI1 := Lib.hid (Ext.reP (p := fun w => GarIn w g1 b10 b11 b12 b13) hre4 HI1.out)
    replace HI2 := Lib.hid (Ext.reP (p := fun w => GarIn w g b20 b21 b22 b23) hre4 HI2.out)
    replace HI3 := Lib.hid (Ext.reP (p := fun w => GarIn w g3 b30 b31 b32 b33) hre4 HI3.out)
    have q40 := Ext.ex (show V4.cell? ⟨p4, 0, none⟩ = some (.slice b40 g4.np d40) from block_cell hvq4 rfl)
    have q41 := Ext.ex (show V4.cell? ⟨p4, 1, none⟩ = some (.slice b41 g4.ns d41) from block_cell hvq4 rfl)
    have q42 := Ext.ex (show V4.cell? ⟨p4, 2, none⟩ = some (.slice b42 g4.nm d42) from block_cell hvq4 rfl)
    have q43 := Ext.ex (show V4.cell? ⟨p4, 3, none⟩ = some (.slice b43 g4.nu d43) from block_cell hvq4 rfl)
    have hDN4 : Below w.heap.size w V4 := hDN3.trans (hre4.mono hbs3)
    have hbs4 : w.heap.size ≤ V4.heap.size := hDN4.size
    have HI4 := Lib.hid (fun (X : Ext V4) => (HIN4.out.below hvb4).below X.2)
    have HBX4 := Lib.hid hvq4
    have HSP4 := Lib.hid (show V3.heap.size ≤ p4 from hp4 ▸ Y4.2.size)
    have HRE4 := Lib.hid hre4
    clear hV4 hvb4 hvs4 hvq4 hre4 hp4
    refine ext_wp fun X4 => ?_
    go_wp2_with fail
    refine (Ext.calls _ (DT.out X4.1)).mono ?_
    rintro e yt ⟨rfl, XT, rfl⟩
    go_wp2_with fail
    go_ret
    exact ⟨rfl, XT.down hDN4 hbs4⟩
  subst k4
  replace D5 := Lib.hid (D5.out rfl)
  have n5 : ((0 : Int) == 0) = true := rfl
  go_enter Try.func9, Try.ntmps9
  go_upto_region 1 with (fail)
  rw [HW0.out]
  refine ext_wp fun X0 => ?_
  go_wp2_with fail
  refine (D1.out X0.1 (HIA.out X0)).mono ?_
  rintro e y1 hret
  obtain ⟨b10, b11, b12, b13, d10, d11, d12, d13, rfl, hin1, hm1, hu1, hbl1⟩ := hret.split
  have HIN1 := Lib.hid hin1
  obtain ⟨Y1, rfl⟩ : ∃ Y : Ext W0, y1 = Y.1 := ⟨⟨y1, X0.2.trans (hbl1.mono X0.2.size)⟩, rfl⟩
  clear hret hin1 hbl1
  go_upto_region 2 with (fail)
  obtain ⟨V1, hV1, hvb1, hvs1, hvq1⟩ := alloc_block Y1.1 #[.slice b10 g1.np d10, .slice b11 g1.ns d11, .slice b12 g1.nm d12, .slice b13 g1.nu d13] 27
  rw [hV1]
  obtain ⟨p1, hp1⟩ : ∃ p, Y1.1.heap.size = p := ⟨_, rfl⟩
  rw [hp1] at hvq1 ⊢
  have hre1 := below_step Y1.2 hvb1
  replace B00 := Ext.re hre1 B00
  replace B01 := Ext.re hre1 B01
  replace B02 := Ext.re hre1 B02
  replace B03 := Ext.re hre1 B03
  replace B10 := Ext.re hre1 B10
  replace B11 := Ext.re hre1 B11
  replace B12 := Ext.re hre1 B12
  replace B13 := Ext.re hre1 B13
  replace B14 := Ext.re hre1 B14
  replace B20 := Ext.re hre1 B20
  replace B21 := Ext.re hre1 B21
  replace B22 := Ext.re hre1 B22
  replace B23 := Ext.re hre1 B23
  replace B24 := Ext.re hre1 B24
  replace HIA := Lib.hid (Ext.reP (p := fun w => GarIn w g a0 a1 a2 a3) hre1 HIA.out)
  have q10 := Ext.ex (show V1.cell? ⟨p1, 0, none⟩ = some (.slice b10 g1.np d10) from block_cell hvq1 rfl)
  have q11 := Ext.ex (show V1.cell? ⟨p1, 1, none⟩ = some (.slice b11 g1.ns d11) from block_cell hvq1 rfl)
  have q12 := Ext.ex (show V1.cell? ⟨p1, 2, none⟩ = some (.slice b12 g1.nm d12) from block_cell hvq1 rfl)
  have q13 := Ext.ex (show V1.cell? ⟨p1, 3, none⟩ = some (.slice b13 g1.nu d13) from block_cell hvq1 rfl)
  have hDN1 : Below w.heap.size w V1 := hDN0.trans (hre1.mono hbs0)
  have hbs1 : w.heap.size ≤ V1.heap.size := hDN1.size
  have HI1 := Lib.hid (fun (X : Ext V1) => (HIN1.out.below hvb1).below X.2)
  have HBX1 := Lib.hid hvq1
  have HSP1 := Lib.hid (show W0.heap.size ≤ p1 from hp1 ▸ Y1.2.size)
  have HRE1 := Lib.hid hre1
  clear hV1 hvb1 hvs1 hvq1 hre1 hp1
  refine ext_wp fun X1 => ?_
  go_wp2_with fail
  refine (D2.out b10 b11 b12 b13 d10 d11 d12 d13 X1.1 (HI1.out X1)).mono ?_
  rintro e y2 hret
  obtain ⟨b20, b21, b22, b23, d20, d21, d22, d23, rfl, hin2, hm2, hu2, hbl2⟩ := hret.split
  have HIN2 := Lib.hid hin2
  obtain ⟨Y2, rfl⟩ : ∃ Y : Ext V1, y2 = Y.1 := ⟨⟨y2, X1.2.trans (hbl2.mono X1.2.size)⟩, rfl⟩
  clear hret hin2 hbl2
  go_upto_region 5 with (fail)
  obtain ⟨V2, hV2, hvb2, hvs2, hvq2⟩ := alloc_block Y2.1 #[.slice b20 g.np d20, .slice b21 g.ns d21, .slice b22 g.nm d22, .slice b23 g.nu d23] 27
  rw [hV2]
  obtain ⟨p2, hp2⟩ : ∃ p, Y2.1.heap.size = p := ⟨_, rfl⟩
  rw [hp2] at hvq2 ⊢
  have hre2 := below_step Y2.2 hvb2
  replace B00 := Ext.re hre2 B00
  replace B01 := Ext.re hre2 B01
  replace B02 := Ext.re hre2 B02
  replace B03 := Ext.re hre2 B03
  replace B10 := Ext.re hre2 B10
  replace B11 := Ext.re hre2 B11
  replace B12 := Ext.re hre2 B12
  replace B13 := Ext.re hre2 B13
  replace B14 := Ext.re hre2 B14
  replace B20 := Ext.re hre2 B20
  replace B21 := Ext.re hre2 B21
  replace B22 := Ext.re hre2 B22
  replace B23 := Ext.re hre2 B23
  replace B24 := Ext.re hre2 B24
  replace q10 := Ext.re hre2 q10
  replace q11 := Ext.re hre2 q11
  replace q12 := Ext.re hre2 q12
  replace q13 := Ext.re hre2 q13
  replace HIA := Lib.hid (Ext.reP (p := fun w => GarIn w g a0 a1 a2 a3) hre2 HIA.out)
  replace HI1 := Lib.hid (Ext.reP (p := fun w => GarIn w g1 b10 b11 b12 b13) hre2 HI1.out)
  have q20 := Ext.ex (show V2.cell? ⟨p2, 0, none⟩ = some (.slice b20 g.np d20) from block_cell hvq2 rfl)
  have q21 := Ext.ex (show V2.cell? ⟨p2, 1, none⟩ = some (.slice b21 g.ns d21) from block_cell hvq2 rfl)
  have q22 := Ext.ex (show V2.cell? ⟨p2, 2, none⟩ = some (.slice b22 g.nm d22) from block_cell hvq2 rfl)
  have q23 := Ext.ex (show V2.cell? ⟨p2, 3, none⟩ = some (.slice b23 g.nu d23) from block_cell hvq2 rfl)
  have hDN2 : Below w.heap.size w V2 := hDN1.trans (hre2.mono hbs1)
  have hbs2 : w.heap.size ≤ V2.heap.size := hDN2.size
  have HI2 := Lib.hid (fun (X : Ext V2) => (HIN2.out.below hvb2).below X.2)
  have HBX2 := Lib.hid hvq2
  have HSP2 := Lib.hid (show V1.heap.size ≤ p2 from hp2 ▸ Y2.2.size)
  have HRE2 := Lib.hid hre2
  clear hV2 hvb2 hvs2 hvq2 hre2 hp2
  refine ext_wp fun X2 => ?_
  go_wp2_with fail
  refine (Ext.calls _ (DS.out g b20 b21 b22 b23 a0 a1 a2 a3 d20 d21 d22 d23 c0 c1 c2 c3 X2.1 (HI2.out X2) (HIA.out X2))).mono ?_
  rintro e ys ⟨rfl, X2s, rfl⟩
  go_wp2_with fail
  refine (D3.out b10 b11 b12 b13 d10 d11 d12 d13 X2s.1 (HI1.out X2s)).mono ?_
  rintro e y3 hret
  obtain ⟨b30, b31, b32, b33, d30, d31, d32, d33, rfl, hin3, hm3, hu3, hbl3⟩ := hret.split
  have HIN3 := Lib.hid hin3
  obtain ⟨Y3, rfl⟩ : ∃ Y : Ext V2, y3 = Y.1 := ⟨⟨y3, X2s.2.trans (hbl3.mono X2s.2.size)⟩, rfl⟩
  clear hret hin3 hbl3
  go_upto_region 8 with (fail)
  obtain ⟨V3, hV3, hvb3, hvs3, hvq3⟩ := alloc_block Y3.1 #[.slice b30 g3.np d30, .slice b31 g3.ns d31, .slice b32 g3.nm d32, .slice b33 g3.nu d33] 27
  rw [hV3]
  obtain ⟨p3, hp3⟩ : ∃ p, Y3.1.heap.size = p := ⟨_, rfl⟩
  rw [hp3] at hvq3 ⊢
  have hre3 := below_step Y3.2 hvb3
  replace B00 := Ext.re hre3 B00
  replace B01 := Ext.re hre3 B01
  replace B02 := Ext.re hre3 B02
  replace B03 := Ext.re hre3 B03
  replace B10 := Ext.re hre3 B10
  replace B11 := Ext.re hre3 B11
  replace B12 := Ext.re hre3 B12
  replace B13 := Ext.re hre3 B13
  replace B14 := Ext.re hre3 B14
  replace B20 := Ext.re hre3 B20
  replace B21 := Ext.re hre3 B21
  replace B22 := Ext.re hre3 B22
  replace B23 := Ext.re hre3 B23
  replace B24 := Ext.re hre3 B24
  replace q10 := Ext.re hre3 q10
  replace q11 := Ext.re hre3 q11
  replace q12 := Ext.re hre3 q12
  replace q13 := Ext.re hre3 q13
  replace q20 := Ext.re hre3 q20
  replace q21 := Ext.re hre3 q21
  replace q22 := Ext.re hre3 q22
  replace q23 := Ext.re hre3 q23
  replace HIA := Lib.hid (Ext.reP (p := fun w => GarIn w g a0 a1 a2 a3) hre3 HIA.out)
  replace HI1 := Lib.hid (Ext.reP (p := fun w => GarIn w g1 b10 b11 b12 b13) hre3 HI1.out)
  replace HI2 := Lib.hid (Ext.reP (p := fun w => GarIn w g b20 b21 b22 b23) hre3 HI2.out)
  have q30 := Ext.ex (show V3.cell? ⟨p3, 0, none⟩ = some (.slice b30 g3.np d30) from block_cell hvq3 rfl)
  have q31 := Ext.ex (show V3.cell? ⟨p3, 1, none⟩ = some (.slice b31 g3.ns d31) from block_cell hvq3 rfl)
  have q32 := Ext.ex (show V3.cell? ⟨p3, 2, none⟩ = some (.slice b32 g3.nm d32) from block_cell hvq3 rfl)
  have q33 := Ext.ex (show V3.cell? ⟨p3, 3, none⟩ = some (.slice b33 g3.nu d33) from block_cell hvq3 rfl)
  have hDN3 : Below w.heap.size w V3 := hDN2.trans (hre3.mono hbs2)
  have hbs3 : w.heap.size ≤ V3.heap.size := hDN3.size
  have HI3 := Lib.hid (fun (X : Ext V3) => (HIN3.out.below hvb3).below X.2)
  have HBX3 := Lib.hid hvq3
  have HSP3 := Lib.hid (show V2.heap.size ≤ p3 from hp3 ▸ Y3.2.size)
  have HRE3 := Lib.hid hre3
  clear hV3 hvb3 hvs3 hvq3 hre3 hp3
  refine ext_wp fun X3 => ?_
  have HS3 := Lib.hid (And.intro HI3.out (And.intro q30 (And.intro q31 (And.intro q32 q33))))
  go_wp2_with fail
  refine (D4.out X3.1 (HIA.out X3)).mono ?_
  rintro e y4 hret
  obtain ⟨b40, b41, b42, b43, d40, d41, d42, d43, rfl, hin4, hm4, hu4, hbl4⟩ := hret.split
  have HIN4 := Lib.hid hin4
  obtain ⟨Y4, rfl⟩ : ∃ Y : Ext V3, y4 = Y.1 := ⟨⟨y4, X3.2.trans (hbl4.mono X3.2.size)⟩, rfl⟩
  clear hret hin4 hbl4
  go_upto_region 9 with (fail)
  obtain ⟨V4, hV4, hvb4, hvs4, hvq4⟩ := alloc_block Y4.1 #[.slice b40 g4.np d40, .slice b41 g4.ns d41, .slice b42 g4.nm d42, .slice b43 g4.nu d43] 27
  rw [hV4]
  obtain ⟨p4, hp4⟩ : ∃ p, Y4.1.heap.size = p := ⟨_, rfl⟩
  rw [hp4] at hvq4 ⊢
  have hre4 := below_step Y4.2 hvb4
  replace B00 := Ext.re hre4 B00
  replace B01 := Ext.re hre4 B01
  replace B02 := Ext.re hre4 B02
  replace B03 := Ext.re hre4 B03
  replace B10 := Ext.re hre4 B10
  replace B11 := Ext.re hre4 B11
  replace B12 := Ext.re hre4 B12
  replace B13 := Ext.re hre4 B13
  replace B14 := Ext.re hre4 B14
  replace B20 := Ext.re hre4 B20
  replace B21 := Ext.re hre4 B21
  replace B22 := Ext.re hre4 B22
  replace B23 := Ext.re hre4 B23
  replace B24 := Ext.re hre4 B24
  replace q10 := Ext.re hre4 q10
  replace q11 := Ext.re hre4 q11
  replace q12 := Ext.re hre4 q12
  replace q13 := Ext.re hre4 q13
  replace q20 := Ext.re hre4 q20
  replace q21 := Ext.re hre4 q21
  replace q22 := Ext.re hre4 q22
  replace q23 := Ext.re hre4 q23
  replace q30 := Ext.re hre4 q30
  replace q31 := Ext.re hre4 q31
  replace q32 := Ext.re hre4 q32
  replace q33 := Ext.re hre4 q33
  replace HIA := Lib.hid (Ext.reP (p := fun w => GarIn w g a0 a1 a2 a3) hre4 HIA.out)
  replace HI1 := Lib.hid (Ext.reP (p := fun w => GarIn w g1 b10 b11 b12 b13) hre4 HI1.out)
  replace HI2 := Lib.hid (Ext.reP (p := fun w => GarIn w g b20 b21 b22 b23) hre4 HI2.out)
  replace HI3 := Lib.hid (Ext.reP (p := fun w => GarIn w g3 b30 b31 b32 b33) hre4 HI3.out)
  have q40 := Ext.ex (show V4.cell? ⟨p4, 0, none⟩ = some (.slice b40 g4.np d40) from block_cell hvq4 rfl)
  have q41 := Ext.ex (show V4.cell? ⟨p4, 1, none⟩ = some (.slice b41 g4.ns d41) from block_cell hvq4 rfl)
  have q42 := Ext.ex (show V4.cell? ⟨p4, 2, none⟩ = some (.slice b42 g4.nm d42) from block_cell hvq4 rfl)
  have q43 := Ext.ex (show V4.cell? ⟨p4, 3, none⟩ = some (.slice b43 g4.nu d43) from block_cell hvq4 rfl)
  have hDN4 : Below w.heap.size w V4 := hDN3.trans (hre4.mono hbs3)
  have hbs4 : w.heap.size ≤ V4.heap.size := hDN4.size
  have HI4 := Lib.hid (fun (X : Ext V4) => (HIN4.out.below hvb4).below X.2)
  have HBX4 := Lib.hid hvq4
  have HSP4 := Lib.hid (show V3.heap.size ≤ p4 from hp4 ▸ Y4.2.size)
  have HRE4 := Lib.hid hre4
  clear hV4 hvb4 hvs4 hvq4 hre4 hp4
  refine ext_wp fun X4 => ?_
  have z0 : ∀ X : Ext V4, X.1.frozen? ⟨p4, 0, none⟩ = false := fun X => block_free (below_block X.2 HBX4.out)
  have z1 : ∀ X : Ext V4, X.1.frozen? ⟨p4, 1, none⟩ = false := fun X => block_free (below_block X.2 HBX4.out)
  have z2 : ∀ X : Ext V4, X.1.frozen? ⟨p4, 2, none⟩ = false := fun X => block_free (below_block X.2 HBX4.out)
  have z3 : ∀ X : Ext V4, X.1.frozen? ⟨p4, 3, none⟩ = false := fun X => block_free (below_block X.2 HBX4.out)
  go_wp2_with fail
  refine (D5.out b40 b41 b42 b43 d40 d41 d42 d43 X4.1 (HI4.out X4)).mono ?_
  rintro e y5 hret
  obtain ⟨b50, b51, b52, b53, d50, d51, d52, d53, rfl, hin5, hm5, hu5, hbl5⟩ := hret.split
  have HIN5 := Lib.hid hin5
  obtain ⟨Y5, rfl⟩ : ∃ Y : Ext V4, y5 = Y.1 := ⟨⟨y5, X4.2.trans (hbl5.mono X4.2.size)⟩, rfl⟩
  clear hret hin5 hbl5
  go_upto_region 12 with (fail)
  have hB4 := below_block Y5.2 HBX4.out
  obtain ⟨W6, hW6, hr6, hk6, _⟩ := store4 hB4 (.slice b50 g3.np d50) (.slice b51 g3.ns d51) (.slice b52 g3.nm d52) (.slice b53 g3.nu d53)
  rw [hW6]
  have hin6 := HIN5.out.notbox hB4 hk6
  have hsp := HSP4.out
  have hb6 : Below V3.heap.size V3 W6 := Kept.below (HRE4.out.trans (Y5.2.mono HRE4.out.size)) hk6 (Nat.le_trans HRE4.out.size Y5.2.size) (fun k hk e => by omega)
  have hdn6 : Below w.heap.size w W6 := hDN3.trans (hb6.mono hbs3)
  have hbs6 : w.heap.size ≤ W6.heap.size := hdn6.size
  obtain ⟨HT3, r30, r31, r32, r33⟩ := HS3.out
  replace r30 := Ext.re hb6 r30
  replace r31 := Ext.re hb6 r31
  replace r32 := Ext.re hb6 r32
  replace r33 := Ext.re hb6 r33
  have r50 := Ext.ex (show W6.cell? ⟨p4, 0, none⟩ = some (.slice b50 g3.np d50) from block_cell hr6 rfl)
  have r51 := Ext.ex (show W6.cell? ⟨p4, 1, none⟩ = some (.slice b51 g3.ns d51) from block_cell hr6 rfl)
  have r52 := Ext.ex (show W6.cell? ⟨p4, 2, none⟩ = some (.slice b52 g3.nm d52) from block_cell hr6 rfl)
  have r53 := Ext.ex (show W6.cell? ⟨p4, 3, none⟩ = some (.slice b53 g3.nu d53) from block_cell hr6 rfl)
  replace HI3 := Lib.hid (fun (X : Ext W6) => (show GarIn X.1 g3 b30 b31 b32 b33 from HT3 ⟨X.1, below_step hb6 X.2⟩))
  have HI5 := Lib.hid (fun (X : Ext W6) => hin6.below X.2)
  clear B00 B01 B02 B03 B10 B11 B12 B13 B14 B20 B21 B22 B23 B24 q10 q11 q12 q13 q20 q21 q22 q23 q30 q31 q32 q33 q40 q41 q42 q43 z0 z1 z2 z3 hW6 hr6 hk6 hB4 hin6 hsp hb6 HT3 HS3
  refine ext_wp fun X6 => ?_
  go_wp2_with fail
  refine (Ext.calls _ (DS.out g3 b30 b31 b32 b33 b50 b51 b52 b53 d30 d31 d32 d33 d50 d51 d52 d53 X6.1 (HI3.out X6) (HI5.out X6))).mono ?_
  rintro e ys ⟨rfl, X6s, rfl⟩
  go_wp2_with fail
  refine (Ext.calls _ (DT.out X6s.1)).mono ?_
  rintro e yt ⟨rfl, XT, rfl⟩
  go_wp2_with fail
  go_ret
  exact ⟨rfl, XT.down hdn6 hbs6⟩
end Go.Proofs.Ytbkpoepacjinlaa

/- A garage that came in by value: how it reads. -/
namespace Go.Proofs.Ytbkpoepacjinlaa
open Go.ChangeShapes Go.WideShapes Go.ChangeAt Go.RowKit Go.Deep

theorem laidOut : laidOutB Try.prog = true := by kernel_rfl
theorem readGarage : Try.prog.readableRec 27 = true := by kernel_rfl
theorem rowGarage : 27 < Try.prog.types.size := of_decide_eq_true (by kernel_rfl)
def intV : Value → Int
  | .int _ n => n
  | _ => 0
def strV : Value → ByteArray
  | .string s => s
  | _ => ByteArray.empty
theorem RowK.congr {w : World} {a : Option Addr} {len k : Nat} {V V' : Nat → List Value} (h : RowK w a len k V) (he : ∀ i, i < len → V i = V' i) : RowK w a len k V' :=
  ⟨fun h0 => by
    obtain ⟨b, off, e, hb, hc⟩ := h.here h0
    exact ⟨b, off, e, hb, fun i hi j hj => by rw [hc i hi j hj, he i hi]⟩⟩
section
variable {H : Type} {enc : TypeId × Value → H} {P : Program} {w : World} {base : Nat}
theorem field_str {V : List Value} {j : Nat} {t : TypeId} (ht : P.underlying t = some .string) (h : ∃ u n y, V[j]? = some u ∧ DataW.trod enc P w base (fun _ => true) true n t [u] = some y) :
    V[j]? = some (.string (strV (V.getD j (.bool false)))) ∧ (strV (V.getD j (.bool false))).size ≤ maxLen := by
  obtain ⟨u, n, y, hu, hd⟩ := h
  obtain ⟨s, e, _, hs⟩ := DataW.trod_string ht hd
  simp only [List.cons.injEq, and_true] at e
  subst e
  rw [List.getD_eq_getElem?_getD, hu]
  exact ⟨rfl, hs⟩
theorem field_int {V : List Value} {j : Nat} {t : TypeId} (ht : P.underlying t = some (.int .i64)) (h : ∃ u n y, V[j]? = some u ∧ DataW.trod enc P w base (fun _ => true) true n t [u] = some y) :
    V[j]? = some (.int .i64 (intV (V.getD j (.bool false)))) := by
  obtain ⟨u, n, y, hu, hd⟩ := h
  obtain ⟨s, e, _, hs⟩ := DataW.trod_int ht hd
  simp only [List.cons.injEq, and_true] at e
  subst e
  rw [List.getD_eq_getElem?_getD, hu]
  rfl
end
theorem list2 {V : List Value} {a b : Value} (hl : V.length = 2) (h0 : V[0]? = some a) (h1 : V[1]? = some b) : V = [a, b] := by
  match V, hl with
  | [x, y], _ => simp at h0 h1; rw [h0, h1]
theorem list4 {V : List Value} {a b c d : Value} (hl : V.length = 4) (h0 : V[0]? = some a) (h1 : V[1]? = some b) (h2 : V[2]? = some c) (h3 : V[3]? = some d) : V = [a, b, c, d] := by
  match V, hl with
  | [x, y, z, u], _ => simp at h0 h1 h2 h3; rw [h0, h1, h2, h3]
theorem list5 {V : List Value} {a b c d e : Value} (hl : V.length = 5) (h0 : V[0]? = some a) (h1 : V[1]? = some b) (h2 : V[2]? = some c) (h3 : V[3]? = some d) (h4 : V[4]? = some e) : V = [a, b, c, d, e] := by
  match V, hl with
  | [x, y, z, u, v], _ => simp at h0 h1 h2 h3 h4; rw [h0, h1, h2, h3, h4]

set_option maxRecDepth 100000 in
theorem open_garage {H : Type} {enc : TypeId × Value → H} {W : World} {r : Reach} {b0 base : Nat} {v : Value} {d : DataW H} {p : List MemPlace}
    (hv : Value.okWide Try.prog W r b0 27 v) (h : DataW.Trod enc Try.prog W base (fun _ => true) true 27 v d p) :
    ∃ (g : Gar) (a0 a1 a2 a3 : Option Addr) (c0 c1 c2 c3 : Nat), v = garV g a0 a1 a2 a3 c0 c1 c2 c3 ∧ GarIn W g a0 a1 a2 a3 ∧ g.nm ≤ c2 ∧ g.nu ≤ c3 := by
  obtain ⟨v0, v1, v2, v3, y0, y1, y2, y3, m, rfl, _, _, h0, h1, h2, h3⟩ := Go.Joins.open_agg4 Try.underlying27 (by kernel_rfl) (by kernel_rfl) hv h
  obtain ⟨a0, n0, c0, V0, rfl, l0, m0, R0, F0⟩ := open_rowK Try.underlying22 Try.underlying94 (by kernel_rfl) (by decide) (hone_of (by kernel_rfl)) h0
  obtain ⟨a1, n1, c1, V1, rfl, l1, m1, R1, F1⟩ := open_rowK Try.underlying23 Try.underlying40 (by kernel_rfl) (by decide) (hone_of (by kernel_rfl)) h1
  obtain ⟨a2, n2, c2, V2, rfl, l2, m2, R2, F2⟩ := open_rowK Try.underlying24 Try.underlying54 (by kernel_rfl) (by decide) (hone_of (by kernel_rfl)) h2
  obtain ⟨a3, n3, c3, V3, rfl, l3, m3, R3, F3⟩ := open_rowK Try.underlying25 Try.underlying38 (by kernel_rfl) (by decide) (hone_of (by kernel_rfl)) h3
  have hm : maxLen = 9223372036854775807 := rfl
  have S := Try.underlying9
  have I := Try.underlying3
  refine ⟨{ np := n0, ns := n1, nm := n2, nu := n3,
            pn := fun i => strV ((V0 i).getD 0 (.bool false)), pc := fun i => intV ((V0 i).getD 1 (.bool false)),
            sn := fun i => strV ((V1 i).getD 0 (.bool false)), sr := fun i => strV ((V1 i).getD 1 (.bool false)),
            ms := fun i => strV ((V2 i).getD 0 (.bool false)), mp := fun i => strV ((V2 i).getD 1 (.bool false)), mf := fun i => intV ((V2 i).getD 2 (.bool false)), mt := fun i => intV ((V2 i).getD 3 (.bool false)),
            un := fun i => strV ((V3 i).getD 0 (.bool false)), ur := fun i => strV ((V3 i).getD 1 (.bool false)), uf := fun i => intV ((V3 i).getD 2 (.bool false)), us := fun i => intV ((V3 i).getD 3 (.bool false)), uw := fun i => intV ((V3 i).getD 4 (.bool false)) },
    a0, a1, a2, a3, c0, c1, c2, c3, rfl, ⟨?_, ?_, ?_, ?_, ?_, ?_, ?_, ?_, ?_, ?_, ?_, ?_⟩, l2, l3⟩
  · exact R0.congr fun i hi => list2 (F0 i hi).1 (field_str S ((F0 i hi).2 0 _ rfl)).1 (field_int I ((F0 i hi).2 1 _ rfl))
  · exact R1.congr fun i hi => list2 (F1 i hi).1 (field_str S ((F1 i hi).2 0 _ rfl)).1 (field_str S ((F1 i hi).2 1 _ rfl)).1
  · exact R2.congr fun i hi => list4 (F2 i hi).1 (field_str S ((F2 i hi).2 0 _ rfl)).1 (field_str S ((F2 i hi).2 1 _ rfl)).1 (field_int I ((F2 i hi).2 2 _ rfl)) (field_int I ((F2 i hi).2 3 _ rfl))
  · exact R3.congr fun i hi => list5 (F3 i hi).1 (field_str S ((F3 i hi).2 0 _ rfl)).1 (field_str S ((F3 i hi).2 1 _ rfl)).1 (field_int I ((F3 i hi).2 2 _ rfl)) (field_int I ((F3 i hi).2 3 _ rfl)) (field_int I ((F3 i hi).2 4 _ rfl))
  · exact fun i hi => (field_str S ((F0 i hi).2 0 _ rfl)).2
  · exact fun i hi => ⟨(field_str S ((F1 i hi).2 0 _ rfl)).2, (field_str S ((F1 i hi).2 1 _ rfl)).2⟩
  · exact fun i hi => ⟨(field_str S ((F2 i hi).2 0 _ rfl)).2, (field_str S ((F2 i hi).2 1 _ rfl)).2⟩
  · exact fun i hi => ⟨(field_str S ((F3 i hi).2 0 _ rfl)).2, (field_str S ((F3 i hi).2 1 _ rfl)).2⟩
  · show ((n0 : Nat) : Int) ≤ _; omega
  · show ((n1 : Nat) : Int) ≤ _; omega
  · show ((n2 : Nat) : Int) ≤ _; omega
  · show ((n3 : Nat) : Int) ≤ _; omega
end Go.Proofs.Ytbkpoepacjinlaa

/- A use that came in by value: how it reads. -/
namespace Go.Proofs.Ytbkpoepacjinlaa
open Go.Joins Go.ChangeShapes Go.WideShapes Go.ChangeAt Go.RowKit Go.ChangeMaps Go.Deep

theorem readUse : Try.prog.readableRec 38 = true := by kernel_rfl
theorem rowUse : 38 < Try.prog.types.size := of_decide_eq_true (by kernel_rfl)
set_option maxRecDepth 100000 in
theorem open_use {H : Type} {enc : TypeId × Value → H} {W : World} {r : Reach} {b0 base : Nat} {v : Value} {d : DataW H} {p : List MemPlace}
    (hv : Value.okWide Try.prog W r b0 38 v) (h : DataW.Trod enc Try.prog W base (fun _ => true) true 38 v d p) :
    ∃ u : Us, v = useV u.n u.r u.f u.s u.x ∧ u.n.size ≤ maxLen ∧ u.r.size ≤ maxLen := by
  have hs := Try.underlying38
  obtain ⟨cs, rfl, hsz⟩ := okWide_struct hs hv
  have h5 : cs.size = 5 := hsz.trans (by kernel_rfl)
  obtain ⟨c0, c1, c2, c3, c4, rfl⟩ : ∃ c0 c1 c2 c3 c4, cs = #[c0, c1, c2, c3, c4] := by
    obtain ⟨l⟩ := cs
    match l, h5 with
    | [c0, c1, c2, c3, c4], _ => exact ⟨c0, c1, c2, c3, c4, rfl⟩
  obtain ⟨fuel, hf⟩ := h
  obtain ⟨xs, n, _, _, _, hlen, hg⟩ := DataW.trod_struct hs hf
  have hlen5 : xs.length = 5 := hlen
  have fld : ∀ (j : Nat) (f : Field), (_ : Array Field)[j]? = some f → ∃ y, DataW.trod enc Try.prog W base (fun _ => true) true n f.type ((([c0, c1, c2, c3, c4] : List Value).drop j).take 1) = some y := fun j f hj => by
    obtain ⟨o, k⟩ := hone_of (P := Try.prog) (by kernel_rfl) j f hj
    have h1 := hg j f hj
    rw [o, k] at h1
    have hlt : j < 5 := (Array.getElem?_eq_some_iff.1 hj).1
    rw [List.getElem?_eq_getElem (by omega)] at h1
    exact ⟨_, h1⟩
  obtain ⟨y0, h0⟩ := fld 0 _ rfl
  obtain ⟨y1, h1⟩ := fld 1 _ rfl
  obtain ⟨y2, h2⟩ := fld 2 _ rfl
  obtain ⟨y3, h3⟩ := fld 3 _ rfl
  obtain ⟨y4, h4⟩ := fld 4 _ rfl
  obtain ⟨s0, e0, _, z0⟩ := DataW.trod_string Try.underlying9 h0
  obtain ⟨s1, e1, _, z1⟩ := DataW.trod_string Try.underlying9 h1
  obtain ⟨i2, e2, _, _⟩ := DataW.trod_int Try.underlying3 h2
  obtain ⟨i3, e3, _, _⟩ := DataW.trod_int Try.underlying3 h3
  obtain ⟨i4, e4, _, _⟩ := DataW.trod_int Try.underlying3 h4
  simp only [List.drop_zero, List.drop_succ_cons, List.take_succ_cons, List.take_zero, List.cons.injEq, and_true] at e0 e1 e2 e3 e4
  subst e0
  subst e1
  subst e2
  subst e3
  subst e4
  exact ⟨⟨s0, s1, i2, i3, i4⟩, rfl, z0, z1⟩
end Go.Proofs.Ytbkpoepacjinlaa
