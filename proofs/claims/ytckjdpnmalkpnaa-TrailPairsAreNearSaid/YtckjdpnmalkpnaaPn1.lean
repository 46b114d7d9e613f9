/- Several texts of this claim in one. -/
import Derived.Test.YtckjdpnmalkpnaaPm1
import Derived.Maps.OwnSet
import Derived.Maps.OwnOps
/- A map of marks; what the pairs tell, plain. -/
namespace Go.Proofs.Ytckjdpnmalkpnaa
open Go.RowKit Go.BigFrame Go.ChangeMaps Go.WideMaps
open Tr (inR)
open Ft (Mt)

def boolR : Value → Option (DataW Unit × List MemPlace)
  | .bool x => some (.lit (.bool x), [])
  | _ => none
theorem boolR_inv : ∀ v x ps, boolR v = some (.lit (.bool x), ps) → v = .bool x := by
  intro v x ps h
  cases v <;> simp [boolR] at h
  rw [h.1]
/-- block b is a map that marks the numbers of f -/
structure IMap (w : World) (b n : Nat) (f : Nat → Bool) : Prop where
  ex : ∃ D, w.ownsMap Try.prog 3 boolR b n D ∧ ∀ j : Nat, j ≤ 1000 → D.atKey (.int .i64 (j : Nat)) (.lit (.bool false)) = .lit (.bool (f j))
theorem small_wf {j : Nat} (h : j ≤ 1000) : (Lit.int .i64 (j : Nat)).wf = true := by
  have h1 : IntKind.i64.min = -9223372036854775808 := by decide
  have h2 : IntKind.i64.max = 9223372036854775807 := by decide
  simp [Lit.wf, h1, h2]
  omega
theorem IMap.made (w : World) : IMap (w.alloc (.map #[] 0)) w.heap.size 0 (fun _ => false) :=
  ⟨.map [], World.ownsMap_made _ _ _ _, fun _ _ => rfl⟩
theorem IMap.lt {w : World} {b n : Nat} {f : Nat → Bool} (h : IMap w b n f) : b < w.heap.size := by
  obtain ⟨D, h1, _⟩ := h.ex
  exact h1.lt
theorem IMap.below {w w' : World} {b n : Nat} {f : Nat → Bool} (h : IMap w b n f) (hb : Below w.heap.size w w') : IMap w' b n f := by
  obtain ⟨D, h1, h2⟩ := h.ex
  exact ⟨D, h1.kept (row := none) ⟨hb.os, hb.tape, hb.output, hb.size, fun k hk _ => hb.block k hk⟩ (by simp), h2⟩
theorem IMap.look {w : World} {b n : Nat} {f : Nat → Bool} (h : IMap w b n f) {j : Nat} (hj : j ≤ 1000) : (Instr.lookup 50 (.map (some b)) (.int .i64 (j : Nat)) false).run Try.prog w = .ok (.bool (f j)) w := by
  obtain ⟨D, h1, h2⟩ := h.ex
  obtain ⟨v, ps, hrun, hv⟩ := h1.lookup (Maps.int_keyed Try.underlying3) Try.underlying50 (z := .bool false) (by go_simp) (zd := .lit (.bool false)) rfl (Maps.keyOf_int_mk Try.underlying3 (small_wf hj))
  rw [h2 j hj] at hv
  rw [boolR_inv _ _ _ hv] at hrun
  exact hrun
theorem IMap.put {w : World} {b n : Nat} {f : Nat → Bool} (h : IMap w b n f) {j : Nat} (hj : j ≤ 1000) (hn : n < 1000) : ∃ w', (Instr.mapUpdate 50 (.map (some b)) (.int .i64 (j : Nat)) (.bool true)).run Try.prog w = .ok () w' ∧ IMap w' b (n + 1) (fun i => decide (i = j) || f i) ∧ w.grownBy w' (some b) := by
  obtain ⟨D, h1, h2⟩ := h.ex
  obtain ⟨w', r1, r2, r3⟩ := h1.update (Maps.int_keyed Try.underlying3) Try.underlying50 (by unfold maxLen; omega) (val := .bool true) (d := .lit (.bool true)) (ps := []) (Maps.keyOf_int_mk Try.underlying3 (small_wf hj)) rfl
  refine ⟨w', r1, ⟨_, r2, fun i hi => ?_⟩, r3⟩
  by_cases e : i = j
  · subst e
    rw [decide_eq_true rfl, Bool.true_or]
    exact Maps.atKey_put_same h1.isMap ((Maps.int_keyed Try.underlying3).key (Maps.keyOf_int_mk Try.underlying3 (small_wf hi))) _ _
  · rw [decide_eq_false e, Bool.false_or, Maps.atKey_put_other (fun h => by injection h with _ h; exact e (by omega))]
    exact h2 i hi
/-- the marks of the first k pairs -/
def tkF (out : List (Nat × Nat)) (k : Nat) (j : Nat) : Bool := (out.take k).any fun p => decide (p.1 = j) || decide (p.2 = j)
theorem tkF_succ {out : List (Nat × Nat)} {k : Nat} {p : Nat × Nat} (h : out[k]? = some p) : (fun j => decide (j = p.2) || (decide (j = p.1) || tkF out k j)) = tkF out (k + 1) := by
  funext j
  obtain ⟨h1, e1⟩ := List.getElem?_eq_some_iff.1 h
  unfold tkF
  rw [List.take_succ_eq_append_getElem h1, e1, List.any_append]
  simp only [List.any_cons, List.any_nil, Bool.or_false]
  rw [show decide (p.1 = j) = decide (j = p.1) by simp [eq_comm], show decide (p.2 = j) = decide (j = p.2) by simp [eq_comm]]
  cases decide (j = p.2) <;> cases decide (j = p.1) <;> simp
theorem tkF_fresh {out : List (Nat × Nat)} {k : Nat} {p : Nat × Nat} (h : out[k]? = some p) (ha : out.Pairwise fun p q => p.1 ≠ q.1 ∧ p.1 ≠ q.2 ∧ p.2 ≠ q.1 ∧ p.2 ≠ q.2) : tkF out k p.1 = false ∧ tkF out k p.2 = false := by
  obtain ⟨h1, e1⟩ := List.getElem?_eq_some_iff.1 h
  have key : ∀ q, q ∈ out.take k → q.1 ≠ p.1 ∧ q.1 ≠ p.2 ∧ q.2 ≠ p.1 ∧ q.2 ≠ p.2 := fun q hq => by
    obtain ⟨i, hi, e⟩ := List.mem_take_iff_getElem.1 hq
    have := List.pairwise_iff_getElem.1 ha i k (by omega) h1 (by omega)
    rw [e, e1] at this
    exact this
  unfold tkF
  constructor
  · rw [List.any_eq_false]
    intro q hq
    obtain ⟨a, b, c, d⟩ := key q hq
    simp [a, c]
  · rw [List.any_eq_false]
    intro q hq
    obtain ⟨a, b, c, d⟩ := key q hq
    simp [b, d]
theorem tkF_all {S N : Nat → Nat → Bool} {n : Nat} {done : Nat → Nat → Prop} {s : PSt} (h : PInv S N n done s) (j : Nat) : tkF s.out s.out.length j = s.tk j := by
  unfold tkF
  rw [List.take_length, Bool.eq_iff_iff, List.any_eq_true, h.tk j]
  simp
theorem fitE_of {A B : Acv} {most least : Int} (h1 : chkA A = 0) (h2 : chkA B = 0) (h3 : A.sm.length ≤ 400) (h4 : B.sm.length ≤ 400) (h5 : bndE most least = 0) : fitE A B most least = 0 ∧ fitO A B most least = Ft.fitM (shiftedF A B) most least := by
  have h : fitE A B most least = 0 := by
    unfold fitE
    rw [if_neg (fun g => g h1), if_neg (fun g => g h2), if_neg (by omega), h5]
  refine ⟨h, ?_⟩
  unfold fitO
  rw [if_pos h]
theorem pairE_parts {L : List Ab} {most least apart : Int} (h : pairE L most least apart = 0) : L.length ≤ 30 ∧ (∀ i, i < L.length → errP L i = 0) ∧ bndE most least = 0 ∧ 0 ≤ apart ∧ apart ≤ 10000 := by
  unfold pairE at h
  split at h
  · cases h
  · rename_i h1
    split at h
    · rename_i h2
      exact absurd h h2
    · rename_i h2
      have h2 : chkP L = 0 := by simpa using h2
      refine ⟨by omega, fun i hi => firstE_zero.1 h2 i (Nat.zero_le _) (by omega), ?_⟩
      unfold bndP at h
      split at h
      · rename_i h3
        exact absurd h h3
      · rename_i h3
        refine ⟨by simpa using h3, ?_⟩
        split at h
        · rename_i h4
          exact inR_iff.1 h4
        · cases h
end Go.Proofs.Ytckjdpnmalkpnaa

/- TrailPairsAreNear: its closure. (printed by wip/t/gen_tgj.py) -/
namespace Go.Proofs.Ytckjdpnmalkpnaa
open Go.RowKit Go.BigFrame
open Tr (inR)
open Ft (Mt)

set_option maxHeartbeats 16000000 in
set_option maxRecDepth 100000 in
theorem near_any (L : List Ab) (la : Option Addr) (lc : Nat) (most least apart : Int) (i k : Nat) (hi : i < L.length) (hk : k < L.length) (h0 : pairE L most least apart = 0) (p0 p1 p2 p3 : Nat) (w : World) (hL : LIn w la L)
    (c0 : w.cell? ⟨p0, 0, none⟩ = some (.slice la L.length lc)) (c1 : w.cell? ⟨p1, 0, none⟩ = some (.int .i64 most)) (c2 : w.cell? ⟨p2, 0, none⟩ = some (.int .i64 least)) (c3 : w.cell? ⟨p3, 0, none⟩ = some (.int .i64 apart)) :
    Calls Try.prog 17 #[.int .i64 (i : Nat), .int .i64 (k : Nat), .pointer (some ⟨p0, 0, none⟩), .pointer (some ⟨p1, 0, none⟩), .pointer (some ⟨p2, 0, none⟩), .pointer (some ⟨p3, 0, none⟩)] w fun e w' => e = .returned (.bool (oneS L i k && nearP L most least apart i k)) ∧ Below w.heap.size w w' := by
  have HI := mtSize
  obtain ⟨hn30, hall, hbd, ha0, ha1⟩ := pairE_parts h0
  obtain ⟨⟨hm0, hm1⟩, hl0, hl1⟩ := bndE_zero hbd
  obtain ⟨x, hx⟩ : ∃ x, L[i]? = some x := ⟨_, List.getElem?_eq_getElem hi⟩
  obtain ⟨y, hy⟩ : ∃ y, L[k]? = some y := ⟨_, List.getElem?_eq_getElem hk⟩
  obtain ⟨hcx, hsx⟩ := errP_ok hx (hall i hi)
  obtain ⟨hcy, hsy⟩ := errP_ok hy (hall k hk)
  obtain ⟨hfe, hfo⟩ := fitE_of hcx hcy hsx hsy hbd
  have HXA := hL.each x (List.mem_of_getElem? hx)
  have HYA := hL.each y (List.mem_of_getElem? hy)
  have DF := fun (W : World) (hb : Below w.heap.size w W) => Fit_any x.A y.A x.a x.b x.c y.a y.b y.c x.ca x.cb x.cc y.ca y.cb y.cc most least W (HXA.below hb) (HYA.below hb)
  have HMO := Lib.hid (fun (m : Mt) h => fit_ok (A := x.A) (errP_fit hy hall) hm0 hm1 hl0 (m := m) h)
  have HS1 := oneS_at hx hy
  have HN1 := nearP_at (most := most) (least := least) (apart := apart) hx hy
  unfold FitRet at DF
  simp only [hfe, hfo] at DF
  obtain ⟨F, hF⟩ : ∃ F, Ft.fitM (shiftedF x.A y.A) most least = F := ⟨_, rfl⟩
  simp only [hF] at DF
  rw [hF] at HN1 HMO
  unfold actV at DF
  rw [HS1, HN1]
  obtain ⟨ba, oa, rfl, hba, hc⟩ := hL.row.at hx
  have P0 := Ext.ex (show w.cell? ⟨ba, oa + i * 6, none⟩ = some (.string x.A.name) from hc 0 _ rfl)
  have P1 := Ext.ex (show w.cell? ⟨ba, oa + i * 6 + 1, none⟩ = some (.int .i64 x.A.sport) from hc 1 _ rfl)
  have P2 := Ext.ex (show w.cell? ⟨ba, oa + i * 6 + 2, none⟩ = some (.int .i64 x.A.start) from hc 2 _ rfl)
  have P3 := Ext.ex (show w.cell? ⟨ba, oa + i * 6 + 3, none⟩ = some (.slice x.a x.A.sm.length x.ca) from hc 3 _ rfl)
  have P4 := Ext.ex (show w.cell? ⟨ba, oa + i * 6 + 4, none⟩ = some (.slice x.b x.A.lp.length x.cb) from hc 4 _ rfl)
  have P5 := Ext.ex (show w.cell? ⟨ba, oa + i * 6 + 5, none⟩ = some (.slice x.c x.A.tg.length x.cc) from hc 5 _ rfl)
  have D0 := Ext.ex (show w.cell? ⟨ba, oa + k * 6, none⟩ = some (.string y.A.name) from hL.row.on hy 0 _ rfl)
  have D1 := Ext.ex (show w.cell? ⟨ba, oa + k * 6 + 1, none⟩ = some (.int .i64 y.A.sport) from hL.row.on hy 1 _ rfl)
  have D2 := Ext.ex (show w.cell? ⟨ba, oa + k * 6 + 2, none⟩ = some (.int .i64 y.A.start) from hL.row.on hy 2 _ rfl)
  have D3 := Ext.ex (show w.cell? ⟨ba, oa + k * 6 + 3, none⟩ = some (.slice y.a y.A.sm.length y.ca) from hL.row.on hy 3 _ rfl)
  have D4 := Ext.ex (show w.cell? ⟨ba, oa + k * 6 + 4, none⟩ = some (.slice y.b y.A.lp.length y.cb) from hL.row.on hy 4 _ rfl)
  have D5 := Ext.ex (show w.cell? ⟨ba, oa + k * 6 + 5, none⟩ = some (.slice y.c y.A.tg.length y.cc) from hL.row.on hy 5 _ rfl)
  have C0 := Ext.ex c0
  have C1 := Ext.ex c1
  have C2 := Ext.ex c2
  have C3 := Ext.ex c3
  generalize L.length = n at *
  clear hc hx hy hcx hcy hsx hsy hfe hfo HXA HYA HS1 HN1 hF c0 c1 c2 c3 hL hall hbd h0 hba
  cases F
  case none =>
    have HV := Lib.hid (show (decide (x.A.sport = y.A.sport) && nearM apart none) = false from by simp [nearM])
    clear HMO
    obtain ⟨m, hm⟩ : ∃ m, mt0 = m := ⟨_, rfl⟩
    simp only [Option.getD_none, Option.isSome_none, hm] at DF
    clear hm
    unfold mtV at DF
    replace DF := Lib.hid (fun (Z : Ext w) => DF Z.1 Z.2)
    rw [HV.out]
    go_enter Try.func17, Try.ntmps17
    go_upto_region 1 with (fail)
    refine held_start (C := fun w' => ∃ Z : Ext w, w' = Z.1) (by kernel_rfl) ?_
    obtain ⟨Z0, hZ0⟩ : ∃ Z : Ext w, ({ w with drawn := w.drawn + 1 } : World) = Z.1 := ⟨⟨{ w with drawn := w.drawn + 1 }, ⟨rfl, rfl, rfl, Nat.le_refl _, fun _ _ => rfl⟩⟩, rfl⟩
    rw [hZ0]
    clear hZ0
    refine held_quiet (by kernel_rfl) (fun _ _ d _ _ h => by cases d <;> exact h) ⟨Z0, rfl⟩ [0, 1, 2, 3, 4, 5, 6, 7, 8, 9] 9 _ _ (by kernel_rfl) ?_
    change wpQuiet _ _ _ _ (_ :: _ :: _ :: _ :: _ :: _ :: _ :: _ :: _ :: _ :: []) _
    repeat go_big_quiet_step (fail)
    refine wpQuiet_nil ?_
    refine held_two (i := 10) (j := 15) _ _ rfl rfl (by kernel_rfl) rfl rfl (fun K hK => ?_) (fun K hK => ?_)
    · skip
      go_simp
      refine (DF.out Z0).mono ?_
      rintro e w1 ⟨rfl, hb⟩
      obtain ⟨Z1, hZn⟩ : ∃ Z : Ext w, w1 = Z.1 := ⟨⟨w1, below_step Z0.2 hb⟩, rfl⟩
      subst hZn
      refine hK _ _ ⟨Z1, rfl⟩ ?_
      clear hK K hb
      try simp only [Act.put, List.setIfInBounds_toArray, List.set_cons_zero, List.set_cons_succ]
      refine held_quiet (by kernel_rfl) (fun _ _ d _ _ h => by cases d <;> exact h) ⟨Z1, rfl⟩ [11, 12, 13, 14] 4 _ _ (by kernel_rfl) ?_
      change wpQuiet _ _ _ _ (_ :: _ :: _ :: _ :: []) _
      repeat go_big_quiet_step (fail)
      refine wpQuiet_nil ?_
      refine held_do (i := 15) _ rfl (by kernel_rfl) rfl (fun K hK => ?_)
      go_simp
      obtain ⟨Z2, T, hT, hXT, hZn, hTB, hZb⟩ := mt_new Z1
      have HT1 := Lib.hid hTB
      have HXT := Lib.hid hXT
      rw [hZn, hT]
      refine hK _ _ ⟨Z2, rfl⟩ ?_
      clear hK K hT hXT hZn hTB hZb
      try simp only [Act.put, List.setIfInBounds_toArray, List.set_cons_zero, List.set_cons_succ]
      obtain ⟨r0, r1, r2⟩ := HT1.out.cell
      have f0 := HT1.out.free 0
      have f1 := HT1.out.free 1
      have f2 := HT1.out.free 2
      obtain ⟨Z3, hZ3, hT3⟩ := mt_put Z2 HT1.out HXT.out m
      obtain ⟨g0, g1, g2⟩ := hT3.cell
      have G0 := Ext.ex g0
      have G1 := Ext.ex g1
      have G2 := Ext.ex g2
      refine held_do (i := 16) _ rfl (by kernel_rfl) rfl (fun K hK => ?_)
      unfold mt0 at r0 r1 r2
      try simp only at r0 r1 r2
      go_simp
      try rw [hZ3]
      refine hK _ _ ⟨Z3, rfl⟩ ?_
      clear hK K r0 r1 r2 f0 f1 f2 hZ3 HT1 g0 g1 g2
      try simp only [Act.put, List.setIfInBounds_toArray, List.set_cons_zero, List.set_cons_succ]
      refine held_quiet (by kernel_rfl) (fun _ _ d _ _ h => by cases d <;> exact h) ⟨Z3, rfl⟩ [17, 18] 0 _ _ (by kernel_rfl) ?_
      change wpQuiet _ _ _ _ (_ :: _ :: []) _
      repeat go_big_quiet_step (fail)
      refine wpQuiet_nil ?_
      refine wpAnyH_done (by kernel_rfl) ?_ _
      have P1' := Ext.re Z3.2 P1
      have D1' := Ext.re Z3.2 D1
      have C0' := Ext.re Z3.2 C0
      have C3' := Ext.re Z3.2 C3
      go_wp2_with fail
      refine wp_region_ext (W := Z3.1) ⟨Z3.1, Below.refl _ _⟩ (by kernel_rfl) (by kernel_rfl) ?_
      repeat go_big_quiet_step (fail)
      refine wpQuiet_nil ?_
      rintro _ ⟨Y, rfl⟩
      go_wp2_with fail
      go_ret
      exact ⟨rfl, below_step Z3.2 Y.2⟩
    · skip
      go_simp
      obtain ⟨Z1, T, hT, hXT, hZn, hTB, hZb⟩ := mt_new Z0
      have HT1 := Lib.hid hTB
      have HXT := Lib.hid hXT
      rw [hZn, hT]
      refine hK _ _ ⟨Z1, rfl⟩ ?_
      clear hK K hT hXT hZn hTB hZb
      try simp only [Act.put, List.setIfInBounds_toArray, List.set_cons_zero, List.set_cons_succ]
      refine held_do (i := 10) _ rfl (by kernel_rfl) rfl (fun K hK => ?_)
      go_simp
      refine (DF.out Z1).mono ?_
      rintro e w1 ⟨rfl, hb⟩
      obtain ⟨Z2, hZn⟩ : ∃ Z : Ext w, w1 = Z.1 := ⟨⟨w1, below_step Z1.2 hb⟩, rfl⟩
      have HT1 : Hid (MtB w1 T mt0) := Lib.hid (HT1.out.below hb)
      rw [hZn] at HT1
      subst hZn
      refine hK _ _ ⟨Z2, rfl⟩ ?_
      clear hK K hb
      try simp only [Act.put, List.setIfInBounds_toArray, List.set_cons_zero, List.set_cons_succ]
      refine held_quiet (by kernel_rfl) (fun _ _ d _ _ h => by cases d <;> exact h) ⟨Z2, rfl⟩ [11, 12, 13, 14] 3 _ _ (by kernel_rfl) ?_
      change wpQuiet _ _ _ _ (_ :: _ :: _ :: _ :: []) _
      repeat go_big_quiet_step (fail)
      refine wpQuiet_nil ?_
      obtain ⟨r0, r1, r2⟩ := HT1.out.cell
      have f0 := HT1.out.free 0
      have f1 := HT1.out.free 1
      have f2 := HT1.out.free 2
      obtain ⟨Z3, hZ3, hT3⟩ := mt_put Z2 HT1.out HXT.out m
      obtain ⟨g0, g1, g2⟩ := hT3.cell
      have G0 := Ext.ex g0
      have G1 := Ext.ex g1
      have G2 := Ext.ex g2
      refine held_do (i := 16) _ rfl (by kernel_rfl) rfl (fun K hK => ?_)
      unfold mt0 at r0 r1 r2
      try simp only at r0 r1 r2
      go_simp
      try rw [hZ3]
      refine hK _ _ ⟨Z3, rfl⟩ ?_
      clear hK K r0 r1 r2 f0 f1 f2 hZ3 HT1 g0 g1 g2
      try simp only [Act.put, List.setIfInBounds_toArray, List.set_cons_zero, List.set_cons_succ]
      refine held_quiet (by kernel_rfl) (fun _ _ d _ _ h => by cases d <;> exact h) ⟨Z3, rfl⟩ [17, 18] 0 _ _ (by kernel_rfl) ?_
      change wpQuiet _ _ _ _ (_ :: _ :: []) _
      repeat go_big_quiet_step (fail)
      refine wpQuiet_nil ?_
      refine wpAnyH_done (by kernel_rfl) ?_ _
      have P1' := Ext.re Z3.2 P1
      have D1' := Ext.re Z3.2 D1
      have C0' := Ext.re Z3.2 C0
      have C3' := Ext.re Z3.2 C3
      go_wp2_with fail
      refine wp_region_ext (W := Z3.1) ⟨Z3.1, Below.refl _ _⟩ (by kernel_rfl) (by kernel_rfl) ?_
      repeat go_big_quiet_step (fail)
      refine wpQuiet_nil ?_
      rintro _ ⟨Y, rfl⟩
      go_wp2_with fail
      go_ret
      exact ⟨rfl, below_step Z3.2 Y.2⟩
  case some m =>
    obtain ⟨⟨hp0, hp1⟩, hp2, hp3⟩ := near_mul (HMO.out m rfl) ha0 ha1
    have w1 := wrap_in (x := m.many * apart) (by omega) (by omega)
    have w2 := wrap_in (x := m.many * apart * apart) (by omega) (by omega)
    simp only [Option.getD_some, Option.isSome_some] at DF
    unfold mtV at DF
    replace DF := Lib.hid (fun (Z : Ext w) => DF Z.1 Z.2)
    clear HMO
    by_cases hsp : x.A.sport = y.A.sport
    case neg =>
      have b0 := beqF hsp
      have HV := Lib.hid (show (decide (x.A.sport = y.A.sport) && nearM apart (some m)) = false from by simp [hsp])
      rw [HV.out]
      clear hsp
      go_enter Try.func17, Try.ntmps17
      go_upto_region 1 with (fail)
      refine held_start (C := fun w' => ∃ Z : Ext w, w' = Z.1) (by kernel_rfl) ?_
      obtain ⟨Z0, hZ0⟩ : ∃ Z : Ext w, ({ w with drawn := w.drawn + 1 } : World) = Z.1 := ⟨⟨{ w with drawn := w.drawn + 1 }, ⟨rfl, rfl, rfl, Nat.le_refl _, fun _ _ => rfl⟩⟩, rfl⟩
      rw [hZ0]
      clear hZ0
      refine held_quiet (by kernel_rfl) (fun _ _ d _ _ h => by cases d <;> exact h) ⟨Z0, rfl⟩ [0, 1, 2, 3, 4, 5, 6, 7, 8, 9] 9 _ _ (by kernel_rfl) ?_
      change wpQuiet _ _ _ _ (_ :: _ :: _ :: _ :: _ :: _ :: _ :: _ :: _ :: _ :: []) _
      repeat go_big_quiet_step (fail)
      refine wpQuiet_nil ?_
      refine held_two (i := 10) (j := 15) _ _ rfl rfl (by kernel_rfl) rfl rfl (fun K hK => ?_) (fun K hK => ?_)
      · skip
        go_simp
        refine (DF.out Z0).mono ?_
        rintro e w1 ⟨rfl, hb⟩
        obtain ⟨Z1, hZn⟩ : ∃ Z : Ext w, w1 = Z.1 := ⟨⟨w1, below_step Z0.2 hb⟩, rfl⟩
        subst hZn
        refine hK _ _ ⟨Z1, rfl⟩ ?_
        clear hK K hb
        try simp only [Act.put, List.setIfInBounds_toArray, List.set_cons_zero, List.set_cons_succ]
        refine held_quiet (by kernel_rfl) (fun _ _ d _ _ h => by cases d <;> exact h) ⟨Z1, rfl⟩ [11, 12, 13, 14] 4 _ _ (by kernel_rfl) ?_
        change wpQuiet _ _ _ _ (_ :: _ :: _ :: _ :: []) _
        repeat go_big_quiet_step (fail)
        refine wpQuiet_nil ?_
        refine held_do (i := 15) _ rfl (by kernel_rfl) rfl (fun K hK => ?_)
        go_simp
        obtain ⟨Z2, T, hT, hXT, hZn, hTB, hZb⟩ := mt_new Z1
        have HT1 := Lib.hid hTB
        have HXT := Lib.hid hXT
        rw [hZn, hT]
        refine hK _ _ ⟨Z2, rfl⟩ ?_
        clear hK K hT hXT hZn hTB hZb
        try simp only [Act.put, List.setIfInBounds_toArray, List.set_cons_zero, List.set_cons_succ]
        obtain ⟨r0, r1, r2⟩ := HT1.out.cell
        have f0 := HT1.out.free 0
        have f1 := HT1.out.free 1
        have f2 := HT1.out.free 2
        obtain ⟨Z3, hZ3, hT3⟩ := mt_put Z2 HT1.out HXT.out m
        obtain ⟨g0, g1, g2⟩ := hT3.cell
        have G0 := Ext.ex g0
        have G1 := Ext.ex g1
        have G2 := Ext.ex g2
        refine held_do (i := 16) _ rfl (by kernel_rfl) rfl (fun K hK => ?_)
        unfold mt0 at r0 r1 r2
        try simp only at r0 r1 r2
        go_simp
        try rw [hZ3]
        refine hK _ _ ⟨Z3, rfl⟩ ?_
        clear hK K r0 r1 r2 f0 f1 f2 hZ3 HT1 g0 g1 g2
        try simp only [Act.put, List.setIfInBounds_toArray, List.set_cons_zero, List.set_cons_succ]
        refine held_quiet (by kernel_rfl) (fun _ _ d _ _ h => by cases d <;> exact h) ⟨Z3, rfl⟩ [17, 18] 0 _ _ (by kernel_rfl) ?_
        change wpQuiet _ _ _ _ (_ :: _ :: []) _
        repeat go_big_quiet_step (fail)
        refine wpQuiet_nil ?_
        refine wpAnyH_done (by kernel_rfl) ?_ _
        have P1' := Ext.re Z3.2 P1
        have D1' := Ext.re Z3.2 D1
        have C0' := Ext.re Z3.2 C0
        have C3' := Ext.re Z3.2 C3
        go_wp2_with fail
        refine wp_region_ext (W := Z3.1) ⟨Z3.1, Below.refl _ _⟩ (by kernel_rfl) (by kernel_rfl) ?_
        repeat go_big_quiet_step (fail)
        refine wpQuiet_nil ?_
        rintro _ ⟨Y, rfl⟩
        go_wp2_with fail
        go_ret
        exact ⟨rfl, below_step Z3.2 Y.2⟩
      · skip
        go_simp
        obtain ⟨Z1, T, hT, hXT, hZn, hTB, hZb⟩ := mt_new Z0
        have HT1 := Lib.hid hTB
        have HXT := Lib.hid hXT
        rw [hZn, hT]
        refine hK _ _ ⟨Z1, rfl⟩ ?_
        clear hK K hT hXT hZn hTB hZb
        try simp only [Act.put, List.setIfInBounds_toArray, List.set_cons_zero, List.set_cons_succ]
        refine held_do (i := 10) _ rfl (by kernel_rfl) rfl (fun K hK => ?_)
        go_simp
        refine (DF.out Z1).mono ?_
        rintro e w1 ⟨rfl, hb⟩
        obtain ⟨Z2, hZn⟩ : ∃ Z : Ext w, w1 = Z.1 := ⟨⟨w1, below_step Z1.2 hb⟩, rfl⟩
        have HT1 : Hid (MtB w1 T mt0) := Lib.hid (HT1.out.below hb)
        rw [hZn] at HT1
        subst hZn
        refine hK _ _ ⟨Z2, rfl⟩ ?_
        clear hK K hb
        try simp only [Act.put, List.setIfInBounds_toArray, List.set_cons_zero, List.set_cons_succ]
        refine held_quiet (by kernel_rfl) (fun _ _ d _ _ h => by cases d <;> exact h) ⟨Z2, rfl⟩ [11, 12, 13, 14] 3 _ _ (by kernel_rfl) ?_
        change wpQuiet _ _ _ _ (_ :: _ :: _ :: _ :: []) _
        repeat go_big_quiet_step (fail)
        refine wpQuiet_nil ?_
        obtain ⟨r0, r1, r2⟩ := HT1.out.cell
        have f0 := HT1.out.free 0
        have f1 := HT1.out.free 1
        have f2 := HT1.out.free 2
        obtain ⟨Z3, hZ3, hT3⟩ := mt_put Z2 HT1.out HXT.out m
        obtain ⟨g0, g1, g2⟩ := hT3.cell
        have G0 := Ext.ex g0
        have G1 := Ext.ex g1
        have G2 := Ext.ex g2
        refine held_do (i := 16) _ rfl (by kernel_rfl) rfl (fun K hK => ?_)
        unfold mt0 at r0 r1 r2
        try simp only at r0 r1 r2
        go_simp
        try rw [hZ3]
        refine hK _ _ ⟨Z3, rfl⟩ ?_
        clear hK K r0 r1 r2 f0 f1 f2 hZ3 HT1 g0 g1 g2
        try simp only [Act.put, List.setIfInBounds_toArray, List.set_cons_zero, List.set_cons_succ]
        refine held_quiet (by kernel_rfl) (fun _ _ d _ _ h => by cases d <;> exact h) ⟨Z3, rfl⟩ [17, 18] 0 _ _ (by kernel_rfl) ?_
        change wpQuiet _ _ _ _ (_ :: _ :: []) _
        repeat go_big_quiet_step (fail)
        refine wpQuiet_nil ?_
        refine wpAnyH_done (by kernel_rfl) ?_ _
        have P1' := Ext.re Z3.2 P1
        have D1' := Ext.re Z3.2 D1
        have C0' := Ext.re Z3.2 C0
        have C3' := Ext.re Z3.2 C3
        go_wp2_with fail
        refine wp_region_ext (W := Z3.1) ⟨Z3.1, Below.refl _ _⟩ (by kernel_rfl) (by kernel_rfl) ?_
        repeat go_big_quiet_step (fail)
        refine wpQuiet_nil ?_
        rintro _ ⟨Y, rfl⟩
        go_wp2_with fail
        go_ret
        exact ⟨rfl, below_step Z3.2 Y.2⟩
    have b0 := beqT hsp
    have HV := Lib.hid (show (decide (x.A.sport = y.A.sport) && nearM apart (some m)) = decide (m.sum ≤ m.many * apart * apart) from by rw [decide_eq_true hsp, Bool.true_and]; rfl)
    rw [HV.out]
    clear hsp HV
    by_cases hnr : m.sum ≤ m.many * apart * apart
    case neg =>
      have d0 : decide (m.sum ≤ m.many * apart * apart) = false := decide_eq_false hnr
      rw [d0]
      clear hnr
      go_enter Try.func17, Try.ntmps17
      go_upto_region 1 with (fail)
      refine held_start (C := fun w' => ∃ Z : Ext w, w' = Z.1) (by kernel_rfl) ?_
      obtain ⟨Z0, hZ0⟩ : ∃ Z : Ext w, ({ w with drawn := w.drawn + 1 } : World) = Z.1 := ⟨⟨{ w with drawn := w.drawn + 1 }, ⟨rfl, rfl, rfl, Nat.le_refl _, fun _ _ => rfl⟩⟩, rfl⟩
      rw [hZ0]
      clear hZ0
      refine held_quiet (by kernel_rfl) (fun _ _ d _ _ h => by cases d <;> exact h) ⟨Z0, rfl⟩ [0, 1, 2, 3, 4, 5, 6, 7, 8, 9] 9 _ _ (by kernel_rfl) ?_
      change wpQuiet _ _ _ _ (_ :: _ :: _ :: _ :: _ :: _ :: _ :: _ :: _ :: _ :: []) _
      repeat go_big_quiet_step (fail)
      refine wpQuiet_nil ?_
      refine held_two (i := 10) (j := 15) _ _ rfl rfl (by kernel_rfl) rfl rfl (fun K hK => ?_) (fun K hK => ?_)
      · skip
        go_simp
        refine (DF.out Z0).mono ?_
        rintro e w1 ⟨rfl, hb⟩
        obtain ⟨Z1, hZn⟩ : ∃ Z : Ext w, w1 = Z.1 := ⟨⟨w1, below_step Z0.2 hb⟩, rfl⟩
        subst hZn
        refine hK _ _ ⟨Z1, rfl⟩ ?_
        clear hK K hb
        try simp only [Act.put, List.setIfInBounds_toArray, List.set_cons_zero, List.set_cons_succ]
        refine held_quiet (by kernel_rfl) (fun _ _ d _ _ h => by cases d <;> exact h) ⟨Z1, rfl⟩ [11, 12, 13, 14] 4 _ _ (by kernel_rfl) ?_
        change wpQuiet _ _ _ _ (_ :: _ :: _ :: _ :: []) _
        repeat go_big_quiet_step (fail)
        refine wpQuiet_nil ?_
        refine held_do (i := 15) _ rfl (by kernel_rfl) rfl (fun K hK => ?_)
        go_simp
        obtain ⟨Z2, T, hT, hXT, hZn, hTB, hZb⟩ := mt_new Z1
        have HT1 := Lib.hid hTB
        have HXT := Lib.hid hXT
        rw [hZn, hT]
        refine hK _ _ ⟨Z2, rfl⟩ ?_
        clear hK K hT hXT hZn hTB hZb
        try simp only [Act.put, List.setIfInBounds_toArray, List.set_cons_zero, List.set_cons_succ]
        obtain ⟨r0, r1, r2⟩ := HT1.out.cell
        have f0 := HT1.out.free 0
        have f1 := HT1.out.free 1
        have f2 := HT1.out.free 2
        obtain ⟨Z3, hZ3, hT3⟩ := mt_put Z2 HT1.out HXT.out m
        obtain ⟨g0, g1, g2⟩ := hT3.cell
        have G0 := Ext.ex g0
        have G1 := Ext.ex g1
        have G2 := Ext.ex g2
        refine held_do (i := 16) _ rfl (by kernel_rfl) rfl (fun K hK => ?_)
        unfold mt0 at r0 r1 r2
        try simp only at r0 r1 r2
        go_simp
        try rw [hZ3]
        refine hK _ _ ⟨Z3, rfl⟩ ?_
        clear hK K r0 r1 r2 f0 f1 f2 hZ3 HT1 g0 g1 g2
        try simp only [Act.put, List.setIfInBounds_toArray, List.set_cons_zero, List.set_cons_succ]
        refine held_quiet (by kernel_rfl) (fun _ _ d _ _ h => by cases d <;> exact h) ⟨Z3, rfl⟩ [17, 18] 0 _ _ (by kernel_rfl) ?_
        change wpQuiet _ _ _ _ (_ :: _ :: []) _
        repeat go_big_quiet_step (fail)
        refine wpQuiet_nil ?_
        refine wpAnyH_done (by kernel_rfl) ?_ _
        have P1' := Ext.re Z3.2 P1
        have D1' := Ext.re Z3.2 D1
        have C0' := Ext.re Z3.2 C0
        have C3' := Ext.re Z3.2 C3
        go_wp2_with fail
        refine wp_region_ext (W := Z3.1) ⟨Z3.1, Below.refl _ _⟩ (by kernel_rfl) (by kernel_rfl) ?_
        repeat go_big_quiet_step (fail)
        refine wpQuiet_nil ?_
        rintro _ ⟨Y, rfl⟩
        go_wp2_with fail
        go_ret
        exact ⟨rfl, below_step Z3.2 Y.2⟩
      · skip
        go_simp
        obtain ⟨Z1, T, hT, hXT, hZn, hTB, hZb⟩ := mt_new Z0
        have HT1 := Lib.hid hTB
        have HXT := Lib.hid hXT
        rw [hZn, hT]
        refine hK _ _ ⟨Z1, rfl⟩ ?_
        clear hK K hT hXT hZn hTB hZb
        try simp only [Act.put, List.setIfInBounds_toArray, List.set_cons_zero, List.set_cons_succ]
        refine held_do (i := 10) _ rfl (by kernel_rfl) rfl (fun K hK => ?_)
        go_simp
        refine (DF.out Z1).mono ?_
        rintro e w1 ⟨rfl, hb⟩
        obtain ⟨Z2, hZn⟩ : ∃ Z : Ext w, w1 = Z.1 := ⟨⟨w1, below_step Z1.2 hb⟩, rfl⟩
        have HT1 : Hid (MtB w1 T mt0) := Lib.hid (HT1.out.below hb)
        rw [hZn] at HT1
        subst hZn
        refine hK _ _ ⟨Z2, rfl⟩ ?_
        clear hK K hb
        try simp only [Act.put, List.setIfInBounds_toArray, List.set_cons_zero, List.set_cons_succ]
        refine held_quiet (by kernel_rfl) (fun _ _ d _ _ h => by cases d <;> exact h) ⟨Z2, rfl⟩ [11, 12, 13, 14] 3 _ _ (by kernel_rfl) ?_
        change wpQuiet _ _ _ _ (_ :: _ :: _ :: _ :: []) _
        repeat go_big_quiet_step (fail)
        refine wpQuiet_nil ?_
        obtain ⟨r0, r1, r2⟩ := HT1.out.cell
        have f0 := HT1.out.free 0
        have f1 := HT1.out.free 1
        have f2 := HT1.out.free 2
        obtain ⟨Z3, hZ3, hT3⟩ := mt_put Z2 HT1.out HXT.out m
        obtain ⟨g0, g1, g2⟩ := hT3.cell
        have G0 := Ext.ex g0
        have G1 := Ext.ex g1
        have G2 := Ext.ex g2
        refine held_do (i := 16) _ rfl (by kernel_rfl) rfl (fun K hK => ?_)
        unfold mt0 at r0 r1 r2
        try simp only at r0 r1 r2
        go_simp
        try rw [hZ3]
        refine hK _ _ ⟨Z3, rfl⟩ ?_
        clear hK K r0 r1 r2 f0 f1 f2 hZ3 HT1 g0 g1 g2
        try simp only [Act.put, List.setIfInBounds_toArray, List.set_cons_zero, List.set_cons_succ]
        refine held_quiet (by kernel_rfl) (fun _ _ d _ _ h => by cases d <;> exact h) ⟨Z3, rfl⟩ [17, 18] 0 _ _ (by kernel_rfl) ?_
        change wpQuiet _ _ _ _ (_ :: _ :: []) _
        repeat go_big_quiet_step (fail)
        refine wpQuiet_nil ?_
        refine wpAnyH_done (by kernel_rfl) ?_ _
        have P1' := Ext.re Z3.2 P1
        have D1' := Ext.re Z3.2 D1
        have C0' := Ext.re Z3.2 C0
        have C3' := Ext.re Z3.2 C3
        go_wp2_with fail
        refine wp_region_ext (W := Z3.1) ⟨Z3.1, Below.refl _ _⟩ (by kernel_rfl) (by kernel_rfl) ?_
        repeat go_big_quiet_step (fail)
        refine wpQuiet_nil ?_
        rintro _ ⟨Y, rfl⟩
        go_wp2_with fail
        go_ret
        exact ⟨rfl, below_step Z3.2 Y.2⟩
    have d0 : decide (m.sum ≤ m.many * apart * apart) = true := decide_eq_true hnr
    rw [d0]
    clear hnr
    go_enter Try.func17, Try.ntmps17
    go_upto_region 1 with (fail)
    refine held_start (C := fun w' => ∃ Z : Ext w, w' = Z.1) (by kernel_rfl) ?_
    obtain ⟨Z0, hZ0⟩ : ∃ Z : Ext w, ({ w with drawn := w.drawn + 1 } : World) = Z.1 := ⟨⟨{ w with drawn := w.drawn + 1 }, ⟨rfl, rfl, rfl, Nat.le_refl _, fun _ _ => rfl⟩⟩, rfl⟩
    rw [hZ0]
    clear hZ0
    refine held_quiet (by kernel_rfl) (fun _ _ d _ _ h => by cases d <;> exact h) ⟨Z0, rfl⟩ [0, 1, 2, 3, 4, 5, 6, 7, 8, 9] 9 _ _ (by kernel_rfl) ?_
    change wpQuiet _ _ _ _ (_ :: _ :: _ :: _ :: _ :: _ :: _ :: _ :: _ :: _ :: []) _
    repeat go_big_quiet_step (fail)
    refine wpQuiet_nil ?_
    refine held_two (i := 10) (j := 15) _ _ rfl rfl (by kernel_rfl) rfl rfl (fun K hK => ?_) (fun K hK => ?_)
    · skip
      go_simp
      refine (DF.out Z0).mono ?_
      rintro e w1 ⟨rfl, hb⟩
      obtain ⟨Z1, hZn⟩ : ∃ Z : Ext w, w1 = Z.1 := ⟨⟨w1, below_step Z0.2 hb⟩, rfl⟩
      subst hZn
      refine hK _ _ ⟨Z1, rfl⟩ ?_
      clear hK K hb
      try simp only [Act.put, List.setIfInBounds_toArray, List.set_cons_zero, List.set_cons_succ]
      refine held_quiet (by kernel_rfl) (fun _ _ d _ _ h => by cases d <;> exact h) ⟨Z1, rfl⟩ [11, 12, 13, 14] 4 _ _ (by kernel_rfl) ?_
      change wpQuiet _ _ _ _ (_ :: _ :: _ :: _ :: []) _
      repeat go_big_quiet_step (fail)
      refine wpQuiet_nil ?_
      refine held_do (i := 15) _ rfl (by kernel_rfl) rfl (fun K hK => ?_)
      go_simp
      obtain ⟨Z2, T, hT, hXT, hZn, hTB, hZb⟩ := mt_new Z1
      have HT1 := Lib.hid hTB
      have HXT := Lib.hid hXT
      rw [hZn, hT]
      refine hK _ _ ⟨Z2, rfl⟩ ?_
      clear hK K hT hXT hZn hTB hZb
      try simp only [Act.put, List.setIfInBounds_toArray, List.set_cons_zero, List.set_cons_succ]
      obtain ⟨r0, r1, r2⟩ := HT1.out.cell
      have f0 := HT1.out.free 0
      have f1 := HT1.out.free 1
      have f2 := HT1.out.free 2
      obtain ⟨Z3, hZ3, hT3⟩ := mt_put Z2 HT1.out HXT.out m
      obtain ⟨g0, g1, g2⟩ := hT3.cell
      have G0 := Ext.ex g0
      have G1 := Ext.ex g1
      have G2 := Ext.ex g2
      refine held_do (i := 16) _ rfl (by kernel_rfl) rfl (fun K hK => ?_)
      unfold mt0 at r0 r1 r2
      try simp only at r0 r1 r2
      go_simp
      try rw [hZ3]
      refine hK _ _ ⟨Z3, rfl⟩ ?_
      clear hK K r0 r1 r2 f0 f1 f2 hZ3 HT1 g0 g1 g2
      try simp only [Act.put, List.setIfInBounds_toArray, List.set_cons_zero, List.set_cons_succ]
      refine held_quiet (by kernel_rfl) (fun _ _ d _ _ h => by cases d <;> exact h) ⟨Z3, rfl⟩ [17, 18] 0 _ _ (by kernel_rfl) ?_
      change wpQuiet _ _ _ _ (_ :: _ :: []) _
      repeat go_big_quiet_step (fail)
      refine wpQuiet_nil ?_
      refine wpAnyH_done (by kernel_rfl) ?_ _
      have P1' := Ext.re Z3.2 P1
      have D1' := Ext.re Z3.2 D1
      have C0' := Ext.re Z3.2 C0
      have C3' := Ext.re Z3.2 C3
      go_wp2_with fail
      refine wp_region_ext (W := Z3.1) ⟨Z3.1, Below.refl _ _⟩ (by kernel_rfl) (by kernel_rfl) ?_
      repeat go_big_quiet_step (fail)
      refine wpQuiet_nil ?_
      rintro _ ⟨Y, rfl⟩
      go_wp2_with fail
      go_ret
      exact ⟨rfl, below_step Z3.2 Y.2⟩
    · skip
      go_simp
      obtain ⟨Z1, T, hT, hXT, hZn, hTB, hZb⟩ := mt_new Z0
      have HT1 := Lib.hid hTB
      have HXT := Lib.hid hXT
      rw [hZn, hT]
      refine hK _ _ ⟨Z1, rfl⟩ ?_
      clear hK K hT hXT hZn hTB hZb
      try simp only [Act.put, List.setIfInBounds_toArray, List.set_cons_zero, List.set_cons_succ]
      refine held_do (i := 10) _ rfl (by kernel_rfl) rfl (fun K hK => ?_)
      go_simp
      refine (DF.out Z1).mono ?_
      rintro e w1 ⟨rfl, hb⟩
      obtain ⟨Z2, hZn⟩ : ∃ Z : Ext w, w1 = Z.1 := ⟨⟨w1, below_step Z1.2 hb⟩, rfl⟩
      have HT1 : Hid (MtB w1 T mt0) := Lib.hid (HT1.out.below hb)
      rw [hZn] at HT1
      subst hZn
      refine hK _ _ ⟨Z2, rfl⟩ ?_
      clear hK K hb
      try simp only [Act.put, List.setIfInBounds_toArray, List.set_cons_zero, List.set_cons_succ]
      refine held_quiet (by kernel_rfl) (fun _ _ d _ _ h => by cases d <;> exact h) ⟨Z2, rfl⟩ [11, 12, 13, 14] 3 _ _ (by kernel_rfl) ?_
      change wpQuiet _ _ _ _ (_ :: _ :: _ :: _ :: []) _
      repeat go_big_quiet_step (fail)
      refine wpQuiet_nil ?_
      obtain ⟨r0, r1, r2⟩ := HT1.out.cell
      have f0 := HT1.out.free 0
      have f1 := HT1.out.free 1
      have f2 := HT1.out.free 2
      obtain ⟨Z3, hZ3, hT3⟩ := mt_put Z2 HT1.out HXT.out m
      obtain ⟨g0, g1, g2⟩ := hT3.cell
      have G0 := Ext.ex g0
      have G1 := Ext.ex g1
      have G2 := Ext.ex g2
      refine held_do (i := 16) _ rfl (by kernel_rfl) rfl (fun K hK => ?_)
      unfold mt0 at r0 r1 r2
      try simp only at r0 r1 r2
      go_simp
      try rw [hZ3]
      refine hK _ _ ⟨Z3, rfl⟩ ?_
      clear hK K r0 r1 r2 f0 f1 f2 hZ3 HT1 g0 g1 g2
      try simp only [Act.put, List.setIfInBounds_toArray, List.set_cons_zero, List.set_cons_succ]
      refine held_quiet (by kernel_rfl) (fun _ _ d _ _ h => by cases d <;> exact h) ⟨Z3, rfl⟩ [17, 18] 0 _ _ (by kernel_rfl) ?_
      change wpQuiet _ _ _ _ (_ :: _ :: []) _
      repeat go_big_quiet_step (fail)
      refine wpQuiet_nil ?_
      refine wpAnyH_done (by kernel_rfl) ?_ _
      have P1' := Ext.re Z3.2 P1
      have D1' := Ext.re Z3.2 D1
      have C0' := Ext.re Z3.2 C0
      have C3' := Ext.re Z3.2 C3
      go_wp2_with fail
      refine wp_region_ext (W := Z3.1) ⟨Z3.1, Below.refl _ _⟩ (by kernel_rfl) (by kernel_rfl) ?_
      repeat go_big_quiet_step (fail)
      refine wpQuiet_nil ?_
      rintro _ ⟨Y, rfl⟩
      go_wp2_with fail
      go_ret
      exact ⟨rfl, below_step Z3.2 Y.2⟩
end Go.Proofs.Ytckjdpnmalkpnaa

/- TrailPairsAreNear: the walk. -/
namespace Go.Proofs.Ytckjdpnmalkpnaa
open Go.RowKit Go.BigFrame Go.ChangeMaps Go.WideMaps
open Tr (inR)
open Ft (Mt)

/-- what near tells of pairs that come out of Pair -/
structure PFacts (nr : Nat → Nat → Bool) (n : Nat) (O : List (Nat × Nat)) : Prop where
  ok : ∀ (k : Nat) (p : Nat × Nat), O[k]? = some p → p.1 < p.2 ∧ p.2 < n ∧ nr p.1 p.2 = true ∧ tkF O k p.1 = false ∧ tkF O k p.2 = false
  full : ∀ i k, i < k → k < n → tkF O O.length i = false → tkF O O.length k = false → nr i k = false
  few : O.length ≤ 30
theorem pfacts {L : List Ab} {most least apart : Int} (h0 : pairE L most least apart = 0) : PFacts (fun i k => oneS L i k && nearP L most least apart i k) L.length (pairO L most least apart) := by
  have hI := pairF_inv (oneS L) (nearP L most least apart) L.length
  have hn := (pairE_parts h0).1
  have e : pairO L most least apart = (pairF (oneS L) (nearP L most least apart) L.length).out := by
    unfold pairO
    rw [if_pos h0]
  rw [e]
  refine ⟨fun k p hp => ?_, fun i k hik hk h1 h2 => ?_, by have := hI.few; omega⟩
  · obtain ⟨a, b, c, d⟩ := hI.ok p (List.mem_of_getElem? hp)
    obtain ⟨f, g⟩ := tkF_fresh hp hI.apart
    refine ⟨a, b, ?_, f, g⟩
    show (oneS L p.1 p.2 && nearP L most least apart p.1 p.2) = true
    rw [c, d]
    rfl
  · rw [tkF_all hI] at h1 h2
    show (oneS L i k && nearP L most least apart i k) = false
    cases hs : oneS L i k
    · rfl
    · cases hm : nearP L most least apart i k
      · rfl
      · rcases hI.full i k ⟨hik, hk⟩ hs hm with h | h
        · rw [h1] at h; cases h
        · rw [h2] at h; cases h
set_option maxHeartbeats 16000000 in
set_option maxRecDepth 100000 in
theorem near_law (L : List Ab) (la : Option Addr) (lc : Nat) (most least apart : Int) (w : World) (hL : LIn w la L) :
    Calls Try.prog 7 #[.slice la L.length lc, .int .i64 most, .int .i64 least, .int .i64 apart] w fun e w' => e = .returned (.bool true) ∧ Below w.heap.size w w' := by
  have hmf : ∀ fn first cap w, (Instr.makeFunc fn first cap).run Try.prog w = .ok (.func fn first cap) w := fun _ _ _ _ => rfl
  have hmm := @run_makeMap Try.prog
  obtain ⟨V0, hV0, hb0, hs0, hl0⟩ := alloc_cells w #[.slice la L.length lc] 42
  obtain ⟨V1, hV1, hb1, hs1, hl1⟩ := alloc_cells V0 #[.int .i64 most] 3
  obtain ⟨V2, hV2, hb2, hs2, hl2⟩ := alloc_cells V1 #[.int .i64 least] 3
  obtain ⟨V3, hV3, hb3, hs3, hl3⟩ := alloc_cells V2 #[.int .i64 apart] 3
  rw [hs0] at hl1
  rw [hs1, hs0] at hl2
  rw [hs2, hs1, hs0] at hl3
  have C0 := Ext.ex (below_cell hb3 (below_cell hb2 (below_cell hb1 (hl0 0 _ rfl))))
  have C1 := Ext.ex (below_cell hb3 (below_cell hb2 (hl1 0 _ rfl)))
  have C2 := Ext.ex (below_cell hb3 (hl2 0 _ rfl))
  have C3 := Ext.ex (hl3 0 _ rfl)
  have HB3 := Lib.hid (below_step (below_step (below_step hb0 hb1) hb2) hb3)
  have D1 := Lib.hid (fun (X : Ext V3) => (pair_any L la lc most least apart X.1 (hL.below (below_step HB3.out X.2))).mono fun e w' h => h.parts)
  have DN := Lib.hid (fun (X : Ext V3) (i k : Nat) (hi : i < L.length) (hk : k < L.length) (h0 : pairE L most least apart = 0) => near_any L la lc most least apart i k hi hk h0 (w.heap.size) (w.heap.size + 1) (w.heap.size + 2) (w.heap.size + 3) X.1 (hL.below (below_step HB3.out X.2)) (C0 X) (C1 X) (C2 X) (C3 X))
  have HP := Lib.hid (fun h0 => pfacts (L := L) (most := most) (least := least) (apart := apart) h0)
  have HN30 := Lib.hid (fun h0 => (pairE_parts (L := L) (most := most) (least := least) (apart := apart) h0).1)
  generalize pairO L most least apart = O at *
  generalize pairE L most least apart = er at *
  obtain ⟨nr, hnr⟩ : ∃ f : Nat → Nat → Bool, (fun i k => oneS L i k && nearP L most least apart i k) = f := ⟨_, rfl⟩
  have hnr2 : ∀ i k, (oneS L i k && nearP L most least apart i k) = nr i k := fun i k => congrFun (congrFun hnr i) k
  simp only [hnr2] at DN
  rw [hnr] at HP
  clear hnr hnr2
  generalize L.length = n at *
  have HV0 := Lib.hid hV0
  have HV1 := Lib.hid hV1
  have HV2 := Lib.hid hV2
  have HV3 := Lib.hid hV3
  obtain ⟨m, hm⟩ : ∃ m, O.length = m := ⟨_, rfl⟩
  have HM := Lib.hid hm
  rw [hm] at D1
  clear hV0 hb0 hs0 hl0 hV1 hb1 hs1 hl1 hV2 hb2 hs2 hl2 hV3 hb3 hs3 hl3 hL hm
  by_cases h0 : er = 0
  case neg =>
    have b0 := bneT h0
    clear h0 DN HP HN30 hmf hmm
    go_enter Try.func7, Try.ntmps7
    go_upto_region 1 with (fail)
    rw [HV0.out, HV1.out, HV2.out, HV3.out]
    refine ext_wp fun X => ?_
    go_wp2_with fail
    refine (D1.out X).mono ?_
    rintro e w1 ⟨a1, c1, rfl, hr1, hb1⟩
    have HB4 := Lib.hid (below_step (below_step HB3.out X.2) hb1)
    clear hr1 hb1 D1
    go_wp2_with fail
    refine (told2_any _).mono ?_
    rintro e w6 ⟨rfl, hb6⟩
    have HB6 := Lib.hid (below_step HB4.out hb6)
    clear hb6
    go_wp2_with fail
    go_ret
    exact ⟨rfl, HB6.out⟩
  have b0 := bneF h0
  have hn30 := HN30.out h0
  replace HP := Lib.hid (HP.out h0)
  replace DN := Lib.hid (fun (X : Ext V3) (i k : Nat) (hi : i < n) (hk : k < n) => DN.out X i k hi hk h0)
  have hm30 : m ≤ 30 := by have := HP.out.few; rw [HM.out] at this; exact this
  subst h0
  clear HN30
  go_enter Try.func7, Try.ntmps7
  go_upto_region 1 with (fail)
  rw [HV0.out, HV1.out, HV2.out, HV3.out]
  refine ext_wp fun X => ?_
  go_wp2_with fail
  refine (D1.out X).mono ?_
  rintro e w4 ⟨a1, c1, rfl, hr1, hb1⟩
  have HR1 := Lib.hid hr1
  have H34 := Lib.hid (below_step X.2 hb1)
  have HW4 := Lib.hid (below_step (below_step HB3.out X.2) hb1)
  have C0 := Ext.re H34.out C0
  have C1 := Ext.re H34.out C1
  have C2 := Ext.re H34.out C2
  have C3 := Ext.re H34.out C3
  have DN := Lib.hid (fun (Z : Ext w4) (i k : Nat) (hi : i < n) (hk : k < n) => DN.out ⟨Z.1, below_step H34.out Z.2⟩ i k hi hk)
  simp only at DN
  obtain ⟨B, hB⟩ : ∃ B, w4.heap.size = B := ⟨_, rfl⟩
  obtain ⟨V5, hV5⟩ : ∃ V, w4.alloc (.map #[] 0) = V := ⟨_, rfl⟩
  have HM5 : Hid (IMap V5 B 0 (fun _ => false)) := Lib.hid (by rw [← hV5, ← hB]; exact IMap.made w4)
  have H45 := Lib.hid (show Below w4.heap.size w4 V5 from hV5 ▸ below_al w4 _)
  have HV5 := Lib.hid hV5
  have HBB := Lib.hid hB
  clear hr1 hb1 D1 hV5 hB
  go_upto_region 6 with (fail)
  rw [HV5.out, HBB.out]
  clear hmf hmm
  go_wp2_with fail
  go_loopw [32] (fun iv wr => ∃ (k : Nat), iv = .int .i64 k ∧ k ≤ m ∧ ∃ X : Ext w4, wr = X.1 ∧ Hid (IMap X.1 B (2 * k) (tkF O k))) (fun iv _ => m - (intOf iv).toNat)
  case atStart => exact ⟨0, rfl, by omega, ⟨V5, H45.out⟩, rfl, Lib.hid (by have h := HM5.out; exact h)⟩
  case round =>
    clear HM5 HV5 H45
    obtain ⟨k, rfl, hk, X, rfl, HX⟩ := hrel
    by_cases hlt : k < m
    · have t2 : decide ((k : Int) < (m : Int)) = true := by rw [decide_eq_true_eq]; omega
      have t2' : decide (k < m) = true := by simpa using hlt
      obtain ⟨p, hp⟩ : ∃ p, O[k]? = some p := ⟨_, List.getElem?_eq_getElem (by rw [HM.out]; exact hlt)⟩
      obtain ⟨ok1, ok2, ok3, ok4, ok5⟩ := HP.out.ok k p hp
      obtain ⟨g, o, rfl, hg, hc⟩ := HR1.out.at hp
      have e0 := Ext.ex (show w4.cell? ⟨g, o + k * 2, none⟩ = some (.int .i64 (p.1 : Nat)) from hc 0 _ rfl) X
      have e1 := Ext.ex (show w4.cell? ⟨g, o + k * 2 + 1, none⟩ = some (.int .i64 (p.2 : Nat)) from hc 1 _ rfl) X
      have HS := Lib.hid (tkF_succ hp)
      have DK := fun (Z : Ext w4) => DN.out Z p.1 p.2 (by omega) ok2
      simp only [ok3] at DK
      clear hp hc ok3
      obtain ⟨x, y⟩ := p
      simp only at ok1 ok2 ok4 ok5 e0 e1 HS DK
      have s0 : decide ((x : Int) < 0) = false := by rw [decide_eq_false_iff_not]; omega
      have s1 : decide ((y : Int) ≤ (x : Int)) = false := by rw [decide_eq_false_iff_not]; omega
      have s1' : decide (y ≤ x) = false := by rw [decide_eq_false_iff_not]; omega
      have s2 : decide ((n : Int) ≤ (y : Int)) = false := by rw [decide_eq_false_iff_not]; omega
      have s2' : decide (n ≤ y) = false := by rw [decide_eq_false_iff_not]; omega
      obtain ⟨V6, hV6, hb6, hs6, hl6⟩ := alloc_cells X.1 #[.int .i64 (x : Nat), .int .i64 (y : Nat)] 47
      obtain ⟨T, hT⟩ : ∃ T, X.1.heap.size = T := ⟨_, rfl⟩
      rw [hT] at hl6
      have u0 := hl6 0 _ rfl
      have u1 := hl6 1 _ rfl
      have m6 := HX.out.below hb6
      obtain ⟨Y6, hY6⟩ : ∃ Z : Ext w4, V6 = Z.1 := ⟨⟨V6, below_step X.2 hb6⟩, rfl⟩
      rw [hY6] at u0 u1 m6
      have HV6 := Lib.hid (hV6.trans hY6)
      have HTT := Lib.hid hT
      have HM6 := Lib.hid m6
      have hTB : ¬ T = B := by have := HX.out.lt; omega
      have k1 := m6.look (j := x) (by omega)
      have k2 := m6.look (j := y) (by omega)
      rw [ok4] at k1
      rw [ok5] at k2
      have C0' := C0 Y6
      have DK := Lib.hid DK
      clear hV6 hb6 hs6 hl6 hY6 hT ok4 ok5 m6
      go_upto_region 9 with (fail)
      rw [HV6.out, HTT.out]
      clear e0 e1 HV6 HTT
      go_wp2_with fail
      refine (DK.out Y6).mono ?_
      rintro e w7 ⟨rfl, hb7⟩
      have HM7 := Lib.hid (HM6.out.below hb7)
      have H7 := Lib.hid (below_step Y6.2 hb7)
      have U0 := ExtO.ex (O := fun b => b = B) hTB (below_cell hb7 u0)
      have U1 := ExtO.ex (O := fun b => b = B) hTB (below_cell hb7 u1)
      have HSTEP := Lib.hid (fun (Z : ExtO (fun b => b = B) w7) => show Below w4.heap.size w4 Z.1 from Kept.below H7.out Z.2 H7.out.size (fun k hk e => by have := HBB.out; omega))
      clear hb7 k1 k2 u0 u1 C0' DK
      go_wp2_with fail
      refine held_start (C := fun w' => ∃ Z : ExtO (fun b => b = B) w7, w' = Z.1) (by kernel_rfl) ?_
      have hdr : Below w7.heap.size w7 ({ w7 with drawn := w7.drawn + 1 } : World) := ⟨rfl, rfl, rfl, Nat.le_refl _, fun _ _ => rfl⟩
      have m8 := HM7.out.below hdr
      obtain ⟨Z0, hZ0⟩ : ∃ Z : ExtO (fun b => b = B) w7, ({ w7 with drawn := w7.drawn + 1 } : World) = Z.1 := ⟨⟨_, Kept.of_below hdr⟩, rfl⟩
      rw [hZ0] at m8 ⊢
      obtain ⟨w8, r8, m9, g8⟩ := m8.put (j := x) (by omega) (by omega)
      obtain ⟨Z1, rfl⟩ : ∃ Z : ExtO (fun b => b = B) w7, w8 = Z.1 := ⟨⟨w8, Z0.2.grown g8 (fun g e _ => by injection e with e; exact e.symm)⟩, rfl⟩
      obtain ⟨w9, r9, m10, g9⟩ := m9.put (j := y) (by omega) (by omega)
      obtain ⟨Z2, rfl⟩ : ∃ Z : ExtO (fun b => b = B) w7, w9 = Z.1 := ⟨⟨w9, Z1.2.grown g9 (fun g e _ => by injection e with e; exact e.symm)⟩, rfl⟩
      have HM10 : Hid (IMap Z2.1 B (2 * (k + 1)) (tkF O (k + 1))) := Lib.hid (by
        rw [HS.out] at m10
        exact m10)
      clear hdr hZ0 m8 m9 m10 g8 g9 HM6 HM7 hTB HX
      refine held_quiet (by kernel_rfl) (fun _ _ d _ _ h => by cases d <;> exact h) ⟨Z0, rfl⟩ [0, 1, 2, 3, 4, 5] 2 _ _ (by kernel_rfl) ?_
      change wpQuiet _ _ _ _ (_ :: _ :: _ :: _ :: _ :: _ :: []) _
      repeat go_big_quiet_step (fail)
      refine wpQuiet_nil ?_
      refine held_do (i := 6) _ rfl (by kernel_rfl) rfl (fun K hK => ?_)
      go_simp
      refine hK _ _ ⟨Z1, rfl⟩ ?_
      clear hK K
      try simp only [Act.put, List.setIfInBounds_toArray, List.set_cons_zero, List.set_cons_succ]
      refine held_do (i := 7) _ rfl (by kernel_rfl) rfl (fun K hK => ?_)
      go_simp
      refine hK _ _ ⟨Z2, rfl⟩ ?_
      clear hK K r8 r9
      try simp only [Act.put, List.setIfInBounds_toArray, List.set_cons_zero, List.set_cons_succ]
      refine wpAnyH_done (by kernel_rfl) ?_ _
      go_wp2_with fail
      go_roundw
      case rel => exact ⟨k + 1, by go_num, by omega, ⟨Z2.1, HSTEP.out Z2⟩, rfl, HM10⟩
      case measure => simp [intOf]; omega
    · have t2 : decide ((k : Int) < (m : Int)) = false := by rw [decide_eq_false_iff_not]; omega
      have t2' : decide (k < m) = false := by simpa using hlt
      obtain rfl : k = m := by omega
      have HFULL := Lib.hid (fun i j (hij : i < j) (hj : j < n) (h1 : tkF O k i = false) (h2 : tkF O k j = false) => HP.out.full i j hij hj (by rw [HM.out]; exact h1) (by rw [HM.out]; exact h2))
      generalize tkF O k = tk at *
      generalize 2 * k = cnt at *
      have C0' := C0 X
      clear hlt hk HP HM
      go_wp2_with fail
      clear C0' t2 t2'
      go_loopw [83] (fun iv wr => ∃ (i : Nat), iv = .int .i64 i ∧ i ≤ n ∧ ∃ X : Ext w4, wr = X.1 ∧ Hid (IMap X.1 B cnt tk)) (fun iv _ => n - (intOf iv).toNat)
      case atStart => exact ⟨0, rfl, by omega, X, rfl, HX⟩
      case round =>
        clear HX X
        obtain ⟨i, rfl, hi, X, rfl, HX⟩ := hrel
        by_cases hlt : i < n
        · have t3 : decide ((i : Int) < (n : Int)) = true := by rw [decide_eq_true_eq]; omega
          have t3' : decide (i < n) = true := by simpa using hlt
          go_wp2_with fail
          go_loopw [16] (fun kv wr => ∃ (k : Nat), kv = .int .i64 k ∧ i + 1 ≤ k ∧ k ≤ n ∧ ∃ X : Ext w4, wr = X.1 ∧ Hid (IMap X.1 B cnt tk)) (fun kv _ => n - (intOf kv).toNat)
          case atStart => exact ⟨i + 1, by go_num, by omega, by omega, X, rfl, HX⟩
          case round =>
            clear HX X t3 t3'
            obtain ⟨k, rfl, hik, hk, X, rfl, HX⟩ := hrel
            have C0' := C0 X
            by_cases hkn : k < n
            · have t4 : decide ((k : Int) < (n : Int)) = true := by rw [decide_eq_true_eq]; omega
              have t4' : decide (k < n) = true := by simpa using hkn
              have k1 := HX.out.look (j := i) (by omega)
              have k2 := HX.out.look (j := k) (by omega)
              obtain ⟨b1, hb1⟩ : ∃ b, tk i = b := ⟨_, rfl⟩
              obtain ⟨b2, hb2⟩ : ∃ b, tk k = b := ⟨_, rfl⟩
              rw [hb1] at k1
              rw [hb2] at k2
              cases b1
              case true =>
                clear hb1 hb2 k2
                go_wp2_with fail
                go_roundw
                case rel => exact ⟨k + 1, by go_num, by omega, by omega, X, rfl, HX⟩
                case measure => simp [intOf]; omega
              cases b2
              case true =>
                clear hb1 hb2
                go_wp2_with fail
                go_roundw
                case rel => exact ⟨k + 1, by go_num, by omega, by omega, X, rfl, HX⟩
                case measure => simp [intOf]; omega
              have DK := fun (Z : Ext w4) => DN.out Z i k hlt hkn
              simp only [HFULL.out i k (by omega) hkn hb1 hb2] at DK
              replace DK := Lib.hid DK
              clear hb1 hb2
              go_wp2_with fail
              refine (DK.out X).mono ?_
              rintro e w7 ⟨rfl, hb7⟩
              have HX7 := Lib.hid (HX.out.below hb7)
              obtain ⟨Y, rfl⟩ : ∃ Z : Ext w4, w7 = Z.1 := ⟨⟨w7, below_step X.2 hb7⟩, rfl⟩
              clear hb7 k1 k2
              go_wp2_with fail
              go_roundw
              case rel => exact ⟨k + 1, by go_num, by omega, by omega, Y, rfl, HX7⟩
              case measure => simp [intOf]; omega
            · have t4 : decide ((k : Int) < (n : Int)) = false := by rw [decide_eq_false_iff_not]; omega
              have t4' : decide (k < n) = false := by simpa using hkn
              go_wp2_with fail
              go_roundw
              case rel => exact ⟨i + 1, by go_num, by omega, X, rfl, HX⟩
              case measure => simp [intOf]; omega
        · have t3 : decide ((i : Int) < (n : Int)) = false := by rw [decide_eq_false_iff_not]; omega
          have t3' : decide (i < n) = false := by simpa using hlt
          go_wp2_with fail
          refine (told2_any _).mono ?_
          rintro e w6 ⟨rfl, hb6⟩
          have HB6 := Lib.hid (below_step (below_step HW4.out X.2) hb6)
          clear hb6
          go_wp2_with fail
          go_ret
          exact ⟨rfl, HB6.out⟩
end Go.Proofs.Ytckjdpnmalkpnaa
