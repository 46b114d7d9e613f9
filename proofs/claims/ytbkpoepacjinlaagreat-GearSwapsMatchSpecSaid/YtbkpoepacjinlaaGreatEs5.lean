/- Several texts of this claim in one. -/
import Derived.Test.YtbkpoepacjinlaaGreatEs3
import Derived.Test.YtbkpoepacjinlaaGreatEs4
import Derived.Deep.RegionHeld3
import Derived.Deep.DeepCutAuto
import Derived.Laws.EntriesVeiled
import Derived.Test.YtbkpoepacjinlaaGreatEs2
import Derived.Laws.AppendOwn
/- Gear: the pieces of a use in a slot (program): its walk. -/
namespace Go.Proofs.YtbkpoepacjinlaaGreat
open Go.RowKit Go.BigFrame

def mcell (m : Pcs.Mnt) : List Value := [.string m.s, .string m.p, .int .i64 m.f, .int .i64 m.t]
def mget (ms : List Pcs.Mnt) (i : Nat) : Pcs.Mnt := ms.getD i ⟨⟨#[]⟩, ⟨#[]⟩, 0, 0⟩
theorem add_len (last : Int) (st : Int × List Pcs.Pc) (p : ByteArray) (tt : Int) : (Pcs.add last st p tt).2.length ≤ st.2.length + 1 ∧ st.1 ≤ (Pcs.add last st p tt).1 := by
  unfold Pcs.add
  split <;> simp <;> omega
theorem step_len (last : Int) (st : Int × List Pcs.Pc) (m : Pcs.Mnt) : (Pcs.step last st m).2.length ≤ st.2.length + 2 ∧ st.1 ≤ (Pcs.step last st m).1 := by
  unfold Pcs.step
  split
  · have h1 := add_len last st Pcs.em m.f
    have h2 := add_len last (Pcs.add last st Pcs.em m.f) m.p (Pcs.en m)
    omega
  · simp
/-- after k mounts -/
def stK (last a : Int) (ms : List Pcs.Mnt) (k : Nat) : Int × List Pcs.Pc := (ms.take k).foldl (Pcs.step last) (a, [])
theorem stK_succ (last a : Int) (ms : List Pcs.Mnt) {k : Nat} (hk : k < ms.length) : stK last a ms (k + 1) = Pcs.step last (stK last a ms k) (mget ms k) := by
  unfold stK mget
  rw [List.take_succ_eq_append_getElem hk, List.foldl_append]
  simp [List.getD, List.getElem?_eq_getElem hk]
theorem stK_bounds (last a : Int) (ms : List Pcs.Mnt) : ∀ k, k ≤ ms.length → (stK last a ms k).2.length ≤ 2 * k ∧ a ≤ (stK last a ms k).1
  | 0, _ => by simp [stK]
  | k + 1, hk => by
    rw [stK_succ last a ms (by omega)]
    have h1 := stK_bounds last a ms k (by omega)
    have h2 := step_len last (stK last a ms k) (mget ms k)
    omega
theorem stK_all (last a : Int) (ms : List Pcs.Mnt) : stK last a ms ms.length = ms.foldl (Pcs.step last) (a, []) := by
  unfold stK
  rw [List.take_length]

theorem alloc_block (w : World) (cs : Array Value) (T : TypeId) : ∃ W, w.alloc (.cells cs T) = W ∧ Below w.heap.size w W ∧ W.heap.size = w.heap.size + 1 ∧ W.heap[w.heap.size]? = some (.cells cs T (0, 0)) :=
  ⟨_, rfl, below_al _ _, by simp, heap_alloc_new w _⟩
theorem below_block {w w' : World} {b : Nat} {o : Obj} (hb : Below w.heap.size w w') (h : w.heap[b]? = some o) : w'.heap[b]? = some o := (hb.block b (lt_of_block h)).trans h
theorem two_cells (V : World) (o1 o2 : Obj) : ((V.alloc o1).alloc o2).drew.heap[V.heap.size]? = some o1 ∧ ((V.alloc o1).alloc o2).drew.heap[V.heap.size + 1]? = some o2 ∧ Below V.heap.size V ((V.alloc o1).alloc o2).drew ∧ ((V.alloc o1).alloc o2).drew.heap.size = V.heap.size + 2 := by
  refine ⟨?_, ?_, below_drewN (below_tr (below_al V o1) (by simp) (below_al _ o2)) 1, by show ((V.alloc o1).alloc o2).heap.size = _; simp⟩
  · show ((V.alloc o1).alloc o2).heap[V.heap.size]? = some o1
    exact (Below.heap_alloc (V.alloc o1) o2 V.heap.size (by simp)).trans (heap_alloc_new V o1)
  · show ((V.alloc o1).alloc o2).heap[V.heap.size + 1]? = some o2
    have := heap_alloc_new (V.alloc o1) o2
    simpa using this
theorem not_own {w : World} {v : Value} {base e size n : Nat} {xs : List Value} {b : Nat} (h : w.ownsRow base e size v n xs) (hb : b < base ∨ w.heap.size ≤ b) : ¬ v.ownBlock = some b := fun e => by
  have := h.lt b e
  omega
theorem not_own_ty {w : World} {v : Value} {base e size n : Nat} {xs : List Value} {b : Nat} {cs : Array Value} {T : TypeId} (h : w.ownsRow base e size v n xs) (hb : w.heap[b]? = some (.cells cs T (0, 0))) (hT : T ≠ e) : ¬ v.ownBlock = some b := fun e' => by
  rcases h.2 with ⟨rfl, _⟩ | ⟨g, cap, cur, rfl, _, h3, _⟩
  · simp [Value.ownBlock] at e'
  · simp [Value.ownBlock] at e'
    subst e'
    rw [h3] at hb
    injection hb with hb
    injection hb with _ hb _
    exact hT hb.symm
/-- a piece with its way -/
def pcellW (u s : ByteArray) (q : Pcs.Pc) (x : Int) : List Value := [.string u, .string s, .string q.1, .int .i64 q.2, .int .i64 x]
theorem pcellW_low (u s : ByteArray) (q : Pcs.Pc) (x y : Int) {j : Nat} (hj : j < 4) : (pcellW u s q x)[j]? = (pcellW u s q y)[j]? := by
  unfold pcellW
  match j, hj with
  | 0, _ => rfl
  | 1, _ => rfl
  | 2, _ => rfl
  | 3, _ => rfl
theorem pcellW_some (u s : ByteArray) (q : Pcs.Pc) (x : Int) {j : Nat} (hj : j < 5) : ∃ v, (pcellW u s q x)[j]? = some v := ⟨_, List.getElem?_eq_getElem (by simpa [pcellW] using hj)⟩
/-- what piecesOf returns -/
def PcsRet (un slot : ByteArray) (l : List Pcs.Pc) (us uw : Int) (w : World) (e : Ending) (w' : World) : Prop :=
  ∃ g cap : Nat, e = .returned (.slice (some ⟨g, 0, none⟩) l.length cap) ∧ w.heap.size ≤ g ∧ RowK w' (some ⟨g, 0, none⟩) l.length 5 (fun i => pcellW un slot (pget l i) (wayG uw us (secW l) l.length i)) ∧ Below w.heap.size w w'
set_option maxHeartbeats 8000000 in
set_option maxRecDepth 100000 in
theorem piecesOf_any (un ur : ByteArray) (uf us uw : Int) (slot : ByteArray) (am : Option Addr) (cm : Nat) (ms : List Pcs.Mnt) (w : World) (hr : RowK w am ms.length 4 (fun i => mcell (mget ms i)))
    (h0 : 0 ≤ uf) (h1 : uf ≤ 86399999999) (h2 : 1 ≤ us) (h3 : us ≤ 1000000) (h4 : 0 ≤ uw) (h5 : uw ≤ 1000000000) (hl : ms.length ≤ 2000) (ho : Pcs.Ord ms) :
    Calls Tryz.prog 55 #[useV un ur uf us uw, .string slot, .slice am ms.length cm] w (PcsRet un slot (Pcs.pieces uf (uf + us) ms) us uw w) := by
  have HR := Lib.hid hr
  have HO := Lib.hid ho
  unfold useV
  have hmf : ∀ fn first cap w, (Instr.makeFunc fn first cap).run Tryz.prog w = .ok (.func fn first cap) w := fun _ _ _ _ => rfl
  obtain ⟨V0, hV0, hb0, hs0, q0⟩ := alloc_block w #[.string un, .string ur, .int .i64 uf, .int .i64 us, .int .i64 uw] 62
  obtain ⟨V1, hV1, hb1, hs1, q1⟩ := alloc_block V0 #[.string slot] 9
  obtain ⟨V2, hV2, hb2, hs2, q2⟩ := alloc_block V1 #[.slice none 0 0] 48
  have q0 := below_block hb2 (below_block hb1 q0)
  have q1 := below_block hb2 q1
  have g1 : w.heap.size < V0.heap.size := by omega
  have g2 : V0.heap.size < V1.heap.size := by omega
  have g3 : V1.heap.size < V2.heap.size := by omega
  have HBV := Lib.hid (hb0.trans ((hb1.mono (by omega)).trans (hb2.mono (by omega))))
  have HQ0 := Lib.hid q0
  have HQ1 := Lib.hid q1
  have HQ2 := Lib.hid q2
  have c2 : V2.cell? ⟨w.heap.size, 2, none⟩ = some (.int .i64 uf) := block_cell q0 rfl
  have c3 : V2.cell? ⟨w.heap.size, 3, none⟩ = some (.int .i64 us) := block_cell q0 rfl
  have c2d : V2.drew.cell? ⟨w.heap.size, 2, none⟩ = some (.int .i64 uf) := c2
  have c3d : V2.drew.cell? ⟨w.heap.size, 3, none⟩ = some (.int .i64 us) := c3
  clear hr ho q0 q1 q2 hb0 hb1 hb2 hs0 hs1 hs2
  go_enter Tryz.func55, Tryz.ntmps55
  go_upto_region 2 with (fail)
  clear hV0 hV1 hV2
  have hws := IntWalk.i64_in (uf + us) (by omega)
  have HWS := Lib.hid hws
  clear hws
  go_cut [8, 9] (fun p q wx => ∃ ca cl : Nat, p = .pointer (some ⟨ca, 0, none⟩) ∧ q = .pointer (some ⟨cl, 0, none⟩) ∧ ca ≠ cl ∧ V2.heap.size ≤ ca ∧ V2.heap.size ≤ cl ∧ Hid (wx.heap[ca]? = some (.cells #[.int .i64 uf] 3 (0, 0))) ∧ Hid (wx.heap[cl]? = some (.cells #[.int .i64 (uf + us)] 3 (0, 0))) ∧ Hid (Below V2.heap.size V2 wx) ∧ wx.heap.size = V2.heap.size + 2)
  case first =>
    go_region_held3 (fun w' => w'.cell? ⟨w.heap.size, 2, none⟩ = some (.int .i64 uf) ∧ w'.cell? ⟨w.heap.size, 3, none⟩ = some (.int .i64 us)) (go_keep) (fail)
    · go_wp2_with fail
      go_meet
      rw [HWS.out]
      obtain ⟨x1, x2, x3, x4⟩ := two_cells V2 (.cells #[.int .i64 uf] 3) (.cells #[.int .i64 (uf + us)] 3)
      exact ⟨_, _, rfl, rfl, by omega, by omega, by omega, Lib.hid x1, Lib.hid x2, Lib.hid x3, x4⟩
    · go_wp2_with fail
      go_meet
      rw [HWS.out]
      obtain ⟨x1, x2, x3, x4⟩ := two_cells V2 (.cells #[.int .i64 (uf + us)] 3) (.cells #[.int .i64 uf] 3)
      exact ⟨_, _, rfl, rfl, by omega, by omega, by omega, Lib.hid x2, Lib.hid x1, Lib.hid x3, x4⟩
  case rest =>
    obtain ⟨ca, cl, rfl, rfl, hne, hca, hcl, HCA, HCL, HBX, hsx⟩ := hcut
    obtain ⟨bs, hbs⟩ : ∃ bs, wc.heap.size = bs := ⟨_, rfl⟩
    have hca2 : ca < bs := by rw [← hbs]; exact lt_of_block HCA.out
    have hcl2 : cl < bs := by rw [← hbs]; exact lt_of_block HCL.out
    have hst : PSt wc (.slice none 0 0) bs V1.heap.size ca cl w.heap.size V0.heap.size (stK (uf + us) uf ms 0).1 (uf + us) (stK (uf + us) uf ms 0).2 un ur uf us uw slot :=
      ⟨below_block HBX.out HQ2.out, World.ownsRow_nil _ _ _ _, HCA.out, HCL.out, below_block HBX.out HQ0.out, below_block HBX.out HQ1.out⟩
    have HST := Lib.hid hst
    have HBC := Lib.hid (HBV.out.trans (HBX.out.mono (by omega)))
    have hbs2 : V1.heap.size < bs := by omega
    have hca' : V1.heap.size < ca := by omega
    have hcl' : V1.heap.size < cl := by omega
    have HBS := Lib.hid hbs
    clear hca hcl c2 c3 c2d c3d hst HCA HCL HBX hsx hbs HQ0 HQ1 HQ2
    have DA : ∀ (X : World) (part : ByteArray) (tt : Int) (v : Value) (a : Int) (l : List Pcs.Pc), PSt X v bs V1.heap.size ca cl w.heap.size V0.heap.size a (uf + us) l un ur uf us uw slot → 0 ≤ a → (l.length : Int) ≤ 1000000 → bs ≤ X.heap.size →
        Calls Tryz.prog 67 #[.string part, .int .i64 tt, .pointer (some ⟨cl, 0, none⟩), .pointer (some ⟨ca, 0, none⟩), .pointer (some ⟨V1.heap.size, 0, none⟩), .pointer (some ⟨w.heap.size, 0, none⟩), .pointer (some ⟨V0.heap.size, 0, none⟩)] X fun e w' => e = .returned (.tuple #[]) ∧
          (∃ v', PSt w' v' bs V1.heap.size ca cl w.heap.size V0.heap.size (Pcs.add (uf + us) (a, l) part tt).1 (uf + us) (Pcs.add (uf + us) (a, l) part tt).2 un ur uf us uw slot) ∧ Kept (fun b => b = V1.heap.size ∨ b = ca ∨ v.ownBlock = some b) X w' :=
      fun X part tt v a l hp ha hl hb => addPc_any part tt bs _ ca cl _ _ a (uf + us) l un ur uf us uw slot X v hp ha (by omega) hl (by omega) (by omega) (by omega) (by omega) (by omega) (by omega) (by omega) hb
    have HDA := Lib.hid DA
    clear DA
    go_wp2_with fail
    go_loopw [28] (fun iv wr => ∃ (k : Nat), iv = .int .i64 k ∧ k ≤ ms.length ∧ Hid (∃ v, PSt wr v bs V1.heap.size ca cl w.heap.size V0.heap.size (stK (uf + us) uf ms k).1 (uf + us) (stK (uf + us) uf ms k).2 un ur uf us uw slot) ∧ Hid (Kept (fun b => b = V1.heap.size ∨ b = ca ∨ bs ≤ b) wc wr)) (fun iv _ => ms.length - (intOf iv).toNat)
    case atStart => exact ⟨0, rfl, by omega, Lib.hid ⟨_, HST.out⟩, Lib.hid (Kept.refl _ _)⟩
    case round =>
      obtain ⟨k, rfl, hk, HPE, HK⟩ := hrel
      obtain ⟨v, hp⟩ := HPE.out
      have HP := Lib.hid hp
      have hb1 := stK_bounds (uf + us) uf ms k hk
      by_cases hlt : k < ms.length
      · have t1 : decide ((k : Int) < (ms.length : Int)) = true := by rw [decide_eq_true_eq]; omega
        have t1' : decide (k < ms.length) = true := by simpa using hlt
        obtain ⟨b, off, rfl, hbl, hc⟩ := HR.out.here (by omega)
        have hbw : wr.heap[b]? = w.heap[b]? := (HK.out.block b (by rw [HBS.out]; omega) (by omega)).trans (HBC.out.block b hbl)
        have hsz : bs ≤ wr.heap.size := by rw [← HBS.out]; exact HK.out.size
        have hbr : b < wr.heap.size := by omega
        have e0 : wr.cell? ⟨b, off + k * 4, none⟩ = some (.string (mget ms k).s) := (World.cell?_of_block hbw).trans (hc k hlt 0 (by omega))
        have e1 : wr.cell? ⟨b, off + k * 4 + 1, none⟩ = some (.string (mget ms k).p) := (World.cell?_of_block hbw).trans (hc k hlt 1 (by omega))
        have e2 : wr.cell? ⟨b, off + k * 4 + 2, none⟩ = some (.int .i64 (mget ms k).f) := (World.cell?_of_block hbw).trans (hc k hlt 2 (by omega))
        have e3 : wr.cell? ⟨b, off + k * 4 + 3, none⟩ = some (.int .i64 (mget ms k).t) := (World.cell?_of_block hbw).trans (hc k hlt 3 (by omega))
        have hsucc := stK_succ (uf + us) uf ms hlt
        unfold Pcs.step at hsucc
        obtain ⟨V, hV, hvb, hvs, hvq⟩ := alloc_block wr #[.string (mget ms k).s, .string (mget ms k).p, .int .i64 (mget ms k).f, .int .i64 (mget ms k).t] 78
        have HVQ := Lib.hid hvq
        have HVB := Lib.hid hvb
        have HV' := Lib.hid hV
        have HPV := Lib.hid (hp.kept (Kept.of_below (O := fun _ => False) hvb) (by simp) (by simp) (by simp) (by simp) (by simp) (by simp))
        have L0 : ∀ Y : Ext V, Y.1.cell? ⟨wr.heap.size, 0, none⟩ = some (.string (mget ms k).s) := Ext.ex (block_cell hvq rfl)
        have L1 : ∀ Y : Ext V, Y.1.cell? ⟨wr.heap.size, 1, none⟩ = some (.string (mget ms k).p) := Ext.ex (block_cell hvq rfl)
        have L2 : ∀ Y : Ext V, Y.1.cell? ⟨wr.heap.size, 2, none⟩ = some (.int .i64 (mget ms k).f) := Ext.ex (block_cell hvq rfl)
        have L3 : ∀ Y : Ext V, Y.1.cell? ⟨wr.heap.size, 3, none⟩ = some (.int .i64 (mget ms k).t) := Ext.ex (block_cell hvq rfl)
        have L4 : ∀ Y : Ext V, Y.1.cell? ⟨ca, 0, none⟩ = some (.int .i64 (stK (uf + us) uf ms k).1) := Ext.ex (cell_of_one HPV.out.hca)
        have DE := Lib.hid (fun W => gend_any (mget ms k).s (mget ms k).p (mget ms k).f (mget ms k).t W)
        unfold mountV at DE
        rw [show Gar.endG (mget ms k).t = Pcs.en (mget ms k) from rfl] at DE
        have HSUCC := Lib.hid hsucc
        clear hbw hc hV hvb hvq hsucc hp HPE
        have hvsz : wr.heap.size < V.heap.size := by omega
        have hno := not_own HP.out.own (Or.inr (Nat.le_refl wr.heap.size))
        have HNO := Lib.hid hno
        have hlen : ((stK (uf + us) uf ms k).2.length : Int) ≤ 999990 := by omega
        have hal : 0 ≤ (stK (uf + us) uf ms k).1 := by omega
        clear hno hb1
        obtain ⟨st, hst0⟩ : ∃ st, stK (uf + us) uf ms k = st := ⟨_, rfl⟩
        rw [hst0] at L4 HPV HSUCC hal hlen
        obtain ⟨a, ha⟩ : ∃ a, st.1 = a := ⟨_, rfl⟩
        obtain ⟨l, hl'⟩ : ∃ l, st.2 = l := ⟨_, rfl⟩
        have HSA : Hid (a = st.1) := Lib.hid ha.symm
        have HSL : Hid (l = st.2) := Lib.hid hl'.symm
        rw [ha] at L4 HPV hal
        rw [hl'] at HPV hlen
        clear hst0 ha hl'
        have hys : ∀ Y : Ext V, bs ≤ Y.1.heap.size := fun Y => Nat.le_trans hsz (Nat.le_trans HVB.out.size Y.2.size)
        have HYS := Lib.hid hys
        clear hys
        cases hd : decide (a < Pcs.en (mget ms k))
        · rw [decide_eq_false_iff_not] at hd
          have hst2 : stK (uf + us) uf ms (k + 1) = st := HSUCC.out.trans (if_neg (by rw [← HSA.out]; exact hd))
          have HST2 := Lib.hid hst2
          have d1 : decide (a < Pcs.en (mget ms k)) = false := by rw [decide_eq_false_iff_not]; exact hd
          clear hst2 hd
          go_upto_region 7 with (fail)
          rw [HV'.out]
          refine ext_wp fun X1 => ?_
          refine wp_region_ext (W := V) _ (by kernel_rfl) (by kernel_rfl) ?_
          repeat go_big_quiet_step ((go_at_call 49; exact Ext.calls _ (DE.out _)))
          refine wpQuiet_nil ?_
          intro _ hw'
          obtain ⟨Y, rfl⟩ := hw'
          go_wp2_with fail
          go_roundw
          case rel =>
            refine ⟨k + 1, by go_num, by omega, Lib.hid ⟨v, ?_⟩, Lib.hid ((HK.out.trans (Kept.of_below HVB.out)).trans (Kept.of_below Y.2))⟩
            rw [HST2.out, ← HSA.out, ← HSL.out]
            exact HPV.out.kept (Kept.of_below (O := fun _ => False) Y.2) (by simp) (by simp) (by simp) (by simp) (by simp) (by simp)
          case measure => simp [intOf]; omega
        · have hd' := hd
          rw [decide_eq_true_eq] at hd'
          have hst2 : stK (uf + us) uf ms (k + 1) = Pcs.add (uf + us) (Pcs.add (uf + us) (a, l) Pcs.em (mget ms k).f) (mget ms k).p (Pcs.en (mget ms k)) := by
            rw [HSUCC.out, if_pos (by rw [← HSA.out]; exact hd'), show st = (a, l) by rw [HSA.out, HSL.out]]
          have HST2 := Lib.hid hst2
          clear hst2 hd'
          go_upto_region 7 with (fail)
          rw [HV'.out]
          refine ext_wp fun X1 => ?_
          refine wp_region_ext (W := V) _ (by kernel_rfl) (by kernel_rfl) ?_
          repeat go_big_quiet_step ((go_at_call 49; exact Ext.calls _ (DE.out _)))
          refine wpQuiet_nil ?_
          intro _ hw'
          obtain ⟨Y, rfl⟩ := hw'
          go_wp2_with fail
          have hpy := HPV.out.kept (Kept.of_below (O := fun _ => False) Y.2) (by simp) (by simp) (by simp) (by simp) (by simp) (by simp)
          refine (HDA.out _ _ _ v a l hpy hal (by omega) (HYS.out Y)).mono ?_
          rintro e w2 ⟨rfl, ⟨v2, hp2⟩, hk2⟩
          have hnb : ¬ (wr.heap.size = V1.heap.size ∨ wr.heap.size = ca ∨ v.ownBlock = some wr.heap.size) := by
            rintro (h | h | h)
            · omega
            · omega
            · exact HNO.out h
          have hq2 := (hk2.block wr.heap.size (Nat.lt_of_lt_of_le hvsz Y.2.size) hnb).trans (below_block Y.2 HVQ.out)
          have hsz2 : bs ≤ w2.heap.size := Nat.le_trans (HYS.out Y) hk2.size
          have hk02 : Kept (fun b => b = V1.heap.size ∨ b = ca ∨ bs ≤ b) wc w2 := by
            refine ((HK.out.trans (Kept.of_below HVB.out)).trans (Kept.of_below Y.2)).trans ⟨hk2.os, hk2.tape, hk2.output, hk2.size, fun b hb ho => hk2.block b hb (fun h => ho ?_)⟩
            rcases h with h | h | h
            · exact Or.inl h
            · exact Or.inr (Or.inl h)
            · exact Or.inr (Or.inr (HP.out.own.lt b h).1)
          have hno2 := not_own_ty hp2.own hq2 (by decide)
          have hno3 : ¬ (wr.heap.size = V1.heap.size ∨ wr.heap.size = ca ∨ v2.ownBlock = some wr.heap.size) := by
            rintro (h | h | h)
            · omega
            · omega
            · exact hno2 h
          have hlen2 := (add_len (uf + us) (a, l) Pcs.em (mget ms k).f).1
          have hal2 := (add_len (uf + us) (a, l) Pcs.em (mget ms k).f).2
          simp only at hlen2 hal2
          rw [show (⟨#[]⟩ : ByteArray) = Pcs.em from rfl] at hp2
          generalize Pcs.add (uf + us) (a, l) Pcs.em (mget ms k).f = st2 at HST2 hp2 hlen2 hal2
          have N0 : ∀ Z : ExtO (fun b => b = V1.heap.size ∨ b = ca ∨ v2.ownBlock = some b) w2, Z.1.cell? ⟨wr.heap.size, 0, none⟩ = some (.string (mget ms k).s) := ExtO.ex hno3 (block_cell hq2 rfl)
          have N1 : ∀ Z : ExtO (fun b => b = V1.heap.size ∨ b = ca ∨ v2.ownBlock = some b) w2, Z.1.cell? ⟨wr.heap.size, 1, none⟩ = some (.string (mget ms k).p) := ExtO.ex hno3 (block_cell hq2 rfl)
          have N2 : ∀ Z : ExtO (fun b => b = V1.heap.size ∨ b = ca ∨ v2.ownBlock = some b) w2, Z.1.cell? ⟨wr.heap.size, 2, none⟩ = some (.int .i64 (mget ms k).f) := ExtO.ex hno3 (block_cell hq2 rfl)
          have N3 : ∀ Z : ExtO (fun b => b = V1.heap.size ∨ b = ca ∨ v2.ownBlock = some b) w2, Z.1.cell? ⟨wr.heap.size, 3, none⟩ = some (.int .i64 (mget ms k).t) := ExtO.ex hno3 (block_cell hq2 rfl)
          have HP2 := Lib.hid hp2
          have HK02 := Lib.hid hk02
          clear hp2 hk02 hk2 hnb hq2 hno2 hno3 hpy HNO L0 L1 L2 L3 L4 hd
          go_wp2_with fail
          refine held_start (C := fun w' => ∃ Z : ExtO (fun b => b = V1.heap.size ∨ b = ca ∨ v2.ownBlock = some b) w2, w' = Z.1) (by kernel_rfl) ?_
          obtain ⟨Z0, hZ0, hz0⟩ : ∃ Z : ExtO (fun b => b = V1.heap.size ∨ b = ca ∨ v2.ownBlock = some b) w2, ({ w2 with drawn := w2.drawn + 1 } : World) = Z.1 ∧ Kept (fun _ => False) w2 Z.1 := ⟨⟨{ w2 with drawn := w2.drawn + 1 }, ⟨rfl, rfl, rfl, Nat.le_refl _, fun _ _ _ => rfl⟩⟩, rfl, ⟨rfl, rfl, rfl, Nat.le_refl _, fun _ _ _ => rfl⟩⟩
          rw [hZ0]
          have HZ0 := Lib.hid hz0
          clear hZ0 hz0
          refine held_quiet (by kernel_rfl) (fun _ _ d _ _ h => by cases d <;> exact h) ⟨Z0, rfl⟩ [0, 1, 2, 3] 2 _ _ (by kernel_rfl) ?_
          change wpQuiet _ _ _ _ (_ :: _ :: _ :: _ :: []) _
          repeat go_big_quiet_step (fail)
          refine wpQuiet_nil ?_
          refine held_do (i := 4) _ rfl (by kernel_rfl) rfl (fun K hK => ?_)
          go_simp
          refine (DE.out _).mono ?_
          rintro e w3 ⟨rfl, hb3⟩
          have hz3 : Kept (fun _ => False) w2 w3 := HZ0.out.trans (Kept.of_below hb3)
          obtain ⟨Z1, rfl⟩ : ∃ Z : ExtO (fun b => b = V1.heap.size ∨ b = ca ∨ v2.ownBlock = some b) w2, w3 = Z.1 := ⟨⟨w3, Z0.2.trans (Kept.of_below hb3)⟩, rfl⟩
          refine hK _ _ ⟨Z1, rfl⟩ ?_
          have HZ3 := Lib.hid hz3
          clear hb3 hK K hz3
          refine held_do (i := 5) _ rfl (by kernel_rfl) rfl (fun K hK => ?_)
          go_simp
          have hp3 := HP2.out.kept HZ3.out (by simp) (by simp) (by simp) (by simp) (by simp) (by simp)
          refine (HDA.out _ _ _ v2 st2.1 st2.2 hp3 (by omega) (by omega) (Nat.le_trans hsz2 HZ3.out.size)).mono ?_
          rintro e w4 ⟨rfl, ⟨v4, hp4⟩, hk4⟩
          have HP4 := Lib.hid hp4
          have HK4 : Hid (Kept (fun b => b = V1.heap.size ∨ b = ca ∨ bs ≤ b) wc w4) := Lib.hid ((HK02.out.trans ⟨HZ3.out.os, HZ3.out.tape, HZ3.out.output, HZ3.out.size, fun b hb _ => HZ3.out.block b hb (by simp)⟩).trans ⟨hk4.os, hk4.tape, hk4.output, hk4.size, fun b hb ho => hk4.block b hb (by
            rintro (h | h | h)
            · exact ho (Or.inl h)
            · exact ho (Or.inr (Or.inl h))
            · exact ho (Or.inr (Or.inr (HP2.out.own.lt b h).1)))⟩)
          obtain ⟨Z2, rfl⟩ : ∃ Z : ExtO (fun b => b = V1.heap.size ∨ b = ca ∨ v2.ownBlock = some b) w2, w4 = Z.1 := ⟨⟨w4, Z1.2.trans hk4⟩, rfl⟩
          refine hK _ _ ⟨Z2, rfl⟩ ?_
          clear hp4 hk4 hK K hp3
          refine wpAnyH_done (by kernel_rfl) ?_ _
          go_wp2_with fail
          go_roundw
          case rel =>
            refine ⟨k + 1, by go_num, by omega, Lib.hid ⟨v4, ?_⟩, HK4⟩
            rw [HST2.out]
            exact HP4.out
          case measure => simp [intOf]; omega
      · have t1 : decide ((k : Int) < (ms.length : Int)) = false := by rw [decide_eq_false_iff_not]; omega
        have t1' : decide (k < ms.length) = false := by simpa using hlt
        obtain rfl : k = ms.length := by omega
        have hsz : bs ≤ wr.heap.size := by rw [← HBS.out]; exact HK.out.size
        have k2 := cell_of_one hp.hcl
        have hpl : (Pcs.add (uf + us) ((stK (uf + us) uf ms ms.length).1, (stK (uf + us) uf ms ms.length).2) ⟨#[]⟩ (uf + us)).2 = Pcs.pieces uf (uf + us) ms := by
          rw [stK_all]
          rfl
        have HPL := Lib.hid hpl
        have HGD := Lib.hid (good_pieces (uf := uf) HO.out h2)
        have hlen : ((stK (uf + us) uf ms ms.length).2.length : Int) ≤ 1000000 := by omega
        have hal : 0 ≤ (stK (uf + us) uf ms ms.length).1 := by omega
        clear hpl hp HPE hlt
        go_wp2_with fail
        refine (HDA.out _ _ _ v _ _ HP.out hal hlen hsz).mono ?_
        rintro e w2 ⟨rfl, ⟨v2, hp2⟩, hk2⟩
        rw [HPL.out] at hp2
        have hk02 : Kept (fun b => b = V1.heap.size ∨ b = ca ∨ bs ≤ b) wc w2 := by
          refine HK.out.trans ⟨hk2.os, hk2.tape, hk2.output, hk2.size, fun b hb ho => hk2.block b hb (fun h => ho ?_)⟩
          rcases h with h | h | h
          · exact Or.inl h
          · exact Or.inr (Or.inl h)
          · exact Or.inr (Or.inr (HP.out.own.lt b h).1)
        generalize (Pcs.add (uf + us) ((stK (uf + us) uf ms ms.length).1, (stK (uf + us) uf ms ms.length).2) ⟨#[]⟩ (uf + us)).1 = af at hp2
        obtain ⟨l, hl0⟩ : ∃ l, Pcs.pieces uf (uf + us) ms = l := ⟨_, rfl⟩
        rw [hl0] at hp2 HGD
        have HL0 := Lib.hid hl0
        clear hl0
        have hn0 := HGD.out.ne h2
        have hn1 := HGD.out.len
        have HFI := Lib.hid (HGD.out.fine h2 h3 h4 h5)
        obtain ⟨g, cap, rfl, hg1, hg2⟩ := hp2.own.form hn0
        have hB2 : bs ≤ w2.heap.size := Nat.le_trans hsz hk2.size
        obtain ⟨B2, hBB⟩ : ∃ B2, w2.heap.size = B2 := ⟨_, rfl⟩
        rw [hBB] at hB2 hg2
        have HBB := Lib.hid hBB
        have HP2 := Lib.hid hp2
        have HK02 := Lib.hid hk02
        have kc := cell_of_one hp2.hco
        have O0 : ∀ Z : ExtO (fun b => B2 ≤ b) w2, Z.1.cell? ⟨V1.heap.size, 0, none⟩ = some (.slice (some ⟨g, 0, none⟩) l.length cap) := ExtO.ex (by show ¬ B2 ≤ V1.heap.size; omega) kc
        obtain ⟨i1, hi1, hy0, hy1, hy2⟩ := info_parts (show (Tryz.prog.info? 3).map (fun i => (i.zero, i.size, i.bytes)) = some (some (.int .i64 0), 1, 8) by kernel_rfl)
        have HI1 := Lib.hid hi1
        have HY0 := Lib.hid hy0
        have HY1 := Lib.hid hy1
        have HY2 := Lib.hid hy2
        have HUI := Lib.hid (show Tryz.prog.underlying 39 = some (.slice 3) by kernel_rfl)
        clear hk2 hp2 hk02 hBB hi1 hy0 hy1 hy2 HP HK HST k2 HPL hal hlen hsz hb1
        go_wp2_with fail
        clear kc
        go_loopw [13, 52] (fun sv iv wr => ∃ (k : Nat), iv = .int .i64 k ∧ k ≤ l.length ∧ Hid (wr.ownsRow B2 3 1 sv k ((List.range k).map fun i => .int .i64 (secW l i))) ∧ Hid (∃ Z : ExtO (fun b => B2 ≤ b) w2, wr = Z.1)) (fun _ iv _ => l.length - (intOf iv).toNat)
        case atStart => exact ⟨0, rfl, by omega, Lib.hid (World.ownsRow_nil _ _ _ _), Lib.hid ⟨⟨w2, Kept.refl _ _⟩, rfl⟩⟩
        case round =>
          obtain ⟨k, rfl, hk, HS, HZE⟩ := hrel
          obtain ⟨Z, rfl⟩ := HZE.out
          by_cases hlt : k < l.length
          · have t1 : decide ((k : Int) < (l.length : Int)) = true := by rw [decide_eq_true_eq]; omega
            have t1' : decide (k < l.length) = true := by simpa using hlt
            have hcell : ∀ j v, j < 5 → (pcell un slot (pget l k))[j]? = some v → Z.1.cell? ⟨g, k * 5 + j, none⟩ = some v := fun j v hj hv => by
              have h6 := HP2.out.own.cells (g := g) rfl (k * 5 + j) v (by rw [← hv]; exact flat5 (fun q => rfl) l k j hlt hj)
              rw [addr_add0] at h6
              exact Z.2.cell (by show ¬ B2 ≤ g; omega) h6
            have e0 : Z.1.cell? ⟨g, k * 5, none⟩ = some (.string un) := hcell 0 _ (by omega) rfl
            have e1 : Z.1.cell? ⟨g, k * 5 + 1, none⟩ = some (.string slot) := hcell 1 _ (by omega) rfl
            have e2 : Z.1.cell? ⟨g, k * 5 + 2, none⟩ = some (.string (pget l k).1) := hcell 2 _ (by omega) rfl
            have e3 : Z.1.cell? ⟨g, k * 5 + 3, none⟩ = some (.int .i64 (pget l k).2) := hcell 3 _ (by omega) rfl
            have e4 : Z.1.cell? ⟨g, k * 5 + 4, none⟩ = some (.int .i64 0) := hcell 4 _ (by omega) rfl
            have hzs : B2 ≤ Z.1.heap.size := Nat.le_trans (Nat.le_of_eq HBB.out.symm) Z.2.size
            clear hcell
            go_wp2_with (at_builtin; refine wpList_append_own _ rfl (.tmp 56) (.tmp 59) 39 rfl B2 3 i1 (.int .i64 0) 1 8 HUI.out HI1.out HY0.out HY1.out HY2.out rfl (by decide) _ k _ rfl ((HS.out.alloc _).alloc _) ⟨Z.1.heap.size + 1, 0, none⟩ 1 1 [.int .i64 (pget l k).2] rfl rfl ?c1 ?c2 ?c3 ?c4 ?c5 ?_)
            case c1 =>
              intro j u hu
              rw [addr_add0, World.cell?_alloc_at _ _ _ _ (by simp)]
              simpa using hu
            case c2 =>
              intro u hu
              simp only [List.mem_singleton] at hu
              rw [hu]
              rfl
            case c3 => unfold maxLen; omega
            case c4 => omega
            case c5 => simp; omega
            intro v5 w5 hown5 hg5 _
            have HS2 : Hid (w5.ownsRow B2 3 1 v5 (k + 1) ((List.range (k + 1)).map fun i => .int .i64 (secW l i))) := Lib.hid (by
              rw [List.range_succ, List.map_append]
              exact hown5)
            have HZ2 : Hid (∃ Z : ExtO (fun b => B2 ≤ b) w2, w5 = Z.1) := Lib.hid ⟨⟨w5, (Z.2.trans (Kept.of_below (below_tr (below_al Z.1 _) (by simp) (below_al _ _)))).grown hg5 (fun q hq _ => (HS.out.lt q hq).1)⟩, rfl⟩
            clear hown5 hg5 HS HZE
            go_wp2_with fail
            go_roundw
            case rel => exact ⟨k + 1, by go_num, by omega, HS2, HZ2⟩
            case measure => simp [intOf]; omega
          · have t1 : decide ((k : Int) < (l.length : Int)) = false := by rw [decide_eq_false_iff_not]; omega
            have t1' : decide (k < l.length) = false := by simpa using hlt
            obtain rfl : k = l.length := by omega
            have hpz := HP2.out.kept Z.2 (by omega) (by omega) (by omega) (by omega) (by omega) (by intro b hb; simp [Value.ownBlock] at hb; omega)
            have hwz : Below w.heap.size w Z.1 := Kept.below (Kept.below HBC.out HK02.out (by rw [HBS.out]; omega) (fun k hk => by omega)) Z.2 (by rw [HBB.out]; omega) (fun k hk => by omega)
            have hzs : B2 ≤ Z.1.heap.size := Nat.le_trans (Nat.le_of_eq HBB.out.symm) Z.2.size
            obtain ⟨g2, cap2, hv2, hg3, hg4⟩ := HS.out.form hn0
            have hrow : Row1 Z.1 (some ⟨g2, 0, none⟩) l.length (secW l) := ⟨fun _ => ⟨g2, 0, rfl, hg4, fun i hi => by
              have h6 := HS.out
              rw [hv2] at h6
              have h7 := h6.cells (g := g2) rfl i (.int .i64 (secW l i)) (by simp [hi])
              rw [addr_add0] at h7
              rw [Nat.zero_add]
              exact h7⟩⟩
            have HPZ := Lib.hid hpz
            have HWZ := Lib.hid hwz
            have DP := Lib.hid (parts_any uw us (some ⟨g2, 0, none⟩) l.length cap2 (secW l) Z.1 hrow HFI.out)
            have kc := cell_of_one hpz.hco
            have ku : Z.1.cell? ⟨w.heap.size, 4, none⟩ = some (.int .i64 uw) := block_cell hpz.hcu rfl
            subst hv2
            clear hpz hwz hrow HS HZE hlt
            go_wp2_with fail
            refine DP.out.mono ?_
            rintro e w6 ⟨lo, g5, hord, rfl, hrf, hg6, hb6⟩
            have hkb6 : Kept (fun b => b = g) Z.1 w6 := Kept.of_below hb6
            have hp6 := HPZ.out.kept (Kept.of_below (O := fun _ => False) hb6) (by simp) (by simp) (by simp) (by simp) (by simp) (by simp)
            have hrw : RowF w6 g5 l.length (wayG uw us (secW l) l.length) := hrf.ext (fun i _ => wayG_of hord i)
            have hg56 : g ≠ g5 := by omega
            have hg7 : g5 < w6.heap.size := hrw.lt
            have HW6 := Lib.hid (HWZ.out.trans (hb6.mono HWZ.out.size))
            have hs6 : w.heap.size ≤ w6.heap.size := HW6.out.size
            have hinit : ∀ i, i < l.length → ∀ j, j < 5 → (pcells un slot l)[i * 5 + j]? = (pcellW un slot (pget l i) (if i < 0 then wayG uw us (secW l) l.length i else 0))[j]? := fun i hi j hj => by
              rw [if_neg (by omega)]
              exact flat5 (fun q => rfl) l i j hi hj
            have HINI := Lib.hid hinit
            have HP6 := Lib.hid hp6
            have HRW := Lib.hid hrw
            have Q0 : ∀ Z : ExtO (fun b => b = g) w6, Z.1.cell? ⟨V1.heap.size, 0, none⟩ = some (.slice (some ⟨g, 0, none⟩) l.length cap) := ExtO.ex (by show ¬ V1.heap.size = g; omega) (cell_of_one hp6.hco)
            obtain ⟨wy, hwy⟩ : ∃ wy, wayG uw us (secW l) l.length = wy := ⟨_, rfl⟩
            rw [hwy] at HINI HRW
            have HWY := Lib.hid hwy
            clear hwy
            clear hkb6 hp6 hrw hord hrf hg6 hb6 kc ku HPZ HWZ HP2 HK02 HFI HBB DP O0 hinit
            go_wp2_with fail
            go_loopw [67] (fun iv wr => ∃ (k : Nat), iv = .int .i64 k ∧ k ≤ l.length ∧ Hid (∃ xs, wr.ownsRow bs 54 5 (.slice (some ⟨g, 0, none⟩) l.length cap) l.length xs ∧ ∀ i, i < l.length → ∀ j, j < 5 → xs[i * 5 + j]? = (pcellW un slot (pget l i) (if i < k then wy i else 0))[j]?) ∧ Hid (∃ Z : ExtO (fun b => b = g) w6, wr = Z.1)) (fun iv _ => l.length - (intOf iv).toNat)
            case atStart => exact ⟨0, rfl, by omega, Lib.hid ⟨_, HP6.out.own, HINI.out⟩, Lib.hid ⟨⟨w6, Kept.refl _ _⟩, rfl⟩⟩
            case round =>
              obtain ⟨k, rfl, hk, HS, HZE⟩ := hrel
              obtain ⟨Z6, rfl⟩ := HZE.out
              obtain ⟨xs, hx1, hx2⟩ := HS.out
              have HX1 := Lib.hid hx1
              have HX2 := Lib.hid hx2
              clear hx1 hx2 HS HZE
              by_cases hlt : k < l.length
              · have t1 : decide ((k : Int) < (l.length : Int)) = true := by rw [decide_eq_true_eq]; omega
                have t1' : decide (k < l.length) = true := by simpa using hlt
                have e5 : Z6.1.cell? ⟨g5, k, none⟩ = some (.int .i64 (wy k)) := Z6.2.cell (by show ¬ g5 = g; omega) (HRW.out.cell hlt)
                have e6 : Z6.1.cell? ⟨g, k * 5 + 4, none⟩ = some (.int .i64 0) := by
                  have h6 := HX1.out.cells (g := g) rfl (k * 5 + 4) (.int .i64 0) (by rw [HX2.out k hlt 4 (by omega), if_neg (by omega)]; rfl)
                  rwa [addr_add0] at h6
                have f6 : Z6.1.frozen? ⟨g, k * 5 + 4, none⟩ = false := World.ownsRow.frozenAt HX1.out (k * 5 + 4)
                obtain ⟨hs1, hs2⟩ := HX1.out.stored (k * 5 + 4) (.int .i64 (wy k))
                have HS2 := Lib.hid hs1
                have HZ7 : Hid (∃ Y : ExtO (fun b => b = g) w6, Z6.1.setCell ⟨g, k * 5 + 4, none⟩ (.int .i64 (wy k)) = Y.1) := Lib.hid ⟨⟨_, Z6.2.grown hs2 (fun q hq _ => by injection hq with hq; exact hq.symm)⟩, rfl⟩
                clear hs1 hs2
                go_wp2_with fail
                go_roundw
                case rel =>
                  refine ⟨k + 1, by go_num, by omega, Lib.hid ⟨_, HS2.out, fun i hi j hj => ?_⟩, HZ7⟩
                  have hlx : xs.length = l.length * 5 := HX1.out.1
                  rw [List.getElem?_set]
                  by_cases e : k * 5 + 4 = i * 5 + j
                  · obtain rfl : i = k := by omega
                    obtain rfl : j = 4 := by omega
                    rw [if_pos rfl, if_pos (by omega), if_pos (by omega)]
                    rfl
                  · rw [if_neg e, HX2.out i hi j hj]
                    by_cases e2 : i = k
                    · subst e2
                      exact pcellW_low _ _ _ _ _ (by omega)
                    · by_cases e3 : i < k
                      · rw [if_pos e3, if_pos (by omega)]
                      · rw [if_neg e3, if_neg (by omega)]
                case measure => simp [intOf]; omega
              · have t1 : decide ((k : Int) < (l.length : Int)) = false := by rw [decide_eq_false_iff_not]; omega
                have t1' : decide (k < l.length) = false := by simpa using hlt
                obtain rfl : k = l.length := by omega
                clear hlt
                go_wp2_with fail
                go_ret
                rw [HL0.out]
                refine ⟨g, cap, rfl, by omega, ⟨fun _ => ⟨g, 0, rfl, (HX1.out.lt g rfl).2, fun i hi j hj => ?_⟩⟩, Kept.below HW6.out Z6.2 hs6 (fun q hq => by omega)⟩
                obtain ⟨u, hu⟩ := pcellW_some un slot (pget l i) (wy i) hj
                have h6 := HX1.out.cells (g := g) rfl (i * 5 + j) u (by rw [HX2.out i hi j hj, if_pos hi, hu])
                rw [addr_add0] at h6
                rw [Nat.zero_add, HWY.out, hu]
                exact h6
end Go.Proofs.YtbkpoepacjinlaaGreat

/- Gear: the mounts of each slot, in a map (program). -/
namespace Go.Proofs.YtbkpoepacjinlaaGreat
open Go.RowKit Go.BigFrame Go.ChangeMaps Go.WideMaps

/-- a slice's header -/
abbrev Hdr := Option (Nat × Nat × Nat)
def hval : Hdr → Value
  | none => .slice none 0 0
  | some (g, n, c) => .slice (some ⟨g, 0, none⟩) n c
def hdat : Hdr → DataW Unit
  | none => .nil
  | some (g, n, c) => .agg [.lit (.int .i64 g), .lit (.int .i64 n), .lit (.int .i64 c)]
def hdrR : Value → Option (DataW Unit × List MemPlace)
  | .slice none 0 0 => some (.nil, [])
  | .slice (some ⟨g, 0, none⟩) n c => some (.agg [.lit (.int .i64 g), .lit (.int .i64 n), .lit (.int .i64 c)], [])
  | _ => none
theorem hdrR_inv : ∀ v x ps, hdrR v = some (hdat x, ps) → v = hval x := by
  intro v x ps h
  unfold hdrR at h
  split at h
  · cases x with
    | none => rfl
    | some y => simp [hdat] at h
  · cases x with
    | none => simp [hdat] at h
    | some y =>
      obtain ⟨a, b, c⟩ := y
      simp only [hdat, Option.some.injEq, Prod.mk.injEq, DataW.agg.injEq, List.cons.injEq, DataW.lit.injEq, Lit.int.injEq] at h
      obtain ⟨⟨⟨_, h1⟩, ⟨_, h2⟩, ⟨_, h3⟩, _⟩, _⟩ := h
      have e1 := Int.ofNat.inj h1
      have e2 := Int.ofNat.inj h2
      have e3 := Int.ofNat.inj h3
      subst e1 e2 e3
      rfl
  · cases h
def mcells (ms : List Pcs.Mnt) : List Value := ms.flatMap mcell
/-- two operations that may come up -/
theorem held_two {P : Program} {Q : Exit → Act → World → Prop} {C : World → Prop} {l : List Oper} {i j fuel : Nat} {listed : Array Bool} {a : Act} {w : World} (oi oj : Oper) (hi : nth l i = some oi) (hj : nth l j = some oj) (hr : Region.ready .any l.toArray listed = [i, j])
    (hwi : Region.wanted oi (yielded l.toArray a.tmps) = true) (hwj : Region.wanted oj (yielded l.toArray a.tmps) = true)
    (h1 : ∀ K : Act → World → Prop, (∀ a' w', C w' → wpAnyH P .any l.toArray Q C fuel (listed.setIfInBounds i true) a' w' → K a' w') → oi.wp P a w K Q)
    (h2 : ∀ K : Act → World → Prop, (∀ a' w', C w' → wpAnyH P .any l.toArray Q C fuel (listed.setIfInBounds j true) a' w' → K a' w') → oj.wp P a w K Q) : wpAnyH P .any l.toArray Q C (fuel + 1) listed a w := by
  rw [nth_eq] at hi hj
  refine wpAnyH_all hr (by simp) fun q hq => ?_
  simp only [List.mem_cons, List.not_mem_nil, or_false] at hq
  rcases hq with rfl | rfl
  · unfold wpOp
    simp only [hi, hwi, if_true]
    exact Or.inl (h1 _ fun a' w' h3 h4 => ⟨h3, h4⟩)
  · unfold wpOp
    simp only [hj, hwj, if_true]
    exact Or.inl (h2 _ fun a' w' h3 h4 => ⟨h3, h4⟩)
theorem wp_lookup_str {α : Type} {P : Program} {k e t : TypeId} {R : Value → Option (DataW Unit × List MemPlace)} {b n : Nat} {dat : α → DataW Unit} {zd : DataW Unit} {f : ByteArray → α} {w : World} {o : Oper} {a : Act} {K : Act → World → Prop} {Q : Exit → Act → World → Prop} (m x : Operand) (hop : o.op = .lookup t m x false)
    (hk : P.underlying k = some .string) (ht : P.underlying t = some (.map k e)) {z : Value} (hz : (zeroValue e).run P w = .ok z w) {zp : List MemPlace} (hzd : R z = some (zd, zp)) (val : α → Value) (hR : ∀ v x ps, R v = some (dat x, ps) → v = val x)
    (hm : a.eval m = .map (some b)) (hown : StrMap w P k R b n dat zd f) {s : ByteArray} (hx : a.eval x = .string s) (hs : s.size ≤ maxLen) (hK : K (a.put o.dst (val (f s))) w) : o.wp P a w K Q := by
  have hrun := hown.look hk ht hz hzd val hR hs
  unfold Oper.wp
  simp [execOp, hop, hm, hx, hrun, Result.andThen]
  exact hK
/-- the mounts of each slot lie in rows of the call's own -/
structure Had (w : World) (base : Nat) (g : Gar) (k : Nat) (hd : ByteArray → Hdr) : Prop where
  row : ∀ s, w.ownsRow base 78 4 (hval (hd s)) (Gar.mountsK g s k).length (mcells (Gar.mountsK g s k))
  nil : ∀ s, Gar.mountsK g s k = [] → hd s = none
theorem Had.kept {w w' : World} {base : Nat} {g : Gar} {k : Nat} {hd : ByteArray → Hdr} (h : Had w base g k hd) {O : Nat → Prop} (hk : Kept O w w') (hO : ∀ b, base ≤ b → ¬ O b) : Had w' base g k hd := by
  refine ⟨fun s => ?_, h.nil⟩
  obtain ⟨h1, h2⟩ := h.row s
  refine ⟨h1, ?_⟩
  rcases h2 with h7 | ⟨q, cap, cur, e1, e2, e3, e4⟩
  · exact Or.inl h7
  · exact Or.inr ⟨q, cap, cur, e1, e2, (hk.block q (lt_of_block e3) (hO q e2)).trans e3, e4⟩
theorem mountsK_mem {g : Gar} {s : ByteArray} {k : Nat} {m : Pcs.Mnt} (h : m ∈ Gar.mountsK g s k) : m.s = s := by
  obtain ⟨i, _, h2, rfl⟩ := Gar.mem_mountsK h
  exact h2
/-- the first cell of a row names its slot -/
theorem Had.first {w : World} {base : Nat} {g : Gar} {k : Nat} {hd : ByteArray → Hdr} (h : Had w base g k hd) {s : ByteArray} {q : Nat} (hq : (hval (hd s)).ownBlock = some q) : w.cell? ⟨q, 0, none⟩ = some (.string s) := by
  cases hl : Gar.mountsK g s k with
  | nil => rw [h.nil s hl] at hq; simp [hval, Value.ownBlock] at hq
  | cons m l =>
    have h1 := (h.row s).cells hq 0 (.string s) (by
      rw [hl]
      have : m.s = s := mountsK_mem (k := k) (g := g) (by rw [hl]; simp)
      simp [mcells, mcell, this])
    rwa [addr_add0] at h1
theorem Had.apart {w : World} {base : Nat} {g : Gar} {k : Nat} {hd : ByteArray → Hdr} (h : Had w base g k hd) {s s' : ByteArray} (hs : s' ≠ s) : (hval (hd s')).ownBlock = none ∨ (hval (hd s')).ownBlock ≠ (hval (hd s)).ownBlock := by
  cases h1 : (hval (hd s')).ownBlock with
  | none => exact Or.inl rfl
  | some q =>
    refine Or.inr fun h2 => hs ?_
    have h3 := h.first h1
    have h4 := h.first h2.symm
    rw [h3] at h4
    injection h4 with h4
    injection h4
/-- one mount more -/
theorem Had.step {w w1 w2 : World} {base B : Nat} {g : Gar} {k : Nat} {hd : ByteArray → Hdr} {y : Hdr} (h : Had w base g k hd) (hB : B < base) (h1 : w.grownBy w1 (hval (hd (g.ms k))).ownBlock)
    (ho : w1.ownsRow base 78 4 (hval y) ((Gar.mountsK g (g.ms k) k).length + 1) (mcells (Gar.mountsK g (g.ms k) k) ++ mcell (g.mnt k))) (h2 : w1.grownBy w2 (some B)) : Had w2 base g (k + 1) (setF hd (g.ms k) y) := by
  have nb : ∀ {v : Value} {n : Nat} {xs : List Value} {w : World}, w.ownsRow base 78 4 v n xs → v.ownBlock = none ∨ v.ownBlock ≠ some B := fun {v n xs w} h => by
    cases hv : v.ownBlock with
    | none => exact Or.inl rfl
    | some q => exact Or.inr fun e => by injection e with e; have := (h.lt q hv).1; omega
  refine ⟨fun s => ?_, fun s hs => ?_⟩
  · by_cases e : g.ms k = s
    · subst e
      rw [Gar.mountsK, if_pos rfl, List.length_append]
      unfold setF
      rw [if_pos rfl]
      unfold mcells
      rw [List.flatMap_append]
      have := ho.kept h2 (nb ho)
      simpa [mcells] using this
    · rw [Gar.mountsK, if_neg e]
      unfold setF
      rw [if_neg (fun e' => e e'.symm)]
      have h3 := (h.row s).kept h1 (h.apart (fun e' => e e'.symm))
      exact h3.kept h2 (nb h3)
  · by_cases e : g.ms k = s
    · rw [Gar.mountsK, if_pos e] at hs
      simp at hs
    · rw [Gar.mountsK, if_neg e] at hs
      unfold setF
      rw [if_neg (fun e' => e e'.symm)]
      exact h.nil s hs
end Go.Proofs.YtbkpoepacjinlaaGreat

/- Gear: the mounts of each slot, in a map: the walk (program; printed by wip/g/gen_had.py). -/
namespace Go.Proofs.YtbkpoepacjinlaaGreat
open Go.RowKit Go.BigFrame

theorem mcell_one {m : Pcs.Mnt} {u : Value} (hu : u ∈ mcell m) : u.oneCell' = true := by
  simp only [mcell, List.mem_cons, List.not_mem_nil, or_false] at hu
  rcases hu with rfl | rfl | rfl | rfl <;> rfl
theorem own_hdr {w : World} {base e size n : Nat} {v : Value} {xs : List Value} (h : w.ownsRow base e size v n xs) (hn : 0 < n) : ∃ y : Hdr, v = hval y := by
  obtain ⟨g, cap, rfl, _⟩ := h.form hn
  exact ⟨some (g, n, cap), rfl⟩
theorem hdrR_of (y : Hdr) : hdrR (hval y) = some (hdat y, []) := by
  cases y <;> rfl
theorem Kept.weaken {O O' : Nat → Prop} {a b : World} (h : Kept O a b) (hO : ∀ q, O q → O' q) : Kept O' a b := ⟨h.os, h.tape, h.output, h.size, fun k hk ho => h.block k hk (fun e => ho (hO k e))⟩
theorem grown_of {w w' w'' : World} {r : Option Nat} (h : Below w.heap.size w w') (k : w'.grownBy w'' r) : w.grownBy w'' r :=
  ⟨k.os.trans h.os, k.tape.trans h.tape, k.output.trans h.output, Nat.le_trans h.size k.size, fun i hi hr => (k.block i (Nat.lt_of_lt_of_le hi h.size) hr).trans (h.block i hi)⟩
theorem mnt_len {g : Gar} {s : ByteArray} : ∀ k, (Gar.mountsK g s k).length ≤ k
  | 0 => by simp [Gar.mountsK]
  | k + 1 => by
    rw [Gar.mountsK]
    have := mnt_len (g := g) (s := s) k
    split <;> simp <;> omega
set_option maxHeartbeats 4000000 in
set_option maxRecDepth 100000 in
theorem had_any (g : Gar) (a0 a1 a2 a3 : Option Addr) (c0 c1 c2 c3 : Nat) (w : World) (h : GarIn w g a0 a1 a2 a3) (hnm : g.nm ≤ 2000) :
    Calls Tryz.prog 54 #[garV g a0 a1 a2 a3 c0 c1 c2 c3] w fun e w' => Below w.heap.size w w' ∧ ∃ B base hd, e = .returned (.map (some B)) ∧ w.heap.size ≤ B ∧ B < base ∧ StrMap w' Tryz.prog 9 hdrR B g.nm hdat .nil hd ∧ Had w' base g g.nm hd := by
  have HG := Lib.hid h
  have hl2 := h.l2
  clear h
  have HUS := Lib.hid (show Tryz.prog.underlying 9 = some .string by kernel_rfl)
  have HUH := Lib.hid (show Tryz.prog.underlying 92 = some (.map 9 24) by kernel_rfl)
  have HUM := Lib.hid (show Tryz.prog.underlying 24 = some (.slice 78) by kernel_rfl)
  have HzH := Lib.hid (show ∀ u : World, (zeroValue 24).run Tryz.prog u = .ok (.slice none 0 0) u from fun u => by kernel_rfl)
  obtain ⟨i0, hi0, hy0, hy1, hy2⟩ := info_parts (show (Tryz.prog.info? 78).map (fun i => (i.zero, i.size, i.bytes)) = some (some (.agg #[.string ⟨#[]⟩, .string ⟨#[]⟩, .int .i64 0, .int .i64 0]), 4, 48) by kernel_rfl)
  have HI0 := Lib.hid hi0
  have HY0 := Lib.hid hy0
  have HY1 := Lib.hid hy1
  have HY2 := Lib.hid hy2
  clear hi0 hy0 hy1 hy2
  unfold garV
  have hmm := @run_makeMap Tryz.prog
  obtain ⟨W0, hW0, hb0, hs0, hl0'⟩ := alloc_cells w #[.slice a0 g.np c0, .slice a1 g.ns c1, .slice a2 g.nm c2, .slice a3 g.nu c3] 27
  obtain ⟨W, hW⟩ : ∃ W, W0.alloc (.map #[] 0) = W := ⟨_, rfl⟩
  have hbw : Below W0.heap.size W0 W := hW ▸ below_al W0 _
  have hsw : W.heap.size = W0.heap.size + 1 := by rw [← hW, World.size_alloc]
  have e2 := below_cell hbw (hl0' 2 _ rfl)
  have hm0 : StrMap W Tryz.prog 9 hdrR W0.heap.size 0 hdat .nil (fun _ => none) := by
    rw [← hW]
    exact StrMap.made W0 _ _ _ (fun s => rfl)
  obtain ⟨B, hB⟩ : ∃ B, W0.heap.size = B := ⟨_, rfl⟩
  rw [hB] at hm0 hsw hs0
  obtain ⟨base, hbase⟩ : ∃ base, W.heap.size = base := ⟨_, rfl⟩
  have hBb : B < base := by omega
  have HBB := Lib.hid hBb
  have hwb : w.heap.size < B := by omega
  have HBW := Lib.hid (hb0.trans (hbw.mono (by omega)))
  have HM0 := Lib.hid hm0
  have HH0 : Hid (Had W base g 0 (fun _ => none)) := Lib.hid ⟨fun s => World.ownsRow_nil _ _ _ _, fun s _ => rfl⟩
  have HW : Hid ((w.alloc (.cells #[.slice a0 g.np c0, .slice a1 g.ns c1, .slice a2 g.nm c2, .slice a3 g.nu c3] 27)).alloc (.map #[] 0) = W) := Lib.hid (by rw [hW0, hW])
  have HBe : Hid (w.heap.size + 1 = B) := Lib.hid hs0.symm
  have HBASE0 := Lib.hid hbase
  clear hW0 hW hb0 hbw hsw hl0' hm0 hB hbase hs0
  go_enter Tryz.func54, Tryz.ntmps54
  go_upto_region 2 with (fail)
  rw [HW.out, HBe.out]
  go_wp2_with fail
  go_loopw [10] (fun iv wr => ∃ (k : Nat), iv = .int .i64 k ∧ k ≤ g.nm ∧ Hid (∃ hd, StrMap wr Tryz.prog 9 hdrR B k hdat .nil hd ∧ Had wr base g k hd) ∧ Hid (Kept (fun b => b = B ∨ base ≤ b) W wr)) (fun iv _ => g.nm - (intOf iv).toNat)
  case atStart => exact ⟨0, rfl, by omega, Lib.hid ⟨_, HM0.out, HH0.out⟩, Lib.hid (Kept.refl _ _)⟩
  case round =>
    obtain ⟨k, rfl, hk, HE, HK⟩ := hrel
    obtain ⟨hd, hm, hh⟩ := HE.out
    by_cases hlt : k < g.nm
    · have t1 : decide ((k : Int) < (g.nm : Int)) = true := by rw [decide_eq_true_eq]; omega
      have hgr := HG.out.r2.below HBW.out (Nat.le_refl _)
      obtain ⟨b, off, rfl, hbl0, _⟩ := HG.out.r2.here (by omega)
      obtain ⟨b', off', hbe, hbl, hc⟩ := (Kept.row hgr HK.out (fun b' off' e => by injection e with e; injection e with e _; omega)).here (by omega)
      obtain ⟨rfl, rfl⟩ : b = b' ∧ off = off' := by injection hbe with e; injection e with e1 e2; exact ⟨e1, e2⟩
      have e0 : wr.cell? ⟨b, off + k * 4, none⟩ = some (.string (g.ms k)) := hc k hlt 0 (by omega)
      have e1 : wr.cell? ⟨b, off + k * 4 + 1, none⟩ = some (.string (g.mp k)) := hc k hlt 1 (by omega)
      have e2 : wr.cell? ⟨b, off + k * 4 + 2, none⟩ = some (.int .i64 (g.mf k)) := hc k hlt 2 (by omega)
      have e3 : wr.cell? ⟨b, off + k * 4 + 3, none⟩ = some (.int .i64 (g.mt k)) := hc k hlt 3 (by omega)
      obtain ⟨V, hV, hvb, hvs, hvq⟩ := alloc_block wr #[.string (g.ms k), .string (g.mp k), .int .i64 (g.mf k), .int .i64 (g.mt k)] 78
      have HV' := Lib.hid hV
      have HVB := Lib.hid hvb
      have hszw : base ≤ wr.heap.size := by rw [← HBASE0.out]; exact HK.out.size
      have HHAD := Lib.hid (hh.kept (Kept.of_below (O := fun _ => False) hvb) (by simp))
      have HMV := Lib.hid (hm.keptO (Kept.of_below (O := fun _ => False) hvb) (by simp))
      have hv0 : ∃ v0, hval (hd (g.ms k)) = v0 := ⟨_, rfl⟩
      obtain ⟨v0, hv0⟩ := hv0
      have HV0 := Lib.hid hv0
      have hrw := hh.row (g.ms k)
      rw [hv0] at hrw
      have hno := not_own hrw (Or.inr (Nat.le_refl wr.heap.size))
      have hweak : ∀ q, (q = B ∨ v0.ownBlock = some q) → (q = B ∨ base ≤ q) := fun q hq => hq.elim Or.inl (fun h => Or.inr (hrw.lt q h).1)
      have HWEAK := Lib.hid hweak
      have hnl : ¬ (wr.heap.size = B ∨ v0.ownBlock = some wr.heap.size) := by
        rintro (h | h)
        · omega
        · exact hno h
      have L0 : ∀ Z : ExtO (fun b => b = B ∨ v0.ownBlock = some b) V, Z.1.cell? ⟨wr.heap.size, 0, none⟩ = some (.string (g.ms k)) := ExtO.ex hnl (block_cell hvq rfl)
      have L1 : ∀ Z : ExtO (fun b => b = B ∨ v0.ownBlock = some b) V, Z.1.cell? ⟨wr.heap.size, 1, none⟩ = some (.string (g.mp k)) := ExtO.ex hnl (block_cell hvq rfl)
      have L2 : ∀ Z : ExtO (fun b => b = B ∨ v0.ownBlock = some b) V, Z.1.cell? ⟨wr.heap.size, 2, none⟩ = some (.int .i64 (g.mf k)) := ExtO.ex hnl (block_cell hvq rfl)
      have L3 : ∀ Z : ExtO (fun b => b = B ∨ v0.ownBlock = some b) V, Z.1.cell? ⟨wr.heap.size, 3, none⟩ = some (.int .i64 (g.mt k)) := ExtO.ex hnl (block_cell hvq rfl)
      have hln := mnt_len (g := g) (s := g.ms k) k
      have HLEN : Hid ((Gar.mountsK g (g.ms k) k).length ≤ 2000) := Lib.hid (by omega)
      have HKM : Hid (k < maxLen) := Lib.hid (by unfold maxLen; omega)
      have HSZK := Lib.hid (HG.out.z2 k hlt).1
      have HSV : Hid (base ≤ V.heap.size) := Lib.hid (by omega)
      clear hh hm hrw hno hweak hnl hvb hvs hvq hV hv0 hc hgr hln HE hbe
      go_upto_region 5 with (fail)
      rw [HV'.out]
      refine held_start (C := fun w' => ∃ Z : ExtO (fun b => b = B ∨ v0.ownBlock = some b) V, w' = Z.1) (by kernel_rfl) ?_
      obtain ⟨Y0, hY0, hy0⟩ : ∃ Z : ExtO (fun b => b = B ∨ v0.ownBlock = some b) V, ({ V with drawn := V.drawn + 1 } : World) = Z.1 ∧ Below V.heap.size V Z.1 := ⟨⟨{ V with drawn := V.drawn + 1 }, ⟨rfl, rfl, rfl, Nat.le_refl _, fun _ _ _ => rfl⟩⟩, rfl, ⟨rfl, rfl, rfl, Nat.le_refl _, fun _ _ => rfl⟩⟩
      rw [hY0]
      have HVY := Lib.hid hy0
      have HMY := Lib.hid (HMV.out.keptO (Kept.of_below (O := fun _ => False) hy0) (by simp))
      clear hY0 hy0
      refine held_quiet (by kernel_rfl) (fun _ _ d _ _ h => by cases d <;> exact h) ⟨Y0, rfl⟩ [0, 1, 2, 3, 4, 5, 7] 4 _ _ (by kernel_rfl) ?_
      change wpQuiet _ _ _ _ (_ :: _ :: _ :: _ :: _ :: _ :: _ :: []) _
      repeat go_big_quiet_step (fail)
      refine wpQuiet_nil ?_
      refine held_two (i := 6) (j := 8) _ _ rfl rfl (by kernel_rfl) rfl rfl (fun K hK => ?_) (fun K hK => ?_)
      · refine wp_lookup_str (.tmp 17) (.tmp 19) rfl HUS.out HUH.out (HzH.out _) (zp := []) rfl hval hdrR_inv rfl HMY.out rfl HSZK.out ?_
        rw [HV0.out]
        refine hK _ _ ⟨Y0, rfl⟩ ?_
        clear hK K
        simp only [Act.put, List.setIfInBounds_toArray, List.set_cons_zero, List.set_cons_succ]
        refine held_do (i := 8) _ rfl (by kernel_rfl) rfl (fun K hK => ?_)
        go_simp
        obtain ⟨Wb, hWb, hwb1, hwb2, hwq⟩ := alloc_block Y0.1 #[.string (g.ms k), .string (g.mp k), .int .i64 (g.mf k), .int .i64 (g.mt k)] 78
        rw [hWb]
        have hvz := below_step HVY.out hwb1
        obtain ⟨Zb, rfl⟩ : ∃ Z : ExtO (fun b => b = B ∨ v0.ownBlock = some b) V, Wb = Z.1 := ⟨⟨Wb, Kept.of_below hvz⟩, rfl⟩
        have HVZ := Lib.hid hvz
        have HWQ := Lib.hid hwq
        have HMZB := Lib.hid (HMV.out.keptO (Kept.of_below (O := fun _ => False) hvz) (by simp))
        have HHZB := Lib.hid (HHAD.out.kept (Kept.of_below (O := fun _ => False) hvz) (by simp))
        refine hK _ _ ⟨Zb, rfl⟩ ?_
        clear hWb hwb1 hwb2 hwq hvz hK K
        refine held_do (i := 9) _ rfl (by kernel_rfl) rfl (fun K hK => ?_)
        have hrow := HHZB.out.row (g.ms k)
        rw [HV0.out] at hrow
        have HROW := Lib.hid hrow
        clear hrow
        refine wp_append_own Zb.1 (.tmp 20) (.tmp 22) 24 rfl base 78 i0 (.agg #[.string ⟨#[]⟩, .string ⟨#[]⟩, .int .i64 0, .int .i64 0]) 4 48 HUM.out HI0.out HY0.out HY1.out HY2.out rfl (by decide) v0 _ _ rfl HROW.out ⟨Y0.1.heap.size, 0, none⟩ 1 1 (mcell (g.mnt k)) rfl rfl (fun j u hu => by rw [addr_add0]; exact block_cell HWQ.out (by simpa [mcell, Gar.mnt] using hu)) (fun u hu => mcell_one hu) (by have := HLEN.out; unfold maxLen; omega) (by have := HLEN.out; omega) (Nat.le_trans HSV.out HVZ.out.size) (fun v5 w5 hown5 hg5 _ => ?_)
        obtain ⟨y, hy⟩ := own_hdr hown5 (by omega)
        subst hy
        have hmz := HMZB.out.kept hg5 (by
          intro e
          have := (HROW.out.lt B e.symm).1
          have := HBB.out
          omega)
        have HMZ := Lib.hid hmz
        have hgg := grown_of HVZ.out hg5
        rw [← HV0.out] at hgg
        have HGG := Lib.hid hgg
        have HOW := Lib.hid hown5
        obtain ⟨Z5, rfl⟩ : ∃ Z : ExtO (fun b => b = B ∨ v0.ownBlock = some b) V, w5 = Z.1 := ⟨⟨w5, Zb.2.grown hg5 (fun q hq _ => Or.inr hq)⟩, rfl⟩
        refine hK _ _ ⟨Z5, rfl⟩ ?_
        clear hmz hgg hg5 hown5 hK K
        simp only [Act.put, List.setIfInBounds_toArray, List.set_cons_zero, List.set_cons_succ]
        refine held_do (i := 10) _ rfl (by kernel_rfl) rfl (fun K hK => ?_)
        refine wp_update_str (.tmp 14) (.tmp 16) (.tmp 23) rfl HUS.out HUH.out rfl HMZ.out HKM.out rfl HSZK.out rfl (y := y) (hdrR_of y) (fun w6 hm6 hg6 => ?_)
        have HM6 := Lib.hid hm6
        have HHAD6 := Lib.hid (HHAD.out.step HBB.out HGG.out HOW.out hg6)
        obtain ⟨Z6, rfl⟩ : ∃ Z : ExtO (fun b => b = B ∨ v0.ownBlock = some b) V, w6 = Z.1 := ⟨⟨w6, Z5.2.grown hg6 (fun q hq _ => by injection hq with hq; exact Or.inl hq.symm)⟩, rfl⟩
        refine hK _ _ ⟨Z6, rfl⟩ ?_
        clear hg6 hm6 hK K
        simp only [Act.put]
        refine wpAnyH_done (by kernel_rfl) ?_ _
        go_wp2_with fail
        go_roundw
        case rel => exact ⟨k + 1, by go_num, by omega, Lib.hid ⟨_, HM6.out, HHAD6.out⟩, Lib.hid ((HK.out.trans (Kept.of_below HVB.out)).trans (Z6.2.weaken HWEAK.out))⟩
        case measure => simp [intOf]; omega
      · go_simp
        obtain ⟨Wb, hWb, hwb1, hwb2, hwq⟩ := alloc_block Y0.1 #[.string (g.ms k), .string (g.mp k), .int .i64 (g.mf k), .int .i64 (g.mt k)] 78
        rw [hWb]
        have hvz := below_step HVY.out hwb1
        obtain ⟨Zb, rfl⟩ : ∃ Z : ExtO (fun b => b = B ∨ v0.ownBlock = some b) V, Wb = Z.1 := ⟨⟨Wb, Kept.of_below hvz⟩, rfl⟩
        have HVZ := Lib.hid hvz
        have HWQ := Lib.hid hwq
        have HMZB := Lib.hid (HMV.out.keptO (Kept.of_below (O := fun _ => False) hvz) (by simp))
        have HHZB := Lib.hid (HHAD.out.kept (Kept.of_below (O := fun _ => False) hvz) (by simp))
        refine hK _ _ ⟨Zb, rfl⟩ ?_
        clear hWb hwb1 hwb2 hwq hvz hK K
        refine held_do (i := 6) _ rfl (by kernel_rfl) rfl (fun K hK => ?_)
        refine wp_lookup_str (.tmp 17) (.tmp 19) rfl HUS.out HUH.out (HzH.out _) (zp := []) rfl hval hdrR_inv rfl HMZB.out rfl HSZK.out ?_
        rw [HV0.out]
        refine hK _ _ ⟨Zb, rfl⟩ ?_
        clear hK K
        simp only [Act.put, List.setIfInBounds_toArray, List.set_cons_zero, List.set_cons_succ]
        refine held_do (i := 9) _ rfl (by kernel_rfl) rfl (fun K hK => ?_)
        have hrow := HHZB.out.row (g.ms k)
        rw [HV0.out] at hrow
        have HROW := Lib.hid hrow
        clear hrow
        refine wp_append_own Zb.1 (.tmp 20) (.tmp 22) 24 rfl base 78 i0 (.agg #[.string ⟨#[]⟩, .string ⟨#[]⟩, .int .i64 0, .int .i64 0]) 4 48 HUM.out HI0.out HY0.out HY1.out HY2.out rfl (by decide) v0 _ _ rfl HROW.out ⟨Y0.1.heap.size, 0, none⟩ 1 1 (mcell (g.mnt k)) rfl rfl (fun j u hu => by rw [addr_add0]; exact block_cell HWQ.out (by simpa [mcell, Gar.mnt] using hu)) (fun u hu => mcell_one hu) (by have := HLEN.out; unfold maxLen; omega) (by have := HLEN.out; omega) (Nat.le_trans HSV.out HVZ.out.size) (fun v5 w5 hown5 hg5 _ => ?_)
        obtain ⟨y, hy⟩ := own_hdr hown5 (by omega)
        subst hy
        have hmz := HMZB.out.kept hg5 (by
          intro e
          have := (HROW.out.lt B e.symm).1
          have := HBB.out
          omega)
        have HMZ := Lib.hid hmz
        have hgg := grown_of HVZ.out hg5
        rw [← HV0.out] at hgg
        have HGG := Lib.hid hgg
        have HOW := Lib.hid hown5
        obtain ⟨Z5, rfl⟩ : ∃ Z : ExtO (fun b => b = B ∨ v0.ownBlock = some b) V, w5 = Z.1 := ⟨⟨w5, Zb.2.grown hg5 (fun q hq _ => Or.inr hq)⟩, rfl⟩
        refine hK _ _ ⟨Z5, rfl⟩ ?_
        clear hmz hgg hg5 hown5 hK K
        simp only [Act.put, List.setIfInBounds_toArray, List.set_cons_zero, List.set_cons_succ]
        refine held_do (i := 10) _ rfl (by kernel_rfl) rfl (fun K hK => ?_)
        refine wp_update_str (.tmp 14) (.tmp 16) (.tmp 23) rfl HUS.out HUH.out rfl HMZ.out HKM.out rfl HSZK.out rfl (y := y) (hdrR_of y) (fun w6 hm6 hg6 => ?_)
        have HM6 := Lib.hid hm6
        have HHAD6 := Lib.hid (HHAD.out.step HBB.out HGG.out HOW.out hg6)
        obtain ⟨Z6, rfl⟩ : ∃ Z : ExtO (fun b => b = B ∨ v0.ownBlock = some b) V, w6 = Z.1 := ⟨⟨w6, Z5.2.grown hg6 (fun q hq _ => by injection hq with hq; exact Or.inl hq.symm)⟩, rfl⟩
        refine hK _ _ ⟨Z6, rfl⟩ ?_
        clear hg6 hm6 hK K
        simp only [Act.put]
        refine wpAnyH_done (by kernel_rfl) ?_ _
        go_wp2_with fail
        go_roundw
        case rel => exact ⟨k + 1, by go_num, by omega, Lib.hid ⟨_, HM6.out, HHAD6.out⟩, Lib.hid ((HK.out.trans (Kept.of_below HVB.out)).trans (Z6.2.weaken HWEAK.out))⟩
        case measure => simp [intOf]; omega
    · have t1 : decide ((k : Int) < (g.nm : Int)) = false := by rw [decide_eq_false_iff_not]; omega
      have t1' : decide (k < g.nm) = false := by simpa using hlt
      obtain rfl : k = g.nm := by omega
      have hbk := Kept.below HBW.out HK.out HBW.out.size (fun q hq => by have := HBB.out; omega)
      have HBK := Lib.hid hbk
      have HMM := Lib.hid hm
      have HHH := Lib.hid hh
      clear hlt HE hm hh hbk
      go_wp2_with fail
      go_ret
      exact ⟨HBK.out, B, base, hd, rfl, by omega, HBB.out, HMM.out, HHH.out⟩
end Go.Proofs.YtbkpoepacjinlaaGreat

/- Gear: all pieces in their order, and the protocol of what is called for each. -/
namespace Go.Proofs.YtbkpoepacjinlaaGreat
open Go.RowKit Go.BigFrame

/-- a piece that is told: its use, slot, part, seconds, way -/
structure Ev where
  i : Nat
  s : ByteArray
  p : ByteArray
  sec : Int
  way : Int
def pcsOf (g : Gar) (i j : Nat) : List Pcs.Pc := Pcs.pieces (g.uf i) (g.uf i + g.us i) (g.mounts (g.sn j))
def evP (g : Gar) (i j q : Nat) : Ev := ⟨i, g.sn j, (pget (pcsOf g i j) q).1, (pget (pcsOf g i j) q).2, wayG (g.uw i) (g.us i) (secW (pcsOf g i j)) (pcsOf g i j).length q⟩
def evQ (g : Gar) (i j : Nat) : Nat → List Ev
  | 0 => []
  | q + 1 => evQ g i j q ++ [evP g i j q]
def evS (g : Gar) (i : Nat) : Nat → List Ev
  | 0 => []
  | j + 1 => evS g i j ++ (if g.sr j = g.ur i then evQ g i j (pcsOf g i j).length else [])
def evG (g : Gar) : Nat → List Ev
  | 0 => []
  | i + 1 => evG g i ++ evS g i g.ns
def evV (g : Gar) (e : Ev) : Value := .agg #[.string (g.un e.i), .string e.s, .string e.p, .int .i64 e.sec, .int .i64 e.way]

/-- what is kept while pieces are told: 'Inv done S w': the called one has been told 'done'; it may write to the blocks S alone, and to new ones -/
structure Pr (Inv : List Ev → (Nat → Prop) → World → Prop) (done : List Ev) (S0 : Nat → Prop) (V wr : World) : Prop where
  ex : ∃ S : Nat → Prop, Inv done S wr ∧ (∀ b, S b → S0 b ∨ V.heap.size ≤ b) ∧ (∀ b, S b → b < wr.heap.size)
  kept : Kept S0 V wr
theorem Pr.start {Inv : List Ev → (Nat → Prop) → World → Prop} {done : List Ev} {S : Nat → Prop} {V : World} (h : Inv done S V) (hb : ∀ b, S b → b < V.heap.size) : Pr Inv done S V V :=
  ⟨⟨S, h, fun _ hb => Or.inl hb, hb⟩, Kept.refl _ _⟩
theorem Pr.below {Inv : List Ev → (Nat → Prop) → World → Prop} (hkeep : ∀ done S W W', Inv done S W → Below W.heap.size W W' → Inv done S W') {done : List Ev} {S0 : Nat → Prop} {V wr wr' : World} (h : Pr Inv done S0 V wr) (hb : Below wr.heap.size wr wr') : Pr Inv done S0 V wr' := by
  obtain ⟨S, h1, h2, h3⟩ := h.ex
  exact ⟨⟨S, hkeep _ _ _ _ h1 hb, h2, fun b hS => Nat.lt_of_lt_of_le (h3 b hS) hb.size⟩, h.kept.trans (Kept.of_below hb)⟩
/-- a later base: what lies there and may not be written is kept from now on -/
theorem Pr.rebase {Inv : List Ev → (Nat → Prop) → World → Prop} (hkeep : ∀ done S W W', Inv done S W → Below W.heap.size W W' → Inv done S W') {done : List Ev} {S0 : Nat → Prop} {V wr V' : World} (h : Pr Inv done S0 V wr) (hb : Below wr.heap.size wr V') :
    ∃ S : Nat → Prop, Pr Inv done S V' V' ∧ (∀ b, S b → b < wr.heap.size) ∧ (∀ b, b < V.heap.size → ¬ S0 b → ¬ S b) ∧ ∀ done' wr', Pr Inv done' S V' wr' → Pr Inv done' S0 V wr' := by
  obtain ⟨S, h1, h2, h3⟩ := h.ex
  refine ⟨S, Pr.start (hkeep _ _ _ _ h1 hb) (fun b hS => Nat.lt_of_lt_of_le (h3 b hS) hb.size), h3, fun b hb1 hb2 hS => (h2 b hS).elim hb2 (fun h => by omega), fun done' wr' h' => ?_⟩
  obtain ⟨S', g1, g2, g3⟩ := h'.ex
  have hVV' : V.heap.size ≤ V'.heap.size := Nat.le_trans h.kept.size hb.size
  refine ⟨⟨S', g1, fun b hb' => (g2 b hb').elim (h2 b) (fun h => Or.inr (by omega)), g3⟩, ?_⟩
  refine ⟨h'.kept.os.trans (hb.os.trans h.kept.os), h'.kept.tape.trans (hb.tape.trans h.kept.tape), h'.kept.output.trans (hb.output.trans h.kept.output), Nat.le_trans hVV' h'.kept.size, fun k hk ho => ?_⟩
  have hkS : ¬ S k := fun hS => (h2 k hS).elim ho (fun h => by omega)
  exact (h'.kept.block k (by omega) hkS).trans ((hb.block k (Nat.lt_of_lt_of_le hk h.kept.size)).trans (h.kept.block k hk ho))
/-- one piece is told -/
theorem Pr.told {Inv : List Ev → (Nat → Prop) → World → Prop} (hkeep : ∀ done S W W', Inv done S W → Below W.heap.size W W' → Inv done S W') {done : List Ev} {S0 : Nat → Prop} {V wr Wc : World} (h : Pr Inv done S0 V wr) (hb : Below wr.heap.size wr Wc) :
    ∃ S : Nat → Prop, Inv done S Wc ∧ (∀ b, S b → b < Wc.heap.size) ∧ ∀ done' S' W', Inv done' S' W' → (∀ b, S' b → S b ∨ Wc.heap.size ≤ b) → (∀ b, S' b → b < W'.heap.size) → Kept S Wc W' → Pr Inv done' S0 V W' := by
  obtain ⟨S, h1, h2, h3⟩ := h.ex
  have hV : V.heap.size ≤ Wc.heap.size := Nat.le_trans h.kept.size hb.size
  refine ⟨S, hkeep _ _ _ _ h1 hb, fun b hS => Nat.lt_of_lt_of_le (h3 b hS) hb.size, fun done' S' W' g1 g2 g3 gk => ⟨⟨S', g1, fun b hb' => (g2 b hb').elim (h2 b) (fun h => Or.inr (by omega)), g3⟩, ?_⟩⟩
  refine ⟨gk.os.trans (hb.os.trans h.kept.os), gk.tape.trans (hb.tape.trans h.kept.tape), gk.output.trans (hb.output.trans h.kept.output), Nat.le_trans hV gk.size, fun k hk ho => ?_⟩
  have hkS : ¬ S k := fun hS => (h2 k hS).elim ho (fun h => by omega)
  exact (gk.block k (by omega) hkS).trans ((hb.block k (Nat.lt_of_lt_of_le hk h.kept.size)).trans (h.kept.block k hk ho))
theorem flatN {β : Type} {f : β → List Value} {m : Nat} (d : β) (hf : ∀ q, (f q).length = m) : ∀ (l : List β) (k j : Nat), k < l.length → j < m → (l.flatMap f)[k * m + j]? = (f (l.getD k d))[j]?
  | [], k, j, h, _ => by simp at h
  | q :: l, 0, j, _, hj => by
    rw [List.flatMap_cons, Nat.zero_mul, Nat.zero_add, List.getElem?_append_left (by rw [hf]; exact hj)]
    rfl
  | q :: l, k + 1, j, h, hj => by
    rw [List.flatMap_cons, List.getElem?_append_right (by rw [hf, Nat.succ_mul]; omega), hf, show (k + 1) * m + j - m = k * m + j by rw [Nat.succ_mul]; omega]
    exact flatN d hf l k j (by simpa using h) hj
/-- the row of a slot, as a slice that piecesOf may read -/
theorem Had.rowK {w : World} {base : Nat} {g : Gar} {k : Nat} {hd : ByteArray → Hdr} (h : Had w base g k hd) (s : ByteArray) :
    ∃ (am : Option Addr) (cm : Nat), hval (hd s) = .slice am (Gar.mountsK g s k).length cm ∧ RowK w am (Gar.mountsK g s k).length 4 (fun i => mcell (mget (Gar.mountsK g s k) i)) := by
  have hr := h.row s
  rcases hr.2 with ⟨e, hn⟩ | ⟨q, cap, cur, e, _, h3, _⟩
  · exact ⟨none, 0, by rw [e, hn], ⟨fun h => by omega⟩⟩
  · refine ⟨some ⟨q, 0, none⟩, cap, e, ⟨fun hl => ⟨q, 0, rfl, lt_of_block h3, fun i hi j hj => ?_⟩⟩⟩
    have hc := flatN (f := mcell) (m := 4) ⟨⟨#[]⟩, ⟨#[]⟩, 0, 0⟩ (fun q => rfl) (Gar.mountsK g s k) i j hi hj
    have hv : ∃ v, (mcell (mget (Gar.mountsK g s k) i))[j]? = some v := ⟨_, List.getElem?_eq_getElem (by simpa [mcell] using hj)⟩
    obtain ⟨v, hv⟩ := hv
    have h6 := hr.cells (g := q) (by rw [e]; rfl) (i * 4 + j) v (hc.trans hv)
    rw [addr_add0] at h6
    rw [Nat.zero_add, hv]
    exact h6
end Go.Proofs.YtbkpoepacjinlaaGreat

/- Gear: what the pieces say of a moment (plain laws for GearPiecesFollowMounts). -/
namespace Go.Proofs.YtbkpoepacjinlaaGreat
open Go.RowKit Go.BigFrame
open Gar (chk chkS momG endG)

theorem less_irr : ∀ a : List UInt8, Op.bytesLess a a = false
  | [] => rfl
  | a :: l => by simp [Op.bytesLess, less_irr l]
theorem less_trans : ∀ a b c : List UInt8, Op.bytesLess a b = true → Op.bytesLess b c = true → Op.bytesLess a c = true
  | _, _, [], _, h => by cases h2 : Op.bytesLess _ [] <;> simp_all [Op.bytesLess]
  | _, [], _ :: _, h, _ => by simp [Op.bytesLess] at h
  | [], _ :: _, _ :: _, _, _ => rfl
  | a :: x, b :: y, c :: z, h1, h2 => by
    simp only [Op.bytesLess, Bool.or_eq_true, Bool.and_eq_true, decide_eq_true_eq, beq_iff_eq] at h1 h2 ⊢
    rcases h1 with h1 | ⟨rfl, h1⟩
    · rcases h2 with h2 | ⟨rfl, h2⟩
      · exact Or.inl (UInt8.lt_trans h1 h2)
      · exact Or.inl h1
    · rcases h2 with h2 | ⟨rfl, h2⟩
      · exact Or.inl h2
      · exact Or.inr ⟨rfl, less_trans x y z h1 h2⟩
theorem chkS_step {g : Gar} : ∀ (n k : Nat), chkS g n k = 0 → ∀ i, k ≤ i → i < k + n → 0 < i → strLt (g.sn (i - 1)) (g.sn i) = true
  | 0, k, _, i, h1, h2, _ => by omega
  | n + 1, k, h, i, h1, h2, h0 => by
    rw [chkS] at h
    split at h
    · omega
    · split at h
      · omega
      · split at h
        · omega
        · rename_i a b c
          by_cases e : i = k
          · subst e
            cases hb : strLt (g.sn (i - 1)) (g.sn i)
            · exact absurd ⟨h0, hb⟩ b
            · rfl
          · exact chkS_step n (k + 1) h i (by omega) (by omega) h0
theorem slot_lt {g : Gar} (h : chkS g g.ns 0 = 0) : ∀ (d i : Nat), i + d + 1 < g.ns → strLt (g.sn i) (g.sn (i + d + 1)) = true
  | 0, i, hi => chkS_step g.ns 0 h (i + 1) (by omega) (by omega) (by omega)
  | d + 1, i, hi => less_trans _ _ _ (slot_lt h d i (by omega)) (chkS_step g.ns 0 h (i + (d + 1) + 1) (by omega) (by omega) (by omega))
theorem slot_inj {g : Gar} (h : chk g = 0) {i j : Nat} (hi : i < g.ns) (hj : j < g.ns) (he : g.sn i = g.sn j) : i = j := by
  have hS := (Gar.chk_parts h).2.2.2.2.2.1
  have no : ∀ i j, i < j → j < g.ns → g.sn i ≠ g.sn j := fun i j hij hj e => by
    have := slot_lt hS (j - i - 1) i (by omega)
    rw [show i + (j - i - 1) + 1 = j by omega, e] at this
    unfold strLt at this
    rw [less_irr] at this
    cases this
  rcases Nat.lt_trichotomy i j with h1 | h1 | h1
  · exact absurd he (no i j h1 hj)
  · exact h1
  · exact absurd he.symm (no j i h1 hi)
theorem use_inj {g : Gar} (h : chk g = 0) {i j : Nat} (hi : i < g.nu) (hj : j < g.nu) (he : g.un i = g.un j) : i = j := by
  have hU := (Gar.chk_parts h).2.2.2.2.2.2.2.2
  rcases Nat.lt_trichotomy i j with h1 | h1 | h1
  · exact absurd he ((Gar.use_right hU hj).2.1 i h1)
  · exact h1
  · exact absurd he.symm ((Gar.use_right hU hi).2.1 j h1)

/-- the law's walk of all pieces: the part of the use u and slot s at the second left -/
def scanE (g : Gar) (u s : ByteArray) : List Ev → Int → Option ByteArray
  | [], _ => none
  | e :: l, left => if g.un e.i = u ∧ e.s = s then (if left < e.sec then some e.p else scanE g u s l (left - e.sec)) else scanE g u s l left
def isE (g : Gar) (u s : ByteArray) (e : Ev) : Bool := decide (g.un e.i = u ∧ e.s = s)
theorem scanE_pick (g : Gar) (u s : ByteArray) : ∀ (l : List Ev) (left : Int), scanE g u s l left = Pcs.pick left ((l.filter (isE g u s)).map fun e => (e.p, e.sec))
  | [], _ => rfl
  | e :: l, left => by
    rw [scanE, List.filter_cons]
    by_cases c : g.un e.i = u ∧ e.s = s
    · rw [if_pos c, show isE g u s e = true by simpa [isE] using c, if_pos rfl, List.map_cons, Pcs.pick]
      simp only [scanE_pick g u s l]
    · rw [if_neg c, show isE g u s e = false by simpa [isE] using c, if_neg (by simp), scanE_pick g u s l]
theorem evQ_mem {g : Gar} {i j : Nat} {e : Ev} : ∀ {n : Nat}, e ∈ evQ g i j n → e.i = i ∧ e.s = g.sn j
  | 0, h => by simp [evQ] at h
  | n + 1, h => by
    rw [evQ] at h
    rcases List.mem_append.1 h with h | h
    · exact evQ_mem h
    · simp at h
      subst h
      exact ⟨rfl, rfl⟩
theorem evQ_map (g : Gar) (i j : Nat) : ∀ n, n ≤ (pcsOf g i j).length → (evQ g i j n).map (fun e => (e.p, e.sec)) = (pcsOf g i j).take n
  | 0, _ => rfl
  | n + 1, h => by
    rw [evQ, List.map_append, evQ_map g i j n (by omega), List.take_succ_eq_append_getElem (show n < (pcsOf g i j).length by omega), List.map_cons, List.map_nil]
    unfold evP pget
    simp only [List.getD_eq_getElem?_getD, List.getElem?_eq_getElem (show n < (pcsOf g i j).length by omega), Option.getD_some]
theorem evS_none (g : Gar) {i k : Nat} (hik : g.un i ≠ g.un k) (s : ByteArray) : ∀ n, (evS g i n).filter (isE g (g.un k) s) = []
  | 0 => rfl
  | n + 1 => by
    rw [evS, List.filter_append, evS_none g hik s n, List.nil_append]
    split
    · exact List.filter_eq_nil_iff.2 fun e he => by simp [isE, (evQ_mem he).1, hik]
    · rfl
theorem evS_one {g : Gar} (h : chk g = 0) {k j : Nat} (hj : j < g.ns) (hr : g.sr j = g.ur k) : ∀ n, n ≤ g.ns → (evS g k n).filter (isE g (g.un k) (g.sn j)) = if j < n then evQ g k j (pcsOf g k j).length else []
  | 0, _ => rfl
  | n + 1, hn => by
    rw [evS, List.filter_append, evS_one h hj hr n (by omega)]
    by_cases c : n = j
    · subst c
      rw [if_neg (by omega), if_pos hr, if_pos (Nat.lt_succ_self _), List.nil_append]
      exact List.filter_eq_self.2 fun e he => by simp [isE, (evQ_mem he).1, (evQ_mem he).2]
    · have hno : g.sn n ≠ g.sn j := fun e => c (slot_inj h (by omega) hj e)
      have : (if g.sr n = g.ur k then evQ g k n (pcsOf g k n).length else []).filter (isE g (g.un k) (g.sn j)) = [] := by
        split
        · exact List.filter_eq_nil_iff.2 fun e he => by simp [isE, (evQ_mem he).2, hno]
        · rfl
      rw [this, List.append_nil]
      by_cases d : j < n
      · rw [if_pos d, if_pos (by omega)]
      · rw [if_neg d, if_neg (by omega)]
theorem evG_one {g : Gar} (h : chk g = 0) {k j : Nat} (hk : k < g.nu) (hj : j < g.ns) (hr : g.sr j = g.ur k) : ∀ n, n ≤ g.nu → (evG g n).filter (isE g (g.un k) (g.sn j)) = if k < n then evQ g k j (pcsOf g k j).length else []
  | 0, _ => rfl
  | n + 1, hn => by
    rw [evG, List.filter_append, evG_one h hk hj hr n (by omega)]
    by_cases c : n = k
    · subst c
      rw [if_neg (by omega), if_pos (by omega), List.nil_append, evS_one h hj hr _ (Nat.le_refl _), if_pos hj]
    · rw [evS_none g (fun e => c (use_inj h (by omega) hk e)), List.append_nil]
      by_cases d : k < n
      · rw [if_pos d, if_pos (by omega)]
      · rw [if_neg d, if_neg (by omega)]
theorem scan_pcs {g : Gar} (h : chk g = 0) {k j : Nat} (hk : k < g.nu) (hj : j < g.ns) (hr : g.sr j = g.ur k) (x : Int) : scanE g (g.un k) (g.sn j) (evG g g.nu) x = Pcs.pick x (pcsOf g k j) := by
  rw [scanE_pick, evG_one h hk hj hr _ (Nat.le_refl _), if_pos hk, evQ_map _ _ _ _ (Nat.le_refl _), List.take_length]
theorem scan_part {g : Gar} (h : chk g = 0) {k j : Nat} (hk : k < g.nu) (hj : j < g.ns) (hr : g.sr j = g.ur k) {x : Int} (h0 : 0 ≤ x) (h1 : x < g.us k) :
    scanE g (g.un k) (g.sn j) (evG g g.nu) x = some (Pcs.partAt (g.mounts (g.sn j)) (g.uf k + x)) := by
  have hp := Gar.chk_parts h
  have ho : Pcs.Ord (g.mounts (g.sn j)) := Gar.ord_mounts hp.2.2.2.2.2.2.1 hp.2.2.2.2.2.2.2.1 _ _ (Nat.le_refl _)
  rw [scan_pcs h hk hj hr]
  unfold pcsOf
  rw [← Pcs.pieces_eq ho (n := (g.us k).toNat) (by omega)]
  have := Pcs.rp_pick ho (last := g.uf k + g.us k) (g.us k).toNat (g.uf k) (g.uf k + x) (by omega) (by omega) (by omega)
  rwa [show g.uf k + x - g.uf k = x by omega] at this
end Go.Proofs.YtbkpoepacjinlaaGreat

/- Gear: the part at a moment, as In finds it. -/
namespace Go.Proofs.YtbkpoepacjinlaaGreat
open Go.RowKit Go.BigFrame
open Gar (chk mountsK)

def fromK (g : Gar) (s : ByteArray) : Nat → Nat → List Pcs.Mnt
  | 0, _ => []
  | n + 1, k => if g.ms k = s then g.mnt k :: fromK g s n (k + 1) else fromK g s n (k + 1)
theorem mountsK_from (g : Gar) (s : ByteArray) : ∀ n k, mountsK g s (k + n) = mountsK g s k ++ fromK g s n k
  | 0, k => by simp [fromK]
  | n + 1, k => by
    rw [show k + (n + 1) = (k + 1) + n by omega, mountsK_from g s n (k + 1), fromK, mountsK]
    split
    · simp
    · rfl
theorem part_from (g : Gar) (s : ByteArray) (x : Int) : ∀ n k, Pcs.partAt (fromK g s n k) x = (inR (inF g s x n k)).1
  | 0, _ => rfl
  | n + 1, k => by
    have he : (isG (g.mf k) (g.mt k) x = true) ↔ ((g.mnt k).f ≤ x ∧ x < Pcs.en (g.mnt k)) := by
      unfold isG
      rw [Bool.and_eq_true, decide_eq_true_eq, decide_eq_true_eq]
      rfl
    rw [fromK, inF]
    by_cases c : g.ms k = s
    · rw [if_pos c, Pcs.partAt]
      by_cases d : (g.mnt k).f ≤ x ∧ x < Pcs.en (g.mnt k)
      · rw [if_pos d, if_pos (by rw [Bool.and_eq_true]; exact ⟨by simpa using c, he.2 d⟩)]
        rfl
      · rw [if_neg d, if_neg (by rw [Bool.and_eq_true]; exact fun h => d (he.1 h.2)), part_from g s x n (k + 1)]
    · rw [if_neg c, if_neg (by rw [Bool.and_eq_true]; exact fun h => c (by simpa using h.1)), part_from g s x n (k + 1)]
theorem part_in (g : Gar) (s : ByteArray) (x : Int) : Pcs.partAt (g.mounts s) x = (inR (inF g s x g.nm 0)).1 := by
  have := mountsK_from g s g.nm 0
  rw [Nat.zero_add] at this
  unfold Gar.mounts
  rw [this, show mountsK g s 0 = [] from rfl, List.nil_append, part_from]
end Go.Proofs.YtbkpoepacjinlaaGreat

/- Gear: eachPiece of the program (printed by wip/g/gen_each.py). -/
namespace Go.Proofs.YtbkpoepacjinlaaGreat
open Go.RowKit Go.BigFrame
open Gar (chk)

def useAt (g : Gar) (i : Nat) : Value := useV (g.un i) (g.ur i) (g.uf i) (g.us i) (g.uw i)
theorem evG_pre (g : Gar) (a : Nat) : ∀ b, a ≤ b → ∃ r, evG g b = evG g a ++ r
  | 0, h => ⟨[], by rw [Nat.le_zero.1 h]; simp⟩
  | b + 1, h => by
    by_cases e : a = b + 1
    · exact ⟨[], by rw [e]; simp⟩
    · obtain ⟨r, hr⟩ := evG_pre g a b (by omega)
      exact ⟨r ++ evS g b g.ns, by rw [evG, hr, List.append_assoc]⟩
theorem evS_pre (g : Gar) (i a : Nat) : ∀ b, a ≤ b → ∃ r, evS g i b = evS g i a ++ r
  | 0, h => ⟨[], by rw [Nat.le_zero.1 h]; simp⟩
  | b + 1, h => by
    by_cases e : a = b + 1
    · exact ⟨[], by rw [e]; simp⟩
    · obtain ⟨r, hr⟩ := evS_pre g i a b (by omega)
      exact ⟨r ++ (if g.sr b = g.ur i then evQ g i b (pcsOf g i b).length else []), by rw [evS, hr, List.append_assoc]⟩
theorem evQ_pre (g : Gar) (i j a : Nat) : ∀ b, a ≤ b → ∃ r, evQ g i j b = evQ g i j a ++ r
  | 0, h => ⟨[], by rw [Nat.le_zero.1 h]; simp⟩
  | b + 1, h => by
    by_cases e : a = b + 1
    · exact ⟨[], by rw [e]; simp⟩
    · obtain ⟨r, hr⟩ := evQ_pre g i j a b (by omega)
      exact ⟨r ++ [evP g i j b], by rw [evQ, hr, List.append_assoc]⟩
theorem ev_pre {g : Gar} {i j q : Nat} (hi : i < g.nu) (hj : j < g.ns) (hev : evS g i (j + 1) = evS g i j ++ evQ g i j (pcsOf g i j).length) (hq : q < (pcsOf g i j).length) : ∃ rest, evG g g.nu = (evG g i ++ evS g i j ++ evQ g i j q) ++ evP g i j q :: rest := by
  obtain ⟨r1, h1⟩ := evG_pre g (i + 1) g.nu (by omega)
  obtain ⟨r2, h2⟩ := evS_pre g i (j + 1) g.ns (by omega)
  obtain ⟨r3, h3⟩ := evQ_pre g i j (q + 1) (pcsOf g i j).length (by omega)
  rw [evQ] at h3
  rw [h3] at hev
  rw [hev] at h2
  rw [evG, h2] at h1
  exact ⟨r3 ++ r2 ++ r1, by rw [h1]; simp [List.append_assoc]⟩
theorem Had.to {w w' : World} {base B0 : Nat} {g : Gar} {k : Nat} {hd : ByteArray → Hdr} (h : Had w base g k hd) (hb : ∀ q, B0 ≤ q → q < w.heap.size → w'.heap[q]? = w.heap[q]?) (hB : B0 ≤ base) : Had w' base g k hd := by
  refine ⟨fun s => ?_, h.nil⟩
  obtain ⟨h1, h2⟩ := h.row s
  refine ⟨h1, ?_⟩
  rcases h2 with h7 | ⟨q, cap, cur, e1, e2, e3, e4⟩
  · exact Or.inl h7
  · exact Or.inr ⟨q, cap, cur, e1, e2, (hb q (by omega) (lt_of_block e3)).trans e3, e4⟩
theorem StrMap.to {α : Type} {w w' : World} {P : Program} {k : TypeId} {R : Value → Option (DataW Unit × List MemPlace)} {b n : Nat} {dat : α → DataW Unit} {zd : DataW Unit} {f : ByteArray → α} (h : StrMap w P k R b n dat zd f) (hb : w'.heap[b]? = w.heap[b]?) : StrMap w' P k R b n dat zd f := by
  obtain ⟨D, ⟨es, clock, h1, h2⟩, h3⟩ := h.ex
  exact ⟨D, ⟨es, clock, hb.trans h1, h2⟩, h3⟩
theorem pcsOf_of (g : Gar) (i j : Nat) : Pcs.pieces (g.uf i) (g.uf i + g.us i) (Gar.mountsK g (g.sn j) g.nm) = pcsOf g i j := rfl
set_option maxHeartbeats 8000000 in
set_option maxRecDepth 100000 in
theorem eachPiece_any (g : Gar) (a0 a1 a2 a3 : Option Addr) (c0 c1 c2 c3 : Nat) (w : World) (h : GarIn w g a0 a1 a2 a3) (hchk : chk g = 0) (fid : FuncId) (caps : Array Value) (hcf : ∀ args w, Sem.run Tryz.prog (callFunc fid args) w = .ok (.enter fid args) w)
    (Inv : List Ev → (Nat → Prop) → World → Prop) (hkeep : ∀ done S W W', Inv done S W → Below W.heap.size W W' → Inv done S W')
    (hcall : ∀ (done : List Ev) (S : Nat → Prop) (W : World) (ev : Ev), Inv done S W → (∀ b, S b → b < W.heap.size) → ev.i < g.nu → (∃ rest, evG g g.nu = done ++ ev :: rest) →
      Calls Tryz.prog fid (#[useAt g ev.i, evV g ev] ++ caps) W fun e W' => e = .returned (.tuple #[]) ∧ ∃ S' : Nat → Prop, Inv (done ++ [ev]) S' W' ∧ (∀ b, S' b → S b ∨ W.heap.size ≤ b) ∧ (∀ b, S' b → b < W'.heap.size) ∧ Kept S W W')
    (S0 : Nat → Prop) (hinv : Inv [] S0 w) (hS0 : ∀ b, S0 b → b < w.heap.size) (hg1 : ∀ b off, a1 = some ⟨b, off, none⟩ → 0 < g.ns → ¬ S0 b) (hg3 : ∀ b off, a3 = some ⟨b, off, none⟩ → 0 < g.nu → ¬ S0 b) :
    Calls Tryz.prog 29 #[garV g a0 a1 a2 a3 c0 c1 c2 c3, .func (.func fid) #[] caps] w fun e w' => e = .returned (.tuple #[]) ∧ Pr Inv (evG g g.nu) S0 w w' := by
  have HG := Lib.hid h
  have HCF := Lib.hid hcf
  have HKEEP := Lib.hid hkeep
  have HCALL := Lib.hid hcall
  have HG1 := Lib.hid hg1
  have HG3 := Lib.hid hg3
  have hl1 := h.l1
  have hl3 := h.l3
  have HCK := Lib.hid (Gar.chk_parts hchk)
  have hnm := HCK.out.2.2.1
  have HPR := Lib.hid (Pr.start hinv hS0)
  have HUS := Lib.hid (show Tryz.prog.underlying 9 = some .string by kernel_rfl)
  have HUH := Lib.hid (show Tryz.prog.underlying 92 = some (.map 9 24) by kernel_rfl)
  have HzH := Lib.hid (show ∀ u : World, (zeroValue 24).run Tryz.prog u = .ok (.slice none 0 0) u from fun u => by kernel_rfl)
  have DH := Lib.hid (fun (W : World) (hb : Below w.heap.size w W) => had_any g a0 a1 a2 a3 c0 c1 c2 c3 W (HG.out.below hb) hnm)
  clear h hcf hkeep hcall hg1 hg3 hchk hinv hnm
  unfold garV at DH ⊢
  obtain ⟨W0, hW0, hb0, hs0, hl0'⟩ := alloc_cells w #[.slice a0 g.np c0, .slice a1 g.ns c1, .slice a2 g.nm c2, .slice a3 g.nu c3] 27
  have e0 := hl0' 0 _ rfl
  have e1 := hl0' 1 _ rfl
  have e2 := hl0' 2 _ rfl
  have e3 := hl0' 3 _ rfl
  have HB0 := Lib.hid hb0
  have HW0 := Lib.hid hW0
  have hs0' : w.heap.size < W0.heap.size := by omega
  clear hl0' hW0 hb0 hs0
  go_enter Tryz.func29, Tryz.ntmps29
  go_upto_region 1 with (fail)
  rw [HW0.out]
  go_wp2_with fail
  refine (DH.out _ HB0.out).mono ?_
  rintro e W ⟨hbW, B, base, hd, rfl, hB0, hBb, hmW, hhW⟩
  have hbw := HB0.out.trans (hbW.mono (Nat.le_of_lt hs0'))
  have HBW := Lib.hid hbw
  have HMW := Lib.hid hmW
  have HHW := Lib.hid hhW
  have hnot : ∀ b, w.heap.size ≤ b → ¬ S0 b := fun b hb hS => by have := hS0 b hS; omega
  have HNOT := Lib.hid hnot
  obtain ⟨S1, hp1, hs1a, hs1b, hs1c⟩ := Pr.rebase HKEEP.out HPR.out HBW.out
  have hn1 : ∀ b, w.heap.size ≤ b → ¬ S1 b := fun b hb hS => by have := hs1a b hS; omega
  have HN1 := Lib.hid hn1
  have hr3 : ∀ b off, a3 = some ⟨b, off, none⟩ → 0 < g.nu → ¬ S1 b := fun b off ha hn => by
    obtain ⟨b', off', h1, h2, _⟩ := HG.out.r3.here hn
    rw [ha] at h1
    injection h1 with h1
    injection h1 with h1 _
    exact hs1b b (by omega) (HG3.out b off ha hn)
  have hr1 : ∀ b off, a1 = some ⟨b, off, none⟩ → 0 < g.ns → b < w.heap.size ∧ ¬ S1 b := fun b off ha hn => by
    obtain ⟨b', off', h1, h2, _⟩ := HG.out.r1.here hn
    rw [ha] at h1
    injection h1 with h1
    injection h1 with h1 _
    exact ⟨by omega, hs1b b (by omega) (HG1.out b off ha hn)⟩
  have HR3 := Lib.hid hr3
  have HR1 := Lib.hid hr1
  have HP1 := Lib.hid hp1
  have HS1C := Lib.hid hs1c
  have f1 := below_cell hbW e1
  have f3 := below_cell hbW e3
  have hwW : w.heap.size < W.heap.size := Nat.lt_of_lt_of_le hs0' hbW.size
  clear hp1 hs1a hs1b hs1c hr3 hr1 hbW hbw hmW hhW hnot HPR e0 e1 e2 e3
  go_wp2_with fail
  go_loopw [16] (fun iv wr => ∃ (i : Nat), iv = .int .i64 i ∧ i ≤ g.nu ∧ Hid (Pr Inv (evG g i) S1 W wr)) (fun iv _ => g.nu - (intOf iv).toNat)
  case atStart => exact ⟨0, rfl, by omega, HP1⟩
  case round =>
    obtain ⟨i, rfl, hi, HP⟩ := hrel
    by_cases hlt : i < g.nu
    · have t1 : decide ((i : Int) < (g.nu : Int)) = true := by rw [decide_eq_true_eq]; omega
      have hk1 := HP.out.kept
      obtain ⟨b, off, rfl, hbl, hc⟩ := (Kept.row (HG.out.r3.below HBW.out (Nat.le_refl _)) hk1 (fun b off e => HR3.out b off e (by omega))).here (by omega)
      have e0 : wr.cell? ⟨b, off + i * 5, none⟩ = some (.string (g.un i)) := hc i hlt 0 (by omega)
      have e1 : wr.cell? ⟨b, off + i * 5 + 1, none⟩ = some (.string (g.ur i)) := hc i hlt 1 (by omega)
      have e2 : wr.cell? ⟨b, off + i * 5 + 2, none⟩ = some (.int .i64 (g.uf i)) := hc i hlt 2 (by omega)
      have e3 : wr.cell? ⟨b, off + i * 5 + 3, none⟩ = some (.int .i64 (g.us i)) := hc i hlt 3 (by omega)
      have e4 : wr.cell? ⟨b, off + i * 5 + 4, none⟩ = some (.int .i64 (g.uw i)) := hc i hlt 4 (by omega)
      obtain ⟨V1, hV1, hvb, hvs, hvq⟩ := alloc_block wr #[.string (g.un i), .string (g.ur i), .int .i64 (g.uf i), .int .i64 (g.us i), .int .i64 (g.uw i)] 62
      obtain ⟨S2, hp2, hs2a, hs2b, hs2c⟩ := Pr.rebase HKEEP.out HP.out hvb
      have hn2 : ∀ b, b < W.heap.size → ¬ S1 b → ¬ S2 b := hs2b
      have g1 : V1.cell? ⟨w.heap.size, 1, none⟩ = some (.slice a1 g.ns c1) := below_cell hvb (hk1.cell (HN1.out _ (Nat.le_refl _)) f1)
      have HV1 := Lib.hid hV1
      have HP2 := Lib.hid hp2
      have HS2C := Lib.hid hs2c
      have HKW : Hid (Kept S1 W V1) := Lib.hid (hk1.trans (Kept.of_below hvb))
      have HN2 := Lib.hid hn2
      have hloc : ¬ S2 wr.heap.size := fun hS => by have := hs2a _ hS; omega
      have HLOC := Lib.hid hloc
      have hvl : wr.heap.size < V1.heap.size := by omega
      have HVQ := Lib.hid hvq
      have hwl : W.heap.size ≤ wr.heap.size := hk1.size
      obtain ⟨p6, hp6⟩ : ∃ p6, wr.heap.size = p6 := ⟨_, rfl⟩
      rw [hp6] at HLOC HVQ hwl hvl
      have HP6E := Lib.hid hp6
      have hur := Gar.use_right HCK.out.2.2.2.2.2.2.2.2 hlt
      have HUR := Lib.hid hur
      clear hc hk1 hV1 hvb hvs hvq hp2 hs2a hs2b hs2c hn2 hloc hur hp6
      go_upto_region 5 with (fail)
      rw [HV1.out, HP6E.out]
      go_wp2_with fail
      clear g1
      go_loopw [23] (fun iv wr => ∃ (j : Nat), iv = .int .i64 j ∧ j ≤ g.ns ∧ Hid (Pr Inv (evG g i ++ evS g i j) S2 V1 wr)) (fun iv _ => g.ns - (intOf iv).toNat)
      case atStart => exact ⟨0, rfl, by omega, Lib.hid (by rw [evS, List.append_nil]; exact HP2.out)⟩
      case round =>
        obtain ⟨j, rfl, hj, HPJ⟩ := hrel
        by_cases hltj : j < g.ns
        · have t2 : decide ((j : Int) < (g.ns : Int)) = true := by rw [decide_eq_true_eq]; omega
          have hkj := HPJ.out.kept
          have hkv : ∀ b, b < W.heap.size → ¬ S1 b → ∀ o, W.heap[b]? = some o → wr.heap[b]? = some o := fun b hb h1 o ho => (hkj.block b (Nat.lt_of_lt_of_le hb HKW.out.size) (HN2.out b hb h1)).trans ((HKW.out.block b hb h1).trans ho)
          obtain ⟨b1, off1, rfl, hbl1, hc1⟩ := HG.out.r1.here (by omega)
          have hbs := HR1.out b1 off1 rfl (by omega)
          have hr1w : ∀ q, q < g.ns → ∀ z, z < 2 → wr.cell? ⟨b1, off1 + q * 2 + z, none⟩ = ([.string (g.sn q), .string (g.sr q)] : List Value)[z]? := fun q hq z hz => by
            have h1 := (HBW.out.block b1 hbl1)
            have h2 := (HKW.out.block b1 (by omega) hbs.2)
            have h3 := (hkj.block b1 (Nat.lt_of_lt_of_le (by omega : b1 < W.heap.size) HKW.out.size) (HN2.out b1 (by omega) hbs.2))
            exact (World.cell?_of_block (h3.trans (h2.trans h1))).trans (hc1 q hq z hz)
          have s0 : wr.cell? ⟨b1, off1 + j * 2, none⟩ = some (.string (g.sn j)) := hr1w j hltj 0 (by omega)
          have s1 : wr.cell? ⟨b1, off1 + j * 2 + 1, none⟩ = some (.string (g.sr j)) := hr1w j hltj 1 (by omega)
          have hbw1 : b1 < wr.heap.size := by
            have h1 := hkj.size
            have h2 := HKW.out.size
            omega
          obtain ⟨V2, hV2, hvb2, hvs2, hvq2⟩ := alloc_block wr #[.string (g.sn j), .string (g.sr j)] 59
          have u0 : ∀ z v, (#[.string (g.un i), .string (g.ur i), .int .i64 (g.uf i), .int .i64 (g.us i), .int .i64 (g.uw i)] : Array Value)[z]? = some v → V2.cell? ⟨p6, z, none⟩ = some v := fun z v hv =>
            below_cell hvb2 (hkj.cell HLOC.out (block_cell HVQ.out hv))
          have x0 := u0 0 _ rfl
          have x1 := u0 1 _ rfl
          have x2 := u0 2 _ rfl
          have x3 := u0 3 _ rfl
          have x4 := u0 4 _ rfl
          have y0 : V2.cell? ⟨wr.heap.size, 0, none⟩ = some (.string (g.sn j)) := block_cell hvq2 rfl
          have y1 : V2.cell? ⟨wr.heap.size, 1, none⟩ = some (.string (g.sr j)) := block_cell hvq2 rfl
          have hse := str_eq (g.sr j) (g.ur i)
          have HV2 := Lib.hid hV2
          have HVB2 := Lib.hid hvb2
          have HKJ := Lib.hid hkj
          clear hV2 hvb2 hvq2 hkv hc1 hr1w u0 hkj
          by_cases hrig : g.sr j = g.ur i
          · rw [show decide (g.sr j = g.ur i) = true by simpa using hrig] at hse
            have hne : ((g.sr j).toList != (g.ur i).toList) = false := by rw [bne, hse]; rfl
            have hev : evS g i (j + 1) = evS g i j ++ evQ g i j (pcsOf g i j).length := by rw [evS, if_pos hrig]
            have HEV := Lib.hid hev
            clear hev hrig
            have hVW : ∀ q, w.heap.size ≤ q → q < W.heap.size → V2.heap[q]? = W.heap[q]? := fun q h1 h2 => by
              have k1 := HKW.out.block q h2 (HN1.out q h1)
              have k2 := HKJ.out.block q (Nat.lt_of_lt_of_le h2 HKW.out.size) (HN2.out q h2 (HN1.out q h1))
              have k3 := HVB2.out.block q (Nat.lt_of_lt_of_le h2 (Nat.le_trans HKW.out.size HKJ.out.size))
              exact k3.trans (k2.trans k1)
            have hhv := HHW.out.to hVW (by omega)
            have hmv := HMW.out.to (hVW B (by omega) HMW.out.lt)
            obtain ⟨am, cm, hval1, hrowk⟩ := hhv.rowK (g.sn j)
            have kS : (Instr.lookup 92 (.map (some B)) (.string (g.sn j)) false).run Tryz.prog V2 = .ok (hval (hd (g.sn j))) V2 :=
              StrMap.look (val := hval) hmv HUS.out HUH.out (HzH.out _) (zp := []) rfl hdrR_inv (HG.out.z1 j hltj).1
            rw [hval1] at kS
            have hur := HUR.out
            have hln := mnt_len (g := g) (s := g.sn j) g.nm
            have DP := Lib.hid (piecesOf_any (g.un i) (g.ur i) (g.uf i) (g.us i) (g.uw i) (g.sn j) am cm (Gar.mountsK g (g.sn j) g.nm) V2 hrowk (by omega) (by omega) (by omega) (by omega) (by omega) (by omega) (by have := HCK.out.2.2.1; omega) (Gar.ord_mounts HCK.out.2.2.2.2.2.2.1 HCK.out.2.2.2.2.2.2.2.1 (g.sn j) g.nm (Nat.le_refl _)))
            rw [pcsOf_of] at DP
            have hgood : Good (pcsOf g i j) (g.us i) := good_pieces (Gar.ord_mounts HCK.out.2.2.2.2.2.2.1 HCK.out.2.2.2.2.2.2.2.1 (g.sn j) g.nm (Nat.le_refl _)) (by omega)
            have hnl := hgood.len
            have hnl2 : ((pcsOf g i j).length : Int) ≤ 1000000 := by omega
            unfold useV at DP
            clear hhv hmv hval1 hrowk hur hln hVW hgood hnl hne
            go_upto_region 8 with (fail)
            rw [HV2.out]
            go_wp2_with fail
            refine DP.out.mono ?_
            rintro e w3 ⟨gq, capq, rfl, hgq, hrow, hbp⟩
            have hb23 := below_step HVB2.out hbp
            obtain ⟨S4, hp4, hs4a, hs4b, hs4c⟩ := Pr.rebase HKEEP.out HPJ.out hb23
            have v0 := below_cell hbp x0
            have v1 := below_cell hbp x1
            have v2 := below_cell hbp x2
            have v3 := below_cell hbp x3
            have v4 := below_cell hbp x4
            have hl6 : ¬ S4 p6 := hs4b p6 hvl HLOC.out
            have hlq : ¬ S4 gq := fun hS => by have := hs4a gq hS; omega
            have HL6 := Lib.hid hl6
            have HLQ := Lib.hid hlq
            have HP4 := Lib.hid hp4
            have HS4C := Lib.hid hs4c
            have HROW := Lib.hid hrow
            clear hb23 hp4 hs4a hs4b hs4c hl6 hlq hrow hbp kS x0 x1 x2 x3 x4 y0 y1 s0 s1 hse DP
            go_wp2_with fail
            go_loopw [41] (fun iv wr => ∃ (q : Nat), iv = .int .i64 q ∧ q ≤ (pcsOf g i j).length ∧ Hid (Pr Inv (evG g i ++ evS g i j ++ evQ g i j q) S4 w3 wr)) (fun iv _ => (pcsOf g i j).length - (intOf iv).toNat)
            case atStart => exact ⟨0, rfl, by omega, Lib.hid (by rw [evQ, List.append_nil]; exact HP4.out)⟩
            case round =>
              obtain ⟨q, rfl, hq, HPQ⟩ := hrel
              by_cases hltq : q < (pcsOf g i j).length
              · have t3 : decide ((q : Int) < ((pcsOf g i j).length : Int)) = true := by rw [decide_eq_true_eq]; omega
                have t3' : decide (q < (pcsOf g i j).length) = true := by simpa using hltq
                have hk3 := HPQ.out.kept
                have hrq := Kept.row HROW.out hk3 (fun b off e => by injection e with e; injection e with e _; subst e; exact HLQ.out)
                have hz : ∀ z v, z < 5 → (pcellW (g.un i) (g.sn j) (pget (pcsOf g i j) q) (wayG (g.uw i) (g.us i) (secW (pcsOf g i j)) (pcsOf g i j).length q))[z]? = some v → wr.cell? ⟨gq, q * 5 + z, none⟩ = some v := fun z v hz hv => by
                  have h6 := hrq.at hltq hz
                  rw [Nat.zero_add] at h6
                  rw [h6, hv]
                have z0 : wr.cell? ⟨gq, q * 5, none⟩ = some (.string (g.un i)) := hz 0 _ (by omega) rfl
                have z1 : wr.cell? ⟨gq, q * 5 + 1, none⟩ = some (.string (g.sn j)) := hz 1 _ (by omega) rfl
                have z2 : wr.cell? ⟨gq, q * 5 + 2, none⟩ = some (.string (pget (pcsOf g i j) q).1) := hz 2 _ (by omega) rfl
                have z3 : wr.cell? ⟨gq, q * 5 + 3, none⟩ = some (.int .i64 (pget (pcsOf g i j) q).2) := hz 3 _ (by omega) rfl
                have z4 : wr.cell? ⟨gq, q * 5 + 4, none⟩ = some (.int .i64 (wayG (g.uw i) (g.us i) (secW (pcsOf g i j)) (pcsOf g i j).length q)) := hz 4 _ (by omega) rfl
                have hevq : evG g i ++ evS g i j ++ evQ g i j (q + 1) = (evG g i ++ evS g i j ++ evQ g i j q) ++ [evP g i j q] := by rw [evQ, ← List.append_assoc]
                have HEVQ := Lib.hid hevq
                obtain ⟨Wc, hWc, hwb, hws, hwq⟩ := alloc_block wr #[.string (g.un i), .string (g.sn j), .string (pget (pcsOf g i j) q).1, .int .i64 (pget (pcsOf g i j) q).2, .int .i64 (wayG (g.uw i) (g.us i) (secW (pcsOf g i j)) (pcsOf g i j).length q)] 54
                obtain ⟨S5, hi5, hs5, hc5⟩ := Pr.told HKEEP.out HPQ.out hwb
                have DC := Lib.hid (HCALL.out _ S5 Wc (evP g i j q) hi5 hs5 hlt (ev_pre hlt hltj HEV.out hltq))
                unfold useAt useV evV evP at DC
                have HC5 := Lib.hid hc5
                have HWC := Lib.hid hWc
                have m0 := below_cell hwb (hk3.cell HL6.out v0)
                have m1 := below_cell hwb (hk3.cell HL6.out v1)
                have m2 := below_cell hwb (hk3.cell HL6.out v2)
                have m3 := below_cell hwb (hk3.cell HL6.out v3)
                have m4 := below_cell hwb (hk3.cell HL6.out v4)
                have n0 : Wc.cell? ⟨wr.heap.size, 0, none⟩ = some (.string (g.un i)) := block_cell hwq rfl
                have n1 : Wc.cell? ⟨wr.heap.size, 1, none⟩ = some (.string (g.sn j)) := block_cell hwq rfl
                have n2 : Wc.cell? ⟨wr.heap.size, 2, none⟩ = some (.string (pget (pcsOf g i j) q).1) := block_cell hwq rfl
                have n3 : Wc.cell? ⟨wr.heap.size, 3, none⟩ = some (.int .i64 (pget (pcsOf g i j) q).2) := block_cell hwq rfl
                have n4 : Wc.cell? ⟨wr.heap.size, 4, none⟩ = some (.int .i64 (wayG (g.uw i) (g.us i) (secW (pcsOf g i j)) (pcsOf g i j).length q)) := block_cell hwq rfl
                have hbgq : gq < wr.heap.size := (hrq.here (by omega)).elim fun b h => h.elim fun off h => by obtain ⟨h1, h2, _⟩ := h; injection h1 with h1; injection h1 with h1 _; omega
                have hcf := HCF.out
                clear hk3 hrq hz hevq hWc hwb hwq hi5 hs5 hc5
                go_upto_region 12 with (fail)
                rw [HWC.out]
                go_wp2_with fail
                refine DC.out.mono ?_
                rintro e w5 ⟨rfl, S6, g1, g2, g3, gk⟩
                have HPN := Lib.hid (HC5.out _ S6 w5 g1 g2 g3 gk)
                clear g1 g2 g3 gk hcf
                go_wp2_with fail
                go_roundw
                case rel => exact ⟨q + 1, by go_num, by omega, Lib.hid (by rw [HEVQ.out]; exact HPN.out)⟩
                case measure => simp [intOf]; omega
              · have t3 : decide ((q : Int) < ((pcsOf g i j).length : Int)) = false := by rw [decide_eq_false_iff_not]; omega
                have t3' : decide (q < (pcsOf g i j).length) = false := by simpa using hltq
                obtain rfl : q = (pcsOf g i j).length := by omega
                clear hltq
                go_wp2_with fail
                go_roundw
                case rel => exact ⟨j + 1, by go_num, by omega, Lib.hid (by rw [HEV.out, ← List.append_assoc]; exact HS4C.out _ _ HPQ.out)⟩
                case measure => simp [intOf]; omega
          · rw [show decide (g.sr j = g.ur i) = false by simpa using hrig] at hse
            have hne : ((g.sr j).toList != (g.ur i).toList) = true := by rw [bne, hse]; rfl
            have hev : evS g i (j + 1) = evS g i j := by rw [evS, if_neg hrig, List.append_nil]
            have HEV := Lib.hid hev
            clear hev hrig
            go_upto_region 8 with (fail)
            rw [HV2.out]
            go_wp2_with fail
            go_roundw
            case rel => exact ⟨j + 1, by go_num, by omega, Lib.hid (by rw [HEV.out]; exact Pr.below HKEEP.out HPJ.out HVB2.out)⟩
            case measure => simp [intOf]; omega
        · have t2 : decide ((j : Int) < (g.ns : Int)) = false := by rw [decide_eq_false_iff_not]; omega
          have t2' : decide (j < g.ns) = false := by simpa using hltj
          obtain rfl : j = g.ns := by omega
          clear hltj
          go_wp2_with fail
          go_roundw
          case rel => exact ⟨i + 1, by go_num, by omega, Lib.hid (by rw [evG]; exact HS2C.out _ _ HPJ.out)⟩
          case measure => simp [intOf]; omega
    · have t1 : decide ((i : Int) < (g.nu : Int)) = false := by rw [decide_eq_false_iff_not]; omega
      have t1' : decide (i < g.nu) = false := by simpa using hlt
      obtain rfl : i = g.nu := by omega
      clear hlt
      go_wp2_with fail
      go_end0
      exact ⟨rfl, HS1C.out _ _ HP.out⟩
end Go.Proofs.YtbkpoepacjinlaaGreat

/- An append to a row of the call's own: where the new row lies (the old block, or a new one). -/
namespace Go.Proofs.YtbkpoepacjinlaaGreat
open Go.RowKit

theorem append_where {P : Program} (w : World) (base : Nat) (t ty e : TypeId) (i : TypeInfo) (z : Value) (size bytes : Nat) (ht : P.underlying t = some (.slice e)) (hi : P.info? e = some i) (hz : i.zero = some z)
    (hsize : i.size = size) (hby : i.bytes = bytes) (hsz : 0 < size) (v : Value) (n : Nat) (xs : List Value) (hown : w.ownsRow base e size v n xs)
    (a : Addr) (m c : Nat) (news : List Value) (hl : news.length = m * size) (hnews : ∀ j u, news[j]? = some u → w.cell? (a.add j) = some u) (h1 : ∀ u ∈ news, u.oneCell' = true) (hm : 0 < m)
    (h63 : n + m ≤ maxLen) (hbytes : (n + m) * bytes ≤ 140737488355328) :
    ∃ v' w', (Builtin.append_ #[t, t] ty #[v, .slice (some a) m c]).run P w = .ok v' w' ∧ (v'.ownBlock = v.ownBlock ∨ v'.ownBlock = some w.heap.size) := by
  subst hsize
  subst hby
  have hsmall : n + m ≤ 9223372036854775807 := by simp only [maxLen] at h63; omega
  rcases hown.2 with ⟨rfl, rfl⟩ | ⟨g, cap, cur, rfl, _, hg, hnc, _, hcs, _⟩
  · exact ⟨_, _, run_append_nil w t ty e i z ht hi hz a m c news hl hnews hm (by omega) (by have hb := hbytes; simp only [Nat.zero_add] at hb; omega), Or.inr rfl⟩
  · by_cases hroom : n + m ≤ cap
    · have hfit : n * i.size + news.length ≤ cur.size := by rw [hl, hcs, ← Nat.add_mul]; exact Nat.mul_le_mul_right _ hroom
      exact ⟨_, _, run_append_room w t ty e i ht hi g n cap cur hg a m c news hl hnews h1 hroom hfit, Or.inl rfl⟩
    · have holds : ∀ j u, xs[j]? = some u → w.cell? ((⟨g, 0, none⟩ : Addr).add j) = some u := hown.cells (g := g) rfl
      exact ⟨_, _, run_append_grow w t ty e i z ht hi hz ⟨g, 0, none⟩ n cap xs hown.1 holds a m c news hl hnews (by omega) (by omega) (growslice_fits (by omega) hbytes), Or.inr rfl⟩
theorem wpList_append_where {P : Program} (w : World) {ops : Array Oper} {rest : List Oper} {o : Oper} {a : Act} {Q : Exit → Act → World → Prop} (hgd : o.guard = none) (s x : Operand) (t : TypeId)
    (ho : o.op = .call { callee := .builtin .append, args := #[s, x], argTypes := #[t, t] })
    (base : Nat) (e : TypeId) (i : TypeInfo) (z : Value) (size bytes : Nat) (ht : P.underlying t = some (.slice e)) (hi : P.info? e = some i) (hz : i.zero = some z)
    (hsize : i.size = size) (hby : i.bytes = bytes) (hzs : z.cells.size = size) (hsz : 0 < size)
    (v : Value) (n : Nat) (xs : List Value) (hs : a.eval s = v) (hown : w.ownsRow base e size v n xs)
    (ad : Addr) (m c : Nat) (news : List Value) (hx : a.eval x = .slice (some ad) m c) (hm : 0 < m) (hl : news.length = m * size) (hnews : ∀ j u, news[j]? = some u → w.cell? (ad.add j) = some u) (h1 : ∀ u ∈ news, u.oneCell' = true)
    (h63 : n + m ≤ maxLen) (hbytes : (n + m) * bytes ≤ 140737488355328) (hbase : base ≤ w.heap.size)
    (h : ∀ v' w', w'.ownsRow base e size v' (n + m) (xs ++ news) → w.grownBy w' v.ownBlock → (v'.ownBlock = v.ownBlock ∨ v'.ownBlock = some w.heap.size) → wpList P ops Q rest (a.put o.dst v') w') : wpList P ops Q (o :: rest) a w := by
  refine wpList_plain hgd fun K hK => ?_
  obtain ⟨v', w', hr, h2, h3, _⟩ := run_append_own (P := P) w base t o.type e i z size bytes ht hi hz hsize hby hzs hsz v n xs hown ad m c news hl hnews h1 h63 hbytes hbase
  obtain ⟨v2, w2, hr2, h4⟩ := append_where (P := P) w base t o.type e i z size bytes ht hi hz hsize hby hsz v n xs hown ad m c news hl hnews h1 hm h63 hbytes
  rw [hr] at hr2
  injection hr2 with e1 e2
  subst e1
  unfold Oper.wp execOp
  simp only [ho, resolve, invoke, builtin, Sem.run_bind, Sem.run_pure, Result.andThen_ok, List.map_toArray, List.map_cons, List.map_nil, hs, hx, hr]
  exact hK _ _ (h v' w' h2 h3 h4)
end Go.Proofs.YtbkpoepacjinlaaGreat

/- Gear: Pieces of the program. -/
namespace Go.Proofs.YtbkpoepacjinlaaGreat
open Go.RowKit Go.BigFrame
open Gar (chk)

/-- the cells of a piece that was told -/
def evC (g : Gar) (e : Ev) : List Value := [.string (g.un e.i), .string e.s, .string e.p, .int .i64 e.sec, .int .i64 e.way]
def evCs (g : Gar) (l : List Ev) : List Value := l.flatMap (evC g)
theorem evQ_len (g : Gar) (i j : Nat) : ∀ n, (evQ g i j n).length = n
  | 0 => rfl
  | n + 1 => by rw [evQ, List.length_append, evQ_len g i j n]; rfl
theorem evS_len {g : Gar} (h : chk g = 0) {i : Nat} (hi : i < g.nu) (j : Nat) : (evS g i j).length ≤ j * 1000000 := by
  induction j with
  | zero => exact Nat.zero_le _
  | succ j ih =>
    obtain ⟨_, _, _, _, _, _, hm, ho, hu⟩ := Gar.chk_parts h
    have hur := Gar.use_right hu hi
    have hg : Good (pcsOf g i j) (g.us i) := good_pieces (Gar.ord_mounts hm ho (g.sn j) g.nm (Nat.le_refl _)) (by omega)
    have hl := hg.len
    rw [evS, List.length_append]
    split
    · rw [evQ_len]; omega
    · rw [List.length_nil, Nat.add_zero]
      exact Nat.le_trans ih (Nat.mul_le_mul_right _ (Nat.le_succ j))
theorem evG_le {g : Gar} {M : Nat} (hM : ∀ i, i < g.nu → (evS g i g.ns).length ≤ M) : ∀ i, i ≤ g.nu → (evG g i).length ≤ i * M
  | 0, _ => Nat.zero_le _
  | i + 1, hi => by
    have ih := evG_le hM i (by omega)
    have h1 := hM i (by omega)
    rw [evG, List.length_append, Nat.succ_mul]
    omega
theorem evG_len {g : Gar} (h : chk g = 0) (i : Nat) (hi : i ≤ g.nu) : (evG g i).length ≤ i * 100000000 :=
  evG_le (fun i hi => by
    have h1 := evS_len h hi g.ns
    have h2 := (Gar.chk_parts h).2.1
    omega) i hi
/-- what Pieces' closure keeps: the row that it appends to -/
def PInv (g : Gar) (base c : Nat) (done : List Ev) (S : Nat → Prop) (W : World) : Prop :=
  ∃ v, W.heap[c]? = some (.cells #[v] 48 (0, 0)) ∧ W.ownsRow base 54 5 v done.length (evCs g done) ∧ (∀ b, S b ↔ (b = c ∨ v.ownBlock = some b)) ∧ c < base ∧ base ≤ W.heap.size
theorem PInv.keep {g : Gar} {base c : Nat} (done : List Ev) (S : Nat → Prop) (W W' : World) (h : PInv g base c done S W) (hb : Below W.heap.size W W') : PInv g base c done S W' := by
  obtain ⟨v, h1, h2, h3, h4, h5⟩ := h
  exact ⟨v, below_block hb h1, h2.kept (row := none) ⟨hb.os, hb.tape, hb.output, hb.size, fun k hk _ => hb.block k hk⟩ (by cases v.ownBlock <;> simp), h3, h4, Nat.le_trans h5 hb.size⟩
set_option maxHeartbeats 2000000 in
set_option maxRecDepth 100000 in
theorem piecesCl_any (g : Gar) (base c : Nat) (done : List Ev) (S : Nat → Prop) (W : World) (ev : Ev) (h : PInv g base c done S W) (hn : done.length ≤ 1000000000000) :
    Calls Tryz.prog 45 (#[useAt g ev.i, evV g ev] ++ #[.pointer (some ⟨c, 0, none⟩)]) W fun e W' => e = .returned (.tuple #[]) ∧ ∃ S' : Nat → Prop, PInv g base c (done ++ [ev]) S' W' ∧ (∀ b, S' b → S b ∨ W.heap.size ≤ b) ∧ (∀ b, S' b → b < W'.heap.size) ∧ Kept S W W' := by
  obtain ⟨v, hv, ho, hS, hcb, hbW⟩ := h
  unfold useAt useV evV
  obtain ⟨W1, hW1, hb1, hs1, _⟩ := alloc_block W #[.string (g.un ev.i), .string (g.ur ev.i), .int .i64 (g.uf ev.i), .int .i64 (g.us ev.i), .int .i64 (g.uw ev.i)] 62
  obtain ⟨W2, hW2, hb2, hs2, hq2⟩ := alloc_block W1 #[.string (g.un ev.i), .string ev.s, .string ev.p, .int .i64 ev.sec, .int .i64 ev.way] 54
  have hb12 := below_step hb1 hb2
  have hv2 := below_block hb12 hv
  have ho2 : W2.ownsRow base 54 5 v done.length (evCs g done) := ho.kept (row := none) ⟨hb12.os, hb12.tape, hb12.output, hb12.size, fun k hk _ => hb12.block k hk⟩ (by cases v.ownBlock <;> simp)
  have k0 := cell_of_one hv2
  have l0 : W2.cell? ⟨W1.heap.size, 0, none⟩ = some (.string (g.un ev.i)) := block_cell hq2 rfl
  have l1 : W2.cell? ⟨W1.heap.size, 1, none⟩ = some (.string ev.s) := block_cell hq2 rfl
  have l2 : W2.cell? ⟨W1.heap.size, 2, none⟩ = some (.string ev.p) := block_cell hq2 rfl
  have l3 : W2.cell? ⟨W1.heap.size, 3, none⟩ = some (.int .i64 ev.sec) := block_cell hq2 rfl
  have l4 : W2.cell? ⟨W1.heap.size, 4, none⟩ = some (.int .i64 ev.way) := block_cell hq2 rfl
  obtain ⟨i0, hi0, hz0, hz1, hz2⟩ := info_parts (show (Tryz.prog.info? 54).map (fun i => (i.zero, i.size, i.bytes)) = some (some (.agg #[.string ⟨#[]⟩, .string ⟨#[]⟩, .string ⟨#[]⟩, .int .i64 0, .int .i64 0]), 5, 64) by kernel_rfl)
  have HI0 := Lib.hid hi0
  have HZ0 := Lib.hid hz0
  have HZ1 := Lib.hid hz1
  have HZ2 := Lib.hid hz2
  have HU := Lib.hid (show Tryz.prog.underlying 48 = some (.slice 54) by kernel_rfl)
  have HO2 := Lib.hid ho2
  have HV2 := Lib.hid hv2
  have HB12 := Lib.hid hb12
  have HS := Lib.hid hS
  have HO := Lib.hid ho
  have HE12 : Hid (((W.alloc (.cells #[.string (g.un ev.i), .string (g.ur ev.i), .int .i64 (g.uf ev.i), .int .i64 (g.us ev.i), .int .i64 (g.uw ev.i)] 62)).alloc (.cells #[.string (g.un ev.i), .string ev.s, .string ev.p, .int .i64 ev.sec, .int .i64 ev.way] 54)) = W2) := Lib.hid (by rw [hW1, hW2])
  have HE1 : Hid (W.heap.size + 1 = W1.heap.size) := Lib.hid hs1.symm
  have hbW2 : base ≤ W2.heap.size := Nat.le_trans hbW hb12.size
  have hcW : c < W.heap.size := lt_of_block hv
  clear hi0 hz0 hz1 hz2 ho2 hv2 hb12 hS ho hv hW1 hW2 hb1 hb2 hq2 hs2 hs1
  go_enter Tryz.func45, Tryz.ntmps45
  go_upto_region 1 with (fail)
  rw [HE12.out, HE1.out]
  go_wp2_with (at_builtin; refine wpList_append_where _ rfl (.tmp 5) (.tmp 7) 48 rfl base 54 i0 (.agg #[.string ⟨#[]⟩, .string ⟨#[]⟩, .string ⟨#[]⟩, .int .i64 0, .int .i64 0]) 5 64 HU.out HI0.out HZ0.out HZ1.out HZ2.out rfl (by decide) v done.length (evCs g done) rfl (HO2.out.alloc _) ⟨W2.heap.size, 0, none⟩ 1 1 (evC g ev) rfl (by decide) rfl ?c1 ?c2 ?c3 ?c4 ?c5 ?_)
  case c1 =>
    intro j u hu
    rw [addr_add0, World.cell?_alloc_at _ _ _ _ rfl]
    simpa [evC] using hu
  case c2 =>
    intro u hu
    simp only [evC, List.mem_cons, List.not_mem_nil, or_false] at hu
    rcases hu with rfl | rfl | rfl | rfl | rfl <;> rfl
  case c3 => unfold maxLen; omega
  case c4 => omega
  case c5 => simp; omega
  intro v' w1 hown1 hg1 hwhere
  obtain ⟨g', cap', rfl, _, hgl⟩ := hown1.form (by omega)
  have hnc : ¬ some c = v.ownBlock := fun e => by have := (HO.out.lt c e.symm).1; omega
  have hk1 : Kept S W w1 := (Kept.of_below (HB12.out.trans ((below_al W2 _).mono HB12.out.size))).grown hg1 (fun q hq _ => (HS.out q).2 (Or.inr hq))
  have b0 : w1.heap[c]? = some (.cells #[v] 48 (0, 0)) := (hg1.block c (by simp; have := lt_of_block HV2.out; omega) hnc).trans (below_block (below_al W2 _) HV2.out)
  have k0' := cell_of_one b0
  have f0 := free_of_one b0
  have HOWN := Lib.hid hown1
  have HK1 := Lib.hid hk1
  have HB0 := Lib.hid b0
  have HWH := Lib.hid hwhere
  clear hown1 hg1 hk1 b0 k0 l0 l1 l2 l3 l4 hwhere hnc
  go_wp2_with fail
  go_end0
  refine ⟨rfl, fun b => b = c ∨ g' = b, ⟨_, one_setCell HB0.out, ?_, fun b => by simp [Value.ownBlock], hcb, ?_⟩, ?_, ?_, kept_set HK1.out ((HS.out c).2 (Or.inl rfl)) _⟩
  · rw [List.length_append, show evCs g (done ++ [ev]) = evCs g done ++ evC g ev by simp [evCs]]
    exact ownsRow_setCell_other HOWN.out (by simp [Value.ownBlock]; intro e; have := (HOWN.out.lt g' rfl).1; omega) _
  · exact Nat.le_trans (Nat.le_trans hbW HK1.out.size) (by simp [World.setCell])
  · intro b hb
    rcases hb with rfl | rfl
    · exact Or.inl ((HS.out b).2 (Or.inl rfl))
    · rcases HWH.out with e | e
      · exact Or.inl ((HS.out _).2 (Or.inr (by rw [← e]; rfl)))
      · simp [Value.ownBlock] at e
        have := HB12.out.size
        exact Or.inr (by omega)
  · intro b hb
    have : (w1.setCell ⟨c, 0, none⟩ (.slice (some ⟨g', 0, none⟩) (done.length + 1) cap')).heap.size = w1.heap.size := by simp [World.setCell]
    rw [this]
    rcases hb with rfl | rfl
    · exact lt_of_block HB0.out
    · exact hgl
set_option maxHeartbeats 2000000 in
set_option maxRecDepth 100000 in
/-- Pieces: of a garage that is not right nothing; else all pieces, in a row of its own -/
theorem gPieces_any (g : Gar) (a0 a1 a2 a3 : Option Addr) (c0 c1 c2 c3 : Nat) (w : World) (h : GarIn w g a0 a1 a2 a3) :
    Calls Tryz.prog 18 #[garV g a0 a1 a2 a3 c0 c1 c2 c3] w fun e w' => Below w.heap.size w w' ∧
      ((chk g ≠ 0 ∧ e = .returned (.tuple #[.slice none 0 0, .int .i64 (chk g)])) ∨ (chk g = 0 ∧ ∃ v base, w.heap.size ≤ base ∧ e = .returned (.tuple #[v, .int .i64 0]) ∧ w'.ownsRow base 54 5 v (evG g g.nu).length (evCs g (evG g g.nu)))) := by
  have HG := Lib.hid h
  have DC0 := Lib.hid (fun (W : World) (hb : Below w.heap.size w W) => gCheck_any g a0 a1 a2 a3 c0 c1 c2 c3 W (HG.out.below hb))
  unfold garV at DC0 ⊢
  have hmf : ∀ fn first cap w, (Instr.makeFunc fn first cap).run Tryz.prog w = .ok (.func fn first cap) w := fun _ _ _ _ => rfl
  obtain ⟨W0, hW0, hb0, hs0, hl0'⟩ := alloc_cells w #[.slice a0 g.np c0, .slice a1 g.ns c1, .slice a2 g.nm c2, .slice a3 g.nu c3] 27
  have G0 := Ext.ex (hl0' 0 _ rfl)
  have G1 := Ext.ex (hl0' 1 _ rfl)
  have G2 := Ext.ex (hl0' 2 _ rfl)
  have G3 := Ext.ex (hl0' 3 _ rfl)
  have HW0 := Lib.hid hW0
  have HB0 := Lib.hid hb0
  have hs0' : w.heap.size ≤ W0.heap.size := by omega
  have DC := Lib.hid (fun (Y : Ext W0) => DC0.out Y.1 (Y.down HB0.out hs0'))
  clear hl0' hW0 hb0 hs0 DC0 h
  by_cases hc : chk g = 0
  · have HC := Lib.hid hc
    rw [hc] at DC
    clear hc
    go_enter Tryz.func18, Tryz.ntmps18
    go_upto_region 1 with (fail)
    rw [HW0.out]
    refine ext_wp fun X => ?_
    go_wp2_with fail
    refine (Ext.calls _ (DC.out _)).mono ?_
    rintro e w2 ⟨rfl, Y, rfl⟩
    have g0 := G0 Y
    have g1 := G1 Y
    have g2 := G2 Y
    have g3 := G3 Y
    have hy := Y.down HB0.out hs0'
    obtain ⟨y, hyy⟩ : ∃ y, Y.1 = y := ⟨_, rfl⟩
    rw [hyy] at g0 g1 g2 g3 hy ⊢
    clear hyy Y G0 G1 G2 G3 DC
    obtain ⟨W1, hW1, hb1, hs1, hq1⟩ := alloc_block y #[.slice none 0 0] 48
    have hyw : w.heap.size ≤ y.heap.size := hy.size
    have k0 := below_cell hb1 g0
    have k1 := below_cell hb1 g1
    have k2 := below_cell hb1 g2
    have k3 := below_cell hb1 g3
    have hw1 : Below w.heap.size w W1 := hy.trans (hb1.mono hyw)
    have HLE := Lib.hid (evG_len HC.out g.nu (Nat.le_refl _))
    have hnu := (Gar.chk_parts HC.out).2.2.2.1
    have hblk : ∀ (a : Option Addr) (b off : Nat) {len kk : Nat} {V : Nat → List Value}, RowK w a len kk V → a = some ⟨b, off, none⟩ → 0 < len → ¬ b = y.heap.size := fun a b off {len kk V} hr ha hl => by
      obtain ⟨b', off', h1, h2, _⟩ := hr.here hl
      rw [ha] at h1
      injection h1 with h1
      injection h1 with h1 _
      omega
    have DE := eachPiece_any g a0 a1 a2 a3 c0 c1 c2 c3 W1 (HG.out.below hw1) HC.out 45 #[.pointer (some ⟨y.heap.size, 0, none⟩)] (fun _ _ => rfl) (PInv g W1.heap.size y.heap.size) (fun done S W W' => PInv.keep done S W W')
      (fun done S W ev hi _ _ hp => piecesCl_any g W1.heap.size y.heap.size done S W ev hi (by
        obtain ⟨rest, hr⟩ := hp
        have := congrArg List.length hr
        rw [List.length_append] at this
        have := HLE.out
        omega)) (fun b => b = y.heap.size)
      ⟨.slice none 0 0, hq1, World.ownsRow_nil _ _ _ _, fun b => by simp [Value.ownBlock], by omega, Nat.le_refl _⟩ (fun b hb => by omega) (fun b off ha hl => hblk a1 b off HG.out.r1 ha hl) (fun b off ha hl => hblk a3 b off HG.out.r3 ha hl)
    unfold garV at DE
    have HDE := Lib.hid DE
    have HW1 := Lib.hid hW1
    have HWW := Lib.hid hw1
    have hc0 : y.heap.size < W1.heap.size := by omega
    clear DE hW1 hb1 hs1 hq1 g0 g1 g2 g3 hy hw1 hblk
    go_upto_region 5 with (fail)
    rw [HW1.out]
    go_wp2_with fail
    refine HDE.out.mono ?_
    rintro e w3 ⟨rfl, hpr⟩
    obtain ⟨S, ⟨v, h1, h2, h3, h4, h5⟩, _, _⟩ := hpr.ex
    have hk3 := cell_of_one h1
    have HF := Lib.hid (Kept.below HWW.out hpr.kept HWW.out.size (fun k hk => by omega))
    have H2 := Lib.hid h2
    clear hpr h1 h2 h3 h4 h5
    go_wp2_with fail
    go_ret2
    exact ⟨HF.out, Or.inr ⟨HC.out, v, W1.heap.size, HWW.out.size, rfl, H2.out⟩⟩
  · have HC := Lib.hid hc
    have n1 : (chk g != 0) = true := by rw [bne_iff_ne]; exact hc
    clear hc
    go_enter Tryz.func18, Tryz.ntmps18
    go_upto_region 1 with (fail)
    rw [HW0.out]
    refine ext_wp fun X => ?_
    go_wp2_with fail
    refine (Ext.calls _ (DC.out _)).mono ?_
    rintro e w2 ⟨rfl, Y, rfl⟩
    go_wp2_with fail
    go_ret2
    exact ⟨Y.down HB0.out hs0', Or.inl ⟨HC.out, rfl⟩⟩
end Go.Proofs.YtbkpoepacjinlaaGreat

/- Gear: the law's walk of the pieces, as a state (plain laws for GearPiecesFollowMounts). -/
namespace Go.Proofs.YtbkpoepacjinlaaGreat
open Go.RowKit Go.BigFrame
open Gar (chk momG hasS)

/-- what is left, the part, was it found: one piece more -/
def stE (g : Gar) (u s : ByteArray) (st : Int × ByteArray × Bool) (e : Ev) : Int × ByteArray × Bool :=
  if g.un e.i = u ∧ e.s = s ∧ st.2.2 = false then (st.1 - e.sec, if st.1 < e.sec then e.p else st.2.1, decide (st.1 < e.sec)) else st
def ev0 : Ev := ⟨0, ⟨#[]⟩, ⟨#[]⟩, 0, 0⟩
def evA (g : Gar) (q : Nat) : Ev := (evG g g.nu).getD q ev0
def stN (g : Gar) (u s : ByteArray) (x : Int) (q : Nat) : Int × ByteArray × Bool := ((evG g g.nu).take q).foldl (stE g u s) (x, ⟨#[]⟩, false)
theorem stN_succ (g : Gar) (u s : ByteArray) (x : Int) {q : Nat} (h : q < (evG g g.nu).length) : stN g u s x (q + 1) = stE g u s (stN g u s x q) (evA g q) := by
  unfold stN evA
  rw [List.take_succ_eq_append_getElem h, List.foldl_append, List.getD_eq_getElem?_getD, List.getElem?_eq_getElem h]
  rfl
theorem fold_found (g : Gar) (u s : ByteArray) : ∀ (l : List Ev) (st : Int × ByteArray × Bool), st.2.2 = true → l.foldl (stE g u s) st = st
  | [], _, _ => rfl
  | e :: l, st, h => by
    rw [List.foldl_cons, show stE g u s st e = st by unfold stE; rw [if_neg (by rw [h]; simp)], fold_found g u s l st h]
theorem fold_scan (g : Gar) (u s : ByteArray) : ∀ (l : List Ev) (x : Int) (p : ByteArray), (l.foldl (stE g u s) (x, p, false)).2 = (match scanE g u s l x with
    | some q => (q, true)
    | none => (p, false))
  | [], _, _ => rfl
  | e :: l, x, p => by
    rw [List.foldl_cons, scanE]
    by_cases c : g.un e.i = u ∧ e.s = s
    · rw [if_pos c]
      by_cases d : x < e.sec
      · rw [if_pos d, fold_found g u s l _ (by unfold stE; rw [if_pos ⟨c.1, c.2, rfl⟩]; simpa using d)]
        unfold stE
        rw [if_pos ⟨c.1, c.2, rfl⟩]
        simp [d]
      · rw [if_neg d, show stE g u s (x, p, false) e = (x - e.sec, p, false) by unfold stE; rw [if_pos ⟨c.1, c.2, rfl⟩]; simp [d], fold_scan g u s l]
    · rw [if_neg c, show stE g u s (x, p, false) e = (x, p, false) by unfold stE; rw [if_neg (fun h => c ⟨h.1, h.2.1⟩)], fold_scan g u s l]
theorem fold_bound (g : Gar) (u s : ByteArray) : ∀ (l : List Ev) (st : Int × ByteArray × Bool), (∀ e, e ∈ l → 0 ≤ e.sec ∧ e.sec ≤ 1000000) → st.1 ≤ 1000000 → -1000000 ≤ st.1 → (st.2.2 = false → 0 ≤ st.1) →
    (l.foldl (stE g u s) st).1 ≤ 1000000 ∧ -1000000 ≤ (l.foldl (stE g u s) st).1 ∧ ((l.foldl (stE g u s) st).2.2 = false → 0 ≤ (l.foldl (stE g u s) st).1)
  | [], st, _, h1, h2, h3 => ⟨h1, h2, h3⟩
  | e :: l, st, hl, h1, h2, h3 => by
    rw [List.foldl_cons]
    have he := hl e (by simp)
    refine fold_bound g u s l _ (fun x hx => hl x (by simp [hx])) ?_ ?_ ?_
    all_goals (unfold stE; split)
    · rename_i c; show st.1 - e.sec ≤ _; omega
    · exact h1
    · rename_i c; have := h3 c.2.2; show -1000000 ≤ st.1 - e.sec; omega
    · exact h2
    · rename_i c
      intro hd
      have hd : decide (st.1 < e.sec) = false := hd
      rw [decide_eq_false_iff_not] at hd
      show 0 ≤ st.1 - e.sec
      omega
    · exact h3
theorem evQ_sec {g : Gar} {i j : Nat} (hg : Good (pcsOf g i j) (g.us i)) (hu : g.us i ≤ 1000000) {e : Ev} : ∀ {n : Nat}, n ≤ (pcsOf g i j).length → e ∈ evQ g i j n → 0 ≤ e.sec ∧ e.sec ≤ 1000000
  | 0, _, h => by simp [evQ] at h
  | n + 1, hn, h => by
    rw [evQ] at h
    rcases List.mem_append.1 h with h | h
    · exact evQ_sec hg hu (by omega) h
    · simp at h
      subst h
      have hm := pget_mem (show n < (pcsOf g i j).length by omega)
      have h1 := hg.pos _ hm
      have h2 := secs_le hg.pos hm
      have h3 := hg.sum
      show 0 ≤ (pget (pcsOf g i j) n).2 ∧ (pget (pcsOf g i j) n).2 ≤ 1000000
      omega
theorem evS_sec {g : Gar} (h : chk g = 0) {i : Nat} (hi : i < g.nu) {e : Ev} : ∀ {n : Nat}, e ∈ evS g i n → 0 ≤ e.sec ∧ e.sec ≤ 1000000
  | 0, h => by simp [evS] at h
  | n + 1, he => by
    rw [evS] at he
    rcases List.mem_append.1 he with he | he
    · exact evS_sec h hi he
    · split at he
      · have hp := Gar.chk_parts h
        have hur := Gar.use_right hp.2.2.2.2.2.2.2.2 hi
        exact evQ_sec (good_pieces (Gar.ord_mounts hp.2.2.2.2.2.2.1 hp.2.2.2.2.2.2.2.1 (g.sn n) g.nm (Nat.le_refl _)) (by omega)) (by omega) (Nat.le_refl _) he
      · simp at he
theorem evG_sec {g : Gar} (h : chk g = 0) {e : Ev} : ∀ {n : Nat}, n ≤ g.nu → e ∈ evG g n → 0 ≤ e.sec ∧ e.sec ≤ 1000000
  | 0, _, h => by simp [evG] at h
  | n + 1, hn, he => by
    rw [evG] at he
    rcases List.mem_append.1 he with he | he
    · exact evG_sec h (by omega) he
    · exact evS_sec h (by omega) he
theorem evA_sec {g : Gar} (h : chk g = 0) {q : Nat} (hq : q < (evG g g.nu).length) : 0 ≤ (evA g q).sec ∧ (evA g q).sec ≤ 1000000 := by
  refine evG_sec h (Nat.le_refl _) ?_
  unfold evA
  rw [List.getD_eq_getElem?_getD, List.getElem?_eq_getElem hq]
  exact List.getElem_mem hq
theorem stN_bound {g : Gar} (h : chk g = 0) (u s : ByteArray) {x : Int} (h0 : 0 ≤ x) (h1 : x ≤ 1000000) (q : Nat) : (stN g u s x q).1 ≤ 1000000 ∧ -1000000 ≤ (stN g u s x q).1 := by
  have := fold_bound g u s ((evG g g.nu).take q) (x, ⟨#[]⟩, false) (fun e he => evG_sec h (Nat.le_refl _) (List.mem_of_mem_take he)) h1 (by show -1000000 ≤ x; omega) (fun _ => h0)
  exact ⟨this.1, this.2.1⟩
theorem hasS_at {g : Gar} {j : Nat} (h : j < g.ns) : hasS g (g.sn j) = true := by
  unfold hasS
  rw [List.any_eq_true]
  exact ⟨j, List.mem_range.2 h, by simp⟩
/-- behind all pieces the part is the one that In tells -/
theorem stN_end {g : Gar} (h : chk g = 0) {k j : Nat} (hk : k < g.nu) (hj : j < g.ns) (hr : g.sr j = g.ur k) {x : Int} (h0 : 0 ≤ x) (h1 : x < g.us k) (h2 : g.uf k + x ≤ 86399999999) :
    ∃ p b, (stN g (g.un k) (g.sn j) x (evG g g.nu).length).2 = (p, true) ∧ InS g (g.sn j) (g.uf k + x) = (p, b, 0) := by
  have hur := Gar.use_right (Gar.chk_parts h).2.2.2.2.2.2.2.2 hk
  refine ⟨(inR (inF g (g.sn j) (g.uf k + x) g.nm 0)).1, (inR (inF g (g.sn j) (g.uf k + x) g.nm 0)).2, ?_, ?_⟩
  · unfold stN
    rw [List.take_length, fold_scan, scan_part h hk hj hr h0 h1, part_in]
  · unfold InS
    rw [if_neg (by rw [h]; simp), hasS_at hj, if_neg (by simp), show momG (g.uf k + x) = true by unfold momG; rw [Bool.and_eq_true, decide_eq_true_eq, decide_eq_true_eq]; omega, if_neg (by simp)]
/-- the row of the pieces, as it is read -/
theorem evRow {g : Gar} {W : World} {base : Nat} {T : TypeId} {v : Value} {l : List Ev} (hr : W.ownsRow base T 5 v l.length (evCs g l)) :
    ∃ (am : Option Addr) (cm : Nat), v = .slice am l.length cm ∧ RowK W am l.length 5 (fun i => evC g (l.getD i ev0)) := by
  rcases hr.2 with ⟨e, hn⟩ | ⟨q, cap, cur, e, _, h3, _⟩
  · exact ⟨none, 0, by rw [e, hn], ⟨fun h => by omega⟩⟩
  · refine ⟨some ⟨q, 0, none⟩, cap, e, ⟨fun hl => ⟨q, 0, rfl, lt_of_block h3, fun i hi j hj => ?_⟩⟩⟩
    have hc := flatN (f := evC g) (m := 5) ev0 (fun q => rfl) l i j hi hj
    have hv : ∃ v, (evC g (l.getD i ev0))[j]? = some v := ⟨_, List.getElem?_eq_getElem (by simpa [evC] using hj)⟩
    obtain ⟨v, hv⟩ := hv
    have h6 := hr.cells (g := q) (by rw [e]; rfl) (i * 5 + j) v (hc.trans hv)
    rw [addr_add0] at h6
    rw [Nat.zero_add, hv]
    exact h6
end Go.Proofs.YtbkpoepacjinlaaGreat

/- Gear: how much a part was used, in plain lists. -/
namespace Go.Proofs.YtbkpoepacjinlaaGreat
open Go.RowKit Go.BigFrame
open Gar (chk)
open Shr (sumF quo rst)

def waySum (l : List Ev) : Int := (l.map Ev.way).sum
def secSum (l : List Ev) : Int := (l.map Ev.sec).sum
theorem waySum_app (a b : List Ev) : waySum (a ++ b) = waySum a + waySum b := by unfold waySum; rw [List.map_append, List.sum_append]
theorem secSum_app (a b : List Ev) : secSum (a ++ b) = secSum a + secSum b := by unfold secSum; rw [List.map_append, List.sum_append]
theorem evQ_waySum (g : Gar) (i j : Nat) : ∀ n, waySum (evQ g i j n) = sumF (wayG (g.uw i) (g.us i) (secW (pcsOf g i j)) (pcsOf g i j).length) n
  | 0 => rfl
  | n + 1 => by
    rw [evQ, waySum_app, evQ_waySum g i j n, sumF]
    simp [waySum, evP]
theorem evQ_secSum (g : Gar) (i j : Nat) : ∀ n, secSum (evQ g i j n) = sumF (secW (pcsOf g i j)) n
  | 0 => rfl
  | n + 1 => by
    rw [evQ, secSum_app, evQ_secSum g i j n, sumF]
    simp [secSum, evP, secW]
theorem sumF_add (f g : Nat → Int) : ∀ n, sumF (fun i => f i + g i) n = sumF f n + sumF g n
  | 0 => rfl
  | n + 1 => by
    have := sumF_add f g n
    show sumF (fun i => f i + g i) n + (f n + g n) = sumF f n + f n + (sumF g n + g n)
    omega
theorem sumF_ind : ∀ (n : Nat) (l : List Nat), l.Nodup → sumF (fun i => if i ∈ l then 1 else 0) n ≤ (l.length : Int)
  | 0, l, _ => by show (0 : Int) ≤ _; omega
  | n + 1, l, hd => by
    show sumF (fun i => if i ∈ l then 1 else 0) n + (if n ∈ l then 1 else 0) ≤ (l.length : Int)
    by_cases hn : n ∈ l
    · rw [if_pos hn]
      have h1 := sumF_ind n (l.erase n) (hd.erase n)
      have e : ∀ k, k ≤ n → sumF (fun i => if i ∈ l then 1 else 0) k = sumF (fun i => if i ∈ l.erase n then 1 else 0) k := by
        intro k
        induction k with
        | zero => intro _; rfl
        | succ k ih =>
          intro hk
          show sumF (fun i => if i ∈ l then 1 else 0) k + (if k ∈ l then 1 else 0) = sumF (fun i => if i ∈ l.erase n then 1 else 0) k + (if k ∈ l.erase n then 1 else 0)
          rw [ih (by omega)]
          have : k ∈ l ↔ k ∈ l.erase n := by rw [List.mem_erase_of_ne (by omega)]
          by_cases hk2 : k ∈ l
          · rw [if_pos hk2, if_pos (this.1 hk2)]
          · rw [if_neg hk2, if_neg (fun h => hk2 (this.2 h))]
      have hl := List.length_erase_of_mem hn
      have hp := List.length_pos_of_mem hn
      have := e n (Nat.le_refl _)
      omega
    · rw [if_neg hn]
      have := sumF_ind n l hd
      omega
theorem way_nn {T S : Int} {W : Nat → Int} {n : Nat} (hf : Fine T W n S) {i : Nat} (hi : i < n) : 0 ≤ wayG T S W n i := by
  unfold wayG PartF
  have := hf.quo_nn hi
  split <;> omega
theorem way_sum {T S : Int} {W : Nat → Int} {n : Nat} (hf : Fine T W n S) : sumF (wayG T S W n) n ≤ T := by
  obtain ⟨b0, b1⟩ := Shr.left_bounds (T := T) (W := W) hf.s0 hf.sum
  have e : sumF (wayG T S W n) n = sumF (quo T S W) n + sumF (fun i => if i ∈ (ordL (rst T S W) n).take (T - sumF (quo T S W) n).toNat then 1 else 0) n := sumF_add _ _ n
  have h2 := sumF_ind n ((ordL (rst T S W) n).take (T - sumF (quo T S W) n).toNat) (List.Nodup.sublist (List.take_sublist _ _) (ordL_ord _ _).nodup)
  rw [List.length_take] at h2
  omega
theorem pcs_good {g : Gar} (h : chk g = 0) {i : Nat} (hi : i < g.nu) (j : Nat) : Good (pcsOf g i j) (g.us i) := by
  have hp := Gar.chk_parts h
  have hur := Gar.use_right hp.2.2.2.2.2.2.2.2 hi
  exact good_pieces (Gar.ord_mounts hp.2.2.2.2.2.2.1 hp.2.2.2.2.2.2.2.1 (g.sn j) g.nm (Nat.le_refl _)) (by omega)
theorem pcs_fine {g : Gar} (h : chk g = 0) {i : Nat} (hi : i < g.nu) (j : Nat) : Fine (g.uw i) (secW (pcsOf g i j)) (pcsOf g i j).length (g.us i) := by
  have hp := Gar.chk_parts h
  have hur := Gar.use_right hp.2.2.2.2.2.2.2.2 hi
  exact (pcs_good h hi j).fine (by omega) (by omega) (by omega) (by omega)
/-- what is told of one use in one slot -/
theorem evQ_all {g : Gar} (h : chk g = 0) {i : Nat} (hi : i < g.nu) (j : Nat) : (∀ n, n ≤ (pcsOf g i j).length → ∀ e, e ∈ evQ g i j n → 0 ≤ e.way ∧ 0 ≤ e.sec ∧ e.i = i) ∧ waySum (evQ g i j (pcsOf g i j).length) ≤ 1000000000 ∧ secSum (evQ g i j (pcsOf g i j).length) ≤ 1000000 := by
  have hf := pcs_fine h hi j
  have hur := Gar.use_right (Gar.chk_parts h).2.2.2.2.2.2.2.2 hi
  refine ⟨fun n => ?_, ?_, ?_⟩
  · induction n with
    | zero => intro _ e he; simp [evQ] at he
    | succ n ih =>
      intro hn e he
      rw [evQ] at he
      rcases List.mem_append.1 he with he | he
      · exact ih (by omega) e he
      · simp at he
        subst he
        exact ⟨way_nn hf (by omega), hf.w0 n (by omega), rfl⟩
  · rw [evQ_waySum]
    have := way_sum hf
    omega
  · rw [evQ_secSum, hf.sum]
    omega
theorem evS_all {g : Gar} (h : chk g = 0) {i : Nat} (hi : i < g.nu) : ∀ n, (∀ e, e ∈ evS g i n → 0 ≤ e.way ∧ 0 ≤ e.sec ∧ e.i = i) ∧ waySum (evS g i n) ≤ n * 1000000000 ∧ secSum (evS g i n) ≤ n * 1000000
  | 0 => ⟨fun e he => by simp [evS] at he, by simp [evS, waySum], by simp [evS, secSum]⟩
  | n + 1 => by
    obtain ⟨h1, h2, h3⟩ := evS_all h hi n
    obtain ⟨q1, q2, q3⟩ := evQ_all h hi n
    refine ⟨fun e he => ?_, ?_, ?_⟩
    · rw [evS] at he
      rcases List.mem_append.1 he with he | he
      · exact h1 e he
      · split at he
        · exact q1 _ (Nat.le_refl _) e he
        · simp at he
    · rw [evS, waySum_app]
      split
      · omega
      · have : waySum [] = 0 := rfl
        omega
    · rw [evS, secSum_app]
      split
      · omega
      · have : secSum [] = 0 := rfl
        omega
theorem evG_all {g : Gar} (h : chk g = 0) : ∀ n, n ≤ g.nu → (∀ e, e ∈ evG g n → 0 ≤ e.way ∧ 0 ≤ e.sec ∧ e.i < n) ∧ waySum (evG g n) ≤ n * 100000000000 ∧ secSum (evG g n) ≤ n * 100000000
  | 0, _ => ⟨fun e he => by simp [evG] at he, by simp [evG, waySum], by simp [evG, secSum]⟩
  | n + 1, hn => by
    obtain ⟨h1, h2, h3⟩ := evG_all h n (by omega)
    obtain ⟨q1, q2, q3⟩ := evS_all h (show n < g.nu by omega) g.ns
    have hs := (Gar.chk_parts h).2.1
    refine ⟨fun e he => ?_, ?_, ?_⟩
    · rw [evG] at he
      rcases List.mem_append.1 he with he | he
      · have := h1 e he; omega
      · have := q1 e he; omega
    · rw [evG, waySum_app]
      omega
    · rw [evG, secSum_app]
      omega
/-- how much a part was used: seconds, way, uses; the last use -/
structure WSt where
  sec : Int
  way : Int
  uses : Int
  last : ByteArray
def wearE (g : Gar) (part : ByteArray) (f t : Int) (st : WSt) (e : Ev) : WSt :=
  if e.p = part ∧ f ≤ g.uf e.i ∧ g.uf e.i < t then ⟨st.sec + e.sec, st.way + e.way, if g.un e.i = st.last then st.uses else st.uses + 1, g.un e.i⟩ else st
def wear0 : WSt := ⟨0, 0, 0, ⟨#[]⟩⟩
def wearL (g : Gar) (part : ByteArray) (f t : Int) (l : List Ev) : WSt := l.foldl (wearE g part f t) wear0
theorem wearL_snoc (g : Gar) (part : ByteArray) (f t : Int) (l : List Ev) (e : Ev) : wearL g part f t (l ++ [e]) = wearE g part f t (wearL g part f t l) e := by
  unfold wearL
  rw [List.foldl_append]
  rfl
theorem wearE_bound (g : Gar) (part : ByteArray) (f t : Int) : ∀ (l : List Ev) (st : WSt), (∀ e, e ∈ l → 0 ≤ e.way ∧ 0 ≤ e.sec) →
    st.sec ≤ (l.foldl (wearE g part f t) st).sec ∧ (l.foldl (wearE g part f t) st).sec ≤ st.sec + secSum l ∧ st.way ≤ (l.foldl (wearE g part f t) st).way ∧ (l.foldl (wearE g part f t) st).way ≤ st.way + waySum l ∧ st.uses ≤ (l.foldl (wearE g part f t) st).uses ∧ (l.foldl (wearE g part f t) st).uses ≤ st.uses + l.length
  | [], st, _ => by simp [secSum, waySum]
  | e :: l, st, h => by
    have he := h e (by simp)
    have ih := wearE_bound g part f t l (wearE g part f t st e) (fun x hx => h x (by simp [hx]))
    rw [List.foldl_cons]
    have h1 : secSum (e :: l) = e.sec + secSum l := by simp [secSum]
    have h2 : waySum (e :: l) = e.way + waySum l := by simp [waySum]
    have h3 : ((e :: l).length : Int) = l.length + 1 := by simp
    have h4 : st.sec ≤ (wearE g part f t st e).sec ∧ (wearE g part f t st e).sec ≤ st.sec + e.sec ∧ st.way ≤ (wearE g part f t st e).way ∧ (wearE g part f t st e).way ≤ st.way + e.way ∧ st.uses ≤ (wearE g part f t st e).uses ∧ (wearE g part f t st e).uses ≤ st.uses + 1 := by
      unfold wearE
      split
      · refine ⟨by show st.sec ≤ st.sec + e.sec; omega, Int.le_refl _, by show st.way ≤ st.way + e.way; omega, Int.le_refl _, ?_, ?_⟩
        · show st.uses ≤ if g.un e.i = st.last then st.uses else st.uses + 1
          split <;> omega
        · show (if g.un e.i = st.last then st.uses else st.uses + 1) ≤ st.uses + 1
          split <;> omega
      · omega
    omega
/-- bounds of what was told -/
theorem wear_small {g : Gar} (h : chk g = 0) (part : ByteArray) (f t : Int) {done rest : List Ev} (he : evG g g.nu = done ++ rest) :
    0 ≤ (wearL g part f t done).sec ∧ (wearL g part f t done).sec ≤ 500000000000 ∧ 0 ≤ (wearL g part f t done).way ∧ (wearL g part f t done).way ≤ 500000000000000 ∧ 0 ≤ (wearL g part f t done).uses ∧ (wearL g part f t done).uses ≤ 500000000000 := by
  obtain ⟨h1, h2, h3⟩ := evG_all h g.nu (Nat.le_refl _)
  have hl := evG_len h g.nu (Nat.le_refl _)
  have hnu := (Gar.chk_parts h).2.2.2.1
  rw [he] at h1 h2 h3 hl
  rw [waySum_app] at h2
  rw [secSum_app] at h3
  rw [List.length_append] at hl
  have hb := wearE_bound g part f t done wear0 (fun e hx => by have := h1 e (by simp [hx]); omega)
  have hr := wearE_bound g part f t rest wear0 (fun e hx => by have := h1 e (by simp [hx]); omega)
  unfold wearL
  have z1 : wear0.sec = 0 := rfl
  have z2 : wear0.way = 0 := rfl
  have z3 : wear0.uses = 0 := rfl
  omega
end Go.Proofs.YtbkpoepacjinlaaGreat

/- Gear: how much a part was used (program). -/
namespace Go.Proofs.YtbkpoepacjinlaaGreat
open Go.RowKit Go.BigFrame
open Gar (chk)

theorem cells_setCell {w : World} {b i : Nat} {cs : Array Value} {u : Value} {t : TypeId} (h : w.heap[b]? = some (.cells cs t (0, 0))) : (w.setCell ⟨b, i, none⟩ u).heap[b]? = some (.cells (cs.setIfInBounds i u) t (0, 0)) := by
  have hlt := lt_of_block h
  have h' : w.heap[b] = .cells cs t (0, 0) := by simpa [Array.getElem?_eq_getElem hlt] using h
  show (w.heap.modify b _)[b]? = _
  rw [Array.getElem?_eq_getElem (by simpa using hlt), Array.getElem_modify_self, h']
  rfl
theorem block_free {w : World} {b i : Nat} {cs : Array Value} {T : TypeId} (h : w.heap[b]? = some (.cells cs T (0, 0))) : w.frozen? ⟨b, i, none⟩ = false := by simp [World.frozen?, h]
def wearV (st : WSt) : Array Value := #[.int .i64 st.sec, .int .i64 st.way, .int .i64 st.uses]
/-- what wearOf's closure has captured -/
structure WInv (g : Gar) (part : ByteArray) (f t : Int) (B : Nat) (done : List Ev) (S : Nat → Prop) (W : World) : Prop where
  hp : W.heap[B + 1]? = some (.cells #[.string part] 9 (0, 0))
  hf : W.heap[B + 2]? = some (.cells #[.int .i64 f] 3 (0, 0))
  ht : W.heap[B + 3]? = some (.cells #[.int .i64 t] 3 (0, 0))
  hw : W.heap[B + 5]? = some (.cells (wearV (wearL g part f t done)) 83 (0, 0))
  hl : W.heap[B + 6]? = some (.cells #[.string (wearL g part f t done).last] 9 (0, 0))
  hS : ∀ b, S b ↔ b = B + 5 ∨ b = B + 6
theorem WInv.keep {g : Gar} {part : ByteArray} {f t : Int} {B : Nat} (done : List Ev) (S : Nat → Prop) (W W' : World) (h : WInv g part f t B done S W) (hb : Below W.heap.size W W') : WInv g part f t B done S W' :=
  ⟨below_block hb h.hp, below_block hb h.hf, below_block hb h.ht, below_block hb h.hw, below_block hb h.hl, h.hS⟩
theorem WInv.end {g : Gar} {part : ByteArray} {f t : Int} {B : Nat} {done : List Ev} {S : Nat → Prop} {W W2 W3 : World} (hb : Below W.heap.size W W2) (hS : ∀ b, S b ↔ b = B + 5 ∨ b = B + 6)
    (hp : W2.heap[B + 1]? = some (.cells #[.string part] 9 (0, 0))) (hf : W2.heap[B + 2]? = some (.cells #[.int .i64 f] 3 (0, 0))) (ht : W2.heap[B + 3]? = some (.cells #[.int .i64 t] 3 (0, 0)))
    (hk : ∀ b, b ≠ B + 5 → b ≠ B + 6 → W3.heap[b]? = W2.heap[b]?) (hsz : W3.heap.size = W2.heap.size) (hos : W3.os = W2.os) (htp : W3.tape = W2.tape) (hou : W3.output = W2.output)
    (hw : W3.heap[B + 5]? = some (.cells (wearV (wearL g part f t done)) 83 (0, 0))) (hl : W3.heap[B + 6]? = some (.cells #[.string (wearL g part f t done).last] 9 (0, 0))) :
    ∃ S' : Nat → Prop, WInv g part f t B done S' W3 ∧ (∀ b, S' b → S b ∨ W.heap.size ≤ b) ∧ (∀ b, S' b → b < W3.heap.size) ∧ Kept S W W3 := by
  refine ⟨S, ⟨(hk _ (by omega) (by omega)).trans hp, (hk _ (by omega) (by omega)).trans hf, (hk _ (by omega) (by omega)).trans ht, hw, hl, hS⟩, fun b h => Or.inl h, fun b h => ?_, ⟨hos.trans hb.os, htp.trans hb.tape, hou.trans hb.output, by rw [hsz]; exact hb.size, fun b h1 h2 => ?_⟩⟩
  · rcases (hS b).1 h with rfl | rfl
    · exact lt_of_block hw
    · exact lt_of_block hl
  · exact (hk b (fun e => h2 ((hS b).2 (Or.inl e))) (fun e => h2 ((hS b).2 (Or.inr e)))).trans (hb.block b h1)
theorem set_far (w : World) {b c : Nat} (i : Nat) (u : Value) (h : c ≠ b) : (w.setCell ⟨b, i, none⟩ u).heap[c]? = w.heap[c]? := Below.heap_setCell w ⟨b, i, none⟩ u c h
theorem set_size (w : World) (a : Addr) (u : Value) : (w.setCell a u).heap.size = w.heap.size := by simp [World.setCell]
end Go.Proofs.YtbkpoepacjinlaaGreat

/- Gear: wearOf of the program. -/
namespace Go.Proofs.YtbkpoepacjinlaaGreat
open Go.RowKit Go.BigFrame
open Gar (chk)

theorem Ext.rise {W V : World} (h : Below W.heap.size W V) (Y : Ext V) : ∃ X : Ext W, Y.1 = X.1 := ⟨⟨Y.1, h.trans (Y.2.mono h.size)⟩, rfl⟩
theorem allocs_below : ∀ (l : List Obj) (w : World), Below w.heap.size w (l.foldl World.alloc w) ∧ (l.foldl World.alloc w).heap.size = w.heap.size + l.length
  | [], w => ⟨Below.refl _ _, rfl⟩
  | o :: l, w => by
    obtain ⟨h1, h2⟩ := allocs_below l (w.alloc o)
    rw [List.foldl_cons]
    refine ⟨below_step (below_al w o) h1, ?_⟩
    rw [h2, World.size_alloc, List.length_cons]
    omega
theorem allocs_at : ∀ (l : List Obj) (w : World) (k : Nat) (o : Obj), l[k]? = some o → (l.foldl World.alloc w).heap[w.heap.size + k]? = some o
  | [], w, k, o, h => by simp at h
  | o' :: l, w, 0, o, h => by
    rw [List.foldl_cons]
    have : o' = o := by simpa using h
    subst this
    exact below_block (allocs_below l (w.alloc o')).1 (heap_alloc_new w o')
  | o' :: l, w, k + 1, o, h => by
    rw [List.foldl_cons]
    have := allocs_at l (w.alloc o') k o (by simpa using h)
    rw [World.size_alloc] at this
    rwa [show w.heap.size + (k + 1) = w.heap.size + 1 + k by omega]
/-- the world behind some allocations, under one name -/
theorem allocs (w : World) (l : List Obj) : ∃ V, l.foldl World.alloc w = V ∧ Below w.heap.size w V ∧ V.heap.size = w.heap.size + l.length ∧ ∀ k o, l[k]? = some o → V.heap[w.heap.size + k]? = some o :=
  ⟨_, rfl, (allocs_below l w).1, (allocs_below l w).2, fun k o h => allocs_at l w k o h⟩
theorem ev_small {g : Gar} (h : chk g = 0) {done rest : List Ev} {ev : Ev} (he : evG g g.nu = done ++ ev :: rest) : 0 ≤ ev.sec ∧ ev.sec ≤ 500000000000 ∧ 0 ≤ ev.way ∧ ev.way ≤ 500000000000000 := by
  obtain ⟨h1, h2, h3⟩ := evG_all h g.nu (Nat.le_refl _)
  have hnu := (Gar.chk_parts h).2.2.2.1
  rw [he] at h1 h2 h3
  rw [waySum_app] at h2
  rw [secSum_app] at h3
  have e1 : waySum (ev :: rest) = ev.way + waySum rest := by simp [waySum]
  have e2 : secSum (ev :: rest) = ev.sec + secSum rest := by simp [secSum]
  have hb := wearE_bound g ⟨#[]⟩ 0 0 done wear0 (fun e hx => by have := h1 e (by simp [hx]); omega)
  have hr := wearE_bound g ⟨#[]⟩ 0 0 rest wear0 (fun e hx => by have := h1 e (by simp [hx]); omega)
  have hv := h1 ev (by simp)
  have z1 : wear0.sec = 0 := rfl
  have z2 : wear0.way = 0 := rfl
  omega
def wearR (st : WSt) : Value := .agg #[.int .i64 st.sec, .int .i64 st.way, .int .i64 st.uses]
end Go.Proofs.YtbkpoepacjinlaaGreat

/- Gear: IndexFunc and ContainsFunc over mounts; when a part was served (program). -/
namespace Go.Proofs.YtbkpoepacjinlaaGreat
open Go.RowKit Go.BigFrame
open Gar (chk momG hasS hasP)

theorem idxF_le (p : Nat → Bool) : ∀ (n k : Nat), -1 ≤ idxF p n k ∧ idxF p n k < k + n ∨ (n = 0 ∧ idxF p n k = -1)
  | 0, k => Or.inr ⟨rfl, rfl⟩
  | n + 1, k => by
    rw [idxF]
    split
    · exact Or.inl (by omega)
    · rcases idxF_le p n (k + 1) with h | h
      · exact Or.inl (by omega)
      · exact Or.inl (by omega)
theorem idxF_hit (p : Nat → Bool) : ∀ (n k : Nat) (i : Nat), k ≤ i → i < k + n → p i = true → ∃ j : Nat, idxF p n k = j ∧ k ≤ j ∧ j ≤ i ∧ p j = true
  | 0, k, i, h1, h2, _ => by omega
  | n + 1, k, i, h1, h2, hp => by
    rw [idxF]
    by_cases c : p k = true
    · rw [if_pos c]
      exact ⟨k, rfl, Nat.le_refl _, h1, c⟩
    · rw [if_neg c]
      have : k ≠ i := fun e => c (e ▸ hp)
      obtain ⟨j, h3, h4, h5, h6⟩ := idxF_hit p n (k + 1) i (by omega) (by omega) hp
      exact ⟨j, h3, by omega, h5, h6⟩
def mntV (g : Gar) (k : Nat) : Value := mountV (g.ms k) (g.mp k) (g.mf k) (g.mt k)
/-- a row of services; a row of plans -/
structure Servs where
  n : Nat
  p : Nat → ByteArray
  t : Nat → Int
structure Cares where
  n : Nat
  s : Nat → ByteArray
  w : Nat → Int
  d : Nat → Int
def Servs.cells (v : Servs) (i : Nat) : List Value := [.string (v.p i), .int .i64 (v.t i)]
def Cares.cells (c : Cares) (i : Nat) : List Value := [.string (c.s i), .int .i64 (c.w i), .int .i64 (c.d i)]
/-- the last service of a part up to a moment -/
def lastS (v : Servs) (part : ByteArray) (m : Int) : Nat → Int
  | 0 => -1
  | k + 1 => if v.p k = part ∧ v.t k ≤ m then max (lastS v part m k) (v.t k) else lastS v part m k
def firstI (g : Gar) (part : ByteArray) : Int := idxF (fun i => decide (g.mp i = part)) g.nm 0
def servedF (g : Gar) (v : Servs) (part : ByteArray) (m : Int) : Int := if lastS v part m v.n < 0 then g.mf (firstI g part).toNat else lastS v part m v.n

end Go.Proofs.YtbkpoepacjinlaaGreat

/- Gear: checkCare of the program. -/
namespace Go.Proofs.YtbkpoepacjinlaaGreat
open Go.RowKit Go.BigFrame
open Gar (chk momG hasS hasP)

/-- the look at the plans from the k-th on; at the services -/
def chkC (g : Gar) (c : Cares) : Nat → Nat → Int
  | 0, _ => 0
  | n + 1, k => if hasS g (c.s k) = false then 4 else if (inB (c.w k) 0 1000000000 && inB (c.d k) 0 999999) = false then 9 else if c.w k = 0 ∧ c.d k = 0 then 13 else chkC g c n (k + 1)
def chkV (g : Gar) (v : Servs) : Nat → Nat → Int
  | 0, _ => 0
  | n + 1, k => if hasP g (v.p k) = false then 4 else if momG (v.t k) = false then 9 else chkV g v n (k + 1)
def careErr (g : Gar) (c : Cares) (v : Servs) (m : Int) : Int :=
  if 200 < c.n then 3 else if chkC g c c.n 0 ≠ 0 then chkC g c c.n 0 else if 5000 < v.n then 3 else if chkV g v v.n 0 ≠ 0 then chkV g v v.n 0 else if momG m = false then 9 else 0
theorem ge_not_lt (z : Int) : decide (0 ≤ z) = !decide (z < 0) := by
  rw [Bool.eq_iff_iff]
  simp
theorem hasS_ge (g : Gar) (s : ByteArray) : decide (0 ≤ idxF (fun i => decide (g.sn i = s)) g.ns 0) = hasS g s := by rw [ge_not_lt, hasS_idx, Bool.not_not]
theorem hasP_ge (g : Gar) (s : ByteArray) : decide (0 ≤ idxF (fun i => decide (g.pn i = s)) g.np 0) = hasP g s := by rw [ge_not_lt, hasP_idx, Bool.not_not]
theorem hasS_at' (g : Gar) (a0 a1 a2 a3 : Option Addr) (c0 c1 c2 c3 : Nat) (name : ByteArray) (w : World) (h : GarIn w g a0 a1 a2 a3) :
    Calls Tryz.prog 26 #[garV g a0 a1 a2 a3 c0 c1 c2 c3, .string name] w fun e w' => e = .returned (.bool (hasS g name)) ∧ Below w.heap.size w w' := by
  have := hasS_any g a0 a1 a2 a3 c0 c1 c2 c3 name w h
  rwa [hasS_ge] at this
end Go.Proofs.YtbkpoepacjinlaaGreat

/- A row of a call's own in a loop that appends to it: what is kept (tools). -/
namespace Go.Proofs.YtbkpoepacjinlaaGreat
open Go.RowKit Go.BigFrame

theorem ownsRow_below {W W' : World} {base e k n : Nat} {v : Value} {xs : List Value} (h : W.ownsRow base e k v n xs) (hb : Below W.heap.size W W') : W'.ownsRow base e k v n xs :=
  h.kept (row := none) ⟨hb.os, hb.tape, hb.output, hb.size, fun k hk _ => hb.block k hk⟩ (by cases v.ownBlock <;> simp)
/-- the row v, which began as v0 in the world V: whatever else was there is kept -/
structure OwnR (V wr : World) (base e k : Nat) (v0 v : Value) (n : Nat) (xs : List Value) : Prop where
  own : wr.ownsRow base e k v n xs
  kept : Kept (fun b => v0.ownBlock = some b) V wr
  lies : ∀ b, v.ownBlock = some b → v0.ownBlock = some b ∨ V.heap.size ≤ b
section
variable {V wr wr' : World} {base e k n : Nat} {v0 v : Value} {xs : List Value}
theorem OwnR.start (h : V.ownsRow base e k v n xs) : OwnR V V base e k v v n xs := ⟨h, Kept.refl _ _, fun _ h => Or.inl h⟩
theorem OwnR.below (h : OwnR V wr base e k v0 v n xs) (hb : Below wr.heap.size wr wr') : OwnR V wr' base e k v0 v n xs := ⟨ownsRow_below h.own hb, h.kept.trans (Kept.of_below hb), h.lies⟩
theorem OwnR.back {V' : World} {n' : Nat} {v' : Value} {xs' : List Value} (h : OwnR V wr base e k v0 v n xs) (hb : Below wr.heap.size wr V') (h' : OwnR V' wr' base e k v v' n' xs') : OwnR V wr' base e k v0 v' n' xs' := by
  have hs : V.heap.size ≤ V'.heap.size := Nat.le_trans h.kept.size hb.size
  refine ⟨h'.own, ⟨h'.kept.os.trans (hb.os.trans h.kept.os), h'.kept.tape.trans (hb.tape.trans h.kept.tape), h'.kept.output.trans (hb.output.trans h.kept.output), Nat.le_trans hs h'.kept.size, fun b hb1 ho => ?_⟩, fun b hb' => ?_⟩
  · have hn : ¬ v.ownBlock = some b := fun e => (h.lies b e).elim ho (fun h => by omega)
    exact (h'.kept.block b (by omega) hn).trans ((hb.block b (Nat.lt_of_lt_of_le hb1 h.kept.size)).trans (h.kept.block b hb1 ho))
  · rcases h'.lies b hb' with e | e
    · exact h.lies b e
    · exact Or.inr (by omega)
theorem OwnR.append {W2 w' : World} {v' : Value} {n' : Nat} {xs' : List Value} (h : OwnR V wr base e k v0 v n xs) (hb : Below wr.heap.size wr W2) (ho : w'.ownsRow base e k v' n' xs') (hg : W2.grownBy w' v.ownBlock) (hw : v'.ownBlock = v.ownBlock ∨ v'.ownBlock = some W2.heap.size) :
    OwnR V w' base e k v0 v' n' xs' := by
  refine ⟨ho, (h.kept.trans (Kept.of_below hb)).grown hg (fun q hq hl => (h.lies q hq).elim id (fun h => by omega)), fun b hb' => ?_⟩
  rcases hw with e | e
  · exact h.lies b (by rw [← e]; exact hb')
  · rw [e] at hb'
    injection hb' with hb'
    exact Or.inr (by have := h.kept.size; have := hb.size; omega)
theorem OwnR.down {n0 B : Nat} {xs0 : List Value} (h : OwnR V wr base e k v0 v n xs) {w : World} (hb : Below B w V) (hB : B ≤ V.heap.size) (hBb : B ≤ base) (ho : V.ownsRow base e k v0 n0 xs0) : Below B w wr :=
  Kept.below hb h.kept hB (fun b hb1 e => by have := (ho.lt b e).1; omega)
theorem OwnR.row (h : OwnR V wr base e k v0 v n xs) {a : Option Addr} {len kk : Nat} {R : Nat → List Value} (hr : RowK V a len kk R) (hn : ∀ b off, a = some ⟨b, off, none⟩ → ¬ v0.ownBlock = some b) : RowK wr a len kk R := Kept.row hr h.kept hn
theorem OwnR.cell (h : OwnR V wr base e k v0 v n xs) {p : Addr} {u : Value} (hn : ¬ v0.ownBlock = some p.block) (hc : V.cell? p = some u) : wr.cell? p = some u := h.kept.cell hn hc
end
end Go.Proofs.YtbkpoepacjinlaaGreat

/- Gear: Dues of the program. -/
namespace Go.Proofs.YtbkpoepacjinlaaGreat
open Go.RowKit Go.BigFrame
open Gar (chk momG hasS hasP)

/-- what is due -/
structure Duc where
  part : ByteArray
  slot : ByteArray
  plan : Nat
  way : Int
  days : Int
def dueC (d : Duc) : List Value := [.string d.part, .string d.slot, .int .i64 d.plan, .int .i64 d.way, .int .i64 d.days]
def dueCs (l : List Duc) : List Value := l.flatMap dueC
def dueK (g : Gar) (c : Cares) (m : Int) (part : ByteArray) (since way : Int) (j : Nat) : Nat → List Duc
  | 0 => []
  | k + 1 => dueK g c m part since way j k ++ (if c.s k = g.sn j then [⟨part, g.sn j, k, if 0 < c.w k then c.w k - way else 0, if 0 < c.d k then c.d k - (m - since).tdiv 86400 else 0⟩] else [])
def partJ (g : Gar) (m : Int) (j : Nat) : ByteArray := (inR (inF g (g.sn j) m g.nm 0)).1
def wayJ (g : Gar) (v : Servs) (m : Int) (j : Nat) : Int := (wearL g (partJ g m j) (servedF g v (partJ g m j) m) m (evG g g.nu)).way
def dueJ (g : Gar) (c : Cares) (v : Servs) (m : Int) : Nat → List Duc
  | 0 => []
  | j + 1 => dueJ g c v m j ++ (if partJ g m j = ⟨#[]⟩ then [] else dueK g c m (partJ g m j) (servedF g v (partJ g m j) m) (wayJ g v m j) j c.n)
theorem str_empty (a : ByteArray) : a.toList.isEmpty = decide (a = ⟨#[]⟩) := by
  rw [← str_eq, show (ByteArray.toList ⟨#[]⟩) = [] by rw [ByteArray.toList_eq]]
  cases a.toList <;> rfl
theorem below_al2 (V : World) (o o' : Obj) : Below V.heap.size V ((V.alloc o).alloc o') := below_step (below_al V o) (below_al _ o')
theorem tdiv_bound {x : Int} (h1 : -86399999999 ≤ x) (h2 : x ≤ 86399999999) : -86399999999 ≤ x.tdiv 86400 ∧ x.tdiv 86400 ≤ 86399999999 := by
  have := Int.natAbs_tdiv x 86400
  rw [show (86400 : Int).natAbs = 86400 from rfl] at this
  have h3 : x.natAbs.div 86400 ≤ x.natAbs := Nat.div_le_self _ _
  omega
theorem dueK_len (g : Gar) (c : Cares) (m : Int) (part : ByteArray) (since way : Int) (j : Nat) : ∀ k, (dueK g c m part since way j k).length ≤ k
  | 0 => Nat.le_refl _
  | k + 1 => by
    have := dueK_len g c m part since way j k
    rw [dueK, List.length_append]
    split
    · simp; omega
    · simp; omega
theorem dueJ_len (g : Gar) (c : Cares) (v : Servs) (m : Int) : ∀ j, (dueJ g c v m j).length ≤ j * c.n
  | 0 => by simp [dueJ]
  | j + 1 => by
    have := dueJ_len g c v m j
    have h2 := dueK_len g c m (partJ g m j) (servedF g v (partJ g m j) m) (wayJ g v m j) j c.n
    rw [dueJ, List.length_append, Nat.succ_mul]
    split
    · simp; omega
    · omega
theorem part_mnt {g : Gar} {m : Int} {j : Nat} (h : partJ g m j ≠ ⟨#[]⟩) : ∃ i, i < g.nm ∧ g.mp i = partJ g m j := by
  unfold partJ at h ⊢
  cases ho : inF g (g.sn j) m g.nm 0 with
  | none => rw [ho] at h; exact absurd rfl h
  | some p =>
    obtain ⟨i, _, h2, h3⟩ := inF_some g.nm 0 ho
    exact ⟨i, by omega, h3⟩
theorem lastS_le (v : Servs) (part : ByteArray) (m : Int) : ∀ k, lastS v part m k = -1 ∨ lastS v part m k ≤ m
  | 0 => Or.inl rfl
  | k + 1 => by
    rw [lastS]
    have := lastS_le v part m k
    split
    · rename_i h
      have := h.2
      by_cases hx : -1 ≤ v.t k
      · rw [Int.max_def]; split <;> omega
      · rw [Int.max_def]; split <;> omega
    · exact this
theorem lastS_ge (v : Servs) (part : ByteArray) (m : Int) : ∀ k, -1 ≤ lastS v part m k
  | 0 => Int.le_refl _
  | k + 1 => by
    rw [lastS]
    have := lastS_ge v part m k
    split
    · rw [Int.max_def]; split <;> omega
    · exact this
theorem served_small {g : Gar} (h : chk g = 0) (v : Servs) {part : ByteArray} {m : Int} (hm : momG m = true) (hp : ∃ i, i < g.nm ∧ g.mp i = part) : 0 ≤ servedF g v part m ∧ servedF g v part m ≤ 86399999999 := by
  unfold momG at hm
  rw [Bool.and_eq_true, decide_eq_true_eq, decide_eq_true_eq] at hm
  have h1 := lastS_le v part m v.n
  have h2 := lastS_ge v part m v.n
  unfold servedF firstI
  split
  · obtain ⟨i, hi, he⟩ := hp
    obtain ⟨j, hj, _, hji, _⟩ := idxF_hit (fun i => decide (g.mp i = part)) g.nm 0 i (Nat.zero_le _) (by omega) (by simpa using he)
    rw [hj]
    have := Gar.mt_cases (Gar.chk_parts h).2.2.2.2.2.2.1 j (by omega)
    show 0 ≤ g.mf j ∧ g.mf j ≤ 86399999999
    omega
  · omega
theorem way_small {g : Gar} (h : chk g = 0) (v : Servs) (m : Int) (j : Nat) : 0 ≤ wayJ g v m j ∧ wayJ g v m j ≤ 500000000000000 := by
  unfold wayJ
  have := wear_small h (partJ g m j) (servedF g v (partJ g m j) m) m (done := evG g g.nu) (rest := []) (by simp)
  omega
def dueErr (g : Gar) (c : Cares) (v : Servs) (m : Int) : Int := if chk g ≠ 0 then chk g else careErr g c v m
theorem care_zero {g : Gar} {c : Cares} {v : Servs} {m : Int} (h : careErr g c v m = 0) : c.n ≤ 200 ∧ v.n ≤ 5000 ∧ chkC g c c.n 0 = 0 ∧ chkV g v v.n 0 = 0 ∧ momG m = true := by
  unfold careErr at h
  split at h
  · omega
  · split at h
    · omega
    · split at h
      · omega
      · split at h
        · omega
        · split at h
          · omega
          · rename_i a b d e f
            exact ⟨by omega, by omega, by omega, by omega, by simpa using f⟩
theorem chkC_each {g : Gar} {c : Cares} : ∀ (n k : Nat), chkC g c n k = 0 → ∀ i, k ≤ i → i < k + n → 0 ≤ c.w i ∧ c.w i ≤ 1000000000 ∧ 0 ≤ c.d i ∧ c.d i ≤ 999999
  | 0, k, _, i, h1, h2 => by omega
  | n + 1, k, h, i, h1, h2 => by
    rw [chkC] at h
    split at h
    · omega
    · split at h
      · omega
      · split at h
        · omega
        · rename_i a b d
          by_cases e : i = k
          · subst e
            simp only [inB, Bool.not_eq_false, Bool.and_eq_true, decide_eq_true_eq] at b
            omega
          · exact chkC_each n (k + 1) h i (by omega) (by omega)
end Go.Proofs.YtbkpoepacjinlaaGreat

/- Gear: checkSwaps of the program. -/
namespace Go.Proofs.YtbkpoepacjinlaaGreat
open Go.RowKit Go.BigFrame
open Gar (chk momG hasS hasP)

/-- what is wrong with the k-th slot -/
def swStep (g : Gar) (sl : Nat → ByteArray) (k : Nat) : Int :=
  if hasS g (sl k) = false then 4 else if ((List.range k).any fun j => decide (sl j = sl k)) = true then 5 else if (inR (inF g (sl k) 86399999999 g.nm 0)).1 = ⟨#[]⟩ then 13 else 0
def swL (g : Gar) (sl : Nat → ByteArray) : Nat → Nat → Int
  | 0, _ => 0
  | n + 1, k => if swStep g sl k ≠ 0 then swStep g sl k else swL g sl n (k + 1)
def swErr (g : Gar) (n : Nat) (sl : Nat → ByteArray) (most : Int) : Int := if 20 < n then 3 else if swL g sl n 0 ≠ 0 then swL g sl n 0 else if inB most 0 100 = false then 9 else 0
theorem cont_any (n k : Nat) (sl : Nat → ByteArray) (hk : k ≤ n) : Lib.containsS (((List.range n).map sl).take k) (sl k) = (List.range k).any fun j => decide (sl j = sl k) := by
  rw [Bool.eq_iff_iff, Lib.containsS_iff, List.any_eq_true]
  have e : ((List.range n).map sl).take k = (List.range k).map sl := by
    rw [← List.map_take, List.take_range, Nat.min_eq_left hk]
  rw [e, List.mem_map]
  constructor
  · rintro ⟨j, h1, h2⟩
    exact ⟨j, h1, by rw [h2]; simp⟩
  · rintro ⟨j, h1, h2⟩
    exact ⟨j, h1, of_decide_eq_true h2⟩
set_option maxHeartbeats 4000000 in
set_option maxRecDepth 100000 in
theorem checkSwaps_any (g : Gar) (a0 a1 a2 a3 : Option Addr) (c0 c1 c2 c3 : Nat) (n : Nat) (sl : Nat → ByteArray) (a : Option Addr) (cap : Nat) (most : Int) (w : World) (h : GarIn w g a0 a1 a2 a3) (hr : RowK w a n 1 (fun j => [.string (sl j)])) (hcap : n ≤ cap) (hn : (n : Int) ≤ 9223372036854775807) :
    Calls Tryz.prog 9 #[garV g a0 a1 a2 a3 c0 c1 c2 c3, .slice a n cap, .int .i64 most] w fun e w' => e = .returned (.int .i64 (swErr g n sl most)) ∧ Below w.heap.size w w' := by
  have HG := Lib.hid h
  have HRW := Lib.hid hr
  obtain ⟨W0, hW0, hb0, hs0, hl0'⟩ := alloc_cells w #[.slice a0 g.np c0, .slice a1 g.ns c1, .slice a2 g.nm c2, .slice a3 g.nu c3] 27
  have G0 := Ext.ex (hl0' 0 _ rfl)
  have G1 := Ext.ex (hl0' 1 _ rfl)
  have G2 := Ext.ex (hl0' 2 _ rfl)
  have G3 := Ext.ex (hl0' 3 _ rfl)
  have HW0 := Lib.hid hW0
  have HB := Lib.hid hb0
  have hbs : w.heap.size ≤ W0.heap.size := by omega
  have DS := Lib.hid (fun (s : ByteArray) (Y : Ext W0) => hasS_at' g a0 a1 a2 a3 c0 c1 c2 c3 s Y.1 (HG.out.below (Y.down HB.out hbs)))
  have DI := Lib.hid (fun (s : ByteArray) (Y : Ext W0) => inSlot_any g a0 a1 a2 a3 c0 c1 c2 c3 s 86399999999 Y.1 (HG.out.below (Y.down HB.out hbs)) _ rfl)
  have DN := Lib.hid (fun (W : World) => gin_any most 0 100 W)
  obtain ⟨z, hz⟩ : ∃ z, swErr g n sl most = z := ⟨_, rfl⟩
  rw [hz]
  unfold swErr at hz
  have HZ := Lib.hid hz
  unfold garV at DS DI ⊢
  clear h hr hW0 hb0 hs0 hl0' hz
  by_cases k0 : 20 < n
  · have HX : Hid (z = 3) := Lib.hid (by rw [← HZ.out, if_pos k0])
    have t1 : decide ((20 : Int) < (n : Int)) = true := by rw [decide_eq_true_eq]; omega
    have t1' : decide (20 < n) = true := by simpa using k0
    clear k0 HZ
    go_enter Tryz.func9, Tryz.ntmps9
    go_upto_region 1 with (fail)
    rw [HW0.out]
    refine ext_wp fun X => ?_
    go_wp2_with fail
    go_ret
    exact ⟨ret_int HX.out.symm, X.down HB.out hbs⟩
  have t0 : decide ((20 : Int) < (n : Int)) = false := by rw [decide_eq_false_iff_not]; omega
  have t0' : decide (20 < n) = false := by simpa using k0
  have HZ1 : Hid ((if swL g sl n 0 ≠ 0 then swL g sl n 0 else if inB most 0 100 = false then 9 else 0) = z) := Lib.hid (by rw [← HZ.out, if_neg k0])
  clear HZ
  go_enter Tryz.func9, Tryz.ntmps9
  go_upto_region 1 with (fail)
  rw [HW0.out]
  refine ext_wp fun X => ?_
  go_wp2_with fail
  go_loopw [14] (fun iv wr => ∃ (k : Nat), iv = .int .i64 k ∧ k ≤ n ∧ Hid (Below W0.heap.size W0 wr) ∧ Hid (swL g sl (n - k) k = swL g sl n 0)) (fun iv _ => n - (intOf iv).toNat)
  case atStart => exact ⟨0, rfl, by omega, Lib.hid X.2, Lib.hid rfl⟩
  case round =>
    obtain ⟨k, rfl, hk, HBW, HX⟩ := hrel
    obtain ⟨X1, rfl⟩ : ∃ X : Ext W0, wr = X.1 := ⟨⟨wr, HBW.out⟩, rfl⟩
    clear HBW
    by_cases hlt : k < n
    · have t1 : decide ((k : Int) < (n : Int)) = true := by rw [decide_eq_true_eq]; omega
      have t1' : decide (k < n) = true := by simpa using hlt
      have t2 : (k : Int) < (n : Int) := by omega
      have t3 : (k : Int) ≤ (cap : Int) := by omega
      obtain ⟨b, off, rfl, hbl, hc⟩ := (HRW.out.below (X1.down HB.out hbs) (Nat.le_refl _)).here (by omega)
      have hcell : ∀ j, j < n → X1.1.cell? ⟨b, off + j, none⟩ = some (.string (sl j)) := fun j hj => by
        have := hc j hj 0 (by omega)
        rw [Nat.mul_one, Nat.add_zero] at this
        exact this
      have e0 := hcell k hlt
      have HCL := Lib.hid (fun (Y : Ext X1.1) (j : Nat) (hj : j < n) => below_cell Y.2 (hcell j hj))
      have hx := HX.out
      rw [show n - k = (n - k - 1) + 1 by omega, swL] at hx
      have HX2 := Lib.hid hx
      have hst : swStep g sl k = if hasS g (sl k) = false then 4 else if ((List.range k).any fun j => decide (sl j = sl k)) = true then 5 else if (inR (inF g (sl k) 86399999999 g.nm 0)).1 = ⟨#[]⟩ then 13 else 0 := rfl
      have HST := Lib.hid hst
      have DS1 := Lib.hid (DS.out (sl k))
      have DI1 := Lib.hid (DI.out (sl k))
      have DC1 := Lib.hid (fun (Y : Ext X1.1) => Tryz.slices_Contains_string b off k cap ((List.range n).map sl) (sl k) Y.1 (by simp; omega) (by omega) (fun j hj => by
        have hj : j < n := by simpa using hj
        rw [HCL.out Y j hj]
        simp [List.getD_eq_getElem?_getD, hj]))
      rw [cont_any n k sl hk] at DC1
      have hemp := str_empty (inR (inF g (sl k) 86399999999 g.nm 0)).1
      have hfin : swStep g sl k ≠ 0 → swStep g sl k = z := fun e => by
        rw [if_pos e] at hx
        have := HZ1.out
        rw [← hx, if_pos e] at this
        exact this
      have HFIN := Lib.hid hfin
      clear hx hst hfin hc hcell hbl
      generalize (List.range k).any (fun j => decide (sl j = sl k)) = cc at DC1 HST
      generalize (inR (inF g (sl k) 86399999999 g.nm 0)).1 = ps at DI1 hemp HST
      obtain ⟨sk, hsk⟩ : ∃ s, sl k = s := ⟨_, rfl⟩
      rw [hsk] at e0 DS1 DI1 DC1 HST
      cases k1 : hasS g sk
      · rw [k1] at DS1
        have HR4 : Hid (z = 4) := Lib.hid (by
          have e : swStep g sl k = 4 := by rw [HST.out, if_pos k1]
          rw [← HFIN.out (by rw [e]; simp), e])
        clear k1 hsk
        go_wp2_with fail
        refine (Ext.calls _ (DS1.out X1)).mono ?_
        rintro e w1 ⟨rfl, Y1, rfl⟩
        go_wp2_with fail
        go_ret
        exact ⟨ret_int HR4.out.symm, Y1.down HB.out hbs⟩
      rw [k1] at DS1
      cases cc
      case true =>
        have HR4 : Hid (z = 5) := Lib.hid (by
          have e : swStep g sl k = 5 := by rw [HST.out, if_neg (by rw [k1]; simp), if_pos rfl]
          rw [← HFIN.out (by rw [e]; simp), e])
        clear k1 hsk
        go_wp2_with fail
        refine (DS1.out X1).mono ?_
        rintro e w1 ⟨rfl, hb1⟩
        obtain ⟨Y1, rfl⟩ : ∃ Y : Ext X1.1, w1 = Y.1 := ⟨⟨w1, hb1⟩, rfl⟩
        clear hb1
        go_wp2_with fail
        refine (DC1.out Y1).mono ?_
        rintro e w2 ⟨rfl, rfl⟩
        go_wp2_with fail
        go_ret
        exact ⟨ret_int HR4.out.symm, (X1.down HB.out hbs).trans (Y1.2.mono (X1.down HB.out hbs).size)⟩
      by_cases k3 : ps = ⟨#[]⟩
      · rw [decide_eq_true k3] at hemp
        have HR4 : Hid (z = 13) := Lib.hid (by
          have e : swStep g sl k = 13 := by rw [HST.out, if_neg (by rw [k1]; simp), if_neg (by simp), if_pos k3]
          rw [← HFIN.out (by rw [e]; simp), e])
        clear k1 hsk k3
        go_wp2_with fail
        refine (DS1.out X1).mono ?_
        rintro e w1 ⟨rfl, hb1⟩
        obtain ⟨Y1, rfl⟩ : ∃ Y : Ext X1.1, w1 = Y.1 := ⟨⟨w1, hb1⟩, rfl⟩
        clear hb1
        go_wp2_with fail
        refine (DC1.out Y1).mono ?_
        rintro e w2 ⟨rfl, rfl⟩
        obtain ⟨Y2, hY2⟩ : ∃ Y : Ext W0, Y1.1 = Y.1 := ⟨⟨Y1.1, below_step X1.2 Y1.2⟩, rfl⟩
        rw [hY2]
        clear hY2
        go_wp2_with fail
        refine (Ext.calls _ (DI1.out Y2)).mono ?_
        rintro e w3 ⟨rfl, Y3, rfl⟩
        go_wp2_with fail
        go_ret
        exact ⟨ret_int HR4.out.symm, Y3.down HB.out hbs⟩
      · rw [decide_eq_false k3] at hemp
        have HN : Hid (swL g sl (n - (k + 1)) (k + 1) = swL g sl n 0) := Lib.hid (by
          have e : swStep g sl k = 0 := by rw [HST.out, if_neg (by rw [k1]; simp), if_neg (by simp), if_neg k3]
          have := HX2.out
          rw [if_neg (by rw [e]; simp)] at this
          rw [show n - (k + 1) = n - k - 1 by omega]
          exact this)
        clear k1 hsk k3
        go_wp2_with fail
        refine (DS1.out X1).mono ?_
        rintro e w1 ⟨rfl, hb1⟩
        obtain ⟨Y1, rfl⟩ : ∃ Y : Ext X1.1, w1 = Y.1 := ⟨⟨w1, hb1⟩, rfl⟩
        clear hb1
        go_wp2_with fail
        refine (DC1.out Y1).mono ?_
        rintro e w2 ⟨rfl, rfl⟩
        obtain ⟨Y2, hY2⟩ : ∃ Y : Ext W0, Y1.1 = Y.1 := ⟨⟨Y1.1, below_step X1.2 Y1.2⟩, rfl⟩
        rw [hY2]
        clear hY2
        go_wp2_with fail
        refine (Ext.calls _ (DI1.out Y2)).mono ?_
        rintro e w3 ⟨rfl, Y3, rfl⟩
        have HB3 := Lib.hid Y3.2
        go_wp2_with fail
        go_roundw
        case rel => exact ⟨k + 1, by go_num, by omega, HB3, HN⟩
        case measure => simp [intOf]; omega
    · have t1 : decide ((k : Int) < (n : Int)) = false := by rw [decide_eq_false_iff_not]; omega
      have t1' : decide (k < n) = false := by simpa using hlt
      have hx := HX.out
      rw [show n - k = 0 by omega, swL] at hx
      have HZ2 : Hid ((if inB most 0 100 = false then (9 : Int) else 0) = z) := Lib.hid (by
        have := HZ1.out
        rw [← hx, if_neg (by simp)] at this
        exact this)
      clear hx hlt HX HZ1
      generalize inB most 0 100 = ib at DN HZ2
      cases ib
      all_goals
        have HZ3 := Lib.hid (show _ from HZ2.out)
        go_wp2_with fail
        refine (DN.out _).mono ?_
        rintro e w2 ⟨rfl, rfl⟩
        go_wp2_with fail
        go_ret
        exact ⟨ret_int (by rw [← HZ3.out]; rfl), X1.down HB.out hbs⟩
end Go.Proofs.YtbkpoepacjinlaaGreat

/- Gear: what wanted sums up: the ways of all pieces, by slot and by part. -/
namespace Go.Proofs.YtbkpoepacjinlaaGreat
open Go.RowKit Go.BigFrame
open Gar (chk)

def sumK (k : Ev → ByteArray) (l : List Ev) (s : ByteArray) : Int := ((l.filter fun e => decide (k e = s)).map Ev.way).sum
theorem sumK_snoc (k : Ev → ByteArray) (l : List Ev) (e : Ev) : sumK k (l ++ [e]) = setF (sumK k l) (k e) (sumK k l (k e) + e.way) := by
  funext s
  unfold setF sumK
  rw [List.filter_append, List.map_append, List.sum_append]
  by_cases h : s = k e
  · subst h
    simp
  · have h' : ¬ k e = s := fun e => h e.symm
    simp [h, h']
theorem sumK_bd (k : Ev → ByteArray) (s : ByteArray) : ∀ l : List Ev, (∀ e, e ∈ l → 0 ≤ e.way) → 0 ≤ sumK k l s ∧ sumK k l s ≤ waySum l
  | [], _ => by simp [sumK, waySum]
  | e :: l, h => by
    have ih := sumK_bd k s l fun x hx => h x (by simp [hx])
    have h0 := h e (by simp)
    unfold sumK waySum at ih ⊢
    rw [List.filter_cons, List.map_cons, List.sum_cons]
    split
    · rw [List.map_cons, List.sum_cons]
      omega
    · omega
theorem sumK_small {g : Gar} (h : chk g = 0) (k : Ev → ByteArray) (s : ByteArray) {done rest : List Ev} (he : evG g g.nu = done ++ rest) : 0 ≤ sumK k done s ∧ sumK k done s ≤ 500000000000000 := by
  obtain ⟨h1, h2, _⟩ := evG_all h g.nu (Nat.le_refl _)
  rw [he] at h1 h2
  rw [waySum_app] at h2
  have hn : ∀ e, e ∈ done → 0 ≤ e.way := fun e hm => (h1 e (by simp [hm])).1
  have hr : ∀ e, e ∈ rest → 0 ≤ e.way := fun e hm => (h1 e (by simp [hm])).1
  have b1 := sumK_bd k s done hn
  have b2 := (sumK_bd k s rest hr)
  have hnu := (Gar.chk_parts h).2.2.2.1
  have hn2 : (g.nu : Int) ≤ 5000 := by omega
  have : (g.nu : Int) * 100000000000 ≤ 5000 * 100000000000 := Int.mul_le_mul_of_nonneg_right hn2 (by decide)
  have e5 : (5000 : Int) * 100000000000 = 500000000000000 := by decide
  omega
/-- what wanted's closure has captured -/
structure SInv (B5 B6 bs bp : Nat) (done : List Ev) (S : Nat → Prop) (W : World) : Prop where
  h5 : W.heap[B5]? = some (.cells #[.map (some bs)] 68 (0, 0))
  h6 : W.heap[B6]? = some (.cells #[.map (some bp)] 68 (0, 0))
  ms : StrMap W Tryz.prog 9 intR bs done.length (fun x : Int => .lit (.int .i64 x)) (.lit (.int .i64 0)) (sumK Ev.s done)
  mp : StrMap W Tryz.prog 9 intR bp done.length (fun x : Int => .lit (.int .i64 x)) (.lit (.int .i64 0)) (sumK Ev.p done)
  hS : ∀ b, S b ↔ b = bs ∨ b = bp
  ne : bs ≠ bp
  n5 : B5 ≠ bs ∧ B5 ≠ bp ∧ B6 ≠ bs ∧ B6 ≠ bp
theorem grown_of_below {W W' : World} (hb : Below W.heap.size W W') : W.grownBy W' none := ⟨hb.os, hb.tape, hb.output, hb.size, fun k hk _ => hb.block k hk⟩
theorem SInv.keep {B5 B6 bs bp : Nat} (done : List Ev) (S : Nat → Prop) (W W' : World) (h : SInv B5 B6 bs bp done S W) (hb : Below W.heap.size W W') : SInv B5 B6 bs bp done S W' :=
  ⟨below_block hb h.h5, below_block hb h.h6, h.ms.kept (grown_of_below hb) (by simp), h.mp.kept (grown_of_below hb) (by simp), h.hS, h.ne, h.n5⟩
set_option maxHeartbeats 2000000 in
set_option maxRecDepth 100000 in
theorem sumCl_any (g : Gar) (B5 B6 bs bp : Nat) (done : List Ev) (S : Nat → Prop) (W : World) (ev : Ev) (h : SInv B5 B6 bs bp done S W) (hlen : done.length < 9223372036854775807)
    (hd1 : 0 ≤ sumK Ev.s done ev.s ∧ sumK Ev.s done ev.s ≤ 500000000000000) (hd2 : 0 ≤ sumK Ev.p done ev.p ∧ sumK Ev.p done ev.p ≤ 500000000000000) (hw : 0 ≤ ev.way ∧ ev.way ≤ 500000000000000) (hz1 : ev.s.size ≤ maxLen) (hz2 : ev.p.size ≤ maxLen) :
    Calls Tryz.prog 30 (#[useAt g ev.i, evV g ev] ++ #[.pointer (some ⟨B5, 0, none⟩), .pointer (some ⟨B6, 0, none⟩)]) W fun e W' => e = .returned (.tuple #[]) ∧ ∃ S' : Nat → Prop, SInv B5 B6 bs bp (done ++ [ev]) S' W' ∧ (∀ b, S' b → S b ∨ W.heap.size ≤ b) ∧ (∀ b, S' b → b < W'.heap.size) ∧ Kept S W W' := by
  have HUS : Hid (Tryz.prog.underlying 9 = some .string) := Lib.hid Tryz.underlying9
  have HUI : Hid (Tryz.prog.underlying 68 = some (.map 9 3)) := Lib.hid (by kernel_rfl)
  have HzI : Hid (∀ w, (zeroValue 3).run Tryz.prog w = .ok (.int .i64 0) w) := Lib.hid (fun w => by kernel_rfl)
  unfold useAt useV evV
  obtain ⟨W2, hW2, hb, hs, hq⟩ := allocs W [.cells #[.string (g.un ev.i), .string (g.ur ev.i), .int .i64 (g.uf ev.i), .int .i64 (g.us ev.i), .int .i64 (g.uw ev.i)] 62, .cells #[.string (g.un ev.i), .string ev.s, .string ev.p, .int .i64 ev.sec, .int .i64 ev.way] 54]
  have hW2' : (W.alloc (.cells #[.string (g.un ev.i), .string (g.ur ev.i), .int .i64 (g.uf ev.i), .int .i64 (g.us ev.i), .int .i64 (g.uw ev.i)] 62)).alloc (.cells #[.string (g.un ev.i), .string ev.s, .string ev.p, .int .i64 ev.sec, .int .i64 ev.way] 54) = W2 := hW2
  have hpq : W2.heap[W.heap.size + 1]? = some (.cells #[.string (g.un ev.i), .string ev.s, .string ev.p, .int .i64 ev.sec, .int .i64 ev.way] 54 (0, 0)) := hq 1 _ rfl
  have h2 := SInv.keep done S W W2 h hb
  have hbs : bs < W.heap.size := h.ms.lt
  have hbp : bp < W.heap.size := h.mp.lt
  have k5 := cell_of_one h2.h5
  have k6 := cell_of_one h2.h6
  have p1 : W2.cell? ⟨W.heap.size + 1, 1, none⟩ = some (.string ev.s) := block_cell hpq rfl
  have p4 : W2.cell? ⟨W.heap.size + 1, 4, none⟩ = some (.int .i64 ev.way) := block_cell hpq rfl
  have HH := Lib.hid h2
  have HPQ := Lib.hid hpq
  have HB := Lib.hid hb
  have HBS := Lib.hid (And.intro hbs hbp)
  have HW2 := Lib.hid hW2'
  obtain ⟨x1, hx1⟩ : ∃ x, sumK Ev.s done ev.s = x := ⟨_, rfl⟩
  obtain ⟨x2, hx2⟩ : ∃ x, sumK Ev.p done ev.p = x := ⟨_, rfl⟩
  rw [hx1] at hd1
  rw [hx2] at hd2
  have kS : (Instr.lookup 68 (.map (some bs)) (.string ev.s) false).run Tryz.prog W2 = .ok (.int .i64 x1) W2 := by
    have := StrMap.look (val := Value.int .i64) h2.ms HUS.out HUI.out (HzI.out _) (zp := []) rfl intR_inv hz1
    rwa [hx1] at this
  have HX1 := Lib.hid hx1
  have HX2 := Lib.hid hx2
  have HHS := Lib.hid h.hS
  clear h h2 hW2 hW2' hb hs hq hpq hbs hbp hx1 hx2
  go_enter Tryz.func30, Tryz.ntmps30
  go_upto_region 1 with (fail)
  rw [HW2.out]
  go_wp2_with (at_mapUpdate; refine wpList_update_str _ rfl (.tmp 6) (.tmp 8) (.tmp 12) 68 rfl 9 3 HUS.out HUI.out intR (fun x : Int => .lit (.int .i64 x)) (.lit (.int .i64 0)) bs done.length (sumK Ev.s done) rfl HH.out.ms (by unfold maxLen; omega) ev.s rfl hz1 (.int .i64 (x1 + ev.way)) (x1 + ev.way) rfl [] rfl ?_)
  intro w3 hs3 hg3
  obtain ⟨hbs, hbp⟩ := HBS.out
  have hh := HH.out
  have b6 := (hg3.block B6 (lt_of_block hh.h6) (fun e => hh.n5.2.2.1 (by injection e))).trans hh.h6
  have b5 := (hg3.block B5 (lt_of_block hh.h5) (fun e => hh.n5.1 (by injection e))).trans hh.h5
  have bq := (hg3.block (W.heap.size + 1) (lt_of_block HPQ.out) (fun e => by injection e with e; omega)).trans HPQ.out
  have hp3 := hh.mp.kept hg3 (fun e => hh.ne (by injection e with e; exact e.symm))
  have j6 := cell_of_one b6
  have q2 : w3.cell? ⟨W.heap.size + 1, 2, none⟩ = some (.string ev.p) := block_cell bq rfl
  have q4 : w3.cell? ⟨W.heap.size + 1, 4, none⟩ = some (.int .i64 ev.way) := block_cell bq rfl
  have kP : (Instr.lookup 68 (.map (some bp)) (.string ev.p) false).run Tryz.prog w3 = .ok (.int .i64 x2) w3 := by
    have := StrMap.look (val := Value.int .i64) hp3 HUS.out HUI.out (HzI.out _) (zp := []) rfl intR_inv hz2
    rwa [HX2.out] at this
  have HS3 := Lib.hid hs3
  have HP3 := Lib.hid hp3
  have H5 := Lib.hid b5
  have H6 := Lib.hid b6
  have HG3 := Lib.hid hg3
  clear hs3 hg3 hh b6 b5 bq hp3 k5 k6 p1 p4 kS hbs hbp
  go_wp2_with (at_mapUpdate; refine wpList_update_str _ rfl (.tmp 13) (.tmp 15) (.tmp 19) 68 rfl 9 3 HUS.out HUI.out intR (fun x : Int => .lit (.int .i64 x)) (.lit (.int .i64 0)) bp done.length (sumK Ev.p done) rfl HP3.out (by unfold maxLen; omega) ev.p rfl hz2 (.int .i64 (x2 + ev.way)) (x2 + ev.way) rfl [] rfl ?_)
  intro w4 hp4 hg4
  have HFIN : Hid (∃ S' : Nat → Prop, SInv B5 B6 bs bp (done ++ [ev]) S' w4 ∧ (∀ b, S' b → S b ∨ W.heap.size ≤ b) ∧ (∀ b, S' b → b < w4.heap.size) ∧ Kept S W w4) := Lib.hid (by
    have hh := HH.out
    have hs4 := HS3.out.kept hg4 (fun e => hh.ne (by injection e))
    have e1 : sumK Ev.s (done ++ [ev]) = setF (sumK Ev.s done) ev.s (x1 + ev.way) := by rw [sumK_snoc, HX1.out]
    have e2 : sumK Ev.p (done ++ [ev]) = setF (sumK Ev.p done) ev.p (x2 + ev.way) := by rw [sumK_snoc, HX2.out]
    have hl : (done ++ [ev]).length = done.length + 1 := by simp
    refine ⟨S, ⟨(hg4.block B5 (lt_of_block H5.out) (fun e => hh.n5.2.1 (by injection e))).trans H5.out, (hg4.block B6 (lt_of_block H6.out) (fun e => hh.n5.2.2.2 (by injection e))).trans H6.out, by rw [e1, hl]; exact hs4, by rw [e2, hl]; exact hp4, HHS.out, hh.ne, hh.n5⟩, fun b h => Or.inl h, fun b h => ?_, ?_⟩
    · have h1 : b < W.heap.size := ((HHS.out b).1 h).elim (fun e => e ▸ HBS.out.1) (fun e => e ▸ HBS.out.2)
      have := HB.out.size
      have := HG3.out.size
      have := hg4.size
      omega
    · refine ((Kept.of_below HB.out).grown HG3.out (fun q hq _ => ?_)).grown hg4 (fun q hq _ => ?_)
      · injection hq with hq
        exact (HHS.out q).2 (Or.inl hq.symm)
      · injection hq with hq
        exact (HHS.out q).2 (Or.inr hq.symm))
  clear hp4 hg4 q2 q4 kP j6
  go_wp2_with fail
  go_end0
  exact ⟨rfl, HFIN.out⟩
end Go.Proofs.YtbkpoepacjinlaaGreat
