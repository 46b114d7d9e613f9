/- Gear: the pieces of a use in a slot (program): its walk. -/
import Derived.Test.YtbkpoepacjinlaaTa
import Derived.Test.YtbkpoepacjinlaaTc
import Derived.Deep.RegionHeld3
import Derived.Deep.DeepCutAuto
import Derived.Laws.EntriesVeiled
namespace Go.Proofs.Ytbkpoepacjinlaa
open Go.RowKit Go.BigFrame

def mcell (m : Pcs.Mnt) : List Value := [.string m.s, .string m.p, .int .i64 m.f, .int .i64 m.t]
def mget (ms : List Pcs.Mnt) (i : Nat) : Pcs.Mnt := ms.getD i ⟨⟨#[]⟩, ⟨#[]⟩, 0, 0⟩
theorem add_len (last : Int) (st : Int × List Pcs.Pc) (p : ByteArray) (tt : Int) : (Pcs.add last st p tt).2.length ≤ st.2.length + 1 ∧ st.1 ≤ (Pcs.add last st p tt).1 := by
  unfold Pcs.add
  split <;> simp <;> omega
theorem step_len (last : Int) (st : Int × List Pcs.Pc) (m : Pcs.Mnt) : (Pcs.step last st m).2.length ≤ st.2.length + 2 ∧ st.1 ≤ (Pcs.step last st m).1 := by
  unfold Pcs.step
  split
  · have h1 := add_len last st Pcs.em m.f
    have h2 := add_len last (Pcs.add last st Pcs.em m.f) m.p (Pcs.en m)
    omega
  · simp
/-- after k mounts -/
def stK (last a : Int) (ms : List Pcs.Mnt) (k : Nat) : Int × List Pcs.Pc := (ms.take k).foldl (Pcs.step last) (a, [])
theorem stK_succ (last a : Int) (ms : List Pcs.Mnt) {k : Nat} (hk : k < ms.length) : stK last a ms (k + 1) = Pcs.step last (stK last a ms k) (mget ms k) := by
  unfold stK mget
  rw [List.take_succ_eq_append_getElem hk, List.foldl_append]
  simp [List.getD, List.getElem?_eq_getElem hk]
theorem stK_bounds (last a : Int) (ms : List Pcs.Mnt) : ∀ k, k ≤ ms.length → (stK last a ms k).2.length ≤ 2 * k ∧ a ≤ (stK last a ms k).1
  | 0, _ => by simp [stK]
  | k + 1, hk => by
    rw [stK_succ last a ms (by omega)]
    have h1 := stK_bounds last a ms k (by omega)
    have h2 := step_len last (stK last a ms k) (mget ms k)
    omega
theorem stK_all (last a : Int) (ms : List Pcs.Mnt) : stK last a ms ms.length = ms.foldl (Pcs.step last) (a, []) := by
  unfold stK
  rw [List.take_length]

theorem alloc_block (w : World) (cs : Array Value) (T : TypeId) : ∃ W, w.alloc (.cells cs T) = W ∧ Below w.heap.size w W ∧ W.heap.size = w.heap.size + 1 ∧ W.heap[w.heap.size]? = some (.cells cs T (0, 0)) :=
  ⟨_, rfl, below_al _ _, by simp, heap_alloc_new w _⟩
theorem below_block {w w' : World} {b : Nat} {o : Obj} (hb : Below w.heap.size w w') (h : w.heap[b]? = some o) : w'.heap[b]? = some o := (hb.block b (lt_of_block h)).trans h
theorem two_cells (V : World) (o1 o2 : Obj) : ((V.alloc o1).alloc o2).drew.heap[V.heap.size]? = some o1 ∧ ((V.alloc o1).alloc o2).drew.heap[V.heap.size + 1]? = some o2 ∧ Below V.heap.size V ((V.alloc o1).alloc o2).drew ∧ ((V.alloc o1).alloc o2).drew.heap.size = V.heap.size + 2 := by
  refine ⟨?_, ?_, below_drewN (below_tr (below_al V o1) (by simp) (below_al _ o2)) 1, by show ((V.alloc o1).alloc o2).heap.size = _; simp⟩
  · show ((V.alloc o1).alloc o2).heap[V.heap.size]? = some o1
    exact (Below.heap_alloc (V.alloc o1) o2 V.heap.size (by simp)).trans (heap_alloc_new V o1)
  · show ((V.alloc o1).alloc o2).heap[V.heap.size + 1]? = some o2
    have := heap_alloc_new (V.alloc o1) o2
    simpa using this
theorem not_own {w : World} {v : Value} {base e size n : Nat} {xs : List Value} {b : Nat} (h : w.ownsRow base e size v n xs) (hb : b < base ∨ w.heap.size ≤ b) : ¬ v.ownBlock = some b := fun e => by
  have := h.lt b e
  omega
theorem not_own_ty {w : World} {v : Value} {base e size n : Nat} {xs : List Value} {b : Nat} {cs : Array Value} {T : TypeId} (h : w.ownsRow base e size v n xs) (hb : w.heap[b]? = some (.cells cs T (0, 0))) (hT : T ≠ e) : ¬ v.ownBlock = some b := fun e' => by
  rcases h.2 with ⟨rfl, _⟩ | ⟨g, cap, cur, rfl, _, h3, _⟩
  · simp [Value.ownBlock] at e'
  · simp [Value.ownBlock] at e'
    subst e'
    rw [h3] at hb
    injection hb with hb
    injection hb with _ hb _
    exact hT hb.symm
/-- a piece with its way -/
def pcellW (u s : ByteArray) (q : Pcs.Pc) (x : Int) : List Value := [.string u, .string s, .string q.1, .int .i64 q.2, .int .i64 x]
theorem pcellW_low (u s : ByteArray) (q : Pcs.Pc) (x y : Int) {j : Nat} (hj : j < 4) : (pcellW u s q x)[j]? = (pcellW u s q y)[j]? := by
  unfold pcellW
  match j, hj with
  | 0, _ => rfl
  | 1, _ => rfl
  | 2, _ => rfl
  | 3, _ => rfl
theorem pcellW_some (u s : ByteArray) (q : Pcs.Pc) (x : Int) {j : Nat} (hj : j < 5) : ∃ v, (pcellW u s q x)[j]? = some v := ⟨_, List.getElem?_eq_getElem (by simpa [pcellW] using hj)⟩
/-- what piecesOf returns -/
def PcsRet (un slot : ByteArray) (l : List Pcs.Pc) (us uw : Int) (w : World) (e : Ending) (w' : World) : Prop :=
  ∃ g cap : Nat, e = .returned (.slice (some ⟨g, 0, none⟩) l.length cap) ∧ w.heap.size ≤ g ∧ RowK w' (some ⟨g, 0, none⟩) l.length 5 (fun i => pcellW un slot (pget l i) (wayG uw us (secW l) l.length i)) ∧ Below w.heap.size w w'
set_option maxHeartbeats 8000000 in
set_option maxRecDepth 100000 in
theorem piecesOf_any (un ur : ByteArray) (uf us uw : Int) (slot : ByteArray) (am : Option Addr) (cm : Nat) (ms : List Pcs.Mnt) (w : World) (hr : RowK w am ms.length 4 (fun i => mcell (mget ms i)))
    (h0 : 0 ≤ uf) (h1 : uf ≤ 86399999999) (h2 : 1 ≤ us) (h3 : us ≤ 1000000) (h4 : 0 ≤ uw) (h5 : uw ≤ 1000000000) (hl : ms.length ≤ 2000) (ho : Pcs.Ord ms) :
    Calls Try.prog 110 #[useV un ur uf us uw, .string slot, .slice am ms.length cm] w (PcsRet un slot (Pcs.pieces uf (uf + us) ms) us uw w) := by
  have HR := Lib.hid hr
  have HO := Lib.hid ho
  unfold useV
  have hmf : ∀ fn first cap w, (Instr.makeFunc fn first cap).run Try.prog w = .ok (.func fn first cap) w := fun _ _ _ _ => rfl
  obtain ⟨V0, hV0, hb0, hs0, q0⟩ := alloc_block w #[.string un, .string ur, .int .i64 uf, .int .i64 us, .int .i64 uw] 38
  obtain ⟨V1, hV1, hb1, hs1, q1⟩ := alloc_block V0 #[.string slot] 9
  obtain ⟨V2, hV2, hb2, hs2, q2⟩ := alloc_block V1 #[.slice none 0 0] 34
  have q0 := below_block hb2 (below_block hb1 q0)
  have q1 := below_block hb2 q1
  have g1 : w.heap.size < V0.heap.size := by omega
  have g2 : V0.heap.size < V1.heap.size := by omega
  have g3 : V1.heap.size < V2.heap.size := by omega
  have HBV := Lib.hid (hb0.trans ((hb1.mono (by omega)).trans (hb2.mono (by omega))))
  have HQ0 := Lib.hid q0
  have HQ1 := Lib.hid q1
  have HQ2 := Lib.hid q2
  have c2 : V2.cell? ⟨w.heap.size, 2, none⟩ = some (.int .i64 uf) := block_cell q0 rfl
  have c3 : V2.cell? ⟨w.heap.size, 3, none⟩ = some (.int .i64 us) := block_cell q0 rfl
  have c2d : V2.drew.cell? ⟨w.heap.size, 2, none⟩ = some (.int .i64 uf) := c2
  have c3d : V2.drew.cell? ⟨w.heap.size, 3, none⟩ = some (.int .i64 us) := c3
  clear hr ho q0 q1 q2 hb0 hb1 hb2 hs0 hs1 hs2
  go_enter Try.func110, Try.ntmps110
  go_upto_region 2 with (fail)
  clear hV0 hV1 hV2
  have hws := IntWalk.i64_in (uf + us) (by omega)
  have HWS := Lib.hid hws
  clear hws
  go_cut [8, 9] (fun p q wx => ∃ ca cl : Nat, p = .pointer (some ⟨ca, 0, none⟩) ∧ q = .pointer (some ⟨cl, 0, none⟩) ∧ ca ≠ cl ∧ V2.heap.size ≤ ca ∧ V2.heap.size ≤ cl ∧ Hid (wx.heap[ca]? = some (.cells #[.int .i64 uf] 3 (0, 0))) ∧ Hid (wx.heap[cl]? = some (.cells #[.int .i64 (uf + us)] 3 (0, 0))) ∧ Hid (Below V2.heap.size V2 wx) ∧ wx.heap.size = V2.heap.size + 2)
  case first =>
    go_region_held3 (fun w' => w'.cell? ⟨w.heap.size, 2, none⟩ = some (.int .i64 uf) ∧ w'.cell? ⟨w.heap.size, 3, none⟩ = some (.int .i64 us)) (go_keep) (fail)
    · go_wp2_with fail
      go_meet
      rw [HWS.out]
      obtain ⟨x1, x2, x3, x4⟩ := two_cells V2 (.cells #[.int .i64 uf] 3) (.cells #[.int .i64 (uf + us)] 3)
      exact ⟨_, _, rfl, rfl, by omega, by omega, by omega, Lib.hid x1, Lib.hid x2, Lib.hid x3, x4⟩
    · go_wp2_with fail
      go_meet
      rw [HWS.out]
      obtain ⟨x1, x2, x3, x4⟩ := two_cells V2 (.cells #[.int .i64 (uf + us)] 3) (.cells #[.int .i64 uf] 3)
      exact ⟨_, _, rfl, rfl, by omega, by omega, by omega, Lib.hid x2, Lib.hid x1, Lib.hid x3, x4⟩
  case rest =>
    obtain ⟨ca, cl, rfl, rfl, hne, hca, hcl, HCA, HCL, HBX, hsx⟩ := hcut
    obtain ⟨bs, hbs⟩ : ∃ bs, wc.heap.size = bs := ⟨_, rfl⟩
    have hca2 : ca < bs := by rw [← hbs]; exact lt_of_block HCA.out
    have hcl2 : cl < bs := by rw [← hbs]; exact lt_of_block HCL.out
    have hst : PSt wc (.slice none 0 0) bs V1.heap.size ca cl w.heap.size V0.heap.size (stK (uf + us) uf ms 0).1 (uf + us) (stK (uf + us) uf ms 0).2 un ur uf us uw slot :=
      ⟨below_block HBX.out HQ2.out, World.ownsRow_nil _ _ _ _, HCA.out, HCL.out, below_block HBX.out HQ0.out, below_block HBX.out HQ1.out⟩
    have HST := Lib.hid hst
    have HBC := Lib.hid (HBV.out.trans (HBX.out.mono (by omega)))
    have hbs2 : V1.heap.size < bs := by omega
    have hca' : V1.heap.size < ca := by omega
    have hcl' : V1.heap.size < cl := by omega
    have HBS := Lib.hid hbs
    clear hca hcl c2 c3 c2d c3d hst HCA HCL HBX hsx hbs HQ0 HQ1 HQ2
    have DA : ∀ (X : World) (part : ByteArray) (tt : Int) (v : Value) (a : Int) (l : List Pcs.Pc), PSt X v bs V1.heap.size ca cl w.heap.size V0.heap.size a (uf + us) l un ur uf us uw slot → 0 ≤ a → (l.length : Int) ≤ 1000000 → bs ≤ X.heap.size →
        Calls Try.prog 141 #[.string part, .int .i64 tt, .pointer (some ⟨cl, 0, none⟩), .pointer (some ⟨ca, 0, none⟩), .pointer (some ⟨V1.heap.size, 0, none⟩), .pointer (some ⟨w.heap.size, 0, none⟩), .pointer (some ⟨V0.heap.size, 0, none⟩)] X fun e w' => e = .returned (.tuple #[]) ∧
          (∃ v', PSt w' v' bs V1.heap.size ca cl w.heap.size V0.heap.size (Pcs.add (uf + us) (a, l) part tt).1 (uf + us) (Pcs.add (uf + us) (a, l) part tt).2 un ur uf us uw slot) ∧ Kept (fun b => b = V1.heap.size ∨ b = ca ∨ v.ownBlock = some b) X w' :=
      fun X part tt v a l hp ha hl hb => addPc_any part tt bs _ ca cl _ _ a (uf + us) l un ur uf us uw slot X v hp ha (by omega) hl (by omega) (by omega) (by omega) (by omega) (by omega) (by omega) (by omega) hb
    have HDA := Lib.hid DA
    clear DA
    go_wp2_with fail
    go_loopw [28] (fun iv wr => ∃ (k : Nat), iv = .int .i64 k ∧ k ≤ ms.length ∧ Hid (∃ v, PSt wr v bs V1.heap.size ca cl w.heap.size V0.heap.size (stK (uf + us) uf ms k).1 (uf + us) (stK (uf + us) uf ms k).2 un ur uf us uw slot) ∧ Hid (Kept (fun b => b = V1.heap.size ∨ b = ca ∨ bs ≤ b) wc wr)) (fun iv _ => ms.length - (intOf iv).toNat)
    case atStart => exact ⟨0, rfl, by omega, Lib.hid ⟨_, HST.out⟩, Lib.hid (Kept.refl _ _)⟩
    case round =>
      obtain ⟨k, rfl, hk, HPE, HK⟩ := hrel
      obtain ⟨v, hp⟩ := HPE.out
      have HP := Lib.hid hp
      have hb1 := stK_bounds (uf + us) uf ms k hk
      by_cases hlt : k < ms.length
      · have t1 : decide ((k : Int) < (ms.length : Int)) = true := by rw [decide_eq_true_eq]; omega
        have t1' : decide (k < ms.length) = true := by simpa using hlt
        obtain ⟨b, off, rfl, hbl, hc⟩ := HR.out.here (by omega)
        have hbw : wr.heap[b]? = w.heap[b]? := (HK.out.block b (by rw [HBS.out]; omega) (by omega)).trans (HBC.out.block b hbl)
        have hsz : bs ≤ wr.heap.size := by rw [← HBS.out]; exact HK.out.size
        have hbr : b < wr.heap.size := by omega
        have e0 : wr.cell? ⟨b, off + k * 4, none⟩ = some (.string (mget ms k).s) := (World.cell?_of_block hbw).trans (hc k hlt 0 (by omega))
        have e1 : wr.cell? ⟨b, off + k * 4 + 1, none⟩ = some (.string (mget ms k).p) := (World.cell?_of_block hbw).trans (hc k hlt 1 (by omega))
        have e2 : wr.cell? ⟨b, off + k * 4 + 2, none⟩ = some (.int .i64 (mget ms k).f) := (World.cell?_of_block hbw).trans (hc k hlt 2 (by omega))
        have e3 : wr.cell? ⟨b, off + k * 4 + 3, none⟩ = some (.int .i64 (mget ms k).t) := (World.cell?_of_block hbw).trans (hc k hlt 3 (by omega))
        have hsucc := stK_succ (uf + us) uf ms hlt
        unfold Pcs.step at hsucc
        obtain ⟨V, hV, hvb, hvs, hvq⟩ := alloc_block wr #[.string (mget ms k).s, .string (mget ms k).p, .int .i64 (mget ms k).f, .int .i64 (mget ms k).t] 54
        have HVQ := Lib.hid hvq
        have HVB := Lib.hid hvb
        have HV' := Lib.hid hV
        have HPV := Lib.hid (hp.kept (Kept.of_below (O := fun _ => False) hvb) (by simp) (by simp) (by simp) (by simp) (by simp) (by simp))
        have L0 : ∀ Y : Ext V, Y.1.cell? ⟨wr.heap.size, 0, none⟩ = some (.string (mget ms k).s) := Ext.ex (block_cell hvq rfl)
        have L1 : ∀ Y : Ext V, Y.1.cell? ⟨wr.heap.size, 1, none⟩ = some (.string (mget ms k).p) := Ext.ex (block_cell hvq rfl)
        have L2 : ∀ Y : Ext V, Y.1.cell? ⟨wr.heap.size, 2, none⟩ = some (.int .i64 (mget ms k).f) := Ext.ex (block_cell hvq rfl)
        have L3 : ∀ Y : Ext V, Y.1.cell? ⟨wr.heap.size, 3, none⟩ = some (.int .i64 (mget ms k).t) := Ext.ex (block_cell hvq rfl)
        have L4 : ∀ Y : Ext V, Y.1.cell? ⟨ca, 0, none⟩ = some (.int .i64 (stK (uf + us) uf ms k).1) := Ext.ex (cell_of_one HPV.out.hca)
        have DE := Lib.hid (fun W => gend_any (mget ms k).s (mget ms k).p (mget ms k).f (mget ms k).t W)
        unfold mountV at DE
        rw [show Gar.endG (mget ms k).t = Pcs.en (mget ms k) from rfl] at DE
        have HSUCC := Lib.hid hsucc
        clear hbw hc hV hvb hvq hsucc hp HPE
        have hvsz : wr.heap.size < V.heap.size := by omega
        have hno := not_own HP.out.own (Or.inr (Nat.le_refl wr.heap.size))
        have HNO := Lib.hid hno
        have hlen : ((stK (uf + us) uf ms k).2.length : Int) ≤ 999990 := by omega
        have hal : 0 ≤ (stK (uf + us) uf ms k).1 := by omega
        clear hno hb1
        obtain ⟨st, hst0⟩ : ∃ st, stK (uf + us) uf ms k = st := ⟨_, rfl⟩
        rw [hst0] at L4 HPV HSUCC hal hlen
        obtain ⟨a, ha⟩ : ∃ a, st.1 = a := ⟨_, rfl⟩
        obtain ⟨l, hl'⟩ : ∃ l, st.2 = l := ⟨_, rfl⟩
        have HSA : Hid (a = st.1) := Lib.hid ha.symm
        have HSL : Hid (l = st.2) := Lib.hid hl'.symm
        rw [ha] at L4 HPV hal
        rw [hl'] at HPV hlen
        clear hst0 ha hl'
        have hys : ∀ Y : Ext V, bs ≤ Y.1.heap.size := fun Y => Nat.le_trans hsz (Nat.le_trans HVB.out.size Y.2.size)
        have HYS := Lib.hid hys
        clear hys
        cases hd : decide (a < Pcs.en (mget ms k))
        · rw [decide_eq_false_iff_not] at hd
          have hst2 : stK (uf + us) uf ms (k + 1) = st := HSUCC.out.trans (if_neg (by rw [← HSA.out]; exact hd))
          have HST2 := Lib.hid hst2
          have d1 : decide (a < Pcs.en (mget ms k)) = false := by rw [decide_eq_false_iff_not]; exact hd
          clear hst2 hd
          go_upto_region 7 with (fail)
          rw [HV'.out]
          refine ext_wp fun X1 => ?_
          refine wp_region_ext (W := V) _ (by kernel_rfl) (by kernel_rfl) ?_
          repeat go_big_quiet_step ((go_at_call 103; exact Ext.calls _ (DE.out _)))
          refine wpQuiet_nil ?_
          intro _ hw'
          obtain ⟨Y, rfl⟩ := hw'
          go_wp2_with fail
          go_roundw
          case rel =>
            refine ⟨k + 1, by go_num, by omega, Lib.hid ⟨v, ?_⟩, Lib.hid ((HK.out.trans (Kept.of_below HVB.out)).trans (Kept.of_below Y.2))⟩
            rw [HST2.out, ← HSA.out, ← HSL.out]
            exact HPV.out.kept (Kept.of_below (O := fun _ => False) Y.2) (by simp) (by simp) (by simp) (by simp) (by simp) (by simp)
          case measure => simp [intOf]; omega
        · have hd' := hd
          rw [decide_eq_true_eq] at hd'
          have hst2 : stK (uf + us) uf ms (k + 1) = Pcs.add (uf + us) (Pcs.add (uf + us) (a, l) Pcs.em (mget ms k).f) (mget ms k).p (Pcs.en (mget ms k)) := by
            rw [HSUCC.out, if_pos (by rw [← HSA.out]; exact hd'), show st = (a, l) by rw [HSA.out, HSL.out]]
          have HST2 := Lib.hid hst2
          clear hst2 hd'
          go_upto_region 7 with (fail)
          rw [HV'.out]
          refine ext_wp fun X1 => ?_
          refine wp_region_ext (W := V) _ (by kernel_rfl) (by kernel_rfl) ?_
          repeat go_big_quiet_step ((go_at_call 103; exact Ext.calls _ (DE.out _)))
          refine wpQuiet_nil ?_
          intro _ hw'
          obtain ⟨Y, rfl⟩ := hw'
          go_wp2_with fail
          have hpy := HPV.out.kept (Kept.of_below (O := fun _ => False) Y.2) (by simp) (by simp) (by simp) (by simp) (by simp) (by simp)
          refine (HDA.out _ _ _ v a l hpy hal (by omega) (HYS.out Y)).mono ?_
          rintro e w2 ⟨rfl, ⟨v2, hp2⟩, hk2⟩
          have hnb : ¬ (wr.heap.size = V1.heap.size ∨ wr.heap.size = ca ∨ v.ownBlock = some wr.heap.size) := by
            rintro (h | h | h)
            · omega
            · omega
            · exact HNO.out h
          have hq2 := (hk2.block wr.heap.size (Nat.lt_of_lt_of_le hvsz Y.2.size) hnb).trans (below_block Y.2 HVQ.out)
          have hsz2 : bs ≤ w2.heap.size := Nat.le_trans (HYS.out Y) hk2.size
          have hk02 : Kept (fun b => b = V1.heap.size ∨ b = ca ∨ bs ≤ b) wc w2 := by
            refine ((HK.out.trans (Kept.of_below HVB.out)).trans (Kept.of_below Y.2)).trans ⟨hk2.os, hk2.tape, hk2.output, hk2.size, fun b hb ho => hk2.block b hb (fun h => ho ?_)⟩
            rcases h with h | h | h
            · exact Or.inl h
            · exact Or.inr (Or.inl h)
            · exact Or.inr (Or.inr (HP.out.own.lt b h).1)
          have hno2 := not_own_ty hp2.own hq2 (by decide)
          have hno3 : ¬ (wr.heap.size = V1.heap.size ∨ wr.heap.size = ca ∨ v2.ownBlock = some wr.heap.size) := by
            rintro (h | h | h)
            · omega
            · omega
            · exact hno2 h
          have hlen2 := (add_len (uf + us) (a, l) Pcs.em (mget ms k).f).1
          have hal2 := (add_len (uf + us) (a, l) Pcs.em (mget ms k).f).2
          simp only at hlen2 hal2
          rw [show (⟨#[]⟩ : ByteArray) = Pcs.em from rfl] at hp2
          generalize Pcs.add (uf + us) (a, l) Pcs.em (mget ms k).f = st2 at HST2 hp2 hlen2 hal2
          have N0 : ∀ Z : ExtO (fun b => b = V1.heap.size ∨ b = ca ∨ v2.ownBlock = some b) w2, Z.1.cell? ⟨wr.heap.size, 0, none⟩ = some (.string (mget ms k).s) := ExtO.ex hno3 (block_cell hq2 rfl)
          have N1 : ∀ Z : ExtO (fun b => b = V1.heap.size ∨ b = ca ∨ v2.ownBlock = some b) w2, Z.1.cell? ⟨wr.heap.size, 1, none⟩ = some (.string (mget ms k).p) := ExtO.ex hno3 (block_cell hq2 rfl)
          have N2 : ∀ Z : ExtO (fun b => b = V1.heap.size ∨ b = ca ∨ v2.ownBlock = some b) w2, Z.1.cell? ⟨wr.heap.size, 2, none⟩ = some (.int .i64 (mget ms k).f) := ExtO.ex hno3 (block_cell hq2 rfl)
          have N3 : ∀ Z : ExtO (fun b => b = V1.heap.size ∨ b = ca ∨ v2.ownBlock = some b) w2, Z.1.cell? ⟨wr.heap.size, 3, none⟩ = some (.int .i64 (mget ms k).t) := ExtO.ex hno3 (block_cell hq2 rfl)
          have HP2 := Lib.hid hp2
          have HK02 := Lib.hid hk02
          clear hp2 hk02 hk2 hnb hq2 hno2 hno3 hpy HNO L0 L1 L2 L3 L4 hd
          go_wp2_with fail
          refine held_start (C := fun w' => ∃ Z : ExtO (fun b => b = V1.heap.size ∨ b = ca ∨ v2.ownBlock = some b) w2, w' = Z.1) (by kernel_rfl) ?_
          obtain ⟨Z0, hZ0, hz0⟩ : ∃ Z : ExtO (fun b => b = V1.heap.size ∨ b = ca ∨ v2.ownBlock = some b) w2, ({ w2 with drawn := w2.drawn + 1 } : World) = Z.1 ∧ Kept (fun _ => False) w2 Z.1 := ⟨⟨{ w2 with drawn := w2.drawn + 1 }, ⟨rfl, rfl, rfl, Nat.le_refl _, fun _ _ _ => rfl⟩⟩, rfl, ⟨rfl, rfl, rfl, Nat.le_refl _, fun _ _ _ => rfl⟩⟩
          rw [hZ0]
          have HZ0 := Lib.hid hz0
          clear hZ0 hz0
          refine held_quiet (by kernel_rfl) (fun _ _ d _ _ h => by cases d <;> exact h) ⟨Z0, rfl⟩ [0, 1, 2, 3] 2 _ _ (by kernel_rfl) ?_
          change wpQuiet _ _ _ _ (_ :: _ :: _ :: _ :: []) _
          repeat go_big_quiet_step (fail)
          refine wpQuiet_nil ?_
          refine held_do (i := 4) _ rfl (by kernel_rfl) rfl (fun K hK => ?_)
          go_simp
          refine (DE.out _).mono ?_
          rintro e w3 ⟨rfl, hb3⟩
          have hz3 : Kept (fun _ => False) w2 w3 := HZ0.out.trans (Kept.of_below hb3)
          obtain ⟨Z1, rfl⟩ : ∃ Z : ExtO (fun b => b = V1.heap.size ∨ b = ca ∨ v2.ownBlock = some b) w2, w3 = Z.1 := ⟨⟨w3, Z0.2.trans (Kept.of_below hb3)⟩, rfl⟩
          refine hK _ _ ⟨Z1, rfl⟩ ?_
          have HZ3 := Lib.hid hz3
          clear hb3 hK K hz3
          refine held_do (i := 5) _ rfl (by kernel_rfl) rfl (fun K hK => ?_)
          go_simp
          have hp3 := HP2.out.kept HZ3.out (by simp) (by simp) (by simp) (by simp) (by simp) (by simp)
          refine (HDA.out _ _ _ v2 st2.1 st2.2 hp3 (by omega) (by omega) (Nat.le_trans hsz2 HZ3.out.size)).mono ?_
          rintro e w4 ⟨rfl, ⟨v4, hp4⟩, hk4⟩
          have HP4 := Lib.hid hp4
          have HK4 : Hid (Kept (fun b => b = V1.heap.size ∨ b = ca ∨ bs ≤ b) wc w4) := Lib.hid ((HK02.out.trans ⟨HZ3.out.os, HZ3.out.tape, HZ3.out.output, HZ3.out.size, fun b hb _ => HZ3.out.block b hb (by simp)⟩).trans ⟨hk4.os, hk4.tape, hk4.output, hk4.size, fun b hb ho => hk4.block b hb (by
            rintro (h | h | h)
            · exact ho (Or.inl h)
            · exact ho (Or.inr (Or.inl h))
            · exact ho (Or.inr (Or.inr (HP2.out.own.lt b h).1)))⟩)
          obtain ⟨Z2, rfl⟩ : ∃ Z : ExtO (fun b => b = V1.heap.size ∨ b = ca ∨ v2.ownBlock = some b) w2, w4 = Z.1 := ⟨⟨w4, Z1.2.trans hk4⟩, rfl⟩
          refine hK _ _ ⟨Z2, rfl⟩ ?_
          clear hp4 hk4 hK K hp3
          refine wpAnyH_done (by kernel_rfl) ?_ _
          go_wp2_with fail
          go_roundw
          case rel =>
            refine ⟨k + 1, by go_num, by omega, Lib.hid ⟨v4, ?_⟩, HK4⟩
            rw [HST2.out]
            exact HP4.out
          case measure => simp [intOf]; omega
      · have t1 : decide ((k : Int) < (ms.length : Int)) = false := by rw [decide_eq_false_iff_not]; omega
        have t1' : decide (k < ms.length) = false := by simpa using hlt
        obtain rfl : k = ms.length := by omega
        have hsz : bs ≤ wr.heap.size := by rw [← HBS.out]; exact HK.out.size
        have k2 := cell_of_one hp.hcl
        have hpl : (Pcs.add (uf + us) ((stK (uf + us) uf ms ms.length).1, (stK (uf + us) uf ms ms.length).2) ⟨#[]⟩ (uf + us)).2 = Pcs.pieces uf (uf + us) ms := by
          rw [stK_all]
          rfl
        have HPL := Lib.hid hpl
        have HGD := Lib.hid (good_pieces (uf := uf) HO.out h2)
        have hlen : ((stK (uf + us) uf ms ms.length).2.length : Int) ≤ 1000000 := by omega
        have hal : 0 ≤ (stK (uf + us) uf ms ms.length).1 := by omega
        clear hpl hp HPE hlt
        go_wp2_with fail
        refine (HDA.out _ _ _ v _ _ HP.out hal hlen hsz).mono ?_
        rintro e w2 ⟨rfl, ⟨v2, hp2⟩, hk2⟩
        rw [HPL.out] at hp2
        have hk02 : Kept (fun b => b = V1.heap.size ∨ b = ca ∨ bs ≤ b) wc w2 := by
          refine HK.out.trans ⟨hk2.os, hk2.tape, hk2.output, hk2.size, fun b hb ho => hk2.block b hb (fun h => ho ?_)⟩
          rcases h with h | h | h
          · exact Or.inl h
          · exact Or.inr (Or.inl h)
          · exact Or.inr (Or.inr (HP.out.own.lt b h).1)
        generalize (Pcs.add (uf + us) ((stK (uf + us) uf ms ms.length).1, (stK (uf + us) uf ms ms.length).2) ⟨#[]⟩ (uf + us)).1 = af at hp2
        obtain ⟨l, hl0⟩ : ∃ l, Pcs.pieces uf (uf + us) ms = l := ⟨_, rfl⟩
        rw [hl0] at hp2 HGD
        have HL0 := Lib.hid hl0
        clear hl0
        have hn0 := HGD.out.ne h2
        have hn1 := HGD.out.len
        have HFI := Lib.hid (HGD.out.fine h2 h3 h4 h5)
        obtain ⟨g, cap, rfl, hg1, hg2⟩ := hp2.own.form hn0
        have hB2 : bs ≤ w2.heap.size := Nat.le_trans hsz hk2.size
        obtain ⟨B2, hBB⟩ : ∃ B2, w2.heap.size = B2 := ⟨_, rfl⟩
        rw [hBB] at hB2 hg2
        have HBB := Lib.hid hBB
        have HP2 := Lib.hid hp2
        have HK02 := Lib.hid hk02
        have kc := cell_of_one hp2.hco
        have O0 : ∀ Z : ExtO (fun b => B2 ≤ b) w2, Z.1.cell? ⟨V1.heap.size, 0, none⟩ = some (.slice (some ⟨g, 0, none⟩) l.length cap) := ExtO.ex (by show ¬ B2 ≤ V1.heap.size; omega) kc
        obtain ⟨i1, hi1, hy0, hy1, hy2⟩ := info_parts (show (Try.prog.info? 3).map (fun i => (i.zero, i.size, i.bytes)) = some (some (.int .i64 0), 1, 8) by kernel_rfl)
        have HI1 := Lib.hid hi1
        have HY0 := Lib.hid hy0
        have HY1 := Lib.hid hy1
        have HY2 := Lib.hid hy2
        have HUI := Lib.hid (show Try.prog.underlying 131 = some (.slice 3) by kernel_rfl)
        clear hk2 hp2 hk02 hBB hi1 hy0 hy1 hy2 HP HK HST k2 HPL hal hlen hsz hb1
        go_wp2_with fail
        clear kc
        go_loopw [13, 52] (fun sv iv wr => ∃ (k : Nat), iv = .int .i64 k ∧ k ≤ l.length ∧ Hid (wr.ownsRow B2 3 1 sv k ((List.range k).map fun i => .int .i64 (secW l i))) ∧ Hid (∃ Z : ExtO (fun b => B2 ≤ b) w2, wr = Z.1)) (fun _ iv _ => l.length - (intOf iv).toNat)
        case atStart => exact ⟨0, rfl, by omega, Lib.hid (World.ownsRow_nil _ _ _ _), Lib.hid ⟨⟨w2, Kept.refl _ _⟩, rfl⟩⟩
        case round =>
          obtain ⟨k, rfl, hk, HS, HZE⟩ := hrel
          obtain ⟨Z, rfl⟩ := HZE.out
          by_cases hlt : k < l.length
          · have t1 : decide ((k : Int) < (l.length : Int)) = true := by rw [decide_eq_true_eq]; omega
            have t1' : decide (k < l.length) = true := by simpa using hlt
            have hcell : ∀ j v, j < 5 → (pcell un slot (pget l k))[j]? = some v → Z.1.cell? ⟨g, k * 5 + j, none⟩ = some v := fun j v hj hv => by
              have h6 := HP2.out.own.cells (g := g) rfl (k * 5 + j) v (by rw [← hv]; exact flat5 (fun q => rfl) l k j hlt hj)
              rw [addr_add0] at h6
              exact Z.2.cell (by show ¬ B2 ≤ g; omega) h6
            have e0 : Z.1.cell? ⟨g, k * 5, none⟩ = some (.string un) := hcell 0 _ (by omega) rfl
            have e1 : Z.1.cell? ⟨g, k * 5 + 1, none⟩ = some (.string slot) := hcell 1 _ (by omega) rfl
            have e2 : Z.1.cell? ⟨g, k * 5 + 2, none⟩ = some (.string (pget l k).1) := hcell 2 _ (by omega) rfl
            have e3 : Z.1.cell? ⟨g, k * 5 + 3, none⟩ = some (.int .i64 (pget l k).2) := hcell 3 _ (by omega) rfl
            have e4 : Z.1.cell? ⟨g, k * 5 + 4, none⟩ = some (.int .i64 0) := hcell 4 _ (by omega) rfl
            have hzs : B2 ≤ Z.1.heap.size := Nat.le_trans (Nat.le_of_eq HBB.out.symm) Z.2.size
            clear hcell
            go_wp2_with (at_builtin; refine wpList_append_own _ rfl (.tmp 56) (.tmp 59) 131 rfl B2 3 i1 (.int .i64 0) 1 8 HUI.out HI1.out HY0.out HY1.out HY2.out rfl (by decide) _ k _ rfl ((HS.out.alloc _).alloc _) ⟨Z.1.heap.size + 1, 0, none⟩ 1 1 [.int .i64 (pget l k).2] rfl rfl ?c1 ?c2 ?c3 ?c4 ?c5 ?_)
            case c1 =>
              intro j u hu
              rw [addr_add0, World.cell?_alloc_at _ _ _ _ (by simp)]
              simpa using hu
            case c2 =>
              intro u hu
              simp only [List.mem_singleton] at hu
              rw [hu]
              rfl
            case c3 => unfold maxLen; omega
            case c4 => omega
            case c5 => simp; omega
            intro v5 w5 hown5 hg5 _
            have HS2 : Hid (w5.ownsRow B2 3 1 v5 (k + 1) ((List.range (k + 1)).map fun i => .int .i64 (secW l i))) := Lib.hid (by
              rw [List.range_succ, List.map_append]
              exact hown5)
            have HZ2 : Hid (∃ Z : ExtO (fun b => B2 ≤ b) w2, w5 = Z.1) := Lib.hid ⟨⟨w5, (Z.2.trans (Kept.of_below (below_tr (below_al Z.1 _) (by simp) (below_al _ _)))).grown hg5 (fun q hq _ => (HS.out.lt q hq).1)⟩, rfl⟩
            clear hown5 hg5 HS HZE
            go_wp2_with fail
            go_roundw
            case rel => exact ⟨k + 1, by go_num, by omega, HS2, HZ2⟩
            case measure => simp [intOf]; omega
          · have t1 : decide ((k : Int) < (l.length : Int)) = false := by rw [decide_eq_false_iff_not]; omega
            have t1' : decide (k < l.length) = false := by simpa using hlt
            obtain rfl : k = l.length := by omega
            have hpz := HP2.out.kept Z.2 (by omega) (by omega) (by omega) (by omega) (by omega) (by intro b hb; simp [Value.ownBlock] at hb; omega)
            have hwz : Below w.heap.size w Z.1 := Kept.below (Kept.below HBC.out HK02.out (by rw [HBS.out]; omega) (fun k hk => by omega)) Z.2 (by rw [HBB.out]; omega) (fun k hk => by omega)
            have hzs : B2 ≤ Z.1.heap.size := Nat.le_trans (Nat.le_of_eq HBB.out.symm) Z.2.size
            obtain ⟨g2, cap2, hv2, hg3, hg4⟩ := HS.out.form hn0
            have hrow : Row1 Z.1 (some ⟨g2, 0, none⟩) l.length (secW l) := ⟨fun _ => ⟨g2, 0, rfl, hg4, fun i hi => by
              have h6 := HS.out
              rw [hv2] at h6
              have h7 := h6.cells (g := g2) rfl i (.int .i64 (secW l i)) (by simp [hi])
              rw [addr_add0] at h7
              rw [Nat.zero_add]
              exact h7⟩⟩
            have HPZ := Lib.hid hpz
            have HWZ := Lib.hid hwz
            have DP := Lib.hid (parts_any uw us (some ⟨g2, 0, none⟩) l.length cap2 (secW l) Z.1 hrow HFI.out)
            have kc := cell_of_one hpz.hco
            have ku : Z.1.cell? ⟨w.heap.size, 4, none⟩ = some (.int .i64 uw) := block_cell hpz.hcu rfl
            subst hv2
            clear hpz hwz hrow HS HZE hlt
            go_wp2_with fail
            refine DP.out.mono ?_
            rintro e w6 ⟨lo, g5, hord, rfl, hrf, hg6, hb6⟩
            have hkb6 : Kept (fun b => b = g) Z.1 w6 := Kept.of_below hb6
            have hp6 := HPZ.out.kept (Kept.of_below (O := fun _ => False) hb6) (by simp) (by simp) (by simp) (by simp) (by simp) (by simp)
            have hrw : RowF w6 g5 l.length (wayG uw us (secW l) l.length) := hrf.ext (fun i _ => wayG_of hord i)
            have hg56 : g ≠ g5 := by omega
            have hg7 : g5 < w6.heap.size := hrw.lt
            have HW6 := Lib.hid (HWZ.out.trans (hb6.mono HWZ.out.size))
            have hs6 : w.heap.size ≤ w6.heap.size := HW6.out.size
            have hinit : ∀ i, i < l.length → ∀ j, j < 5 → (pcells un slot l)[i * 5 + j]? = (pcellW un slot (pget l i) (if i < 0 then wayG uw us (secW l) l.length i else 0))[j]? := fun i hi j hj => by
              rw [if_neg (by omega)]
              exact flat5 (fun q => rfl) l i j hi hj
            have HINI := Lib.hid hinit
            have HP6 := Lib.hid hp6
            have HRW := Lib.hid hrw
            have Q0 : ∀ Z : ExtO (fun b => b = g) w6, Z.1.cell? ⟨V1.heap.size, 0, none⟩ = some (.slice (some ⟨g, 0, none⟩) l.length cap) := ExtO.ex (by show ¬ V1.heap.size = g; omega) (cell_of_one hp6.hco)
            obtain ⟨wy, hwy⟩ : ∃ wy, wayG uw us (secW l) l.length = wy := ⟨_, rfl⟩
            rw [hwy] at HINI HRW
            have HWY := Lib.hid hwy
            clear hwy
            clear hkb6 hp6 hrw hord hrf hg6 hb6 kc ku HPZ HWZ HP2 HK02 HFI HBB DP O0 hinit
            go_wp2_with fail
            go_loopw [67] (fun iv wr => ∃ (k : Nat), iv = .int .i64 k ∧ k ≤ l.length ∧ Hid (∃ xs, wr.ownsRow bs 42 5 (.slice (some ⟨g, 0, none⟩) l.length cap) l.length xs ∧ ∀ i, i < l.length → ∀ j, j < 5 → xs[i * 5 + j]? = (pcellW un slot (pget l i) (if i < k then wy i else 0))[j]?) ∧ Hid (∃ Z : ExtO (fun b => b = g) w6, wr = Z.1)) (fun iv _ => l.length - (intOf iv).toNat)
            case atStart => exact ⟨0, rfl, by omega, Lib.hid ⟨_, HP6.out.own, HINI.out⟩, Lib.hid ⟨⟨w6, Kept.refl _ _⟩, rfl⟩⟩
            case round =>
              obtain ⟨k, rfl, hk, HS, HZE⟩ := hrel
              obtain ⟨Z6, rfl⟩ := HZE.out
              obtain ⟨xs, hx1, hx2⟩ := HS.out
              have HX1 := Lib.hid hx1
              have HX2 := Lib.hid hx2
              clear hx1 hx2 HS HZE
              by_cases hlt : k < l.length
              · have t1 : decide ((k : Int) < (l.length : Int)) = true := by rw [decide_eq_true_eq]; omega
                have t1' : decide (k < l.length) = true := by simpa using hlt
                have e5 : Z6.1.cell? ⟨g5, k, none⟩ = some (.int .i64 (wy k)) := Z6.2.cell (by show ¬ g5 = g; omega) (HRW.out.cell hlt)
                have e6 : Z6.1.cell? ⟨g, k * 5 + 4, none⟩ = some (.int .i64 0) := by
                  have h6 := HX1.out.cells (g := g) rfl (k * 5 + 4) (.int .i64 0) (by rw [HX2.out k hlt 4 (by omega), if_neg (by omega)]; rfl)
                  rwa [addr_add0] at h6
                have f6 : Z6.1.frozen? ⟨g, k * 5 + 4, none⟩ = false := World.ownsRow.frozenAt HX1.out (k * 5 + 4)
                obtain ⟨hs1, hs2⟩ := HX1.out.stored (k * 5 + 4) (.int .i64 (wy k))
                have HS2 := Lib.hid hs1
                have HZ7 : Hid (∃ Y : ExtO (fun b => b = g) w6, Z6.1.setCell ⟨g, k * 5 + 4, none⟩ (.int .i64 (wy k)) = Y.1) := Lib.hid ⟨⟨_, Z6.2.grown hs2 (fun q hq _ => by injection hq with hq; exact hq.symm)⟩, rfl⟩
                clear hs1 hs2
                go_wp2_with fail
                go_roundw
                case rel =>
                  refine ⟨k + 1, by go_num, by omega, Lib.hid ⟨_, HS2.out, fun i hi j hj => ?_⟩, HZ7⟩
                  have hlx : xs.length = l.length * 5 := HX1.out.1
                  rw [List.getElem?_set]
                  by_cases e : k * 5 + 4 = i * 5 + j
                  · obtain rfl : i = k := by omega
                    obtain rfl : j = 4 := by omega
                    rw [if_pos rfl, if_pos (by omega), if_pos (by omega)]
                    rfl
                  · rw [if_neg e, HX2.out i hi j hj]
                    by_cases e2 : i = k
                    · subst e2
                      exact pcellW_low _ _ _ _ _ (by omega)
                    · by_cases e3 : i < k
                      · rw [if_pos e3, if_pos (by omega)]
                      · rw [if_neg e3, if_neg (by omega)]
                case measure => simp [intOf]; omega
              · have t1 : decide ((k : Int) < (l.length : Int)) = false := by rw [decide_eq_false_iff_not]; omega
                have t1' : decide (k < l.length) = false := by simpa using hlt
                obtain rfl : k = l.length := by omega
                clear hlt
                go_wp2_with fail
                go_ret
                rw [HL0.out]
                refine ⟨g, cap, rfl, by omega, ⟨fun _ => ⟨g, 0, rfl, (HX1.out.lt g rfl).2, fun i hi j hj => ?_⟩⟩, Kept.below HW6.out Z6.2 hs6 (fun q hq => by omega)⟩
                obtain ⟨u, hu⟩ := pcellW_some un slot (pget l i) (wy i) hj
                have h6 := HX1.out.cells (g := g) rfl (i * 5 + j) u (by rw [HX2.out i hi j hj, if_pos hi, hu])
                rw [addr_add0] at h6
                rw [Nat.zero_add, HWY.out, hu]
                exact h6
end Go.Proofs.Ytbkpoepacjinlaa
