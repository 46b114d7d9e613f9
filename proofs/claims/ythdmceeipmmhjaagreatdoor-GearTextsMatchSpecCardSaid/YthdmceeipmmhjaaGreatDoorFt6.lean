/- Several texts of this claim in one. -/
import Derived.Test.YthdmceeipmmhjaaGreatDoorFt5
import Derived.Test.YthdmceeipmmhjaaGreatDoorFt3
/- Gear: a line is read (program). (printed by gen_line.py) -/
namespace Go.Proofs.YthdmceeipmmhjaaGreatDoor
open Go.RowKit Go.BigFrame
open Txt

/-- what readLine does -/
def RdL (gb : Nat) (w : World) (acc : List Ln) (ol : Option Ln) (e : Ending) (w' : World) : Prop :=
  ∃ k : Int, e = .returned (.int .i64 k) ∧ Below gb w w' ∧ (∃ a b c d, w'.heap[gb]? = some (.cells #[a, b, c, d] 27 (0, 0))) ∧ (ol = none → k = 0) ∧
    ∀ ln, ol = some ln → k = ln.kind ∧ ∃ vP vS vM vU, GSt gb w' (acc ++ [ln]) vP vS vM vU
theorem RdL.bad {gb : Nat} {w w' : World} {acc : List Ln} {vP vS vM vU : Value} {k : Int} (h : GSt gb w acc vP vS vM vU) (hb : Below w.heap.size w w') (hk : k = 0) : RdL gb w acc none (.returned (.int .i64 k)) w' :=
  ⟨k, rfl, hb.mono (Nat.le_of_lt h.lt), ⟨_, _, _, _, below_block hb h.b⟩, fun _ => hk, fun ln e => by cases e⟩
theorem contains_any (ws : List ByteArray) : Lib.containsS (ws.take ws.length) ⟨#[]⟩ = anyE ws := by
  rw [List.take_length, Bool.eq_iff_iff, Lib.containsS_iff]
  unfold anyE
  rw [List.any_eq_true]
  constructor
  · intro h
    exact ⟨_, h, by simp⟩
  · rintro ⟨x, h1, h2⟩
    rw [of_decide_eq_true h2] at h1
    exact h1
theorem cells_set {w : World} {b i : Nat} {cs : Array Value} {T : TypeId} {fz : Nat × Nat} {v : Value} (h : w.heap[b]? = some (.cells cs T fz)) : (w.setCell ⟨b, i, none⟩ v).heap[b]? = some (.cells (cs.setIfInBounds i v) T fz) := by
  simp [World.setCell, Array.getElem?_modify, h]
theorem len3 {ws : List ByteArray} (h : ws.length = 3) : ∃ a b c, ws = [a, b, c] := by
  match ws, h with
  | [a, b, c], _ => exact ⟨a, b, c, rfl⟩
theorem len5 {ws : List ByteArray} (h : ws.length = 5) : ∃ a b c d e, ws = [a, b, c, d, e] := by
  match ws, h with
  | [a, b, c, d, e], _ => exact ⟨a, b, c, d, e, rfl⟩
theorem len6 {ws : List ByteArray} (h : ws.length = 6) : ∃ a b c d e f, ws = [a, b, c, d, e, f] := by
  match ws, h with
  | [a, b, c, d, e, f], _ => exact ⟨a, b, c, d, e, f, rfl⟩
theorem RdL.no {gb : Nat} {w w' : World} {acc : List Ln} {x y z u : Value} (hbl : Below gb w w') (hb : w'.heap[gb]? = some (.cells #[x, y, z, u] 27 (0, 0))) : RdL gb w acc none (.returned (.int .i64 0)) w' :=
  ⟨0, rfl, hbl, ⟨_, _, _, _, hb⟩, fun _ => rfl, fun ln e => by cases e⟩
theorem RdL.yes {gb : Nat} {w w' : World} {acc : List Ln} {x y z u : Value} {ln : Ln} {k : Int} (hbl : Below gb w w') (h : GSt gb w' (acc ++ [ln]) x y z u) (hk : k = ln.kind) : RdL gb w acc (some ln) (.returned (.int .i64 k)) w' :=
  ⟨k, rfl, hbl, ⟨_, _, _, _, h.b⟩, (fun e => by cases e), fun ln' e => by injection e with e; subst e; exact ⟨hk, _, _, _, _, h⟩⟩
theorem some_of {α : Type} {o : Option α} (h : o.isSome = true) : ∃ v, o = some v := by
  cases o with
  | none => cases h
  | some v => exact ⟨v, rfl⟩
theorem none_of {α : Type} {o : Option α} (h : o.isSome = false) : o = none := by
  cases o with
  | none => rfl
  | some v => cases h
theorem RdL.P {gb okb : Nat} {w W3 W9 : World} {acc : List Ln} {vP vS vM vU v9 : Value} (h3 : GSt gb W3 acc vP vS vM vU) (hk : Kept (Oth gb okb vP) W3 W9) {co : Array Value} {fz : Nat × Nat} (hok : W3.heap[okb]? = some (.cells co 4 fz))
    (hb : W9.heap[gb]? = some (.cells #[v9, vS, vM, vU] 27 (0, 0))) (hbl : Below gb w W9) (a b : ByteArray) (n1 : Int) (h1 : ∀ v, numG b = some v → n1 = v) (ho : W9.ownsRow gb 43 2 v9 (nP acc + 1) (cP acc ++ [Value.string a, .int .i64 n1])) (r : Bool) (hr : (true && (numG b).isSome) = r) {kk : Int} (hkk : kk = if r = true then 1 else 0) : RdL gb w acc ((numG b).map (Ln.part a)) (.returned (.int .i64 kk)) W9 := by
  subst hkk
  cases r with
  | false =>
    rw [none_of (o := numG b) (by simpa using hr)]
    exact RdL.no hbl hb
  | true =>
    obtain ⟨v, hv⟩ := some_of (show (numG b).isSome = true by simpa using hr)
    rw [hv, ← h1 v hv]
    exact RdL.yes hbl (h3.addP hk hok hb a n1 ho) rfl
theorem RdL.S {gb okb : Nat} {w W3 W9 : World} {acc : List Ln} {vP vS vM vU v9 : Value} (h3 : GSt gb W3 acc vP vS vM vU) (hk : Kept (Oth gb okb vS) W3 W9) {co : Array Value} {fz : Nat × Nat} (hok : W3.heap[okb]? = some (.cells co 4 fz))
    (hb : W9.heap[gb]? = some (.cells #[vP, v9, vM, vU] 27 (0, 0))) (hbl : Below gb w W9) (a b : ByteArray)  (ho : W9.ownsRow gb 50 2 v9 (nS acc + 1) (cS acc ++ [Value.string a, .string b])) (r : Bool) (hr : true = r) {kk : Int} (hkk : kk = if r = true then 2 else 0) : RdL gb w acc (some (Ln.slot a b)) (.returned (.int .i64 kk)) W9 := by
  subst hkk
  subst hr
  exact RdL.yes hbl (h3.addS hk hok hb a b ho) rfl
theorem RdL.U {gb okb : Nat} {w W3 W9 : World} {acc : List Ln} {vP vS vM vU v9 : Value} (h3 : GSt gb W3 acc vP vS vM vU) (hk : Kept (Oth gb okb vU) W3 W9) {co : Array Value} {fz : Nat × Nat} (hok : W3.heap[okb]? = some (.cells co 4 fz))
    (hb : W9.heap[gb]? = some (.cells #[vP, vS, vM, v9] 27 (0, 0))) (hbl : Below gb w W9) (a b c d e : ByteArray) (n1 n2 n3 : Int) (h1 : ∀ v, numG c = some v → n1 = v) (h2 : ∀ v, numG d = some v → n2 = v) (h3' : ∀ v, numG e = some v → n3 = v) (ho : W9.ownsRow gb 54 5 v9 (nU acc + 1) (cU acc ++ [Value.string a, .string b, .int .i64 n1, .int .i64 n2, .int .i64 n3])) (r : Bool) (hr : (((true && (numG c).isSome) && (numG d).isSome) && (numG e).isSome) = r) {kk : Int} (hkk : kk = if r = true then 4 else 0) : RdL gb w acc ((numG c).bind fun f => (numG d).bind fun s => (numG e).map fun w => Ln.use a b f s w) (.returned (.int .i64 kk)) W9 := by
  subst hkk
  cases r with
  | false =>
    have hn : ((numG c).bind fun f => (numG d).bind fun s => (numG e).map fun w => Ln.use a b f s w) = none := by
      cases hc : numG c with
      | none => rfl
      | some x =>
        cases hd : numG d with
        | none => rfl
        | some y =>
          cases he : numG e with
          | none => rfl
          | some z => rw [hc, hd, he] at hr; cases hr
    rw [hn]
    exact RdL.no hbl hb
  | true =>
    simp only [Bool.true_and, Bool.and_eq_true] at hr
    obtain ⟨x, hx⟩ := some_of hr.1.1
    obtain ⟨y, hy⟩ := some_of hr.1.2
    obtain ⟨z, hz⟩ := some_of hr.2
    rw [hx, hy, hz, ← h1 x hx, ← h2 y hy, ← h3' z hz]
    exact RdL.yes hbl (h3.addU hk hok hb a b n1 n2 n3 ho) rfl
theorem RdL.M {gb okb : Nat} {w W3 W9 : World} {acc : List Ln} {vP vS vM vU v9 : Value} (h3 : GSt gb W3 acc vP vS vM vU) (hk : Kept (Oth gb okb vM) W3 W9) {co : Array Value} {fz : Nat × Nat} (hok : W3.heap[okb]? = some (.cells co 4 fz))
    (hb : W9.heap[gb]? = some (.cells #[vP, vS, v9, vU] 27 (0, 0))) (hbl : Below gb w W9) (a b c d : ByteArray) (n1 n2 : Int) (h1 : ∀ v, numG c = some v → n1 = v) (h2 : ∀ v, toG d = some v → n2 = v) (ho : W9.ownsRow gb 52 4 v9 (nM acc + 1) (cM acc ++ [Value.string a, .string b, .int .i64 n1, .int .i64 n2])) (r : Bool) (hr : ((true && (numG c).isSome) && (toG d).isSome) = r) {kk : Int} (hkk : kk = if r = true then 3 else 0) : RdL gb w acc ((numG c).bind fun f => (toG d).map fun t => Ln.mnt a b f t) (.returned (.int .i64 kk)) W9 := by
  subst hkk
  cases r with
  | false =>
    have hn : ((numG c).bind fun f => (toG d).map fun t => Ln.mnt a b f t) = none := by
      cases hc : numG c with
      | none => rfl
      | some x =>
        cases hd : toG d with
        | none => rfl
        | some y => rw [hc, hd] at hr; cases hr
    rw [hn]
    exact RdL.no hbl hb
  | true =>
    simp only [Bool.true_and, Bool.and_eq_true] at hr
    obtain ⟨x, hx⟩ := some_of hr.1
    obtain ⟨y, hy⟩ := some_of hr.2
    rw [hx, hy, ← h1 x hx, ← h2 y hy]
    exact RdL.yes hbl (h3.addM hk hok hb a b n1 n2 ho) rfl
set_option maxHeartbeats 8000000 in
set_option maxRecDepth 100000 in
theorem readLine_any (gb : Nat) (acc : List Ln) (vP vS vM vU : Value) (s : ByteArray) (w : World) (h : GSt gb w acc vP vS vM vU) (hg : Glo w) (hs : s.size ≤ 1000000) (hacc : acc.length ≤ 1000000) :
    Calls Tryz.prog 18 #[.pointer (some ⟨gb, 0, none⟩), .string s] w fun e w' => RdL gb w acc (lineOf (wordsB s)) e w' := by
  obtain ⟨mx, hmx⟩ := hg.m
  have DSP := Lib.hid (Tryz.strings_Split s ⟨#[32]⟩ mx w (by omega) hmx (by decide))
  rw [← words_len s, show Lib.splitB ⟨#[32]⟩ 0 (Lib.countB s ⟨#[32]⟩) s = wordsB s from rfl] at DSP
  have hwl := words_len s
  have HSZ := Lib.hid (fun (x : ByteArray) (hx : x ∈ wordsB s) => Nat.le_trans (words_le hx) hs)
  have hcnt := Lib.countB_le ⟨#[32]⟩ (by decide) s.size s (Nat.le_refl _)
  have hn1 : 1 ≤ (wordsB s).length := by omega
  have hnl : (wordsB s).length ≤ 1000001 := by omega
  obtain ⟨ws, hws⟩ : ∃ ws, wordsB s = ws := ⟨_, rfl⟩
  rw [hws] at DSP HSZ hn1 hnl ⊢
  clear hwl hcnt hws hmx
  have HG := Lib.hid hg
  have HS := Lib.hid h
  have hgl := h.lt
  obtain ⟨W1, hW1, hb1, hs1, hq1⟩ := alloc_block w (ws.map Value.string).toArray 9
  rw [hW1] at DSP
  have HB1 := Lib.hid hb1
  have HWC := Lib.hid (fun (W : World) (hW : Below W1.heap.size W1 W) (j : Nat) (x : ByteArray) (hx : ws[j]? = some x) => below_cell hW (show W1.cell? ⟨w.heap.size, 0 + j, none⟩ = some (.string x) from block_cell hq1 (by rw [List.getElem?_toArray, List.getElem?_map, Nat.zero_add, hx]; rfl)))
  have DC := Lib.hid (Tryz.slices_Contains_string w.heap.size 0 ws.length ws.length ws ⟨#[]⟩ W1 (Nat.le_refl _) (by omega) (fun j hj => by
    refine HWC.out W1 (Below.refl _ _) j _ ?_
    rw [List.getElem?_eq_getElem hj, List.getD_eq_getElem?_getD, List.getElem?_eq_getElem hj]
    rfl))
  rw [contains_any] at DC
  have HLO := Lib.hid (show lineOf ws = if anyE ws = true then none else recOf ws from rfl)
  clear hg h hq1 hW1 hb1
  have hl := n_le acc
  by_cases hE : anyE ws = true
  case pos =>
    rw [hE] at DC
    have HX : Hid (lineOf ws = none) := Lib.hid (by rw [HLO.out, if_pos hE])
    clear hE
    rw [HX.out]
    go_enter Tryz.func18, Tryz.ntmps18
    go_wp2_with (first | (go_at_call 19; refine DSP.out.mono ?_; rintro e w2 ⟨rfl, rfl⟩) | (go_at_call 42; refine DC.out.mono ?_; rintro e w3 ⟨rfl, rfl⟩))
    go_ret
    exact RdL.bad HS.out HB1.out rfl
  have hEf : anyE ws = false := by simpa using hE
  rw [hEf] at DC
  have HX : Hid (lineOf ws = recOf ws) := Lib.hid (by rw [HLO.out, if_neg hE])
  rw [HX.out]
  clear hE hEf HLO HX
  obtain ⟨W3, hW3, hb3, hs3, hq3⟩ := alloc_block W1 #[.bool true] 4
  have HW3 := Lib.hid hW3
  have HB3 := Lib.hid (below_step HB1.out hb3)
  have HQ3 := Lib.hid hq3
  have HS3 := Lib.hid (HS.out.below HB3.out)
  have HG3 := Lib.hid (HG.out.below HB3.out)
  have HWC3 := Lib.hid (fun (j : Nat) (x : ByteArray) (hx : ws[j]? = some x) => HWC.out W3 hb3 j x hx)
  clear hW3 hb3 hq3 HWC
  go_enter Tryz.func18, Tryz.ntmps18
  go_upto_region 5 with (first | (go_at_call 19; refine DSP.out.mono ?_; rintro e w2 ⟨rfl, rfl⟩) | (go_at_call 42; refine DC.out.mono ?_; rintro e w3 ⟨rfl, rfl⟩))
  rw [HW3.out]
  rw [hs1] at HQ3
  obtain ⟨w0, hw0⟩ : ∃ x, ws[0]? = some x := ⟨_, List.getElem?_eq_getElem (show 0 < ws.length by omega)⟩
  have k0 : W3.cell? ⟨w.heap.size, 0, none⟩ = some (.string w0) := HWC3.out 0 w0 hw0
  clear DSP DC HW3 hs3
  have hnn : (0 : Int) < (ws.length : Int) := by omega
  go_upto_region 5 with (fail)
  go_cut [13] from 9 to 146 (fun cv wx => cv = .bool (decide (w0 = kPart ∧ ws.length = 3)) ∧ W3 = wx)
  case first =>
    have hse : (w0.toList == [112, 97, 114, 116]) = decide (w0 = kPart) := by
      have h0 := str_eq w0 kPart
      rwa [show kPart.toList = [112, 97, 114, 116] by rw [ByteArray.toList_eq]; rfl] at h0
    by_cases e0 : w0 = kPart
    · rw [decide_eq_true e0] at hse
      by_cases el : ws.length = 3
      · have t1 : ((ws.length : Int) == 3) = true := by rw [el]; rfl
        have t1' : (ws.length == 3) = true := by rw [el]; rfl
        have HR : Hid (decide (w0 = kPart ∧ ws.length = 3) = true) := Lib.hid (decide_eq_true ⟨e0, el⟩)
        clear e0 el
        go_wp2_with fail
        go_meet
        case rel => exact ⟨by rw [HR.out], rfl⟩
      · have t1 : ((ws.length : Int) == 3) = false := by rw [beq_eq_false_iff_ne]; omega
        have t1' : (ws.length == 3) = false := by rw [beq_eq_false_iff_ne]; omega
        have HR : Hid (decide (w0 = kPart ∧ ws.length = 3) = false) := Lib.hid (decide_eq_false fun x => el x.2)
        clear e0 el
        go_wp2_with fail
        go_meet
        case rel => exact ⟨by rw [HR.out], rfl⟩
    · rw [decide_eq_false e0] at hse
      have HR : Hid (decide (w0 = kPart ∧ ws.length = 3) = false) := Lib.hid (decide_eq_false fun x => e0 x.1)
      clear e0
      go_wp2_with fail
      go_meet
      case rel => exact ⟨by rw [HR.out], rfl⟩
  case rest =>
  obtain ⟨rfl, rfl⟩ := hcut
  by_cases hA : w0 = kPart ∧ ws.length = 3
  · rw [decide_eq_true hA]
    obtain ⟨e0, el⟩ := hA
    obtain ⟨x0, a, b, rfl⟩ := len3 el
    obtain rfl : x0 = w0 := by simpa using hw0
    subst e0
    clear el hw0 hnn hn1 hnl
    have HRC : Hid (recOf [kPart, a, b] = (numG b).map (Ln.part a)) := Lib.hid (by simp [recOf])
    have hno : ¬ Oth gb (w.heap.size + 1) vP w.heap.size := fun e => by
      rcases e with e | e | e
      · omega
      · omega
      · have := (HS.out.oP.lt _ e).2
        omega
    have Fa : ∀ Z : ExtO (Oth gb (w.heap.size + 1) vP) W3, Z.1.cell? ⟨w.heap.size, 1, none⟩ = some (.string a) := ExtO.ex hno (by have := HWC3.out 1 a rfl; simpa using this)
    have Fb : ∀ Z : ExtO (Oth gb (w.heap.size + 1) vP) W3, Z.1.cell? ⟨w.heap.size, 2, none⟩ = some (.string b) := ExtO.ex hno (by have := HWC3.out 2 b rfl; simpa using this)
    have hzb : b.size ≤ 1000000 := HSZ.out b (by simp)
    obtain ⟨i0, hi0, hzi0, hzi1, hzi2⟩ := info_parts (show (Tryz.prog.info? 43).map (fun i => (i.zero, i.size, i.bytes)) = some (some (.agg #[.string ⟨#[]⟩, .int .i64 0]), 2, 24) by kernel_rfl)
    have HI0 := Lib.hid hi0
    have HZI0 := Lib.hid hzi0
    have HZI1 := Lib.hid hzi1
    have HZI2 := Lib.hid hzi2
    have HU := Lib.hid (show Tryz.prog.underlying 22 = some (.slice 43) by kernel_rfl)
    clear hi0 hzi0 hzi1 hzi2
    clear HSZ HWC3 k0
    go_upto_region 7 with (fail)
    refine held_start (C := fun w' => ∃ Z : ExtO (Oth gb (w.heap.size + 1) vP) W3, w' = Z.1) (by kernel_rfl) ?_
    obtain ⟨Z0, hZ0, hz0⟩ : ∃ Z : ExtO (Oth gb (w.heap.size + 1) vP) W3, ({ W3 with drawn := W3.drawn + 1 } : World) = Z.1 ∧ Below W3.heap.size W3 Z.1 := ⟨⟨{ W3 with drawn := W3.drawn + 1 }, ⟨rfl, rfl, rfl, Nat.le_refl _, fun _ _ _ => rfl⟩⟩, rfl, ⟨rfl, rfl, rfl, Nat.le_refl _, fun _ _ => rfl⟩⟩
    rw [hZ0]
    have HBZ0 := Lib.hid (HB3.out.trans (hz0.mono HB3.out.size))
    have HOK0 := Lib.hid (below_block hz0 HQ3.out)
    clear hZ0 hz0
    refine held_quiet2 (by kernel_rfl) (fun _ _ d _ _ h => by cases d <;> exact h) ⟨Z0, rfl⟩ [0, 1, 2, 3, 5, 6, 7, 8, 9, 10] 8 _ _ (by kernel_rfl) ?_
    change wpQuiet _ _ _ _ (_ :: _ :: _ :: _ :: _ :: _ :: _ :: _ :: _ :: _ :: []) _
    repeat go_big_quiet_step (fail)
    refine wpQuiet_nil ?_
    refine held_two (i := 4) (j := 11) _ _ rfl rfl (by kernel_rfl) rfl rfl (fun K hK => ?_) (fun K hK => ?_)
    · have g0 : Z0.1.cell? ⟨gb, 0, none⟩ = some vP := block_cell (below_block HBZ0.out HS.out.b) rfl
      go_simp
      refine hK _ _ ⟨Z0, rfl⟩ ?_
      clear hK K g0
      try simp only [Act.put, List.setIfInBounds_toArray, List.set_cons_zero, List.set_cons_succ]
      refine held_do (i := 11) _ rfl (by kernel_rfl) rfl (fun K hK => ?_)
      go_simp
      refine (number_any b (w.heap.size + 1) true Z0.1 HOK0.out (HG.out.below HBZ0.out) hzb).mono ?_
      rintro e w' ⟨n1, rfl, hn, hok, hkk⟩
      obtain ⟨r1, hr⟩ : ∃ x, (true && (numG b).isSome) = x := ⟨_, rfl⟩
      rw [hr] at hok
      obtain ⟨Z1, rfl⟩ : ∃ Z : ExtO (Oth gb (w.heap.size + 1) vP) W3, w' = Z.1 := ⟨⟨w', Z0.2.trans (hkk.weaken2 fun k e => Or.inr (Or.inl e))⟩, rfl⟩
      have HBZ1 := Lib.hid (Kept.below HBZ0.out hkk HBZ0.out.size (fun b hb e => by omega))
      have HOK1 := Lib.hid hok
      have HN1 := Lib.hid hn
      have HR1 := Lib.hid hr
      refine hK _ _ ⟨Z1, rfl⟩ ?_
      clear hK K hn hok hkk hr
      try simp only [Act.put, List.setIfInBounds_toArray, List.set_cons_zero, List.set_cons_succ]
      refine held_quiet2 (by kernel_rfl) (fun _ _ d _ _ h => by cases d <;> exact h) ⟨Z1, rfl⟩ [12] 5 _ _ (by kernel_rfl) ?_
      change wpQuiet _ _ _ _ (_ :: []) _
      go_big_quiet_step (fail)
      refine wpQuiet_nil ?_
      refine held_do (i := 13) _ rfl (by kernel_rfl) rfl (fun K hK => ?_)
      go_simp
      obtain ⟨Wb, hWb, hwb1, hwb2, hwq⟩ := alloc_block Z1.1 #[.string a, .int .i64 n1] 43
      rw [hWb]
      obtain ⟨Z2, rfl⟩ : ∃ Z : ExtO (Oth gb (w.heap.size + 1) vP) W3, Wb = Z.1 := ⟨⟨Wb, Z1.2.trans (Kept.of_below hwb1)⟩, rfl⟩
      have HBZ2 := Lib.hid (HBZ1.out.trans (hwb1.mono HBZ1.out.size))
      have HOK2 := Lib.hid (below_block hwb1 HOK1.out)
      have HWQ := Lib.hid hwq
      have hbsl : Z1.1.heap.size < Z2.1.heap.size := by omega
      refine hK _ _ ⟨Z2, rfl⟩ ?_
      clear hWb hwb1 hwq hK K
      try simp only [Act.put, List.setIfInBounds_toArray, List.set_cons_zero, List.set_cons_succ]
      refine held_do (i := 14) _ rfl (by kernel_rfl) rfl (fun K hK => ?_)
      have hown := ownsRow_below HS.out.oP HBZ2.out
      refine wp_append_lies Z2.1 (.tmp 27) (.tmp 36) 22 rfl gb 43 i0 (.agg #[.string ⟨#[]⟩, .int .i64 0]) 2 24 HU.out HI0.out HZI0.out HZI1.out HZI2.out rfl (by decide) vP (nP acc) (cP acc) rfl hown ⟨Z1.1.heap.size, 0, none⟩ 1 1 [.string a, .int .i64 n1] rfl rfl (fun j u hu => by rw [addr_add0]; exact block_cell HWQ.out (by simpa using hu)) (fun u hu => by simp only [List.mem_cons, List.not_mem_nil, or_false] at hu; rcases hu with rfl | rfl <;> rfl) (by omega) (by unfold maxLen; omega) (by omega) (Nat.le_trans (Nat.le_of_lt hgl) HBZ2.out.size) _ rfl (fun g6 cap6 w6 hown6 hg6 hat6 hlt6 => ?_)
      have hgb6 : w6.heap[gb]? = some (.cells #[vP, vS, vM, vU] 27 (0, 0)) := (hg6.block gb (Nat.lt_of_lt_of_le hgl HBZ2.out.size) (fun e => own_apart hown (below_block HBZ2.out HS.out.b) (by decide) e.symm)).trans (below_block HBZ2.out HS.out.b)
      have hok6 : w6.heap[w.heap.size + 1]? = some (.cells #[.bool r1] 4 (0, 0)) := (hg6.block _ (lt_of_block HOK2.out) (fun e => own_apart hown HOK2.out (by decide) e.symm)).trans HOK2.out
      obtain ⟨Y6, rfl⟩ : ∃ Z : ExtO (Oth gb (w.heap.size + 1) vP) W3, w6 = Z.1 := ⟨⟨w6, Z2.2.grown hg6 (fun q hq _ => Or.inr (Or.inr hq))⟩, rfl⟩
      have HGB6 := Lib.hid hgb6
      have HOK6 := Lib.hid hok6
      have HO6 := Lib.hid hown6
      refine hK _ _ ⟨Y6, rfl⟩ ?_
      clear hg6 hat6 hlt6 hown6 hgb6 hok6 hK K hown
      try simp only [Act.put, List.setIfInBounds_toArray, List.set_cons_zero, List.set_cons_succ]
      refine held_quiet2 (by kernel_rfl) (fun _ _ d _ _ h => by cases d <;> exact h) ⟨Y6, rfl⟩ [15, 16] 1 _ _ (by kernel_rfl) ?_
      change wpQuiet _ _ _ _ (_ :: _ :: []) _
      repeat go_big_quiet_step (fail)
      refine wpQuiet_nil ?_
      have y0 : Y6.1.cell? ⟨gb, 0, none⟩ = some vP := block_cell HGB6.out rfl
      have y1 : Y6.1.frozen? ⟨gb, 0, none⟩ = false := Lib.frozen_of_heap HGB6.out 0
      obtain ⟨W9, hW9⟩ : ∃ W, Y6.1.setCell ⟨gb, 0, none⟩ (.slice (some ⟨g6, 0, none⟩) (nP acc + 1) cap6) = W := ⟨_, rfl⟩
      have hb9 : W9.heap[gb]? = some (.cells #[(.slice (some ⟨g6, 0, none⟩) (nP acc + 1) cap6), vS, vM, vU] 27 (0, 0)) := by rw [← hW9]; exact cells_set HGB6.out
      have hk9 : Kept (fun k => k = gb) Y6.1 W9 := by rw [← hW9]; exact kept_set1
      have hok9 : W9.heap[w.heap.size + 1]? = some (.cells #[.bool r1] 4 (0, 0)) := (hk9.block _ (lt_of_block HOK6.out) (by omega)).trans HOK6.out
      have HO9 := Lib.hid (own_kept HO6.out hk9 (fun g hg e => by subst e; exact own_apart HO6.out HGB6.out (by decide) hg))
      have HK9 := Lib.hid (Y6.2.trans (hk9.weaken2 fun k e => Or.inl e))
      have HB9 := Lib.hid hb9
      have HBL9 := Lib.hid (Kept.below (HB3.out.mono (Nat.le_of_lt hgl)) HK9.out (Nat.le_trans (Nat.le_of_lt hgl) HB3.out.size) (fun k hk e => by
        rcases e with e | e | e
        · omega
        · omega
        · have := (HS.out.oP.lt k e).1
          omega))
      have c9 : W9.cell? ⟨w.heap.size + 1, 0, none⟩ = some (.bool r1) := block_cell hok9 rfl
      refine held_do (i := 17) _ rfl (by kernel_rfl) rfl (fun K hK => ?_)
      go_simp
      try rw [hW9]
      refine hK _ _ ⟨⟨W9, HK9.out⟩, rfl⟩ ?_
      clear hK K y0 y1 hb9 hk9 hok9
      try simp only [Act.put, List.setIfInBounds_toArray, List.set_cons_zero, List.set_cons_succ]
      refine wpAnyH_done (by kernel_rfl) ?_ _
      cases r1
      · go_wp2_with fail
        go_ret
        rw [HRC.out]
        exact RdL.P (HS.out.below HB3.out) HK9.out HQ3.out HB9.out HBL9.out a b n1 HN1.out HO9.out false HR1.out rfl
      · go_wp2_with fail
        go_ret
        rw [HRC.out]
        exact RdL.P (HS.out.below HB3.out) HK9.out HQ3.out HB9.out HBL9.out a b n1 HN1.out HO9.out true HR1.out rfl
    · go_simp
      refine (number_any b (w.heap.size + 1) true Z0.1 HOK0.out (HG.out.below HBZ0.out) hzb).mono ?_
      rintro e w' ⟨n1, rfl, hn, hok, hkk⟩
      obtain ⟨r1, hr⟩ : ∃ x, (true && (numG b).isSome) = x := ⟨_, rfl⟩
      rw [hr] at hok
      obtain ⟨Z1, rfl⟩ : ∃ Z : ExtO (Oth gb (w.heap.size + 1) vP) W3, w' = Z.1 := ⟨⟨w', Z0.2.trans (hkk.weaken2 fun k e => Or.inr (Or.inl e))⟩, rfl⟩
      have HBZ1 := Lib.hid (Kept.below HBZ0.out hkk HBZ0.out.size (fun b hb e => by omega))
      have HOK1 := Lib.hid hok
      have HN1 := Lib.hid hn
      have HR1 := Lib.hid hr
      refine hK _ _ ⟨Z1, rfl⟩ ?_
      clear hK K hn hok hkk hr
      try simp only [Act.put, List.setIfInBounds_toArray, List.set_cons_zero, List.set_cons_succ]
      refine held_quiet2 (by kernel_rfl) (fun _ _ d _ _ h => by cases d <;> exact h) ⟨Z1, rfl⟩ [12] 6 _ _ (by kernel_rfl) ?_
      change wpQuiet _ _ _ _ (_ :: []) _
      go_big_quiet_step (fail)
      refine wpQuiet_nil ?_
      refine held_two (i := 4) (j := 13) _ _ rfl rfl (by kernel_rfl) rfl rfl (fun K hK => ?_) (fun K hK => ?_)
      · have g0 : Z1.1.cell? ⟨gb, 0, none⟩ = some vP := block_cell (below_block HBZ1.out HS.out.b) rfl
        go_simp
        refine hK _ _ ⟨Z1, rfl⟩ ?_
        clear hK K g0
        try simp only [Act.put, List.setIfInBounds_toArray, List.set_cons_zero, List.set_cons_succ]
        refine held_do (i := 13) _ rfl (by kernel_rfl) rfl (fun K hK => ?_)
        go_simp
        obtain ⟨Wb, hWb, hwb1, hwb2, hwq⟩ := alloc_block Z1.1 #[.string a, .int .i64 n1] 43
        rw [hWb]
        obtain ⟨Z2, rfl⟩ : ∃ Z : ExtO (Oth gb (w.heap.size + 1) vP) W3, Wb = Z.1 := ⟨⟨Wb, Z1.2.trans (Kept.of_below hwb1)⟩, rfl⟩
        have HBZ2 := Lib.hid (HBZ1.out.trans (hwb1.mono HBZ1.out.size))
        have HOK2 := Lib.hid (below_block hwb1 HOK1.out)
        have HWQ := Lib.hid hwq
        have hbsl : Z1.1.heap.size < Z2.1.heap.size := by omega
        refine hK _ _ ⟨Z2, rfl⟩ ?_
        clear hWb hwb1 hwq hK K
        try simp only [Act.put, List.setIfInBounds_toArray, List.set_cons_zero, List.set_cons_succ]
        refine held_do (i := 14) _ rfl (by kernel_rfl) rfl (fun K hK => ?_)
        have hown := ownsRow_below HS.out.oP HBZ2.out
        refine wp_append_lies Z2.1 (.tmp 27) (.tmp 36) 22 rfl gb 43 i0 (.agg #[.string ⟨#[]⟩, .int .i64 0]) 2 24 HU.out HI0.out HZI0.out HZI1.out HZI2.out rfl (by decide) vP (nP acc) (cP acc) rfl hown ⟨Z1.1.heap.size, 0, none⟩ 1 1 [.string a, .int .i64 n1] rfl rfl (fun j u hu => by rw [addr_add0]; exact block_cell HWQ.out (by simpa using hu)) (fun u hu => by simp only [List.mem_cons, List.not_mem_nil, or_false] at hu; rcases hu with rfl | rfl <;> rfl) (by omega) (by unfold maxLen; omega) (by omega) (Nat.le_trans (Nat.le_of_lt hgl) HBZ2.out.size) _ rfl (fun g6 cap6 w6 hown6 hg6 hat6 hlt6 => ?_)
        have hgb6 : w6.heap[gb]? = some (.cells #[vP, vS, vM, vU] 27 (0, 0)) := (hg6.block gb (Nat.lt_of_lt_of_le hgl HBZ2.out.size) (fun e => own_apart hown (below_block HBZ2.out HS.out.b) (by decide) e.symm)).trans (below_block HBZ2.out HS.out.b)
        have hok6 : w6.heap[w.heap.size + 1]? = some (.cells #[.bool r1] 4 (0, 0)) := (hg6.block _ (lt_of_block HOK2.out) (fun e => own_apart hown HOK2.out (by decide) e.symm)).trans HOK2.out
        obtain ⟨Y6, rfl⟩ : ∃ Z : ExtO (Oth gb (w.heap.size + 1) vP) W3, w6 = Z.1 := ⟨⟨w6, Z2.2.grown hg6 (fun q hq _ => Or.inr (Or.inr hq))⟩, rfl⟩
        have HGB6 := Lib.hid hgb6
        have HOK6 := Lib.hid hok6
        have HO6 := Lib.hid hown6
        refine hK _ _ ⟨Y6, rfl⟩ ?_
        clear hg6 hat6 hlt6 hown6 hgb6 hok6 hK K hown
        try simp only [Act.put, List.setIfInBounds_toArray, List.set_cons_zero, List.set_cons_succ]
        refine held_quiet2 (by kernel_rfl) (fun _ _ d _ _ h => by cases d <;> exact h) ⟨Y6, rfl⟩ [15, 16] 1 _ _ (by kernel_rfl) ?_
        change wpQuiet _ _ _ _ (_ :: _ :: []) _
        repeat go_big_quiet_step (fail)
        refine wpQuiet_nil ?_
        have y0 : Y6.1.cell? ⟨gb, 0, none⟩ = some vP := block_cell HGB6.out rfl
        have y1 : Y6.1.frozen? ⟨gb, 0, none⟩ = false := Lib.frozen_of_heap HGB6.out 0
        obtain ⟨W9, hW9⟩ : ∃ W, Y6.1.setCell ⟨gb, 0, none⟩ (.slice (some ⟨g6, 0, none⟩) (nP acc + 1) cap6) = W := ⟨_, rfl⟩
        have hb9 : W9.heap[gb]? = some (.cells #[(.slice (some ⟨g6, 0, none⟩) (nP acc + 1) cap6), vS, vM, vU] 27 (0, 0)) := by rw [← hW9]; exact cells_set HGB6.out
        have hk9 : Kept (fun k => k = gb) Y6.1 W9 := by rw [← hW9]; exact kept_set1
        have hok9 : W9.heap[w.heap.size + 1]? = some (.cells #[.bool r1] 4 (0, 0)) := (hk9.block _ (lt_of_block HOK6.out) (by omega)).trans HOK6.out
        have HO9 := Lib.hid (own_kept HO6.out hk9 (fun g hg e => by subst e; exact own_apart HO6.out HGB6.out (by decide) hg))
        have HK9 := Lib.hid (Y6.2.trans (hk9.weaken2 fun k e => Or.inl e))
        have HB9 := Lib.hid hb9
        have HBL9 := Lib.hid (Kept.below (HB3.out.mono (Nat.le_of_lt hgl)) HK9.out (Nat.le_trans (Nat.le_of_lt hgl) HB3.out.size) (fun k hk e => by
          rcases e with e | e | e
          · omega
          · omega
          · have := (HS.out.oP.lt k e).1
            omega))
        have c9 : W9.cell? ⟨w.heap.size + 1, 0, none⟩ = some (.bool r1) := block_cell hok9 rfl
        refine held_do (i := 17) _ rfl (by kernel_rfl) rfl (fun K hK => ?_)
        go_simp
        try rw [hW9]
        refine hK _ _ ⟨⟨W9, HK9.out⟩, rfl⟩ ?_
        clear hK K y0 y1 hb9 hk9 hok9
        try simp only [Act.put, List.setIfInBounds_toArray, List.set_cons_zero, List.set_cons_succ]
        refine wpAnyH_done (by kernel_rfl) ?_ _
        cases r1
        · go_wp2_with fail
          go_ret
          rw [HRC.out]
          exact RdL.P (HS.out.below HB3.out) HK9.out HQ3.out HB9.out HBL9.out a b n1 HN1.out HO9.out false HR1.out rfl
        · go_wp2_with fail
          go_ret
          rw [HRC.out]
          exact RdL.P (HS.out.below HB3.out) HK9.out HQ3.out HB9.out HBL9.out a b n1 HN1.out HO9.out true HR1.out rfl
      · go_simp
        obtain ⟨Wb, hWb, hwb1, hwb2, hwq⟩ := alloc_block Z1.1 #[.string a, .int .i64 n1] 43
        rw [hWb]
        obtain ⟨Z2, rfl⟩ : ∃ Z : ExtO (Oth gb (w.heap.size + 1) vP) W3, Wb = Z.1 := ⟨⟨Wb, Z1.2.trans (Kept.of_below hwb1)⟩, rfl⟩
        have HBZ2 := Lib.hid (HBZ1.out.trans (hwb1.mono HBZ1.out.size))
        have HOK2 := Lib.hid (below_block hwb1 HOK1.out)
        have HWQ := Lib.hid hwq
        have hbsl : Z1.1.heap.size < Z2.1.heap.size := by omega
        refine hK _ _ ⟨Z2, rfl⟩ ?_
        clear hWb hwb1 hwq hK K
        try simp only [Act.put, List.setIfInBounds_toArray, List.set_cons_zero, List.set_cons_succ]
        refine held_do (i := 4) _ rfl (by kernel_rfl) rfl (fun K hK => ?_)
        have g0 : Z2.1.cell? ⟨gb, 0, none⟩ = some vP := block_cell (below_block HBZ2.out HS.out.b) rfl
        go_simp
        refine hK _ _ ⟨Z2, rfl⟩ ?_
        clear hK K g0
        try simp only [Act.put, List.setIfInBounds_toArray, List.set_cons_zero, List.set_cons_succ]
        refine held_do (i := 14) _ rfl (by kernel_rfl) rfl (fun K hK => ?_)
        have hown := ownsRow_below HS.out.oP HBZ2.out
        refine wp_append_lies Z2.1 (.tmp 27) (.tmp 36) 22 rfl gb 43 i0 (.agg #[.string ⟨#[]⟩, .int .i64 0]) 2 24 HU.out HI0.out HZI0.out HZI1.out HZI2.out rfl (by decide) vP (nP acc) (cP acc) rfl hown ⟨Z1.1.heap.size, 0, none⟩ 1 1 [.string a, .int .i64 n1] rfl rfl (fun j u hu => by rw [addr_add0]; exact block_cell HWQ.out (by simpa using hu)) (fun u hu => by simp only [List.mem_cons, List.not_mem_nil, or_false] at hu; rcases hu with rfl | rfl <;> rfl) (by omega) (by unfold maxLen; omega) (by omega) (Nat.le_trans (Nat.le_of_lt hgl) HBZ2.out.size) _ rfl (fun g6 cap6 w6 hown6 hg6 hat6 hlt6 => ?_)
        have hgb6 : w6.heap[gb]? = some (.cells #[vP, vS, vM, vU] 27 (0, 0)) := (hg6.block gb (Nat.lt_of_lt_of_le hgl HBZ2.out.size) (fun e => own_apart hown (below_block HBZ2.out HS.out.b) (by decide) e.symm)).trans (below_block HBZ2.out HS.out.b)
        have hok6 : w6.heap[w.heap.size + 1]? = some (.cells #[.bool r1] 4 (0, 0)) := (hg6.block _ (lt_of_block HOK2.out) (fun e => own_apart hown HOK2.out (by decide) e.symm)).trans HOK2.out
        obtain ⟨Y6, rfl⟩ : ∃ Z : ExtO (Oth gb (w.heap.size + 1) vP) W3, w6 = Z.1 := ⟨⟨w6, Z2.2.grown hg6 (fun q hq _ => Or.inr (Or.inr hq))⟩, rfl⟩
        have HGB6 := Lib.hid hgb6
        have HOK6 := Lib.hid hok6
        have HO6 := Lib.hid hown6
        refine hK _ _ ⟨Y6, rfl⟩ ?_
        clear hg6 hat6 hlt6 hown6 hgb6 hok6 hK K hown
        try simp only [Act.put, List.setIfInBounds_toArray, List.set_cons_zero, List.set_cons_succ]
        refine held_quiet2 (by kernel_rfl) (fun _ _ d _ _ h => by cases d <;> exact h) ⟨Y6, rfl⟩ [15, 16] 1 _ _ (by kernel_rfl) ?_
        change wpQuiet _ _ _ _ (_ :: _ :: []) _
        repeat go_big_quiet_step (fail)
        refine wpQuiet_nil ?_
        have y0 : Y6.1.cell? ⟨gb, 0, none⟩ = some vP := block_cell HGB6.out rfl
        have y1 : Y6.1.frozen? ⟨gb, 0, none⟩ = false := Lib.frozen_of_heap HGB6.out 0
        obtain ⟨W9, hW9⟩ : ∃ W, Y6.1.setCell ⟨gb, 0, none⟩ (.slice (some ⟨g6, 0, none⟩) (nP acc + 1) cap6) = W := ⟨_, rfl⟩
        have hb9 : W9.heap[gb]? = some (.cells #[(.slice (some ⟨g6, 0, none⟩) (nP acc + 1) cap6), vS, vM, vU] 27 (0, 0)) := by rw [← hW9]; exact cells_set HGB6.out
        have hk9 : Kept (fun k => k = gb) Y6.1 W9 := by rw [← hW9]; exact kept_set1
        have hok9 : W9.heap[w.heap.size + 1]? = some (.cells #[.bool r1] 4 (0, 0)) := (hk9.block _ (lt_of_block HOK6.out) (by omega)).trans HOK6.out
        have HO9 := Lib.hid (own_kept HO6.out hk9 (fun g hg e => by subst e; exact own_apart HO6.out HGB6.out (by decide) hg))
        have HK9 := Lib.hid (Y6.2.trans (hk9.weaken2 fun k e => Or.inl e))
        have HB9 := Lib.hid hb9
        have HBL9 := Lib.hid (Kept.below (HB3.out.mono (Nat.le_of_lt hgl)) HK9.out (Nat.le_trans (Nat.le_of_lt hgl) HB3.out.size) (fun k hk e => by
          rcases e with e | e | e
          · omega
          · omega
          · have := (HS.out.oP.lt k e).1
            omega))
        have c9 : W9.cell? ⟨w.heap.size + 1, 0, none⟩ = some (.bool r1) := block_cell hok9 rfl
        refine held_do (i := 17) _ rfl (by kernel_rfl) rfl (fun K hK => ?_)
        go_simp
        try rw [hW9]
        refine hK _ _ ⟨⟨W9, HK9.out⟩, rfl⟩ ?_
        clear hK K y0 y1 hb9 hk9 hok9
        try simp only [Act.put, List.setIfInBounds_toArray, List.set_cons_zero, List.set_cons_succ]
        refine wpAnyH_done (by kernel_rfl) ?_ _
        cases r1
        · go_wp2_with fail
          go_ret
          rw [HRC.out]
          exact RdL.P (HS.out.below HB3.out) HK9.out HQ3.out HB9.out HBL9.out a b n1 HN1.out HO9.out false HR1.out rfl
        · go_wp2_with fail
          go_ret
          rw [HRC.out]
          exact RdL.P (HS.out.below HB3.out) HK9.out HQ3.out HB9.out HBL9.out a b n1 HN1.out HO9.out true HR1.out rfl
  rw [decide_eq_false hA]
  have HNP := Lib.hid hA
  clear hA
  go_upto_region 8 with (fail)
  go_cut [40] from 9 to 146 (fun cv wx => cv = .bool (decide (w0 = kSlot ∧ ws.length = 3)) ∧ W3 = wx)
  case first =>
    have hse : (w0.toList == [115, 108, 111, 116]) = decide (w0 = kSlot) := by
      have h0 := str_eq w0 kSlot
      rwa [show kSlot.toList = [115, 108, 111, 116] by rw [ByteArray.toList_eq]; rfl] at h0
    by_cases e0 : w0 = kSlot
    · rw [decide_eq_true e0] at hse
      by_cases el : ws.length = 3
      · have t1 : ((ws.length : Int) == 3) = true := by rw [el]; rfl
        have t1' : (ws.length == 3) = true := by rw [el]; rfl
        have HR : Hid (decide (w0 = kSlot ∧ ws.length = 3) = true) := Lib.hid (decide_eq_true ⟨e0, el⟩)
        clear e0 el
        go_wp2_with fail
        go_meet
        case rel => exact ⟨by rw [HR.out], rfl⟩
      · have t1 : ((ws.length : Int) == 3) = false := by rw [beq_eq_false_iff_ne]; omega
        have t1' : (ws.length == 3) = false := by rw [beq_eq_false_iff_ne]; omega
        have HR : Hid (decide (w0 = kSlot ∧ ws.length = 3) = false) := Lib.hid (decide_eq_false fun x => el x.2)
        clear e0 el
        go_wp2_with fail
        go_meet
        case rel => exact ⟨by rw [HR.out], rfl⟩
    · rw [decide_eq_false e0] at hse
      have HR : Hid (decide (w0 = kSlot ∧ ws.length = 3) = false) := Lib.hid (decide_eq_false fun x => e0 x.1)
      clear e0
      go_wp2_with fail
      go_meet
      case rel => exact ⟨by rw [HR.out], rfl⟩
  case rest =>
  obtain ⟨rfl, rfl⟩ := hcut
  by_cases hA : w0 = kSlot ∧ ws.length = 3
  · rw [decide_eq_true hA]
    obtain ⟨e0, el⟩ := hA
    obtain ⟨x0, a, b, rfl⟩ := len3 el
    obtain rfl : x0 = w0 := by simpa using hw0
    subst e0
    clear el hw0 hnn hn1 hnl
    have HRC : Hid (recOf [kSlot, a, b] = some (Ln.slot a b)) := Lib.hid (by simp [recOf, kSlot, kPart])
    have hno : ¬ Oth gb (w.heap.size + 1) vS w.heap.size := fun e => by
      rcases e with e | e | e
      · omega
      · omega
      · have := (HS.out.oS.lt _ e).2
        omega
    have Fa : ∀ Z : ExtO (Oth gb (w.heap.size + 1) vS) W3, Z.1.cell? ⟨w.heap.size, 1, none⟩ = some (.string a) := ExtO.ex hno (by have := HWC3.out 1 a rfl; simpa using this)
    have Fb : ∀ Z : ExtO (Oth gb (w.heap.size + 1) vS) W3, Z.1.cell? ⟨w.heap.size, 2, none⟩ = some (.string b) := ExtO.ex hno (by have := HWC3.out 2 b rfl; simpa using this)
    obtain ⟨i0, hi0, hzi0, hzi1, hzi2⟩ := info_parts (show (Tryz.prog.info? 50).map (fun i => (i.zero, i.size, i.bytes)) = some (some (.agg #[.string ⟨#[]⟩, .string ⟨#[]⟩]), 2, 32) by kernel_rfl)
    have HI0 := Lib.hid hi0
    have HZI0 := Lib.hid hzi0
    have HZI1 := Lib.hid hzi1
    have HZI2 := Lib.hid hzi2
    have HU := Lib.hid (show Tryz.prog.underlying 23 = some (.slice 50) by kernel_rfl)
    clear hi0 hzi0 hzi1 hzi2
    clear HSZ HWC3 k0
    go_upto_region 10 with (fail)
    refine held_start (C := fun w' => ∃ Z : ExtO (Oth gb (w.heap.size + 1) vS) W3, w' = Z.1) (by kernel_rfl) ?_
    obtain ⟨Z0, hZ0, hz0⟩ : ∃ Z : ExtO (Oth gb (w.heap.size + 1) vS) W3, ({ W3 with drawn := W3.drawn + 1 } : World) = Z.1 ∧ Below W3.heap.size W3 Z.1 := ⟨⟨{ W3 with drawn := W3.drawn + 1 }, ⟨rfl, rfl, rfl, Nat.le_refl _, fun _ _ _ => rfl⟩⟩, rfl, ⟨rfl, rfl, rfl, Nat.le_refl _, fun _ _ => rfl⟩⟩
    rw [hZ0]
    have HBZ0 := Lib.hid (HB3.out.trans (hz0.mono HB3.out.size))
    have HOK0 := Lib.hid (below_block hz0 HQ3.out)
    clear hZ0 hz0
    refine held_quiet2 (by kernel_rfl) (fun _ _ d _ _ h => by cases d <;> exact h) ⟨Z0, rfl⟩ [0, 1, 2, 3, 5, 6, 7, 8, 9, 10, 11] 6 _ _ (by kernel_rfl) ?_
    change wpQuiet _ _ _ _ (_ :: _ :: _ :: _ :: _ :: _ :: _ :: _ :: _ :: _ :: _ :: []) _
    repeat go_big_quiet_step (fail)
    refine wpQuiet_nil ?_
    refine held_two (i := 4) (j := 12) _ _ rfl rfl (by kernel_rfl) rfl rfl (fun K hK => ?_) (fun K hK => ?_)
    · have g0 : Z0.1.cell? ⟨gb, 1, none⟩ = some vS := block_cell (below_block HBZ0.out HS.out.b) rfl
      go_simp
      refine hK _ _ ⟨Z0, rfl⟩ ?_
      clear hK K g0
      try simp only [Act.put, List.setIfInBounds_toArray, List.set_cons_zero, List.set_cons_succ]
      refine held_do (i := 12) _ rfl (by kernel_rfl) rfl (fun K hK => ?_)
      go_simp
      obtain ⟨Wb, hWb, hwb1, hwb2, hwq⟩ := alloc_block Z0.1 #[.string a, .string b] 50
      rw [hWb]
      obtain ⟨Z1, rfl⟩ : ∃ Z : ExtO (Oth gb (w.heap.size + 1) vS) W3, Wb = Z.1 := ⟨⟨Wb, Z0.2.trans (Kept.of_below hwb1)⟩, rfl⟩
      have HBZ1 := Lib.hid (HBZ0.out.trans (hwb1.mono HBZ0.out.size))
      have HOK1 := Lib.hid (below_block hwb1 HOK0.out)
      have HWQ := Lib.hid hwq
      have hbsl : Z0.1.heap.size < Z1.1.heap.size := by omega
      refine hK _ _ ⟨Z1, rfl⟩ ?_
      clear hWb hwb1 hwq hK K
      try simp only [Act.put, List.setIfInBounds_toArray, List.set_cons_zero, List.set_cons_succ]
      refine held_do (i := 13) _ rfl (by kernel_rfl) rfl (fun K hK => ?_)
      have hown := ownsRow_below HS.out.oS HBZ1.out
      refine wp_append_lies Z1.1 (.tmp 54) (.tmp 62) 23 rfl gb 50 i0 (.agg #[.string ⟨#[]⟩, .string ⟨#[]⟩]) 2 32 HU.out HI0.out HZI0.out HZI1.out HZI2.out rfl (by decide) vS (nS acc) (cS acc) rfl hown ⟨Z0.1.heap.size, 0, none⟩ 1 1 [.string a, .string b] rfl rfl (fun j u hu => by rw [addr_add0]; exact block_cell HWQ.out (by simpa using hu)) (fun u hu => by simp only [List.mem_cons, List.not_mem_nil, or_false] at hu; rcases hu with rfl | rfl <;> rfl) (by omega) (by unfold maxLen; omega) (by omega) (Nat.le_trans (Nat.le_of_lt hgl) HBZ1.out.size) _ rfl (fun g6 cap6 w6 hown6 hg6 hat6 hlt6 => ?_)
      have hgb6 : w6.heap[gb]? = some (.cells #[vP, vS, vM, vU] 27 (0, 0)) := (hg6.block gb (Nat.lt_of_lt_of_le hgl HBZ1.out.size) (fun e => own_apart hown (below_block HBZ1.out HS.out.b) (by decide) e.symm)).trans (below_block HBZ1.out HS.out.b)
      have hok6 : w6.heap[w.heap.size + 1]? = some (.cells #[.bool true] 4 (0, 0)) := (hg6.block _ (lt_of_block HOK1.out) (fun e => own_apart hown HOK1.out (by decide) e.symm)).trans HOK1.out
      obtain ⟨Y6, rfl⟩ : ∃ Z : ExtO (Oth gb (w.heap.size + 1) vS) W3, w6 = Z.1 := ⟨⟨w6, Z1.2.grown hg6 (fun q hq _ => Or.inr (Or.inr hq))⟩, rfl⟩
      have HGB6 := Lib.hid hgb6
      have HOK6 := Lib.hid hok6
      have HO6 := Lib.hid hown6
      refine hK _ _ ⟨Y6, rfl⟩ ?_
      clear hg6 hat6 hlt6 hown6 hgb6 hok6 hK K hown
      try simp only [Act.put, List.setIfInBounds_toArray, List.set_cons_zero, List.set_cons_succ]
      refine held_quiet2 (by kernel_rfl) (fun _ _ d _ _ h => by cases d <;> exact h) ⟨Y6, rfl⟩ [14, 15] 1 _ _ (by kernel_rfl) ?_
      change wpQuiet _ _ _ _ (_ :: _ :: []) _
      repeat go_big_quiet_step (fail)
      refine wpQuiet_nil ?_
      have y0 : Y6.1.cell? ⟨gb, 1, none⟩ = some vS := block_cell HGB6.out rfl
      have y1 : Y6.1.frozen? ⟨gb, 1, none⟩ = false := Lib.frozen_of_heap HGB6.out 1
      obtain ⟨W9, hW9⟩ : ∃ W, Y6.1.setCell ⟨gb, 1, none⟩ (.slice (some ⟨g6, 0, none⟩) (nS acc + 1) cap6) = W := ⟨_, rfl⟩
      have hb9 : W9.heap[gb]? = some (.cells #[vP, (.slice (some ⟨g6, 0, none⟩) (nS acc + 1) cap6), vM, vU] 27 (0, 0)) := by rw [← hW9]; exact cells_set HGB6.out
      have hk9 : Kept (fun k => k = gb) Y6.1 W9 := by rw [← hW9]; exact kept_set1
      have hok9 : W9.heap[w.heap.size + 1]? = some (.cells #[.bool true] 4 (0, 0)) := (hk9.block _ (lt_of_block HOK6.out) (by omega)).trans HOK6.out
      have HO9 := Lib.hid (own_kept HO6.out hk9 (fun g hg e => by subst e; exact own_apart HO6.out HGB6.out (by decide) hg))
      have HK9 := Lib.hid (Y6.2.trans (hk9.weaken2 fun k e => Or.inl e))
      have HB9 := Lib.hid hb9
      have HBL9 := Lib.hid (Kept.below (HB3.out.mono (Nat.le_of_lt hgl)) HK9.out (Nat.le_trans (Nat.le_of_lt hgl) HB3.out.size) (fun k hk e => by
        rcases e with e | e | e
        · omega
        · omega
        · have := (HS.out.oS.lt k e).1
          omega))
      have c9 : W9.cell? ⟨w.heap.size + 1, 0, none⟩ = some (.bool true) := block_cell hok9 rfl
      refine held_do (i := 16) _ rfl (by kernel_rfl) rfl (fun K hK => ?_)
      go_simp
      try rw [hW9]
      refine hK _ _ ⟨⟨W9, HK9.out⟩, rfl⟩ ?_
      clear hK K y0 y1 hb9 hk9 hok9
      try simp only [Act.put, List.setIfInBounds_toArray, List.set_cons_zero, List.set_cons_succ]
      refine wpAnyH_done (by kernel_rfl) ?_ _
      go_wp2_with fail
      go_ret
      rw [HRC.out]
      exact RdL.S (HS.out.below HB3.out) HK9.out HQ3.out HB9.out HBL9.out a b HO9.out true rfl rfl
    · go_simp
      obtain ⟨Wb, hWb, hwb1, hwb2, hwq⟩ := alloc_block Z0.1 #[.string a, .string b] 50
      rw [hWb]
      obtain ⟨Z1, rfl⟩ : ∃ Z : ExtO (Oth gb (w.heap.size + 1) vS) W3, Wb = Z.1 := ⟨⟨Wb, Z0.2.trans (Kept.of_below hwb1)⟩, rfl⟩
      have HBZ1 := Lib.hid (HBZ0.out.trans (hwb1.mono HBZ0.out.size))
      have HOK1 := Lib.hid (below_block hwb1 HOK0.out)
      have HWQ := Lib.hid hwq
      have hbsl : Z0.1.heap.size < Z1.1.heap.size := by omega
      refine hK _ _ ⟨Z1, rfl⟩ ?_
      clear hWb hwb1 hwq hK K
      try simp only [Act.put, List.setIfInBounds_toArray, List.set_cons_zero, List.set_cons_succ]
      refine held_do (i := 4) _ rfl (by kernel_rfl) rfl (fun K hK => ?_)
      have g0 : Z1.1.cell? ⟨gb, 1, none⟩ = some vS := block_cell (below_block HBZ1.out HS.out.b) rfl
      go_simp
      refine hK _ _ ⟨Z1, rfl⟩ ?_
      clear hK K g0
      try simp only [Act.put, List.setIfInBounds_toArray, List.set_cons_zero, List.set_cons_succ]
      refine held_do (i := 13) _ rfl (by kernel_rfl) rfl (fun K hK => ?_)
      have hown := ownsRow_below HS.out.oS HBZ1.out
      refine wp_append_lies Z1.1 (.tmp 54) (.tmp 62) 23 rfl gb 50 i0 (.agg #[.string ⟨#[]⟩, .string ⟨#[]⟩]) 2 32 HU.out HI0.out HZI0.out HZI1.out HZI2.out rfl (by decide) vS (nS acc) (cS acc) rfl hown ⟨Z0.1.heap.size, 0, none⟩ 1 1 [.string a, .string b] rfl rfl (fun j u hu => by rw [addr_add0]; exact block_cell HWQ.out (by simpa using hu)) (fun u hu => by simp only [List.mem_cons, List.not_mem_nil, or_false] at hu; rcases hu with rfl | rfl <;> rfl) (by omega) (by unfold maxLen; omega) (by omega) (Nat.le_trans (Nat.le_of_lt hgl) HBZ1.out.size) _ rfl (fun g6 cap6 w6 hown6 hg6 hat6 hlt6 => ?_)
      have hgb6 : w6.heap[gb]? = some (.cells #[vP, vS, vM, vU] 27 (0, 0)) := (hg6.block gb (Nat.lt_of_lt_of_le hgl HBZ1.out.size) (fun e => own_apart hown (below_block HBZ1.out HS.out.b) (by decide) e.symm)).trans (below_block HBZ1.out HS.out.b)
      have hok6 : w6.heap[w.heap.size + 1]? = some (.cells #[.bool true] 4 (0, 0)) := (hg6.block _ (lt_of_block HOK1.out) (fun e => own_apart hown HOK1.out (by decide) e.symm)).trans HOK1.out
      obtain ⟨Y6, rfl⟩ : ∃ Z : ExtO (Oth gb (w.heap.size + 1) vS) W3, w6 = Z.1 := ⟨⟨w6, Z1.2.grown hg6 (fun q hq _ => Or.inr (Or.inr hq))⟩, rfl⟩
      have HGB6 := Lib.hid hgb6
      have HOK6 := Lib.hid hok6
      have HO6 := Lib.hid hown6
      refine hK _ _ ⟨Y6, rfl⟩ ?_
      clear hg6 hat6 hlt6 hown6 hgb6 hok6 hK K hown
      try simp only [Act.put, List.setIfInBounds_toArray, List.set_cons_zero, List.set_cons_succ]
      refine held_quiet2 (by kernel_rfl) (fun _ _ d _ _ h => by cases d <;> exact h) ⟨Y6, rfl⟩ [14, 15] 1 _ _ (by kernel_rfl) ?_
      change wpQuiet _ _ _ _ (_ :: _ :: []) _
      repeat go_big_quiet_step (fail)
      refine wpQuiet_nil ?_
      have y0 : Y6.1.cell? ⟨gb, 1, none⟩ = some vS := block_cell HGB6.out rfl
      have y1 : Y6.1.frozen? ⟨gb, 1, none⟩ = false := Lib.frozen_of_heap HGB6.out 1
      obtain ⟨W9, hW9⟩ : ∃ W, Y6.1.setCell ⟨gb, 1, none⟩ (.slice (some ⟨g6, 0, none⟩) (nS acc + 1) cap6) = W := ⟨_, rfl⟩
      have hb9 : W9.heap[gb]? = some (.cells #[vP, (.slice (some ⟨g6, 0, none⟩) (nS acc + 1) cap6), vM, vU] 27 (0, 0)) := by rw [← hW9]; exact cells_set HGB6.out
      have hk9 : Kept (fun k => k = gb) Y6.1 W9 := by rw [← hW9]; exact kept_set1
      have hok9 : W9.heap[w.heap.size + 1]? = some (.cells #[.bool true] 4 (0, 0)) := (hk9.block _ (lt_of_block HOK6.out) (by omega)).trans HOK6.out
      have HO9 := Lib.hid (own_kept HO6.out hk9 (fun g hg e => by subst e; exact own_apart HO6.out HGB6.out (by decide) hg))
      have HK9 := Lib.hid (Y6.2.trans (hk9.weaken2 fun k e => Or.inl e))
      have HB9 := Lib.hid hb9
      have HBL9 := Lib.hid (Kept.below (HB3.out.mono (Nat.le_of_lt hgl)) HK9.out (Nat.le_trans (Nat.le_of_lt hgl) HB3.out.size) (fun k hk e => by
        rcases e with e | e | e
        · omega
        · omega
        · have := (HS.out.oS.lt k e).1
          omega))
      have c9 : W9.cell? ⟨w.heap.size + 1, 0, none⟩ = some (.bool true) := block_cell hok9 rfl
      refine held_do (i := 16) _ rfl (by kernel_rfl) rfl (fun K hK => ?_)
      go_simp
      try rw [hW9]
      refine hK _ _ ⟨⟨W9, HK9.out⟩, rfl⟩ ?_
      clear hK K y0 y1 hb9 hk9 hok9
      try simp only [Act.put, List.setIfInBounds_toArray, List.set_cons_zero, List.set_cons_succ]
      refine wpAnyH_done (by kernel_rfl) ?_ _
      go_wp2_with fail
      go_ret
      rw [HRC.out]
      exact RdL.S (HS.out.below HB3.out) HK9.out HQ3.out HB9.out HBL9.out a b HO9.out true rfl rfl
  rw [decide_eq_false hA]
  have HNS := Lib.hid hA
  clear hA
  go_upto_region 11 with (fail)
  go_cut [66] from 9 to 146 (fun cv wx => cv = .bool (decide (w0 = kMount ∧ ws.length = 5)) ∧ W3 = wx)
  case first =>
    have hse : (w0.toList == [109, 111, 117, 110, 116]) = decide (w0 = kMount) := by
      have h0 := str_eq w0 kMount
      rwa [show kMount.toList = [109, 111, 117, 110, 116] by rw [ByteArray.toList_eq]; rfl] at h0
    by_cases e0 : w0 = kMount
    · rw [decide_eq_true e0] at hse
      by_cases el : ws.length = 5
      · have t1 : ((ws.length : Int) == 5) = true := by rw [el]; rfl
        have t1' : (ws.length == 5) = true := by rw [el]; rfl
        have HR : Hid (decide (w0 = kMount ∧ ws.length = 5) = true) := Lib.hid (decide_eq_true ⟨e0, el⟩)
        clear e0 el
        go_wp2_with fail
        go_meet
        case rel => exact ⟨by rw [HR.out], rfl⟩
      · have t1 : ((ws.length : Int) == 5) = false := by rw [beq_eq_false_iff_ne]; omega
        have t1' : (ws.length == 5) = false := by rw [beq_eq_false_iff_ne]; omega
        have HR : Hid (decide (w0 = kMount ∧ ws.length = 5) = false) := Lib.hid (decide_eq_false fun x => el x.2)
        clear e0 el
        go_wp2_with fail
        go_meet
        case rel => exact ⟨by rw [HR.out], rfl⟩
    · rw [decide_eq_false e0] at hse
      have HR : Hid (decide (w0 = kMount ∧ ws.length = 5) = false) := Lib.hid (decide_eq_false fun x => e0 x.1)
      clear e0
      go_wp2_with fail
      go_meet
      case rel => exact ⟨by rw [HR.out], rfl⟩
  case rest =>
  obtain ⟨rfl, rfl⟩ := hcut
  by_cases hA : w0 = kMount ∧ ws.length = 5
  · rw [decide_eq_true hA]
    obtain ⟨e0, el⟩ := hA
    obtain ⟨x0, a, b, c, d, rfl⟩ := len5 el
    obtain rfl : x0 = w0 := by simpa using hw0
    subst e0
    clear el hw0 hnn hn1 hnl
    have HRC : Hid (recOf [kMount, a, b, c, d] = ((numG c).bind fun f => (toG d).map fun t => Ln.mnt a b f t)) := Lib.hid (by simp [recOf])
    have hno : ¬ Oth gb (w.heap.size + 1) vM w.heap.size := fun e => by
      rcases e with e | e | e
      · omega
      · omega
      · have := (HS.out.oM.lt _ e).2
        omega
    have Fa : ∀ Z : ExtO (fun k => k = w.heap.size + 1) W3, Z.1.cell? ⟨w.heap.size, 1, none⟩ = some (.string a) := ExtO.ex (by simp) (by have := HWC3.out 1 a rfl; simpa using this)
    have Fb : ∀ Z : ExtO (fun k => k = w.heap.size + 1) W3, Z.1.cell? ⟨w.heap.size, 2, none⟩ = some (.string b) := ExtO.ex (by simp) (by have := HWC3.out 2 b rfl; simpa using this)
    have Fc : ∀ Z : ExtO (fun k => k = w.heap.size + 1) W3, Z.1.cell? ⟨w.heap.size, 3, none⟩ = some (.string c) := ExtO.ex (by simp) (by have := HWC3.out 3 c rfl; simpa using this)
    have Fd : ∀ Z : ExtO (fun k => k = w.heap.size + 1) W3, Z.1.cell? ⟨w.heap.size, 4, none⟩ = some (.string d) := ExtO.ex (by simp) (by have := HWC3.out 4 d rfl; simpa using this)
    have hzc : c.size ≤ 1000000 := HSZ.out c (by simp)
    have hzd : d.size ≤ 1000000 := HSZ.out d (by simp)
    obtain ⟨i0, hi0, hzi0, hzi1, hzi2⟩ := info_parts (show (Tryz.prog.info? 52).map (fun i => (i.zero, i.size, i.bytes)) = some (some (.agg #[.string ⟨#[]⟩, .string ⟨#[]⟩, .int .i64 0, .int .i64 0]), 4, 48) by kernel_rfl)
    have HI0 := Lib.hid hi0
    have HZI0 := Lib.hid hzi0
    have HZI1 := Lib.hid hzi1
    have HZI2 := Lib.hid hzi2
    have HU := Lib.hid (show Tryz.prog.underlying 24 = some (.slice 52) by kernel_rfl)
    clear hi0 hzi0 hzi1 hzi2
    clear HSZ HWC3 k0
    go_upto_region 13 with (fail)
    go_cut [8] from 9 to 146 (fun mv wx => ∃ (mb : Nat) (n1 : Int) (r1 : Bool), mv = .pointer (some ⟨mb, 0, none⟩) ∧ Hid (Below w.heap.size w wx ∧ Kept (fun k => k = w.heap.size + 1) W3 wx ∧ wx.heap[mb]? = some (.cells #[.string a, .string b, .int .i64 n1, .int .i64 (-1)] 52 (0, 0)) ∧ wx.heap[w.heap.size + 1]? = some (.cells #[.bool r1] 4 (0, 0)) ∧ (∀ v, numG c = some v → n1 = v) ∧ (true && (numG c).isSome) = r1 ∧ w.heap.size + 1 < mb))
    case first =>
      refine held_start (C := fun w' => ∃ Z : ExtO (fun k => k = w.heap.size + 1) W3, w' = Z.1) (by kernel_rfl) ?_
      obtain ⟨Z0, hZ0, hz0⟩ : ∃ Z : ExtO (fun k => k = w.heap.size + 1) W3, ({ W3 with drawn := W3.drawn + 1 } : World) = Z.1 ∧ Below W3.heap.size W3 Z.1 := ⟨⟨{ W3 with drawn := W3.drawn + 1 }, ⟨rfl, rfl, rfl, Nat.le_refl _, fun _ _ _ => rfl⟩⟩, rfl, ⟨rfl, rfl, rfl, Nat.le_refl _, fun _ _ => rfl⟩⟩
      rw [hZ0]
      have HBZ0 := Lib.hid (HB3.out.trans (hz0.mono HB3.out.size))
      have HOK0 := Lib.hid (below_block hz0 HQ3.out)
      clear hZ0 hz0
      refine held_quiet2 (by kernel_rfl) (fun _ _ d _ _ h => by cases d <;> exact h) ⟨Z0, rfl⟩ [0, 1, 2, 3, 4, 5, 6, 7, 8] 4 _ _ (by kernel_rfl) ?_
      change wpQuiet _ _ _ _ (_ :: _ :: _ :: _ :: _ :: _ :: _ :: _ :: _ :: []) _
      repeat go_big_quiet_step (fail)
      refine wpQuiet_nil ?_
      refine held_two (i := 9) (j := 11) _ _ rfl rfl (by kernel_rfl) rfl rfl (fun K hK => ?_) (fun K hK => ?_)
      · go_simp
        refine (number_any c (w.heap.size + 1) true Z0.1 HOK0.out (HG.out.below HBZ0.out) hzc).mono ?_
        rintro e w' ⟨n1, rfl, hn, hok, hkk⟩
        obtain ⟨r1, hr⟩ : ∃ x, (true && (numG c).isSome) = x := ⟨_, rfl⟩
        rw [hr] at hok
        obtain ⟨Z1, rfl⟩ : ∃ Z : ExtO (fun k => k = w.heap.size + 1) W3, w' = Z.1 := ⟨⟨w', Z0.2.trans hkk⟩, rfl⟩
        have HBZ1 := Lib.hid (Kept.below HBZ0.out hkk HBZ0.out.size (fun b hb e => by omega))
        have HOK1 := Lib.hid hok
        have HN1 := Lib.hid hn
        have HR1 := Lib.hid hr
        refine hK _ _ ⟨Z1, rfl⟩ ?_
        try clear hn hok hkk hr
        try clear hWb hwb1 hwq
        clear hK K
        try simp only [Act.put, List.setIfInBounds_toArray, List.set_cons_zero, List.set_cons_succ]
        refine held_quiet2 (by kernel_rfl) (fun _ _ d _ _ h => by cases d <;> exact h) ⟨Z1, rfl⟩ [10] 2 _ _ (by kernel_rfl) ?_
        change wpQuiet _ _ _ _ (_ :: []) _
        go_big_quiet_step (fail)
        refine wpQuiet_nil ?_
        refine held_do (i := 11) _ rfl (by kernel_rfl) rfl (fun K hK => ?_)
        go_simp
        obtain ⟨Wb, hWb, hwb1, hwb2, hwq⟩ := alloc_block Z1.1 #[.string ⟨#[]⟩, .string ⟨#[]⟩, .int .i64 0, .int .i64 0] 52
        rw [hWb]
        obtain ⟨Z2, rfl⟩ : ∃ Z : ExtO (fun k => k = w.heap.size + 1) W3, Wb = Z.1 := ⟨⟨Wb, Z1.2.trans (Kept.of_below hwb1)⟩, rfl⟩
        have HBZ2 := Lib.hid (HBZ1.out.trans (hwb1.mono HBZ1.out.size))
        have HOK2 := Lib.hid (below_block hwb1 HOK1.out)
        have hmb : w.heap.size + 1 < Z1.1.heap.size := lt_of_block HOK1.out
        have HMB := Lib.hid hwq
        refine hK _ _ ⟨Z2, rfl⟩ ?_
        try clear hn hok hkk hr
        try clear hWb hwb1 hwq
        clear hK K
        try simp only [Act.put, List.setIfInBounds_toArray, List.set_cons_zero, List.set_cons_succ]
        refine held_do (i := 12) _ rfl (by kernel_rfl) rfl (fun K hK => ?_)
        have hM0 := HMB.out
        have m0 : (Z2.1).cell? ⟨Z1.1.heap.size, 0, none⟩ = some (.string ⟨#[]⟩) := block_cell hM0 rfl
        have f0 : (Z2.1).frozen? ⟨Z1.1.heap.size, 0, none⟩ = false := Lib.frozen_of_heap hM0 0
        have hM1 : ((Z2.1).setCell ⟨Z1.1.heap.size, 0, none⟩ (.string a)).heap[Z1.1.heap.size]? = some (.cells #[.string a, .string ⟨#[]⟩, .int .i64 0, .int .i64 0] 52 (0, 0)) := cells_set hM0
        have m1 : (((Z2.1).setCell ⟨Z1.1.heap.size, 0, none⟩ (.string a))).cell? ⟨Z1.1.heap.size, 1, none⟩ = some (.string ⟨#[]⟩) := block_cell hM1 rfl
        have f1 : (((Z2.1).setCell ⟨Z1.1.heap.size, 0, none⟩ (.string a))).frozen? ⟨Z1.1.heap.size, 1, none⟩ = false := Lib.frozen_of_heap hM1 1
        have hM2 : ((((Z2.1).setCell ⟨Z1.1.heap.size, 0, none⟩ (.string a))).setCell ⟨Z1.1.heap.size, 1, none⟩ (.string b)).heap[Z1.1.heap.size]? = some (.cells #[.string a, .string b, .int .i64 0, .int .i64 0] 52 (0, 0)) := cells_set hM1
        have m2 : (((((Z2.1).setCell ⟨Z1.1.heap.size, 0, none⟩ (.string a))).setCell ⟨Z1.1.heap.size, 1, none⟩ (.string b))).cell? ⟨Z1.1.heap.size, 2, none⟩ = some (.int .i64 0) := block_cell hM2 rfl
        have f2 : (((((Z2.1).setCell ⟨Z1.1.heap.size, 0, none⟩ (.string a))).setCell ⟨Z1.1.heap.size, 1, none⟩ (.string b))).frozen? ⟨Z1.1.heap.size, 2, none⟩ = false := Lib.frozen_of_heap hM2 2
        have hM3 : ((((((Z2.1).setCell ⟨Z1.1.heap.size, 0, none⟩ (.string a))).setCell ⟨Z1.1.heap.size, 1, none⟩ (.string b))).setCell ⟨Z1.1.heap.size, 2, none⟩ (.int .i64 n1)).heap[Z1.1.heap.size]? = some (.cells #[.string a, .string b, .int .i64 n1, .int .i64 0] 52 (0, 0)) := cells_set hM2
        have m3 : (((((((Z2.1).setCell ⟨Z1.1.heap.size, 0, none⟩ (.string a))).setCell ⟨Z1.1.heap.size, 1, none⟩ (.string b))).setCell ⟨Z1.1.heap.size, 2, none⟩ (.int .i64 n1))).cell? ⟨Z1.1.heap.size, 3, none⟩ = some (.int .i64 0) := block_cell hM3 rfl
        have f3 : (((((((Z2.1).setCell ⟨Z1.1.heap.size, 0, none⟩ (.string a))).setCell ⟨Z1.1.heap.size, 1, none⟩ (.string b))).setCell ⟨Z1.1.heap.size, 2, none⟩ (.int .i64 n1))).frozen? ⟨Z1.1.heap.size, 3, none⟩ = false := Lib.frozen_of_heap hM3 3
        have hM4 : ((((((((Z2.1).setCell ⟨Z1.1.heap.size, 0, none⟩ (.string a))).setCell ⟨Z1.1.heap.size, 1, none⟩ (.string b))).setCell ⟨Z1.1.heap.size, 2, none⟩ (.int .i64 n1))).setCell ⟨Z1.1.heap.size, 3, none⟩ (.int .i64 (-1))).heap[Z1.1.heap.size]? = some (.cells #[.string a, .string b, .int .i64 n1, .int .i64 (-1)] 52 (0, 0)) := cells_set hM3
        obtain ⟨W5, hW5⟩ : ∃ W, ((((((((Z2.1).setCell ⟨Z1.1.heap.size, 0, none⟩ (.string a))).setCell ⟨Z1.1.heap.size, 1, none⟩ (.string b))).setCell ⟨Z1.1.heap.size, 2, none⟩ (.int .i64 n1))).setCell ⟨Z1.1.heap.size, 3, none⟩ (.int .i64 (-1))) = W := ⟨_, rfl⟩
        have hk5 : Kept (fun k => k = Z1.1.heap.size) Z2.1 W5 := by
          rw [← hW5]
          exact ((kept_set1.trans kept_set1).trans kept_set1).trans kept_set1
        rw [hW5] at hM4
        have HM5 := Lib.hid hM4
        have HB5 := Lib.hid (Kept.below HBZ2.out hk5 HBZ2.out.size (fun k hk e => by omega))
        have HOK5 := Lib.hid ((hk5.block _ (lt_of_block HOK2.out) (by omega)).trans HOK2.out)
        have HK5 := Lib.hid (show Kept (fun k => k = w.heap.size + 1) W3 W5 from ⟨hk5.os.trans Z2.2.os, hk5.tape.trans Z2.2.tape, hk5.output.trans Z2.2.output, Nat.le_trans Z2.2.size hk5.size, fun k hk hno => (hk5.block k (Nat.lt_of_lt_of_le hk Z2.2.size) (by have := Z1.2.size; omega)).trans (Z2.2.block k hk hno)⟩)
        go_simp
        try rw [hW5]
        refine hK _ _ ⟨⟨W5, HK5.out⟩, rfl⟩ ?_
        clear hK K m0 m1 m2 m3 f0 f1 f2 f3 hM0 hM1 hM2 hM3 hM4 hk5 hW5
        try simp only [Act.put, List.setIfInBounds_toArray, List.set_cons_zero, List.set_cons_succ]
        refine wpAnyH_done (by kernel_rfl) ?_ _
        go_wp2_with fail
        go_meet
        case rel => exact ⟨Z1.1.heap.size, n1, r1, rfl, Lib.hid ⟨HB5.out, HK5.out, HM5.out, HOK5.out, HN1.out, HR1.out, hmb⟩⟩
      · go_simp
        obtain ⟨Wb, hWb, hwb1, hwb2, hwq⟩ := alloc_block Z0.1 #[.string ⟨#[]⟩, .string ⟨#[]⟩, .int .i64 0, .int .i64 0] 52
        rw [hWb]
        obtain ⟨Z1, rfl⟩ : ∃ Z : ExtO (fun k => k = w.heap.size + 1) W3, Wb = Z.1 := ⟨⟨Wb, Z0.2.trans (Kept.of_below hwb1)⟩, rfl⟩
        have HBZ1 := Lib.hid (HBZ0.out.trans (hwb1.mono HBZ0.out.size))
        have HOK1 := Lib.hid (below_block hwb1 HOK0.out)
        have hmb : w.heap.size + 1 < Z0.1.heap.size := lt_of_block HOK0.out
        have HMB := Lib.hid hwq
        refine hK _ _ ⟨Z1, rfl⟩ ?_
        try clear hn hok hkk hr
        try clear hWb hwb1 hwq
        clear hK K
        try simp only [Act.put, List.setIfInBounds_toArray, List.set_cons_zero, List.set_cons_succ]
        refine held_do (i := 9) _ rfl (by kernel_rfl) rfl (fun K hK => ?_)
        go_simp
        refine (number_any c (w.heap.size + 1) true Z1.1 HOK1.out (HG.out.below HBZ1.out) hzc).mono ?_
        rintro e w' ⟨n1, rfl, hn, hok, hkk⟩
        obtain ⟨r1, hr⟩ : ∃ x, (true && (numG c).isSome) = x := ⟨_, rfl⟩
        rw [hr] at hok
        obtain ⟨Z2, rfl⟩ : ∃ Z : ExtO (fun k => k = w.heap.size + 1) W3, w' = Z.1 := ⟨⟨w', Z1.2.trans hkk⟩, rfl⟩
        have HBZ2 := Lib.hid (Kept.below HBZ1.out hkk HBZ1.out.size (fun b hb e => by omega))
        have HOK2 := Lib.hid hok
        have HN1 := Lib.hid hn
        have HR1 := Lib.hid hr
        have HMB := Lib.hid ((hkk.block _ (lt_of_block HMB.out) (by omega)).trans HMB.out)
        refine hK _ _ ⟨Z2, rfl⟩ ?_
        try clear hn hok hkk hr
        try clear hWb hwb1 hwq
        clear hK K
        try simp only [Act.put, List.setIfInBounds_toArray, List.set_cons_zero, List.set_cons_succ]
        refine held_quiet2 (by kernel_rfl) (fun _ _ d _ _ h => by cases d <;> exact h) ⟨Z2, rfl⟩ [10] 1 _ _ (by kernel_rfl) ?_
        change wpQuiet _ _ _ _ (_ :: []) _
        go_big_quiet_step (fail)
        refine wpQuiet_nil ?_
        refine held_do (i := 12) _ rfl (by kernel_rfl) rfl (fun K hK => ?_)
        have hM0 := HMB.out
        have m0 : (Z2.1).cell? ⟨Z0.1.heap.size, 0, none⟩ = some (.string ⟨#[]⟩) := block_cell hM0 rfl
        have f0 : (Z2.1).frozen? ⟨Z0.1.heap.size, 0, none⟩ = false := Lib.frozen_of_heap hM0 0
        have hM1 : ((Z2.1).setCell ⟨Z0.1.heap.size, 0, none⟩ (.string a)).heap[Z0.1.heap.size]? = some (.cells #[.string a, .string ⟨#[]⟩, .int .i64 0, .int .i64 0] 52 (0, 0)) := cells_set hM0
        have m1 : (((Z2.1).setCell ⟨Z0.1.heap.size, 0, none⟩ (.string a))).cell? ⟨Z0.1.heap.size, 1, none⟩ = some (.string ⟨#[]⟩) := block_cell hM1 rfl
        have f1 : (((Z2.1).setCell ⟨Z0.1.heap.size, 0, none⟩ (.string a))).frozen? ⟨Z0.1.heap.size, 1, none⟩ = false := Lib.frozen_of_heap hM1 1
        have hM2 : ((((Z2.1).setCell ⟨Z0.1.heap.size, 0, none⟩ (.string a))).setCell ⟨Z0.1.heap.size, 1, none⟩ (.string b)).heap[Z0.1.heap.size]? = some (.cells #[.string a, .string b, .int .i64 0, .int .i64 0] 52 (0, 0)) := cells_set hM1
        have m2 : (((((Z2.1).setCell ⟨Z0.1.heap.size, 0, none⟩ (.string a))).setCell ⟨Z0.1.heap.size, 1, none⟩ (.string b))).cell? ⟨Z0.1.heap.size, 2, none⟩ = some (.int .i64 0) := block_cell hM2 rfl
        have f2 : (((((Z2.1).setCell ⟨Z0.1.heap.size, 0, none⟩ (.string a))).setCell ⟨Z0.1.heap.size, 1, none⟩ (.string b))).frozen? ⟨Z0.1.heap.size, 2, none⟩ = false := Lib.frozen_of_heap hM2 2
        have hM3 : ((((((Z2.1).setCell ⟨Z0.1.heap.size, 0, none⟩ (.string a))).setCell ⟨Z0.1.heap.size, 1, none⟩ (.string b))).setCell ⟨Z0.1.heap.size, 2, none⟩ (.int .i64 n1)).heap[Z0.1.heap.size]? = some (.cells #[.string a, .string b, .int .i64 n1, .int .i64 0] 52 (0, 0)) := cells_set hM2
        have m3 : (((((((Z2.1).setCell ⟨Z0.1.heap.size, 0, none⟩ (.string a))).setCell ⟨Z0.1.heap.size, 1, none⟩ (.string b))).setCell ⟨Z0.1.heap.size, 2, none⟩ (.int .i64 n1))).cell? ⟨Z0.1.heap.size, 3, none⟩ = some (.int .i64 0) := block_cell hM3 rfl
        have f3 : (((((((Z2.1).setCell ⟨Z0.1.heap.size, 0, none⟩ (.string a))).setCell ⟨Z0.1.heap.size, 1, none⟩ (.string b))).setCell ⟨Z0.1.heap.size, 2, none⟩ (.int .i64 n1))).frozen? ⟨Z0.1.heap.size, 3, none⟩ = false := Lib.frozen_of_heap hM3 3
        have hM4 : ((((((((Z2.1).setCell ⟨Z0.1.heap.size, 0, none⟩ (.string a))).setCell ⟨Z0.1.heap.size, 1, none⟩ (.string b))).setCell ⟨Z0.1.heap.size, 2, none⟩ (.int .i64 n1))).setCell ⟨Z0.1.heap.size, 3, none⟩ (.int .i64 (-1))).heap[Z0.1.heap.size]? = some (.cells #[.string a, .string b, .int .i64 n1, .int .i64 (-1)] 52 (0, 0)) := cells_set hM3
        obtain ⟨W5, hW5⟩ : ∃ W, ((((((((Z2.1).setCell ⟨Z0.1.heap.size, 0, none⟩ (.string a))).setCell ⟨Z0.1.heap.size, 1, none⟩ (.string b))).setCell ⟨Z0.1.heap.size, 2, none⟩ (.int .i64 n1))).setCell ⟨Z0.1.heap.size, 3, none⟩ (.int .i64 (-1))) = W := ⟨_, rfl⟩
        have hk5 : Kept (fun k => k = Z0.1.heap.size) Z2.1 W5 := by
          rw [← hW5]
          exact ((kept_set1.trans kept_set1).trans kept_set1).trans kept_set1
        rw [hW5] at hM4
        have HM5 := Lib.hid hM4
        have HB5 := Lib.hid (Kept.below HBZ2.out hk5 HBZ2.out.size (fun k hk e => by omega))
        have HOK5 := Lib.hid ((hk5.block _ (lt_of_block HOK2.out) (by omega)).trans HOK2.out)
        have HK5 := Lib.hid (show Kept (fun k => k = w.heap.size + 1) W3 W5 from ⟨hk5.os.trans Z2.2.os, hk5.tape.trans Z2.2.tape, hk5.output.trans Z2.2.output, Nat.le_trans Z2.2.size hk5.size, fun k hk hno => (hk5.block k (Nat.lt_of_lt_of_le hk Z2.2.size) (by have := Z0.2.size; omega)).trans (Z2.2.block k hk hno)⟩)
        go_simp
        try rw [hW5]
        refine hK _ _ ⟨⟨W5, HK5.out⟩, rfl⟩ ?_
        clear hK K m0 m1 m2 m3 f0 f1 f2 f3 hM0 hM1 hM2 hM3 hM4 hk5 hW5
        try simp only [Act.put, List.setIfInBounds_toArray, List.set_cons_zero, List.set_cons_succ]
        refine wpAnyH_done (by kernel_rfl) ?_ _
        go_wp2_with fail
        go_meet
        case rel => exact ⟨Z0.1.heap.size, n1, r1, rfl, Lib.hid ⟨HB5.out, HK5.out, HM5.out, HOK5.out, HN1.out, HR1.out, hmb⟩⟩
    case rest =>
    obtain ⟨mb, n1, r1, rfl, HC⟩ := hcut
    have HB5 := Lib.hid HC.out.1
    have HK5 := Lib.hid HC.out.2.1
    have HM5 := Lib.hid HC.out.2.2.1
    have HOK5 := Lib.hid HC.out.2.2.2.1
    have HN1 := Lib.hid HC.out.2.2.2.2.1
    have HR1 := Lib.hid HC.out.2.2.2.2.2.1
    have hmb := HC.out.2.2.2.2.2.2
    have fd : wc.cell? ⟨w.heap.size, 4, none⟩ = some (.string d) := Fd ⟨wc, HK5.out⟩
    clear HC
    go_upto_region 14 with (fail)
    have hse : (d.toList == [45]) = decide (d = dashB) := by
      have h0 := str_eq d dashB
      rwa [show dashB.toList = [45] by rw [ByteArray.toList_eq]; rfl] at h0
    have hsn : (d.toList != [45]) = !decide (d = dashB) := by rw [bne, hse]
    go_upto_if 90 with (fail)
    go_cut [7] from 9 to 146 (fun kv wx => kv = .int .i64 3 ∧ ∃ (n2 : Int) (r2 : Bool), Hid (Below w.heap.size w wx ∧ wx.heap[mb]? = some (.cells #[.string a, .string b, .int .i64 n1, .int .i64 n2] 52 (0, 0)) ∧ wx.heap[w.heap.size + 1]? = some (.cells #[.bool r2] 4 (0, 0)) ∧ (∀ v, toG d = some v → n2 = v) ∧ ((true && (numG c).isSome) && (toG d).isSome) = r2))
    case first =>
      by_cases hd : d = dashB
      · have y1 : decide (d = dashB) = true := decide_eq_true hd
        have y2 : (!decide (d = dashB)) = false := by rw [y1]; rfl
        rw [y2]
        rw [y1] at hse hsn
        have HT : Hid (toG d = some (-1)) := Lib.hid (by unfold toG; rw [if_pos hd])
        clear hd y1 y2
        go_wp2_with fail
        go_meet
        case rel => exact ⟨rfl, -1, r1, Lib.hid ⟨HB5.out, HM5.out, HOK5.out, fun v hv => by rw [HT.out] at hv; injection hv, by rw [HT.out, HR1.out]; simp⟩⟩
      · have y1 : decide (d = dashB) = false := decide_eq_false hd
        have y2 : (!decide (d = dashB)) = true := by rw [y1]; rfl
        rw [y2]
        rw [y1] at hse hsn
        have HT : Hid (toG d = numG d) := Lib.hid (by unfold toG; rw [if_neg hd])
        have DN := Lib.hid (number_any d (w.heap.size + 1) r1 wc HOK5.out (HG.out.below HB5.out) hzd)
        clear hd y1 y2
        go_wp2_with (go_at_call 43; refine DN.out.mono ?_; rintro e w6 ⟨n2, rfl, hn2, hok6, hkk6⟩; refine Hid.out ?_)
        refine Lib.hid ?_
        have hm6 : w6.heap[mb]? = some (.cells #[.string a, .string b, .int .i64 n1, .int .i64 (-1)] 52 (0, 0)) := (hkk6.block mb (lt_of_block HM5.out) (by omega)).trans HM5.out
        have m3 : w6.cell? ⟨mb, 3, none⟩ = some (.int .i64 (-1)) := block_cell hm6 rfl
        have f3 : w6.frozen? ⟨mb, 3, none⟩ = false := Lib.frozen_of_heap hm6 3
        have HM6 := Lib.hid (cells_set (i := 3) (v := .int .i64 n2) hm6)
        have HB6 := Lib.hid (Kept.below (Kept.below HB5.out hkk6 HB5.out.size (fun b hb e => by omega)) (kept_set1 (a := w6) (b := mb) (i := 3) (v := .int .i64 n2)) (Nat.le_trans HB5.out.size hkk6.size) (fun b hb e => by omega))
        have HOK6 := Lib.hid (((kept_set1 (a := w6) (b := mb) (i := 3) (v := .int .i64 n2)).block _ (lt_of_block hok6) (by omega)).trans hok6)
        have HN2 := Lib.hid hn2
        clear hn2 hok6 hkk6 hm6 DN
        go_wp2_with fail
        go_meet
        case rel => exact ⟨rfl, n2, _, Lib.hid ⟨HB6.out, HM6.out, HOK6.out, fun v hv => HN2.out v (by rw [← HT.out]; exact hv), by rw [HT.out, HR1.out]⟩⟩
    case rest =>
    obtain ⟨rfl, n2, r2, HC⟩ := hcut
    obtain ⟨W6, hW6⟩ : ∃ W, wc = W := ⟨_, rfl⟩
    rw [hW6] at HC ⊢
    have HB6 := Lib.hid HC.out.1
    have HM6 := Lib.hid HC.out.2.1
    have HOK6' := Lib.hid HC.out.2.2.1
    have HN2 := Lib.hid HC.out.2.2.2.1
    have HR2 := Lib.hid HC.out.2.2.2.2
    clear HC hse hsn
    have hmo : ¬ Oth gb (w.heap.size + 1) vM mb := fun e => by
      rcases e with e | e | e
      · omega
      · omega
      · have := (HS.out.oM.lt _ e).2
        omega
    have M0 : ∀ Z : ExtO (Oth gb (w.heap.size + 1) vM) W6, Z.1.cell? ⟨mb, 0, none⟩ = some (.string a) := ExtO.ex hmo (block_cell HM6.out rfl)
    have M1 : ∀ Z : ExtO (Oth gb (w.heap.size + 1) vM) W6, Z.1.cell? ⟨mb, 1, none⟩ = some (.string b) := ExtO.ex hmo (block_cell HM6.out rfl)
    have M2 : ∀ Z : ExtO (Oth gb (w.heap.size + 1) vM) W6, Z.1.cell? ⟨mb, 2, none⟩ = some (.int .i64 n1) := ExtO.ex hmo (block_cell HM6.out rfl)
    have M3 : ∀ Z : ExtO (Oth gb (w.heap.size + 1) vM) W6, Z.1.cell? ⟨mb, 3, none⟩ = some (.int .i64 n2) := ExtO.ex hmo (block_cell HM6.out rfl)
    go_upto_region 16 with (fail)
    refine held_start (C := fun w' => ∃ Z : ExtO (Oth gb (w.heap.size + 1) vM) W6, w' = Z.1) (by kernel_rfl) ?_
    obtain ⟨Z0, hZ0, hz0⟩ : ∃ Z : ExtO (Oth gb (w.heap.size + 1) vM) W6, ({ W6 with drawn := W6.drawn + 1 } : World) = Z.1 ∧ Below W6.heap.size W6 Z.1 := ⟨⟨{ W6 with drawn := W6.drawn + 1 }, ⟨rfl, rfl, rfl, Nat.le_refl _, fun _ _ _ => rfl⟩⟩, rfl, ⟨rfl, rfl, rfl, Nat.le_refl _, fun _ _ => rfl⟩⟩
    rw [hZ0]
    have HBZ0 := Lib.hid (HB6.out.trans (hz0.mono HB6.out.size))
    have HOK0 := Lib.hid (below_block hz0 HOK6'.out)
    clear hZ0 hz0
    refine held_quiet2 (by kernel_rfl) (fun _ _ d _ _ h => by cases d <;> exact h) ⟨Z0, rfl⟩ [0, 1, 2, 3, 5] 6 _ _ (by kernel_rfl) ?_
    change wpQuiet _ _ _ _ (_ :: _ :: _ :: _ :: _ :: []) _
    repeat go_big_quiet_step (fail)
    refine wpQuiet_nil ?_
    refine held_two (i := 4) (j := 6) _ _ rfl rfl (by kernel_rfl) rfl rfl (fun K hK => ?_) (fun K hK => ?_)
    · have g0 : Z0.1.cell? ⟨gb, 2, none⟩ = some vM := block_cell (below_block HBZ0.out HS.out.b) rfl
      go_simp
      refine hK _ _ ⟨Z0, rfl⟩ ?_
      clear hK K g0
      try simp only [Act.put, List.setIfInBounds_toArray, List.set_cons_zero, List.set_cons_succ]
      refine held_do (i := 6) _ rfl (by kernel_rfl) rfl (fun K hK => ?_)
      go_simp
      obtain ⟨Wb, hWb, hwb1, hwb2, hwq⟩ := alloc_block Z0.1 #[.string a, .string b, .int .i64 n1, .int .i64 n2] 52
      rw [hWb]
      obtain ⟨Z1, rfl⟩ : ∃ Z : ExtO (Oth gb (w.heap.size + 1) vM) W6, Wb = Z.1 := ⟨⟨Wb, Z0.2.trans (Kept.of_below hwb1)⟩, rfl⟩
      have HBZ1 := Lib.hid (HBZ0.out.trans (hwb1.mono HBZ0.out.size))
      have HOK1 := Lib.hid (below_block hwb1 HOK0.out)
      have HWQ := Lib.hid hwq
      have hbsl : Z0.1.heap.size < Z1.1.heap.size := by omega
      refine hK _ _ ⟨Z1, rfl⟩ ?_
      clear hWb hwb1 hwq hK K
      try simp only [Act.put, List.setIfInBounds_toArray, List.set_cons_zero, List.set_cons_succ]
      refine held_do (i := 7) _ rfl (by kernel_rfl) rfl (fun K hK => ?_)
      have hown := ownsRow_below HS.out.oM HBZ1.out
      refine wp_append_lies Z1.1 (.tmp 100) (.tmp 102) 24 rfl gb 52 i0 (.agg #[.string ⟨#[]⟩, .string ⟨#[]⟩, .int .i64 0, .int .i64 0]) 4 48 HU.out HI0.out HZI0.out HZI1.out HZI2.out rfl (by decide) vM (nM acc) (cM acc) rfl hown ⟨Z0.1.heap.size, 0, none⟩ 1 1 [.string a, .string b, .int .i64 n1, .int .i64 n2] rfl rfl (fun j u hu => by rw [addr_add0]; exact block_cell HWQ.out (by simpa using hu)) (fun u hu => by simp only [List.mem_cons, List.not_mem_nil, or_false] at hu; rcases hu with rfl | rfl | rfl | rfl <;> rfl) (by omega) (by unfold maxLen; omega) (by omega) (Nat.le_trans (Nat.le_of_lt hgl) HBZ1.out.size) _ rfl (fun g6 cap6 w6 hown6 hg6 hat6 hlt6 => ?_)
      have hgb6 : w6.heap[gb]? = some (.cells #[vP, vS, vM, vU] 27 (0, 0)) := (hg6.block gb (Nat.lt_of_lt_of_le hgl HBZ1.out.size) (fun e => own_apart hown (below_block HBZ1.out HS.out.b) (by decide) e.symm)).trans (below_block HBZ1.out HS.out.b)
      have hok6 : w6.heap[w.heap.size + 1]? = some (.cells #[.bool r2] 4 (0, 0)) := (hg6.block _ (lt_of_block HOK1.out) (fun e => own_apart hown HOK1.out (by decide) e.symm)).trans HOK1.out
      obtain ⟨Y6, rfl⟩ : ∃ Z : ExtO (Oth gb (w.heap.size + 1) vM) W6, w6 = Z.1 := ⟨⟨w6, Z1.2.grown hg6 (fun q hq _ => Or.inr (Or.inr hq))⟩, rfl⟩
      have HGB6 := Lib.hid hgb6
      have HOK6 := Lib.hid hok6
      have HO6 := Lib.hid hown6
      refine hK _ _ ⟨Y6, rfl⟩ ?_
      clear hg6 hat6 hlt6 hown6 hgb6 hok6 hK K hown
      try simp only [Act.put, List.setIfInBounds_toArray, List.set_cons_zero, List.set_cons_succ]
      refine held_quiet2 (by kernel_rfl) (fun _ _ d _ _ h => by cases d <;> exact h) ⟨Y6, rfl⟩ [8, 9] 1 _ _ (by kernel_rfl) ?_
      change wpQuiet _ _ _ _ (_ :: _ :: []) _
      repeat go_big_quiet_step (fail)
      refine wpQuiet_nil ?_
      have y0 : Y6.1.cell? ⟨gb, 2, none⟩ = some vM := block_cell HGB6.out rfl
      have y1 : Y6.1.frozen? ⟨gb, 2, none⟩ = false := Lib.frozen_of_heap HGB6.out 2
      obtain ⟨W9, hW9⟩ : ∃ W, Y6.1.setCell ⟨gb, 2, none⟩ (.slice (some ⟨g6, 0, none⟩) (nM acc + 1) cap6) = W := ⟨_, rfl⟩
      have hb9 : W9.heap[gb]? = some (.cells #[vP, vS, (.slice (some ⟨g6, 0, none⟩) (nM acc + 1) cap6), vU] 27 (0, 0)) := by rw [← hW9]; exact cells_set HGB6.out
      have hk9 : Kept (fun k => k = gb) Y6.1 W9 := by rw [← hW9]; exact kept_set1
      have hok9 : W9.heap[w.heap.size + 1]? = some (.cells #[.bool r2] 4 (0, 0)) := (hk9.block _ (lt_of_block HOK6.out) (by omega)).trans HOK6.out
      have HO9 := Lib.hid (own_kept HO6.out hk9 (fun g hg e => by subst e; exact own_apart HO6.out HGB6.out (by decide) hg))
      have HK9 := Lib.hid (Y6.2.trans (hk9.weaken2 fun k e => Or.inl e))
      have HB9 := Lib.hid hb9
      have HBL9 := Lib.hid (Kept.below (HB6.out.mono (Nat.le_of_lt hgl)) HK9.out (Nat.le_trans (Nat.le_of_lt hgl) HB6.out.size) (fun k hk e => by
        rcases e with e | e | e
        · omega
        · omega
        · have := (HS.out.oM.lt k e).1
          omega))
      have c9 : W9.cell? ⟨w.heap.size + 1, 0, none⟩ = some (.bool r2) := block_cell hok9 rfl
      refine held_do (i := 10) _ rfl (by kernel_rfl) rfl (fun K hK => ?_)
      go_simp
      try rw [hW9]
      refine hK _ _ ⟨⟨W9, HK9.out⟩, rfl⟩ ?_
      clear hK K y0 y1 hb9 hk9 hok9
      try simp only [Act.put, List.setIfInBounds_toArray, List.set_cons_zero, List.set_cons_succ]
      refine wpAnyH_done (by kernel_rfl) ?_ _
      cases r2
      · go_wp2_with fail
        go_ret
        rw [HRC.out]
        exact RdL.M (HS.out.below HB6.out) HK9.out HOK6'.out HB9.out HBL9.out a b c d n1 n2 HN1.out HN2.out HO9.out false HR2.out rfl
      · go_wp2_with fail
        go_ret
        rw [HRC.out]
        exact RdL.M (HS.out.below HB6.out) HK9.out HOK6'.out HB9.out HBL9.out a b c d n1 n2 HN1.out HN2.out HO9.out true HR2.out rfl
    · go_simp
      obtain ⟨Wb, hWb, hwb1, hwb2, hwq⟩ := alloc_block Z0.1 #[.string a, .string b, .int .i64 n1, .int .i64 n2] 52
      rw [hWb]
      obtain ⟨Z1, rfl⟩ : ∃ Z : ExtO (Oth gb (w.heap.size + 1) vM) W6, Wb = Z.1 := ⟨⟨Wb, Z0.2.trans (Kept.of_below hwb1)⟩, rfl⟩
      have HBZ1 := Lib.hid (HBZ0.out.trans (hwb1.mono HBZ0.out.size))
      have HOK1 := Lib.hid (below_block hwb1 HOK0.out)
      have HWQ := Lib.hid hwq
      have hbsl : Z0.1.heap.size < Z1.1.heap.size := by omega
      refine hK _ _ ⟨Z1, rfl⟩ ?_
      clear hWb hwb1 hwq hK K
      try simp only [Act.put, List.setIfInBounds_toArray, List.set_cons_zero, List.set_cons_succ]
      refine held_do (i := 4) _ rfl (by kernel_rfl) rfl (fun K hK => ?_)
      have g0 : Z1.1.cell? ⟨gb, 2, none⟩ = some vM := block_cell (below_block HBZ1.out HS.out.b) rfl
      go_simp
      refine hK _ _ ⟨Z1, rfl⟩ ?_
      clear hK K g0
      try simp only [Act.put, List.setIfInBounds_toArray, List.set_cons_zero, List.set_cons_succ]
      refine held_do (i := 7) _ rfl (by kernel_rfl) rfl (fun K hK => ?_)
      have hown := ownsRow_below HS.out.oM HBZ1.out
      refine wp_append_lies Z1.1 (.tmp 100) (.tmp 102) 24 rfl gb 52 i0 (.agg #[.string ⟨#[]⟩, .string ⟨#[]⟩, .int .i64 0, .int .i64 0]) 4 48 HU.out HI0.out HZI0.out HZI1.out HZI2.out rfl (by decide) vM (nM acc) (cM acc) rfl hown ⟨Z0.1.heap.size, 0, none⟩ 1 1 [.string a, .string b, .int .i64 n1, .int .i64 n2] rfl rfl (fun j u hu => by rw [addr_add0]; exact block_cell HWQ.out (by simpa using hu)) (fun u hu => by simp only [List.mem_cons, List.not_mem_nil, or_false] at hu; rcases hu with rfl | rfl | rfl | rfl <;> rfl) (by omega) (by unfold maxLen; omega) (by omega) (Nat.le_trans (Nat.le_of_lt hgl) HBZ1.out.size) _ rfl (fun g6 cap6 w6 hown6 hg6 hat6 hlt6 => ?_)
      have hgb6 : w6.heap[gb]? = some (.cells #[vP, vS, vM, vU] 27 (0, 0)) := (hg6.block gb (Nat.lt_of_lt_of_le hgl HBZ1.out.size) (fun e => own_apart hown (below_block HBZ1.out HS.out.b) (by decide) e.symm)).trans (below_block HBZ1.out HS.out.b)
      have hok6 : w6.heap[w.heap.size + 1]? = some (.cells #[.bool r2] 4 (0, 0)) := (hg6.block _ (lt_of_block HOK1.out) (fun e => own_apart hown HOK1.out (by decide) e.symm)).trans HOK1.out
      obtain ⟨Y6, rfl⟩ : ∃ Z : ExtO (Oth gb (w.heap.size + 1) vM) W6, w6 = Z.1 := ⟨⟨w6, Z1.2.grown hg6 (fun q hq _ => Or.inr (Or.inr hq))⟩, rfl⟩
      have HGB6 := Lib.hid hgb6
      have HOK6 := Lib.hid hok6
      have HO6 := Lib.hid hown6
      refine hK _ _ ⟨Y6, rfl⟩ ?_
      clear hg6 hat6 hlt6 hown6 hgb6 hok6 hK K hown
      try simp only [Act.put, List.setIfInBounds_toArray, List.set_cons_zero, List.set_cons_succ]
      refine held_quiet2 (by kernel_rfl) (fun _ _ d _ _ h => by cases d <;> exact h) ⟨Y6, rfl⟩ [8, 9] 1 _ _ (by kernel_rfl) ?_
      change wpQuiet _ _ _ _ (_ :: _ :: []) _
      repeat go_big_quiet_step (fail)
      refine wpQuiet_nil ?_
      have y0 : Y6.1.cell? ⟨gb, 2, none⟩ = some vM := block_cell HGB6.out rfl
      have y1 : Y6.1.frozen? ⟨gb, 2, none⟩ = false := Lib.frozen_of_heap HGB6.out 2
      obtain ⟨W9, hW9⟩ : ∃ W, Y6.1.setCell ⟨gb, 2, none⟩ (.slice (some ⟨g6, 0, none⟩) (nM acc + 1) cap6) = W := ⟨_, rfl⟩
      have hb9 : W9.heap[gb]? = some (.cells #[vP, vS, (.slice (some ⟨g6, 0, none⟩) (nM acc + 1) cap6), vU] 27 (0, 0)) := by rw [← hW9]; exact cells_set HGB6.out
      have hk9 : Kept (fun k => k = gb) Y6.1 W9 := by rw [← hW9]; exact kept_set1
      have hok9 : W9.heap[w.heap.size + 1]? = some (.cells #[.bool r2] 4 (0, 0)) := (hk9.block _ (lt_of_block HOK6.out) (by omega)).trans HOK6.out
      have HO9 := Lib.hid (own_kept HO6.out hk9 (fun g hg e => by subst e; exact own_apart HO6.out HGB6.out (by decide) hg))
      have HK9 := Lib.hid (Y6.2.trans (hk9.weaken2 fun k e => Or.inl e))
      have HB9 := Lib.hid hb9
      have HBL9 := Lib.hid (Kept.below (HB6.out.mono (Nat.le_of_lt hgl)) HK9.out (Nat.le_trans (Nat.le_of_lt hgl) HB6.out.size) (fun k hk e => by
        rcases e with e | e | e
        · omega
        · omega
        · have := (HS.out.oM.lt k e).1
          omega))
      have c9 : W9.cell? ⟨w.heap.size + 1, 0, none⟩ = some (.bool r2) := block_cell hok9 rfl
      refine held_do (i := 10) _ rfl (by kernel_rfl) rfl (fun K hK => ?_)
      go_simp
      try rw [hW9]
      refine hK _ _ ⟨⟨W9, HK9.out⟩, rfl⟩ ?_
      clear hK K y0 y1 hb9 hk9 hok9
      try simp only [Act.put, List.setIfInBounds_toArray, List.set_cons_zero, List.set_cons_succ]
      refine wpAnyH_done (by kernel_rfl) ?_ _
      cases r2
      · go_wp2_with fail
        go_ret
        rw [HRC.out]
        exact RdL.M (HS.out.below HB6.out) HK9.out HOK6'.out HB9.out HBL9.out a b c d n1 n2 HN1.out HN2.out HO9.out false HR2.out rfl
      · go_wp2_with fail
        go_ret
        rw [HRC.out]
        exact RdL.M (HS.out.below HB6.out) HK9.out HOK6'.out HB9.out HBL9.out a b c d n1 n2 HN1.out HN2.out HO9.out true HR2.out rfl
  rw [decide_eq_false hA]
  have HNM := Lib.hid hA
  clear hA
  go_upto_region 17 with (fail)
  go_cut [106] from 9 to 146 (fun cv wx => cv = .bool (decide (w0 = kUse ∧ ws.length = 6)) ∧ W3 = wx)
  case first =>
    have hse : (w0.toList == [117, 115, 101]) = decide (w0 = kUse) := by
      have h0 := str_eq w0 kUse
      rwa [show kUse.toList = [117, 115, 101] by rw [ByteArray.toList_eq]; rfl] at h0
    by_cases e0 : w0 = kUse
    · rw [decide_eq_true e0] at hse
      by_cases el : ws.length = 6
      · have t1 : ((ws.length : Int) == 6) = true := by rw [el]; rfl
        have t1' : (ws.length == 6) = true := by rw [el]; rfl
        have HR : Hid (decide (w0 = kUse ∧ ws.length = 6) = true) := Lib.hid (decide_eq_true ⟨e0, el⟩)
        clear e0 el
        go_wp2_with fail
        go_meet
        case rel => exact ⟨by rw [HR.out], rfl⟩
      · have t1 : ((ws.length : Int) == 6) = false := by rw [beq_eq_false_iff_ne]; omega
        have t1' : (ws.length == 6) = false := by rw [beq_eq_false_iff_ne]; omega
        have HR : Hid (decide (w0 = kUse ∧ ws.length = 6) = false) := Lib.hid (decide_eq_false fun x => el x.2)
        clear e0 el
        go_wp2_with fail
        go_meet
        case rel => exact ⟨by rw [HR.out], rfl⟩
    · rw [decide_eq_false e0] at hse
      have HR : Hid (decide (w0 = kUse ∧ ws.length = 6) = false) := Lib.hid (decide_eq_false fun x => e0 x.1)
      clear e0
      go_wp2_with fail
      go_meet
      case rel => exact ⟨by rw [HR.out], rfl⟩
  case rest =>
  obtain ⟨rfl, rfl⟩ := hcut
  by_cases hA : w0 = kUse ∧ ws.length = 6
  · rw [decide_eq_true hA]
    obtain ⟨e0, el⟩ := hA
    obtain ⟨x0, a, b, c, d, e, rfl⟩ := len6 el
    obtain rfl : x0 = w0 := by simpa using hw0
    subst e0
    clear el hw0 hnn hn1 hnl
    have HRC : Hid (recOf [kUse, a, b, c, d, e] = (numG c).bind fun f => (numG d).bind fun s => (numG e).map fun w => Ln.use a b f s w) := Lib.hid (by simp [recOf])
    have hno : ¬ Oth gb (w.heap.size + 1) vU w.heap.size := fun e => by
      rcases e with e | e | e
      · omega
      · omega
      · have := (HS.out.oU.lt _ e).2
        omega
    have Fa : ∀ Z : ExtO (Oth gb (w.heap.size + 1) vU) W3, Z.1.cell? ⟨w.heap.size, 1, none⟩ = some (.string a) := ExtO.ex hno (by have := HWC3.out 1 a rfl; simpa using this)
    have Fb : ∀ Z : ExtO (Oth gb (w.heap.size + 1) vU) W3, Z.1.cell? ⟨w.heap.size, 2, none⟩ = some (.string b) := ExtO.ex hno (by have := HWC3.out 2 b rfl; simpa using this)
    have Fc : ∀ Z : ExtO (Oth gb (w.heap.size + 1) vU) W3, Z.1.cell? ⟨w.heap.size, 3, none⟩ = some (.string c) := ExtO.ex hno (by have := HWC3.out 3 c rfl; simpa using this)
    have Fd : ∀ Z : ExtO (Oth gb (w.heap.size + 1) vU) W3, Z.1.cell? ⟨w.heap.size, 4, none⟩ = some (.string d) := ExtO.ex hno (by have := HWC3.out 4 d rfl; simpa using this)
    have Fe : ∀ Z : ExtO (Oth gb (w.heap.size + 1) vU) W3, Z.1.cell? ⟨w.heap.size, 5, none⟩ = some (.string e) := ExtO.ex hno (by have := HWC3.out 5 e rfl; simpa using this)
    have hzc : c.size ≤ 1000000 := HSZ.out c (by simp)
    have hzd : d.size ≤ 1000000 := HSZ.out d (by simp)
    have hze : e.size ≤ 1000000 := HSZ.out e (by simp)
    obtain ⟨i0, hi0, hzi0, hzi1, hzi2⟩ := info_parts (show (Tryz.prog.info? 54).map (fun i => (i.zero, i.size, i.bytes)) = some (some (.agg #[.string ⟨#[]⟩, .string ⟨#[]⟩, .int .i64 0, .int .i64 0, .int .i64 0]), 5, 56) by kernel_rfl)
    have HI0 := Lib.hid hi0
    have HZI0 := Lib.hid hzi0
    have HZI1 := Lib.hid hzi1
    have HZI2 := Lib.hid hzi2
    have HU := Lib.hid (show Tryz.prog.underlying 25 = some (.slice 54) by kernel_rfl)
    clear hi0 hzi0 hzi1 hzi2
    clear HSZ HWC3 k0
    go_upto_region 19 with (fail)
    refine held_start (C := fun w' => ∃ Z : ExtO (Oth gb (w.heap.size + 1) vU) W3, w' = Z.1) (by kernel_rfl) ?_
    obtain ⟨Z0, hZ0, hz0⟩ : ∃ Z : ExtO (Oth gb (w.heap.size + 1) vU) W3, ({ W3 with drawn := W3.drawn + 1 } : World) = Z.1 ∧ Below W3.heap.size W3 Z.1 := ⟨⟨{ W3 with drawn := W3.drawn + 1 }, ⟨rfl, rfl, rfl, Nat.le_refl _, fun _ _ _ => rfl⟩⟩, rfl, ⟨rfl, rfl, rfl, Nat.le_refl _, fun _ _ => rfl⟩⟩
    rw [hZ0]
    have HBZ0 := Lib.hid (HB3.out.trans (hz0.mono HB3.out.size))
    have HOK0 := Lib.hid (below_block hz0 HQ3.out)
    clear hZ0 hz0
    refine held_quiet2 (by kernel_rfl) (fun _ _ d _ _ h => by cases d <;> exact h) ⟨Z0, rfl⟩ [0, 1, 2, 3, 5, 6, 7, 8, 9, 10, 11, 12, 13, 15, 16, 17, 19, 20, 21] 10 _ _ (by kernel_rfl) ?_
    change wpQuiet _ _ _ _ (_ :: _ :: _ :: _ :: _ :: _ :: _ :: _ :: _ :: _ :: _ :: _ :: _ :: _ :: _ :: _ :: _ :: _ :: _ :: []) _
    repeat go_big_quiet_step (fail)
    refine wpQuiet_nil ?_
    refine held_two (i := 4) (j := 14) _ _ rfl rfl (by kernel_rfl) rfl rfl (fun K hK => ?_) (fun K hK => ?_)
    · have g0 : Z0.1.cell? ⟨gb, 3, none⟩ = some vU := block_cell (below_block HBZ0.out HS.out.b) rfl
      go_simp
      refine hK _ _ ⟨Z0, rfl⟩ ?_
      clear hK K g0
      try simp only [Act.put, List.setIfInBounds_toArray, List.set_cons_zero, List.set_cons_succ]
      refine held_do (i := 14) _ rfl (by kernel_rfl) rfl (fun K hK => ?_)
      go_simp
      refine (number_any c (w.heap.size + 1) true Z0.1 HOK0.out (HG.out.below HBZ0.out) hzc).mono ?_
      rintro e w' ⟨n1, rfl, hn, hok, hkk⟩
      obtain ⟨r1, hr⟩ : ∃ x, (true && (numG c).isSome) = x := ⟨_, rfl⟩
      rw [hr] at hok
      obtain ⟨Z1, rfl⟩ : ∃ Z : ExtO (Oth gb (w.heap.size + 1) vU) W3, w' = Z.1 := ⟨⟨w', Z0.2.trans (hkk.weaken2 fun k e => Or.inr (Or.inl e))⟩, rfl⟩
      have HBZ1 := Lib.hid (Kept.below HBZ0.out hkk HBZ0.out.size (fun b hb e => by omega))
      have HOK1 := Lib.hid hok
      have HN1 := Lib.hid hn
      have HR1 := Lib.hid hr
      refine hK _ _ ⟨Z1, rfl⟩ ?_
      clear hK K hn hok hkk hr
      try simp only [Act.put, List.setIfInBounds_toArray, List.set_cons_zero, List.set_cons_succ]
      refine held_do (i := 18) _ rfl (by kernel_rfl) rfl (fun K hK => ?_)
      go_simp
      refine (number_any d (w.heap.size + 1) r1 Z1.1 HOK1.out (HG.out.below HBZ1.out) hzd).mono ?_
      rintro e w' ⟨n2, rfl, hn, hok, hkk⟩
      obtain ⟨r2, hr⟩ : ∃ x, (r1 && (numG d).isSome) = x := ⟨_, rfl⟩
      rw [hr] at hok
      obtain ⟨Z2, rfl⟩ : ∃ Z : ExtO (Oth gb (w.heap.size + 1) vU) W3, w' = Z.1 := ⟨⟨w', Z1.2.trans (hkk.weaken2 fun k e => Or.inr (Or.inl e))⟩, rfl⟩
      have HBZ2 := Lib.hid (Kept.below HBZ1.out hkk HBZ1.out.size (fun b hb e => by omega))
      have HOK2 := Lib.hid hok
      have HN2 := Lib.hid hn
      have HR2 := Lib.hid hr
      refine hK _ _ ⟨Z2, rfl⟩ ?_
      clear hK K hn hok hkk hr
      try simp only [Act.put, List.setIfInBounds_toArray, List.set_cons_zero, List.set_cons_succ]
      refine held_do (i := 22) _ rfl (by kernel_rfl) rfl (fun K hK => ?_)
      go_simp
      refine (number_any e (w.heap.size + 1) r2 Z2.1 HOK2.out (HG.out.below HBZ2.out) hze).mono ?_
      rintro e w' ⟨n3, rfl, hn, hok, hkk⟩
      obtain ⟨r3, hr⟩ : ∃ x, (r2 && (numG e).isSome) = x := ⟨_, rfl⟩
      rw [hr] at hok
      obtain ⟨Z3, rfl⟩ : ∃ Z : ExtO (Oth gb (w.heap.size + 1) vU) W3, w' = Z.1 := ⟨⟨w', Z2.2.trans (hkk.weaken2 fun k e => Or.inr (Or.inl e))⟩, rfl⟩
      have HBZ3 := Lib.hid (Kept.below HBZ2.out hkk HBZ2.out.size (fun b hb e => by omega))
      have HOK3 := Lib.hid hok
      have HN3 := Lib.hid hn
      have HR3 := Lib.hid hr
      refine hK _ _ ⟨Z3, rfl⟩ ?_
      clear hK K hn hok hkk hr
      try simp only [Act.put, List.setIfInBounds_toArray, List.set_cons_zero, List.set_cons_succ]
      refine held_quiet2 (by kernel_rfl) (fun _ _ d _ _ h => by cases d <;> exact h) ⟨Z3, rfl⟩ [23] 5 _ _ (by kernel_rfl) ?_
      change wpQuiet _ _ _ _ (_ :: []) _
      go_big_quiet_step (fail)
      refine wpQuiet_nil ?_
      refine held_do (i := 24) _ rfl (by kernel_rfl) rfl (fun K hK => ?_)
      go_simp
      obtain ⟨Wb, hWb, hwb1, hwb2, hwq⟩ := alloc_block Z3.1 #[.string a, .string b, .int .i64 n1, .int .i64 n2, .int .i64 n3] 54
      rw [hWb]
      obtain ⟨Z4, rfl⟩ : ∃ Z : ExtO (Oth gb (w.heap.size + 1) vU) W3, Wb = Z.1 := ⟨⟨Wb, Z3.2.trans (Kept.of_below hwb1)⟩, rfl⟩
      have HBZ4 := Lib.hid (HBZ3.out.trans (hwb1.mono HBZ3.out.size))
      have HOK4 := Lib.hid (below_block hwb1 HOK3.out)
      have HWQ := Lib.hid hwq
      have hbsl : Z3.1.heap.size < Z4.1.heap.size := by omega
      refine hK _ _ ⟨Z4, rfl⟩ ?_
      clear hWb hwb1 hwq hK K
      try simp only [Act.put, List.setIfInBounds_toArray, List.set_cons_zero, List.set_cons_succ]
      refine held_do (i := 25) _ rfl (by kernel_rfl) rfl (fun K hK => ?_)
      have hown := ownsRow_below HS.out.oU HBZ4.out
      refine wp_append_lies Z4.1 (.tmp 120) (.tmp 140) 25 rfl gb 54 i0 (.agg #[.string ⟨#[]⟩, .string ⟨#[]⟩, .int .i64 0, .int .i64 0, .int .i64 0]) 5 56 HU.out HI0.out HZI0.out HZI1.out HZI2.out rfl (by decide) vU (nU acc) (cU acc) rfl hown ⟨Z3.1.heap.size, 0, none⟩ 1 1 [.string a, .string b, .int .i64 n1, .int .i64 n2, .int .i64 n3] rfl rfl (fun j u hu => by rw [addr_add0]; exact block_cell HWQ.out (by simpa using hu)) (fun u hu => by simp only [List.mem_cons, List.not_mem_nil, or_false] at hu; rcases hu with rfl | rfl | rfl | rfl | rfl <;> rfl) (by omega) (by unfold maxLen; omega) (by omega) (Nat.le_trans (Nat.le_of_lt hgl) HBZ4.out.size) _ rfl (fun g6 cap6 w6 hown6 hg6 hat6 hlt6 => ?_)
      have hgb6 : w6.heap[gb]? = some (.cells #[vP, vS, vM, vU] 27 (0, 0)) := (hg6.block gb (Nat.lt_of_lt_of_le hgl HBZ4.out.size) (fun e => own_apart hown (below_block HBZ4.out HS.out.b) (by decide) e.symm)).trans (below_block HBZ4.out HS.out.b)
      have hok6 : w6.heap[w.heap.size + 1]? = some (.cells #[.bool r3] 4 (0, 0)) := (hg6.block _ (lt_of_block HOK4.out) (fun e => own_apart hown HOK4.out (by decide) e.symm)).trans HOK4.out
      obtain ⟨Y6, rfl⟩ : ∃ Z : ExtO (Oth gb (w.heap.size + 1) vU) W3, w6 = Z.1 := ⟨⟨w6, Z4.2.grown hg6 (fun q hq _ => Or.inr (Or.inr hq))⟩, rfl⟩
      have HGB6 := Lib.hid hgb6
      have HOK6 := Lib.hid hok6
      have HO6 := Lib.hid hown6
      refine hK _ _ ⟨Y6, rfl⟩ ?_
      clear hg6 hat6 hlt6 hown6 hgb6 hok6 hK K hown
      try simp only [Act.put, List.setIfInBounds_toArray, List.set_cons_zero, List.set_cons_succ]
      refine held_quiet2 (by kernel_rfl) (fun _ _ d _ _ h => by cases d <;> exact h) ⟨Y6, rfl⟩ [26, 27] 1 _ _ (by kernel_rfl) ?_
      change wpQuiet _ _ _ _ (_ :: _ :: []) _
      repeat go_big_quiet_step (fail)
      refine wpQuiet_nil ?_
      have y0 : Y6.1.cell? ⟨gb, 3, none⟩ = some vU := block_cell HGB6.out rfl
      have y1 : Y6.1.frozen? ⟨gb, 3, none⟩ = false := Lib.frozen_of_heap HGB6.out 3
      obtain ⟨W9, hW9⟩ : ∃ W, Y6.1.setCell ⟨gb, 3, none⟩ (.slice (some ⟨g6, 0, none⟩) (nU acc + 1) cap6) = W := ⟨_, rfl⟩
      have hb9 : W9.heap[gb]? = some (.cells #[vP, vS, vM, (.slice (some ⟨g6, 0, none⟩) (nU acc + 1) cap6)] 27 (0, 0)) := by rw [← hW9]; exact cells_set HGB6.out
      have hk9 : Kept (fun k => k = gb) Y6.1 W9 := by rw [← hW9]; exact kept_set1
      have hok9 : W9.heap[w.heap.size + 1]? = some (.cells #[.bool r3] 4 (0, 0)) := (hk9.block _ (lt_of_block HOK6.out) (by omega)).trans HOK6.out
      have HO9 := Lib.hid (own_kept HO6.out hk9 (fun g hg e => by subst e; exact own_apart HO6.out HGB6.out (by decide) hg))
      have HK9 := Lib.hid (Y6.2.trans (hk9.weaken2 fun k e => Or.inl e))
      have HB9 := Lib.hid hb9
      have HBL9 := Lib.hid (Kept.below (HB3.out.mono (Nat.le_of_lt hgl)) HK9.out (Nat.le_trans (Nat.le_of_lt hgl) HB3.out.size) (fun k hk e => by
        rcases e with e | e | e
        · omega
        · omega
        · have := (HS.out.oU.lt k e).1
          omega))
      have c9 : W9.cell? ⟨w.heap.size + 1, 0, none⟩ = some (.bool r3) := block_cell hok9 rfl
      refine held_do (i := 28) _ rfl (by kernel_rfl) rfl (fun K hK => ?_)
      go_simp
      try rw [hW9]
      refine hK _ _ ⟨⟨W9, HK9.out⟩, rfl⟩ ?_
      clear hK K y0 y1 hb9 hk9 hok9
      try simp only [Act.put, List.setIfInBounds_toArray, List.set_cons_zero, List.set_cons_succ]
      refine wpAnyH_done (by kernel_rfl) ?_ _
      cases r3
      · go_wp2_with fail
        go_ret
        rw [HRC.out]
        exact RdL.U (HS.out.below HB3.out) HK9.out HQ3.out HB9.out HBL9.out a b c d e n1 n2 n3 HN1.out HN2.out HN3.out HO9.out false (by rw [HR1.out, HR2.out]; exact HR3.out) rfl
      · go_wp2_with fail
        go_ret
        rw [HRC.out]
        exact RdL.U (HS.out.below HB3.out) HK9.out HQ3.out HB9.out HBL9.out a b c d e n1 n2 n3 HN1.out HN2.out HN3.out HO9.out true (by rw [HR1.out, HR2.out]; exact HR3.out) rfl
    · go_simp
      refine (number_any c (w.heap.size + 1) true Z0.1 HOK0.out (HG.out.below HBZ0.out) hzc).mono ?_
      rintro e w' ⟨n1, rfl, hn, hok, hkk⟩
      obtain ⟨r1, hr⟩ : ∃ x, (true && (numG c).isSome) = x := ⟨_, rfl⟩
      rw [hr] at hok
      obtain ⟨Z1, rfl⟩ : ∃ Z : ExtO (Oth gb (w.heap.size + 1) vU) W3, w' = Z.1 := ⟨⟨w', Z0.2.trans (hkk.weaken2 fun k e => Or.inr (Or.inl e))⟩, rfl⟩
      have HBZ1 := Lib.hid (Kept.below HBZ0.out hkk HBZ0.out.size (fun b hb e => by omega))
      have HOK1 := Lib.hid hok
      have HN1 := Lib.hid hn
      have HR1 := Lib.hid hr
      refine hK _ _ ⟨Z1, rfl⟩ ?_
      clear hK K hn hok hkk hr
      try simp only [Act.put, List.setIfInBounds_toArray, List.set_cons_zero, List.set_cons_succ]
      refine held_two (i := 4) (j := 18) _ _ rfl rfl (by kernel_rfl) rfl rfl (fun K hK => ?_) (fun K hK => ?_)
      · have g0 : Z1.1.cell? ⟨gb, 3, none⟩ = some vU := block_cell (below_block HBZ1.out HS.out.b) rfl
        go_simp
        refine hK _ _ ⟨Z1, rfl⟩ ?_
        clear hK K g0
        try simp only [Act.put, List.setIfInBounds_toArray, List.set_cons_zero, List.set_cons_succ]
        refine held_do (i := 18) _ rfl (by kernel_rfl) rfl (fun K hK => ?_)
        go_simp
        refine (number_any d (w.heap.size + 1) r1 Z1.1 HOK1.out (HG.out.below HBZ1.out) hzd).mono ?_
        rintro e w' ⟨n2, rfl, hn, hok, hkk⟩
        obtain ⟨r2, hr⟩ : ∃ x, (r1 && (numG d).isSome) = x := ⟨_, rfl⟩
        rw [hr] at hok
        obtain ⟨Z2, rfl⟩ : ∃ Z : ExtO (Oth gb (w.heap.size + 1) vU) W3, w' = Z.1 := ⟨⟨w', Z1.2.trans (hkk.weaken2 fun k e => Or.inr (Or.inl e))⟩, rfl⟩
        have HBZ2 := Lib.hid (Kept.below HBZ1.out hkk HBZ1.out.size (fun b hb e => by omega))
        have HOK2 := Lib.hid hok
        have HN2 := Lib.hid hn
        have HR2 := Lib.hid hr
        refine hK _ _ ⟨Z2, rfl⟩ ?_
        clear hK K hn hok hkk hr
        try simp only [Act.put, List.setIfInBounds_toArray, List.set_cons_zero, List.set_cons_succ]
        refine held_do (i := 22) _ rfl (by kernel_rfl) rfl (fun K hK => ?_)
        go_simp
        refine (number_any e (w.heap.size + 1) r2 Z2.1 HOK2.out (HG.out.below HBZ2.out) hze).mono ?_
        rintro e w' ⟨n3, rfl, hn, hok, hkk⟩
        obtain ⟨r3, hr⟩ : ∃ x, (r2 && (numG e).isSome) = x := ⟨_, rfl⟩
        rw [hr] at hok
        obtain ⟨Z3, rfl⟩ : ∃ Z : ExtO (Oth gb (w.heap.size + 1) vU) W3, w' = Z.1 := ⟨⟨w', Z2.2.trans (hkk.weaken2 fun k e => Or.inr (Or.inl e))⟩, rfl⟩
        have HBZ3 := Lib.hid (Kept.below HBZ2.out hkk HBZ2.out.size (fun b hb e => by omega))
        have HOK3 := Lib.hid hok
        have HN3 := Lib.hid hn
        have HR3 := Lib.hid hr
        refine hK _ _ ⟨Z3, rfl⟩ ?_
        clear hK K hn hok hkk hr
        try simp only [Act.put, List.setIfInBounds_toArray, List.set_cons_zero, List.set_cons_succ]
        refine held_quiet2 (by kernel_rfl) (fun _ _ d _ _ h => by cases d <;> exact h) ⟨Z3, rfl⟩ [23] 5 _ _ (by kernel_rfl) ?_
        change wpQuiet _ _ _ _ (_ :: []) _
        go_big_quiet_step (fail)
        refine wpQuiet_nil ?_
        refine held_do (i := 24) _ rfl (by kernel_rfl) rfl (fun K hK => ?_)
        go_simp
        obtain ⟨Wb, hWb, hwb1, hwb2, hwq⟩ := alloc_block Z3.1 #[.string a, .string b, .int .i64 n1, .int .i64 n2, .int .i64 n3] 54
        rw [hWb]
        obtain ⟨Z4, rfl⟩ : ∃ Z : ExtO (Oth gb (w.heap.size + 1) vU) W3, Wb = Z.1 := ⟨⟨Wb, Z3.2.trans (Kept.of_below hwb1)⟩, rfl⟩
        have HBZ4 := Lib.hid (HBZ3.out.trans (hwb1.mono HBZ3.out.size))
        have HOK4 := Lib.hid (below_block hwb1 HOK3.out)
        have HWQ := Lib.hid hwq
        have hbsl : Z3.1.heap.size < Z4.1.heap.size := by omega
        refine hK _ _ ⟨Z4, rfl⟩ ?_
        clear hWb hwb1 hwq hK K
        try simp only [Act.put, List.setIfInBounds_toArray, List.set_cons_zero, List.set_cons_succ]
        refine held_do (i := 25) _ rfl (by kernel_rfl) rfl (fun K hK => ?_)
        have hown := ownsRow_below HS.out.oU HBZ4.out
        refine wp_append_lies Z4.1 (.tmp 120) (.tmp 140) 25 rfl gb 54 i0 (.agg #[.string ⟨#[]⟩, .string ⟨#[]⟩, .int .i64 0, .int .i64 0, .int .i64 0]) 5 56 HU.out HI0.out HZI0.out HZI1.out HZI2.out rfl (by decide) vU (nU acc) (cU acc) rfl hown ⟨Z3.1.heap.size, 0, none⟩ 1 1 [.string a, .string b, .int .i64 n1, .int .i64 n2, .int .i64 n3] rfl rfl (fun j u hu => by rw [addr_add0]; exact block_cell HWQ.out (by simpa using hu)) (fun u hu => by simp only [List.mem_cons, List.not_mem_nil, or_false] at hu; rcases hu with rfl | rfl | rfl | rfl | rfl <;> rfl) (by omega) (by unfold maxLen; omega) (by omega) (Nat.le_trans (Nat.le_of_lt hgl) HBZ4.out.size) _ rfl (fun g6 cap6 w6 hown6 hg6 hat6 hlt6 => ?_)
        have hgb6 : w6.heap[gb]? = some (.cells #[vP, vS, vM, vU] 27 (0, 0)) := (hg6.block gb (Nat.lt_of_lt_of_le hgl HBZ4.out.size) (fun e => own_apart hown (below_block HBZ4.out HS.out.b) (by decide) e.symm)).trans (below_block HBZ4.out HS.out.b)
        have hok6 : w6.heap[w.heap.size + 1]? = some (.cells #[.bool r3] 4 (0, 0)) := (hg6.block _ (lt_of_block HOK4.out) (fun e => own_apart hown HOK4.out (by decide) e.symm)).trans HOK4.out
        obtain ⟨Y6, rfl⟩ : ∃ Z : ExtO (Oth gb (w.heap.size + 1) vU) W3, w6 = Z.1 := ⟨⟨w6, Z4.2.grown hg6 (fun q hq _ => Or.inr (Or.inr hq))⟩, rfl⟩
        have HGB6 := Lib.hid hgb6
        have HOK6 := Lib.hid hok6
        have HO6 := Lib.hid hown6
        refine hK _ _ ⟨Y6, rfl⟩ ?_
        clear hg6 hat6 hlt6 hown6 hgb6 hok6 hK K hown
        try simp only [Act.put, List.setIfInBounds_toArray, List.set_cons_zero, List.set_cons_succ]
        refine held_quiet2 (by kernel_rfl) (fun _ _ d _ _ h => by cases d <;> exact h) ⟨Y6, rfl⟩ [26, 27] 1 _ _ (by kernel_rfl) ?_
        change wpQuiet _ _ _ _ (_ :: _ :: []) _
        repeat go_big_quiet_step (fail)
        refine wpQuiet_nil ?_
        have y0 : Y6.1.cell? ⟨gb, 3, none⟩ = some vU := block_cell HGB6.out rfl
        have y1 : Y6.1.frozen? ⟨gb, 3, none⟩ = false := Lib.frozen_of_heap HGB6.out 3
        obtain ⟨W9, hW9⟩ : ∃ W, Y6.1.setCell ⟨gb, 3, none⟩ (.slice (some ⟨g6, 0, none⟩) (nU acc + 1) cap6) = W := ⟨_, rfl⟩
        have hb9 : W9.heap[gb]? = some (.cells #[vP, vS, vM, (.slice (some ⟨g6, 0, none⟩) (nU acc + 1) cap6)] 27 (0, 0)) := by rw [← hW9]; exact cells_set HGB6.out
        have hk9 : Kept (fun k => k = gb) Y6.1 W9 := by rw [← hW9]; exact kept_set1
        have hok9 : W9.heap[w.heap.size + 1]? = some (.cells #[.bool r3] 4 (0, 0)) := (hk9.block _ (lt_of_block HOK6.out) (by omega)).trans HOK6.out
        have HO9 := Lib.hid (own_kept HO6.out hk9 (fun g hg e => by subst e; exact own_apart HO6.out HGB6.out (by decide) hg))
        have HK9 := Lib.hid (Y6.2.trans (hk9.weaken2 fun k e => Or.inl e))
        have HB9 := Lib.hid hb9
        have HBL9 := Lib.hid (Kept.below (HB3.out.mono (Nat.le_of_lt hgl)) HK9.out (Nat.le_trans (Nat.le_of_lt hgl) HB3.out.size) (fun k hk e => by
          rcases e with e | e | e
          · omega
          · omega
          · have := (HS.out.oU.lt k e).1
            omega))
        have c9 : W9.cell? ⟨w.heap.size + 1, 0, none⟩ = some (.bool r3) := block_cell hok9 rfl
        refine held_do (i := 28) _ rfl (by kernel_rfl) rfl (fun K hK => ?_)
        go_simp
        try rw [hW9]
        refine hK _ _ ⟨⟨W9, HK9.out⟩, rfl⟩ ?_
        clear hK K y0 y1 hb9 hk9 hok9
        try simp only [Act.put, List.setIfInBounds_toArray, List.set_cons_zero, List.set_cons_succ]
        refine wpAnyH_done (by kernel_rfl) ?_ _
        cases r3
        · go_wp2_with fail
          go_ret
          rw [HRC.out]
          exact RdL.U (HS.out.below HB3.out) HK9.out HQ3.out HB9.out HBL9.out a b c d e n1 n2 n3 HN1.out HN2.out HN3.out HO9.out false (by rw [HR1.out, HR2.out]; exact HR3.out) rfl
        · go_wp2_with fail
          go_ret
          rw [HRC.out]
          exact RdL.U (HS.out.below HB3.out) HK9.out HQ3.out HB9.out HBL9.out a b c d e n1 n2 n3 HN1.out HN2.out HN3.out HO9.out true (by rw [HR1.out, HR2.out]; exact HR3.out) rfl
      · go_simp
        refine (number_any d (w.heap.size + 1) r1 Z1.1 HOK1.out (HG.out.below HBZ1.out) hzd).mono ?_
        rintro e w' ⟨n2, rfl, hn, hok, hkk⟩
        obtain ⟨r2, hr⟩ : ∃ x, (r1 && (numG d).isSome) = x := ⟨_, rfl⟩
        rw [hr] at hok
        obtain ⟨Z2, rfl⟩ : ∃ Z : ExtO (Oth gb (w.heap.size + 1) vU) W3, w' = Z.1 := ⟨⟨w', Z1.2.trans (hkk.weaken2 fun k e => Or.inr (Or.inl e))⟩, rfl⟩
        have HBZ2 := Lib.hid (Kept.below HBZ1.out hkk HBZ1.out.size (fun b hb e => by omega))
        have HOK2 := Lib.hid hok
        have HN2 := Lib.hid hn
        have HR2 := Lib.hid hr
        refine hK _ _ ⟨Z2, rfl⟩ ?_
        clear hK K hn hok hkk hr
        try simp only [Act.put, List.setIfInBounds_toArray, List.set_cons_zero, List.set_cons_succ]
        refine held_two (i := 4) (j := 22) _ _ rfl rfl (by kernel_rfl) rfl rfl (fun K hK => ?_) (fun K hK => ?_)
        · have g0 : Z2.1.cell? ⟨gb, 3, none⟩ = some vU := block_cell (below_block HBZ2.out HS.out.b) rfl
          go_simp
          refine hK _ _ ⟨Z2, rfl⟩ ?_
          clear hK K g0
          try simp only [Act.put, List.setIfInBounds_toArray, List.set_cons_zero, List.set_cons_succ]
          refine held_do (i := 22) _ rfl (by kernel_rfl) rfl (fun K hK => ?_)
          go_simp
          refine (number_any e (w.heap.size + 1) r2 Z2.1 HOK2.out (HG.out.below HBZ2.out) hze).mono ?_
          rintro e w' ⟨n3, rfl, hn, hok, hkk⟩
          obtain ⟨r3, hr⟩ : ∃ x, (r2 && (numG e).isSome) = x := ⟨_, rfl⟩
          rw [hr] at hok
          obtain ⟨Z3, rfl⟩ : ∃ Z : ExtO (Oth gb (w.heap.size + 1) vU) W3, w' = Z.1 := ⟨⟨w', Z2.2.trans (hkk.weaken2 fun k e => Or.inr (Or.inl e))⟩, rfl⟩
          have HBZ3 := Lib.hid (Kept.below HBZ2.out hkk HBZ2.out.size (fun b hb e => by omega))
          have HOK3 := Lib.hid hok
          have HN3 := Lib.hid hn
          have HR3 := Lib.hid hr
          refine hK _ _ ⟨Z3, rfl⟩ ?_
          clear hK K hn hok hkk hr
          try simp only [Act.put, List.setIfInBounds_toArray, List.set_cons_zero, List.set_cons_succ]
          refine held_quiet2 (by kernel_rfl) (fun _ _ d _ _ h => by cases d <;> exact h) ⟨Z3, rfl⟩ [23] 5 _ _ (by kernel_rfl) ?_
          change wpQuiet _ _ _ _ (_ :: []) _
          go_big_quiet_step (fail)
          refine wpQuiet_nil ?_
          refine held_do (i := 24) _ rfl (by kernel_rfl) rfl (fun K hK => ?_)
          go_simp
          obtain ⟨Wb, hWb, hwb1, hwb2, hwq⟩ := alloc_block Z3.1 #[.string a, .string b, .int .i64 n1, .int .i64 n2, .int .i64 n3] 54
          rw [hWb]
          obtain ⟨Z4, rfl⟩ : ∃ Z : ExtO (Oth gb (w.heap.size + 1) vU) W3, Wb = Z.1 := ⟨⟨Wb, Z3.2.trans (Kept.of_below hwb1)⟩, rfl⟩
          have HBZ4 := Lib.hid (HBZ3.out.trans (hwb1.mono HBZ3.out.size))
          have HOK4 := Lib.hid (below_block hwb1 HOK3.out)
          have HWQ := Lib.hid hwq
          have hbsl : Z3.1.heap.size < Z4.1.heap.size := by omega
          refine hK _ _ ⟨Z4, rfl⟩ ?_
          clear hWb hwb1 hwq hK K
          try simp only [Act.put, List.setIfInBounds_toArray, List.set_cons_zero, List.set_cons_succ]
          refine held_do (i := 25) _ rfl (by kernel_rfl) rfl (fun K hK => ?_)
          have hown := ownsRow_below HS.out.oU HBZ4.out
          refine wp_append_lies Z4.1 (.tmp 120) (.tmp 140) 25 rfl gb 54 i0 (.agg #[.string ⟨#[]⟩, .string ⟨#[]⟩, .int .i64 0, .int .i64 0, .int .i64 0]) 5 56 HU.out HI0.out HZI0.out HZI1.out HZI2.out rfl (by decide) vU (nU acc) (cU acc) rfl hown ⟨Z3.1.heap.size, 0, none⟩ 1 1 [.string a, .string b, .int .i64 n1, .int .i64 n2, .int .i64 n3] rfl rfl (fun j u hu => by rw [addr_add0]; exact block_cell HWQ.out (by simpa using hu)) (fun u hu => by simp only [List.mem_cons, List.not_mem_nil, or_false] at hu; rcases hu with rfl | rfl | rfl | rfl | rfl <;> rfl) (by omega) (by unfold maxLen; omega) (by omega) (Nat.le_trans (Nat.le_of_lt hgl) HBZ4.out.size) _ rfl (fun g6 cap6 w6 hown6 hg6 hat6 hlt6 => ?_)
          have hgb6 : w6.heap[gb]? = some (.cells #[vP, vS, vM, vU] 27 (0, 0)) := (hg6.block gb (Nat.lt_of_lt_of_le hgl HBZ4.out.size) (fun e => own_apart hown (below_block HBZ4.out HS.out.b) (by decide) e.symm)).trans (below_block HBZ4.out HS.out.b)
          have hok6 : w6.heap[w.heap.size + 1]? = some (.cells #[.bool r3] 4 (0, 0)) := (hg6.block _ (lt_of_block HOK4.out) (fun e => own_apart hown HOK4.out (by decide) e.symm)).trans HOK4.out
          obtain ⟨Y6, rfl⟩ : ∃ Z : ExtO (Oth gb (w.heap.size + 1) vU) W3, w6 = Z.1 := ⟨⟨w6, Z4.2.grown hg6 (fun q hq _ => Or.inr (Or.inr hq))⟩, rfl⟩
          have HGB6 := Lib.hid hgb6
          have HOK6 := Lib.hid hok6
          have HO6 := Lib.hid hown6
          refine hK _ _ ⟨Y6, rfl⟩ ?_
          clear hg6 hat6 hlt6 hown6 hgb6 hok6 hK K hown
          try simp only [Act.put, List.setIfInBounds_toArray, List.set_cons_zero, List.set_cons_succ]
          refine held_quiet2 (by kernel_rfl) (fun _ _ d _ _ h => by cases d <;> exact h) ⟨Y6, rfl⟩ [26, 27] 1 _ _ (by kernel_rfl) ?_
          change wpQuiet _ _ _ _ (_ :: _ :: []) _
          repeat go_big_quiet_step (fail)
          refine wpQuiet_nil ?_
          have y0 : Y6.1.cell? ⟨gb, 3, none⟩ = some vU := block_cell HGB6.out rfl
          have y1 : Y6.1.frozen? ⟨gb, 3, none⟩ = false := Lib.frozen_of_heap HGB6.out 3
          obtain ⟨W9, hW9⟩ : ∃ W, Y6.1.setCell ⟨gb, 3, none⟩ (.slice (some ⟨g6, 0, none⟩) (nU acc + 1) cap6) = W := ⟨_, rfl⟩
          have hb9 : W9.heap[gb]? = some (.cells #[vP, vS, vM, (.slice (some ⟨g6, 0, none⟩) (nU acc + 1) cap6)] 27 (0, 0)) := by rw [← hW9]; exact cells_set HGB6.out
          have hk9 : Kept (fun k => k = gb) Y6.1 W9 := by rw [← hW9]; exact kept_set1
          have hok9 : W9.heap[w.heap.size + 1]? = some (.cells #[.bool r3] 4 (0, 0)) := (hk9.block _ (lt_of_block HOK6.out) (by omega)).trans HOK6.out
          have HO9 := Lib.hid (own_kept HO6.out hk9 (fun g hg e => by subst e; exact own_apart HO6.out HGB6.out (by decide) hg))
          have HK9 := Lib.hid (Y6.2.trans (hk9.weaken2 fun k e => Or.inl e))
          have HB9 := Lib.hid hb9
          have HBL9 := Lib.hid (Kept.below (HB3.out.mono (Nat.le_of_lt hgl)) HK9.out (Nat.le_trans (Nat.le_of_lt hgl) HB3.out.size) (fun k hk e => by
            rcases e with e | e | e
            · omega
            · omega
            · have := (HS.out.oU.lt k e).1
              omega))
          have c9 : W9.cell? ⟨w.heap.size + 1, 0, none⟩ = some (.bool r3) := block_cell hok9 rfl
          refine held_do (i := 28) _ rfl (by kernel_rfl) rfl (fun K hK => ?_)
          go_simp
          try rw [hW9]
          refine hK _ _ ⟨⟨W9, HK9.out⟩, rfl⟩ ?_
          clear hK K y0 y1 hb9 hk9 hok9
          try simp only [Act.put, List.setIfInBounds_toArray, List.set_cons_zero, List.set_cons_succ]
          refine wpAnyH_done (by kernel_rfl) ?_ _
          cases r3
          · go_wp2_with fail
            go_ret
            rw [HRC.out]
            exact RdL.U (HS.out.below HB3.out) HK9.out HQ3.out HB9.out HBL9.out a b c d e n1 n2 n3 HN1.out HN2.out HN3.out HO9.out false (by rw [HR1.out, HR2.out]; exact HR3.out) rfl
          · go_wp2_with fail
            go_ret
            rw [HRC.out]
            exact RdL.U (HS.out.below HB3.out) HK9.out HQ3.out HB9.out HBL9.out a b c d e n1 n2 n3 HN1.out HN2.out HN3.out HO9.out true (by rw [HR1.out, HR2.out]; exact HR3.out) rfl
        · go_simp
          refine (number_any e (w.heap.size + 1) r2 Z2.1 HOK2.out (HG.out.below HBZ2.out) hze).mono ?_
          rintro e w' ⟨n3, rfl, hn, hok, hkk⟩
          obtain ⟨r3, hr⟩ : ∃ x, (r2 && (numG e).isSome) = x := ⟨_, rfl⟩
          rw [hr] at hok
          obtain ⟨Z3, rfl⟩ : ∃ Z : ExtO (Oth gb (w.heap.size + 1) vU) W3, w' = Z.1 := ⟨⟨w', Z2.2.trans (hkk.weaken2 fun k e => Or.inr (Or.inl e))⟩, rfl⟩
          have HBZ3 := Lib.hid (Kept.below HBZ2.out hkk HBZ2.out.size (fun b hb e => by omega))
          have HOK3 := Lib.hid hok
          have HN3 := Lib.hid hn
          have HR3 := Lib.hid hr
          refine hK _ _ ⟨Z3, rfl⟩ ?_
          clear hK K hn hok hkk hr
          try simp only [Act.put, List.setIfInBounds_toArray, List.set_cons_zero, List.set_cons_succ]
          refine held_quiet2 (by kernel_rfl) (fun _ _ d _ _ h => by cases d <;> exact h) ⟨Z3, rfl⟩ [23] 6 _ _ (by kernel_rfl) ?_
          change wpQuiet _ _ _ _ (_ :: []) _
          go_big_quiet_step (fail)
          refine wpQuiet_nil ?_
          refine held_two (i := 4) (j := 24) _ _ rfl rfl (by kernel_rfl) rfl rfl (fun K hK => ?_) (fun K hK => ?_)
          · have g0 : Z3.1.cell? ⟨gb, 3, none⟩ = some vU := block_cell (below_block HBZ3.out HS.out.b) rfl
            go_simp
            refine hK _ _ ⟨Z3, rfl⟩ ?_
            clear hK K g0
            try simp only [Act.put, List.setIfInBounds_toArray, List.set_cons_zero, List.set_cons_succ]
            refine held_do (i := 24) _ rfl (by kernel_rfl) rfl (fun K hK => ?_)
            go_simp
            obtain ⟨Wb, hWb, hwb1, hwb2, hwq⟩ := alloc_block Z3.1 #[.string a, .string b, .int .i64 n1, .int .i64 n2, .int .i64 n3] 54
            rw [hWb]
            obtain ⟨Z4, rfl⟩ : ∃ Z : ExtO (Oth gb (w.heap.size + 1) vU) W3, Wb = Z.1 := ⟨⟨Wb, Z3.2.trans (Kept.of_below hwb1)⟩, rfl⟩
            have HBZ4 := Lib.hid (HBZ3.out.trans (hwb1.mono HBZ3.out.size))
            have HOK4 := Lib.hid (below_block hwb1 HOK3.out)
            have HWQ := Lib.hid hwq
            have hbsl : Z3.1.heap.size < Z4.1.heap.size := by omega
            refine hK _ _ ⟨Z4, rfl⟩ ?_
            clear hWb hwb1 hwq hK K
            try simp only [Act.put, List.setIfInBounds_toArray, List.set_cons_zero, List.set_cons_succ]
            refine held_do (i := 25) _ rfl (by kernel_rfl) rfl (fun K hK => ?_)
            have hown := ownsRow_below HS.out.oU HBZ4.out
            refine wp_append_lies Z4.1 (.tmp 120) (.tmp 140) 25 rfl gb 54 i0 (.agg #[.string ⟨#[]⟩, .string ⟨#[]⟩, .int .i64 0, .int .i64 0, .int .i64 0]) 5 56 HU.out HI0.out HZI0.out HZI1.out HZI2.out rfl (by decide) vU (nU acc) (cU acc) rfl hown ⟨Z3.1.heap.size, 0, none⟩ 1 1 [.string a, .string b, .int .i64 n1, .int .i64 n2, .int .i64 n3] rfl rfl (fun j u hu => by rw [addr_add0]; exact block_cell HWQ.out (by simpa using hu)) (fun u hu => by simp only [List.mem_cons, List.not_mem_nil, or_false] at hu; rcases hu with rfl | rfl | rfl | rfl | rfl <;> rfl) (by omega) (by unfold maxLen; omega) (by omega) (Nat.le_trans (Nat.le_of_lt hgl) HBZ4.out.size) _ rfl (fun g6 cap6 w6 hown6 hg6 hat6 hlt6 => ?_)
            have hgb6 : w6.heap[gb]? = some (.cells #[vP, vS, vM, vU] 27 (0, 0)) := (hg6.block gb (Nat.lt_of_lt_of_le hgl HBZ4.out.size) (fun e => own_apart hown (below_block HBZ4.out HS.out.b) (by decide) e.symm)).trans (below_block HBZ4.out HS.out.b)
            have hok6 : w6.heap[w.heap.size + 1]? = some (.cells #[.bool r3] 4 (0, 0)) := (hg6.block _ (lt_of_block HOK4.out) (fun e => own_apart hown HOK4.out (by decide) e.symm)).trans HOK4.out
            obtain ⟨Y6, rfl⟩ : ∃ Z : ExtO (Oth gb (w.heap.size + 1) vU) W3, w6 = Z.1 := ⟨⟨w6, Z4.2.grown hg6 (fun q hq _ => Or.inr (Or.inr hq))⟩, rfl⟩
            have HGB6 := Lib.hid hgb6
            have HOK6 := Lib.hid hok6
            have HO6 := Lib.hid hown6
            refine hK _ _ ⟨Y6, rfl⟩ ?_
            clear hg6 hat6 hlt6 hown6 hgb6 hok6 hK K hown
            try simp only [Act.put, List.setIfInBounds_toArray, List.set_cons_zero, List.set_cons_succ]
            refine held_quiet2 (by kernel_rfl) (fun _ _ d _ _ h => by cases d <;> exact h) ⟨Y6, rfl⟩ [26, 27] 1 _ _ (by kernel_rfl) ?_
            change wpQuiet _ _ _ _ (_ :: _ :: []) _
            repeat go_big_quiet_step (fail)
            refine wpQuiet_nil ?_
            have y0 : Y6.1.cell? ⟨gb, 3, none⟩ = some vU := block_cell HGB6.out rfl
            have y1 : Y6.1.frozen? ⟨gb, 3, none⟩ = false := Lib.frozen_of_heap HGB6.out 3
            obtain ⟨W9, hW9⟩ : ∃ W, Y6.1.setCell ⟨gb, 3, none⟩ (.slice (some ⟨g6, 0, none⟩) (nU acc + 1) cap6) = W := ⟨_, rfl⟩
            have hb9 : W9.heap[gb]? = some (.cells #[vP, vS, vM, (.slice (some ⟨g6, 0, none⟩) (nU acc + 1) cap6)] 27 (0, 0)) := by rw [← hW9]; exact cells_set HGB6.out
            have hk9 : Kept (fun k => k = gb) Y6.1 W9 := by rw [← hW9]; exact kept_set1
            have hok9 : W9.heap[w.heap.size + 1]? = some (.cells #[.bool r3] 4 (0, 0)) := (hk9.block _ (lt_of_block HOK6.out) (by omega)).trans HOK6.out
            have HO9 := Lib.hid (own_kept HO6.out hk9 (fun g hg e => by subst e; exact own_apart HO6.out HGB6.out (by decide) hg))
            have HK9 := Lib.hid (Y6.2.trans (hk9.weaken2 fun k e => Or.inl e))
            have HB9 := Lib.hid hb9
            have HBL9 := Lib.hid (Kept.below (HB3.out.mono (Nat.le_of_lt hgl)) HK9.out (Nat.le_trans (Nat.le_of_lt hgl) HB3.out.size) (fun k hk e => by
              rcases e with e | e | e
              · omega
              · omega
              · have := (HS.out.oU.lt k e).1
                omega))
            have c9 : W9.cell? ⟨w.heap.size + 1, 0, none⟩ = some (.bool r3) := block_cell hok9 rfl
            refine held_do (i := 28) _ rfl (by kernel_rfl) rfl (fun K hK => ?_)
            go_simp
            try rw [hW9]
            refine hK _ _ ⟨⟨W9, HK9.out⟩, rfl⟩ ?_
            clear hK K y0 y1 hb9 hk9 hok9
            try simp only [Act.put, List.setIfInBounds_toArray, List.set_cons_zero, List.set_cons_succ]
            refine wpAnyH_done (by kernel_rfl) ?_ _
            cases r3
            · go_wp2_with fail
              go_ret
              rw [HRC.out]
              exact RdL.U (HS.out.below HB3.out) HK9.out HQ3.out HB9.out HBL9.out a b c d e n1 n2 n3 HN1.out HN2.out HN3.out HO9.out false (by rw [HR1.out, HR2.out]; exact HR3.out) rfl
            · go_wp2_with fail
              go_ret
              rw [HRC.out]
              exact RdL.U (HS.out.below HB3.out) HK9.out HQ3.out HB9.out HBL9.out a b c d e n1 n2 n3 HN1.out HN2.out HN3.out HO9.out true (by rw [HR1.out, HR2.out]; exact HR3.out) rfl
          · go_simp
            obtain ⟨Wb, hWb, hwb1, hwb2, hwq⟩ := alloc_block Z3.1 #[.string a, .string b, .int .i64 n1, .int .i64 n2, .int .i64 n3] 54
            rw [hWb]
            obtain ⟨Z4, rfl⟩ : ∃ Z : ExtO (Oth gb (w.heap.size + 1) vU) W3, Wb = Z.1 := ⟨⟨Wb, Z3.2.trans (Kept.of_below hwb1)⟩, rfl⟩
            have HBZ4 := Lib.hid (HBZ3.out.trans (hwb1.mono HBZ3.out.size))
            have HOK4 := Lib.hid (below_block hwb1 HOK3.out)
            have HWQ := Lib.hid hwq
            have hbsl : Z3.1.heap.size < Z4.1.heap.size := by omega
            refine hK _ _ ⟨Z4, rfl⟩ ?_
            clear hWb hwb1 hwq hK K
            try simp only [Act.put, List.setIfInBounds_toArray, List.set_cons_zero, List.set_cons_succ]
            refine held_do (i := 4) _ rfl (by kernel_rfl) rfl (fun K hK => ?_)
            have g0 : Z4.1.cell? ⟨gb, 3, none⟩ = some vU := block_cell (below_block HBZ4.out HS.out.b) rfl
            go_simp
            refine hK _ _ ⟨Z4, rfl⟩ ?_
            clear hK K g0
            try simp only [Act.put, List.setIfInBounds_toArray, List.set_cons_zero, List.set_cons_succ]
            refine held_do (i := 25) _ rfl (by kernel_rfl) rfl (fun K hK => ?_)
            have hown := ownsRow_below HS.out.oU HBZ4.out
            refine wp_append_lies Z4.1 (.tmp 120) (.tmp 140) 25 rfl gb 54 i0 (.agg #[.string ⟨#[]⟩, .string ⟨#[]⟩, .int .i64 0, .int .i64 0, .int .i64 0]) 5 56 HU.out HI0.out HZI0.out HZI1.out HZI2.out rfl (by decide) vU (nU acc) (cU acc) rfl hown ⟨Z3.1.heap.size, 0, none⟩ 1 1 [.string a, .string b, .int .i64 n1, .int .i64 n2, .int .i64 n3] rfl rfl (fun j u hu => by rw [addr_add0]; exact block_cell HWQ.out (by simpa using hu)) (fun u hu => by simp only [List.mem_cons, List.not_mem_nil, or_false] at hu; rcases hu with rfl | rfl | rfl | rfl | rfl <;> rfl) (by omega) (by unfold maxLen; omega) (by omega) (Nat.le_trans (Nat.le_of_lt hgl) HBZ4.out.size) _ rfl (fun g6 cap6 w6 hown6 hg6 hat6 hlt6 => ?_)
            have hgb6 : w6.heap[gb]? = some (.cells #[vP, vS, vM, vU] 27 (0, 0)) := (hg6.block gb (Nat.lt_of_lt_of_le hgl HBZ4.out.size) (fun e => own_apart hown (below_block HBZ4.out HS.out.b) (by decide) e.symm)).trans (below_block HBZ4.out HS.out.b)
            have hok6 : w6.heap[w.heap.size + 1]? = some (.cells #[.bool r3] 4 (0, 0)) := (hg6.block _ (lt_of_block HOK4.out) (fun e => own_apart hown HOK4.out (by decide) e.symm)).trans HOK4.out
            obtain ⟨Y6, rfl⟩ : ∃ Z : ExtO (Oth gb (w.heap.size + 1) vU) W3, w6 = Z.1 := ⟨⟨w6, Z4.2.grown hg6 (fun q hq _ => Or.inr (Or.inr hq))⟩, rfl⟩
            have HGB6 := Lib.hid hgb6
            have HOK6 := Lib.hid hok6
            have HO6 := Lib.hid hown6
            refine hK _ _ ⟨Y6, rfl⟩ ?_
            clear hg6 hat6 hlt6 hown6 hgb6 hok6 hK K hown
            try simp only [Act.put, List.setIfInBounds_toArray, List.set_cons_zero, List.set_cons_succ]
            refine held_quiet2 (by kernel_rfl) (fun _ _ d _ _ h => by cases d <;> exact h) ⟨Y6, rfl⟩ [26, 27] 1 _ _ (by kernel_rfl) ?_
            change wpQuiet _ _ _ _ (_ :: _ :: []) _
            repeat go_big_quiet_step (fail)
            refine wpQuiet_nil ?_
            have y0 : Y6.1.cell? ⟨gb, 3, none⟩ = some vU := block_cell HGB6.out rfl
            have y1 : Y6.1.frozen? ⟨gb, 3, none⟩ = false := Lib.frozen_of_heap HGB6.out 3
            obtain ⟨W9, hW9⟩ : ∃ W, Y6.1.setCell ⟨gb, 3, none⟩ (.slice (some ⟨g6, 0, none⟩) (nU acc + 1) cap6) = W := ⟨_, rfl⟩
            have hb9 : W9.heap[gb]? = some (.cells #[vP, vS, vM, (.slice (some ⟨g6, 0, none⟩) (nU acc + 1) cap6)] 27 (0, 0)) := by rw [← hW9]; exact cells_set HGB6.out
            have hk9 : Kept (fun k => k = gb) Y6.1 W9 := by rw [← hW9]; exact kept_set1
            have hok9 : W9.heap[w.heap.size + 1]? = some (.cells #[.bool r3] 4 (0, 0)) := (hk9.block _ (lt_of_block HOK6.out) (by omega)).trans HOK6.out
            have HO9 := Lib.hid (own_kept HO6.out hk9 (fun g hg e => by subst e; exact own_apart HO6.out HGB6.out (by decide) hg))
            have HK9 := Lib.hid (Y6.2.trans (hk9.weaken2 fun k e => Or.inl e))
            have HB9 := Lib.hid hb9
            have HBL9 := Lib.hid (Kept.below (HB3.out.mono (Nat.le_of_lt hgl)) HK9.out (Nat.le_trans (Nat.le_of_lt hgl) HB3.out.size) (fun k hk e => by
              rcases e with e | e | e
              · omega
              · omega
              · have := (HS.out.oU.lt k e).1
                omega))
            have c9 : W9.cell? ⟨w.heap.size + 1, 0, none⟩ = some (.bool r3) := block_cell hok9 rfl
            refine held_do (i := 28) _ rfl (by kernel_rfl) rfl (fun K hK => ?_)
            go_simp
            try rw [hW9]
            refine hK _ _ ⟨⟨W9, HK9.out⟩, rfl⟩ ?_
            clear hK K y0 y1 hb9 hk9 hok9
            try simp only [Act.put, List.setIfInBounds_toArray, List.set_cons_zero, List.set_cons_succ]
            refine wpAnyH_done (by kernel_rfl) ?_ _
            cases r3
            · go_wp2_with fail
              go_ret
              rw [HRC.out]
              exact RdL.U (HS.out.below HB3.out) HK9.out HQ3.out HB9.out HBL9.out a b c d e n1 n2 n3 HN1.out HN2.out HN3.out HO9.out false (by rw [HR1.out, HR2.out]; exact HR3.out) rfl
            · go_wp2_with fail
              go_ret
              rw [HRC.out]
              exact RdL.U (HS.out.below HB3.out) HK9.out HQ3.out HB9.out HBL9.out a b c d e n1 n2 n3 HN1.out HN2.out HN3.out HO9.out true (by rw [HR1.out, HR2.out]; exact HR3.out) rfl
  rw [decide_eq_false hA]
  have HNU := Lib.hid hA
  clear hA
  have HRC : Hid (recOf ws = none) := Lib.hid (by
    have n1 := HNP.out
    have n2 := HNS.out
    have n3 := HNM.out
    have n4 := HNU.out
    match ws, hw0, n1, n2, n3, n4 with
    | [], h0, _, _, _, _ => simp at h0
    | [x], _, _, _, _, _ => rfl
    | [x, y], _, _, _, _, _ => rfl
    | [x, y, z], h0, n1, n2, _, _ =>
      obtain rfl : x = w0 := by simpa using h0
      show (if x = kPart then _ else if x = kSlot then _ else none) = none
      rw [if_neg (fun e => n1 ⟨e, rfl⟩), if_neg (fun e => n2 ⟨e, rfl⟩)]
    | [x, y, z, u], _, _, _, _, _ => rfl
    | [x, y, z, u, v], h0, _, _, n3, _ =>
      obtain rfl : x = w0 := by simpa using h0
      show (if x = kMount then _ else none) = none
      rw [if_neg (fun e => n3 ⟨e, rfl⟩)]
    | [x, y, z, u, v, q], h0, _, _, _, n4 =>
      obtain rfl : x = w0 := by simpa using h0
      show (if x = kUse then _ else none) = none
      rw [if_neg (fun e => n4 ⟨e, rfl⟩)]
    | x :: y :: z :: u :: v :: q :: p :: ws, _, _, _, _, _ => rfl)
  have c9 : W3.cell? ⟨w.heap.size + 1, 0, none⟩ = some (.bool true) := block_cell HQ3.out rfl
  go_wp2_with fail
  go_ret
  rw [HRC.out]
  exact RdL.bad HS.out HB3.out rfl
end Go.Proofs.YthdmceeipmmhjaaGreatDoor

/- Gear: Read of the program. -/
namespace Go.Proofs.YthdmceeipmmhjaaGreatDoor
open Go.RowKit Go.BigFrame
open Txt
open Gar (chk)

/-- the names of a line -/
def Txt.Ln.nms : Ln → List ByteArray
  | .part n _ => [n]
  | .slot n r => [n, r]
  | .mnt s p _ _ => [s, p]
  | .use n r _ _ _ => [n, r]
theorem nms_words {ws : List ByteArray} {ln : Ln} (h : lineOf ws = some ln) : ∀ x, x ∈ ln.nms → x ∈ ws := by
  unfold lineOf at h
  split at h
  · cases h
  · unfold recOf at h
    split at h
    · split at h
      · rename_i k a b _ _
        cases hb : numG b with
        | none => rw [hb] at h; cases h
        | some v => rw [hb] at h; injection h with h; subst h; intro x hx; simp [Ln.nms] at hx; subst hx; simp
      · split at h
        · injection h with h; subst h; intro x hx; simp [Ln.nms] at hx; rcases hx with rfl | rfl <;> simp
        · cases h
    · split at h
      · rename_i k a b c d _ _
        cases hc : numG c with
        | none => rw [hc] at h; cases h
        | some v =>
          cases hd : toG d with
          | none => rw [hc, hd] at h; cases h
          | some u => rw [hc, hd] at h; injection h with h; subst h; intro x hx; simp [Ln.nms] at hx; rcases hx with rfl | rfl <;> simp
      · cases h
    · split at h
      · rename_i k a b c d e _ _
        cases hc : numG c with
        | none => rw [hc] at h; cases h
        | some v =>
          cases hd : numG d with
          | none => rw [hc, hd] at h; cases h
          | some u =>
            cases he : numG e with
            | none => rw [hc, hd, he] at h; cases h
            | some y => rw [hc, hd, he] at h; injection h with h; subst h; intro x hx; simp [Ln.nms] at hx; rcases hx with rfl | rfl <;> simp
      · cases h
    · cases h
/-- the rows of a garage that was read -/
theorem own_row {w : World} {base n k : Nat} {T : TypeId} {v : Value} {α : Type} (d : α) (f : α → List Value) (hf : ∀ x, (f x).length = k) (l : List α) (h : w.ownsRow base T k v n (l.flatMap f)) (hn : n = l.length) :
    ∃ (a : Option Addr) (c : Nat), v = .slice a n c ∧ n ≤ c ∧ RowK w a n k (fun i => f (l.getD i d)) := by
  rcases h.2 with ⟨e, hn0⟩ | ⟨q, cap, cur, e, _, h3, h4, _⟩
  · exact ⟨none, 0, by rw [e, hn0], by omega, ⟨fun h => by omega⟩⟩
  · refine ⟨some ⟨q, 0, none⟩, cap, e, h4, ⟨fun hl => ⟨q, 0, rfl, lt_of_block h3, fun i hi j hj => ?_⟩⟩⟩
    have hc := flatN (f := f) (m := k) d hf l i j (by omega) hj
    have hv : ∃ v, (f (l.getD i d))[j]? = some v := ⟨_, List.getElem?_eq_getElem (by rw [hf]; exact hj)⟩
    obtain ⟨v, hv⟩ := hv
    have h6 := h.cells (g := q) (by rw [e]; rfl) (i * k + j) v (hc.trans hv)
    rw [addr_add0] at h6
    rw [Nat.zero_add, hv]
    exact h6
theorem gst_in {gb : Nat} {w : World} {acc : List Ln} {vP vS vM vU : Value} (h : GSt gb w acc vP vS vM vU) (hacc : acc.length ≤ 1000000)
    (hz : ∀ l, l ∈ acc → ∀ x, x ∈ l.nms → x.size ≤ 1000000) :
    ∃ a0 a1 a2 a3 c0 c1 c2 c3, vP = .slice a0 (gOf acc).np c0 ∧ vS = .slice a1 (gOf acc).ns c1 ∧ vM = .slice a2 (gOf acc).nm c2 ∧ vU = .slice a3 (gOf acc).nu c3 ∧ GarIn w (gOf acc) a0 a1 a2 a3 ∧ (gOf acc).nm ≤ c2 ∧ (gOf acc).nu ≤ c3 := by
  obtain ⟨a0, c0, rfl, _, r0⟩ := own_row (α := ByteArray × Int) (⟨#[]⟩, 0) (fun x => [.string x.1, .int .i64 x.2]) (fun _ => rfl) (acc.filterMap Ln.part?) h.oP rfl
  obtain ⟨a1, c1, rfl, _, r1⟩ := own_row (α := ByteArray × ByteArray) (⟨#[]⟩, ⟨#[]⟩) (fun x => [.string x.1, .string x.2]) (fun _ => rfl) (acc.filterMap Ln.slot?) h.oS rfl
  obtain ⟨a2, c2, rfl, hc2, r2⟩ := own_row (α := ByteArray × ByteArray × Int × Int) (⟨#[]⟩, ⟨#[]⟩, 0, 0) (fun x => [.string x.1, .string x.2.1, .int .i64 x.2.2.1, .int .i64 x.2.2.2]) (fun _ => rfl) (acc.filterMap Ln.mnt?) h.oM rfl
  obtain ⟨a3, c3, rfl, hc3, r3⟩ := own_row (α := ByteArray × ByteArray × Int × Int × Int) (⟨#[]⟩, ⟨#[]⟩, 0, 0, 0) (fun x => [.string x.1, .string x.2.1, .int .i64 x.2.2.1, .int .i64 x.2.2.2.1, .int .i64 x.2.2.2.2]) (fun _ => rfl) (acc.filterMap Ln.use?) h.oU rfl
  have hl := n_le acc
  have hm : maxLen = 9223372036854775807 := rfl
  refine ⟨a0, a1, a2, a3, c0, c1, c2, c3, rfl, rfl, rfl, rfl, ⟨r0, r1, r2, r3, ?_, ?_, ?_, ?_, ?_, ?_, ?_, ?_⟩, hc2, hc3⟩
  · intro i hi
    have h1 := List.getElem_mem (l := acc.filterMap Ln.part?) (n := i) hi
    obtain ⟨l, hl1, hl2⟩ := List.mem_filterMap.1 h1
    have e : (gOf acc).pn i = ((acc.filterMap Ln.part?)[i]).1 := by
      show ((acc.filterMap Ln.part?).getD i _).1 = _
      rw [List.getD_eq_getElem?_getD, List.getElem?_eq_getElem hi]; rfl
    rw [e]
    cases l with
    | part n c =>
      injection hl2 with hl2
      rw [← hl2]
      have := hz _ hl1 n (by simp [Ln.nms])
      show n.size ≤ _
      omega
    | _ => cases hl2
  · intro i hi
    have h1 := List.getElem_mem (l := acc.filterMap Ln.slot?) (n := i) hi
    obtain ⟨l, hl1, hl2⟩ := List.mem_filterMap.1 h1
    have e1 : (gOf acc).sn i = ((acc.filterMap Ln.slot?)[i]).1 := by
      show ((acc.filterMap Ln.slot?).getD i _).1 = _
      rw [List.getD_eq_getElem?_getD, List.getElem?_eq_getElem hi]; rfl
    have e2 : (gOf acc).sr i = ((acc.filterMap Ln.slot?)[i]).2 := by
      show ((acc.filterMap Ln.slot?).getD i _).2 = _
      rw [List.getD_eq_getElem?_getD, List.getElem?_eq_getElem hi]; rfl
    rw [e1, e2]
    cases l with
    | slot n r =>
      injection hl2 with hl2
      rw [← hl2]
      have h1 := hz _ hl1 n (by simp [Ln.nms])
      have h2 := hz _ hl1 r (by simp [Ln.nms])
      show n.size ≤ _ ∧ r.size ≤ _
      omega
    | _ => cases hl2
  · intro i hi
    have h1 := List.getElem_mem (l := acc.filterMap Ln.mnt?) (n := i) hi
    obtain ⟨l, hl1, hl2⟩ := List.mem_filterMap.1 h1
    have e1 : (gOf acc).ms i = ((acc.filterMap Ln.mnt?)[i]).1 := by
      show ((acc.filterMap Ln.mnt?).getD i _).1 = _
      rw [List.getD_eq_getElem?_getD, List.getElem?_eq_getElem hi]; rfl
    have e2 : (gOf acc).mp i = ((acc.filterMap Ln.mnt?)[i]).2.1 := by
      show ((acc.filterMap Ln.mnt?).getD i _).2.1 = _
      rw [List.getD_eq_getElem?_getD, List.getElem?_eq_getElem hi]; rfl
    rw [e1, e2]
    cases l with
    | mnt n r f t =>
      injection hl2 with hl2
      rw [← hl2]
      have h1 := hz _ hl1 n (by simp [Ln.nms])
      have h2 := hz _ hl1 r (by simp [Ln.nms])
      show n.size ≤ _ ∧ r.size ≤ _
      omega
    | _ => cases hl2
  · intro i hi
    have h1 := List.getElem_mem (l := acc.filterMap Ln.use?) (n := i) hi
    obtain ⟨l, hl1, hl2⟩ := List.mem_filterMap.1 h1
    have e1 : (gOf acc).un i = ((acc.filterMap Ln.use?)[i]).1 := by
      show ((acc.filterMap Ln.use?).getD i _).1 = _
      rw [List.getD_eq_getElem?_getD, List.getElem?_eq_getElem hi]; rfl
    have e2 : (gOf acc).ur i = ((acc.filterMap Ln.use?)[i]).2.1 := by
      show ((acc.filterMap Ln.use?).getD i _).2.1 = _
      rw [List.getD_eq_getElem?_getD, List.getElem?_eq_getElem hi]; rfl
    rw [e1, e2]
    cases l with
    | use n r f s x =>
      injection hl2 with hl2
      rw [← hl2]
      have h1 := hz _ hl1 n (by simp [Ln.nms])
      have h2 := hz _ hl1 r (by simp [Ln.nms])
      show n.size ≤ _ ∧ r.size ≤ _
      omega
    | _ => cases hl2
  · show ((nP acc : Nat) : Int) ≤ _; omega
  · show ((nS acc : Nat) : Int) ≤ _; omega
  · show ((nM acc : Nat) : Int) ≤ _; omega
  · show ((nU acc : Nat) : Int) ≤ _; omega
/-- what Read says -/
def endR : RR → List Ln × Int × Int
  | .bad n => ([], n, 6)
  | .good l => if chk (gOf l) ≠ 0 then ([], 0, chk (gOf l)) else (l, 0, 0)
def readE (s : ByteArray) : List Ln × Int × Int := if 1000000 < s.size then ([], 0, 3) else endR (readF (s.size + 1) (sB s) 1 1 [])
end Go.Proofs.YthdmceeipmmhjaaGreatDoor

/- Gear: a number, and the kind of a line (reference). -/
namespace Go.Proofs.YthdmceeipmmhjaaGreatDoor
open Go.RowKit Go.BigFrame
open Txt

theorem canon_no {s : ByteArray} (h : canon (sB s) = false) : numG s = none := by
  unfold numG numL
  rw [h, Bool.and_false, if_neg (by simp)]
theorem canon_all {s : ByteArray} {k : Nat} (hk : k < s.size) (h : isD s[k] = false) : canon (sB s) = false := by
  have h1 : (sB s).all isD = false := by
    rw [List.all_eq_false]
    exact ⟨s[k], by simp [sB, ByteArray.getElem_eq_getElem_data], by rw [h]; simp⟩
  unfold canon
  rw [h1]
  simp
def allD (s : ByteArray) (k : Nat) : Bool := ((sB s).take k).all isD
theorem allD_step {s : ByteArray} {k : Nat} (hk : k < s.size) (h : allD s k = true) (hc : isD s[k] = true) : allD s (k + 1) = true := by
  unfold allD sB at h ⊢
  rw [List.take_succ_eq_append_getElem (by simpa using hk), List.all_append, h, Bool.true_and]
  simpa [ByteArray.getElem_eq_getElem_data] using hc
theorem allD_end {s : ByteArray} (h : allD s s.size = true) : (sB s).all isD = true := by
  unfold allD at h
  rwa [List.take_of_length_le (by simp [sB])] at h
theorem num_some {s : ByteArray} (hl : s.size ≤ 12) (h : canon (sB s) = true) : ∃ n : Int, numG s = some n ∧ Lib.atoiAll (sB s) = .ok n := by
  obtain ⟨n, h1, _, _⟩ := atoi_canon h
  have hg : numG s = some (n : Int) := by
    unfold numG numL
    rw [h, if_pos (by have : (sB s).length ≤ 12 := hl; simpa using this), h1]
  exact ⟨n, hg, numG_all hg⟩
def NumR (s : ByteArray) (w : World) (e : Ending) (w' : World) : Prop := e = .returned (.tuple #[.int .i64 ((numG s).getD 0), .bool (numG s).isSome]) ∧ Below w.heap.size w w'
theorem NumR.no {s : ByteArray} {w w' : World} (h : numG s = none) (hb : Below w.heap.size w w') : NumR s w (.returned (.tuple #[.int .i64 0, .bool false])) w' := by
  unfold NumR
  rw [h]
  exact ⟨rfl, hb⟩
set_option maxHeartbeats 4000000 in
set_option maxRecDepth 100000 in
theorem rnumber_any (s : ByteArray) (w : World) (hg : Glo w) (hs : s.size ≤ 1000000) :
    Calls Tryz.prog 45 #[.string s] w fun e w' => NumR s w e w' := by
  have DA := Lib.hid (atoi_every s hs w hg)
  by_cases h0 : s = ⟨#[]⟩
  case pos =>
    subst h0
    have e1 : ((ByteArray.mk #[]).toList == ([] : List UInt8)) = true := by rw [ByteArray.toList_eq]; rfl
    have HN := Lib.hid (canon_no (s := ⟨#[]⟩) rfl)
    go_enter Tryz.func45, Tryz.ntmps45
    go_wp2_with fail
    go_ret2
    exact NumR.no HN.out (Below.refl _ _)
  have hne : 1 ≤ s.size := by
    rcases Nat.eq_zero_or_pos s.size with h | h
    · exfalso
      apply h0
      apply sB_inj
      exact List.eq_nil_of_length_eq_zero h
    · exact h
  have e1 : (s.toList == ([] : List UInt8)) = false := by
    rw [beq_eq_false_iff_ne, ByteArray.toList_eq]
    intro h
    exact h0 (sB_inj h)
  clear h0
  by_cases h12 : 12 < s.size
  case pos =>
    have t1 : decide ((12 : Int) < (s.size : Int)) = true := by rw [decide_eq_true_eq]; omega
    have t1' : decide (12 < s.size) = true := by simpa using h12
    have HN : Hid (numG s = none) := Lib.hid (by
      cases h : numG s with
      | none => rfl
      | some v => exact absurd (numG_len h).1 (by omega))
    clear h12
    go_enter Tryz.func45, Tryz.ntmps45
    go_wp2_with fail
    go_ret2
    exact NumR.no HN.out (Below.refl _ _)
  have t1 : decide ((12 : Int) < (s.size : Int)) = false := by rw [decide_eq_false_iff_not]; omega
  have t1' : decide (12 < s.size) = false := by simpa using h12
  have h00 : 0 < s.size := hne
  have hhead : (sB s).head? = some s[0] := by
    simp [sB, List.head?_eq_getElem?, ByteArray.getElem_eq_getElem_data, h00]
  have h0i : (0 : Int) < (s.size : Int) := by omega
  by_cases hz : 1 < s.size ∧ s[0] = 48
  case pos =>
    have u1 : decide ((1 : Int) < (s.size : Int)) = true := by rw [decide_eq_true_eq]; omega
    have u1' : decide (1 < s.size) = true := by simpa using hz.1
    have HN : Hid (numG s = none) := Lib.hid (canon_no (by
      have hl : (sB s).length = s.size := rfl
      unfold canon
      rw [hhead, hz.2, hl, u1']
      simp))
    have hx : ((s[0].toNat : Nat) : Int) = 48 := by rw [hz.2]; rfl
    have hx2 : s[0].toNat = 48 := by rw [hz.2]; rfl
    have hx3 : (((s[0].toNat : Nat) : Int) == 48) = true := by rw [hx]; rfl
    have hx4 : (s[0].toNat == 48) = true := by rw [hx2]; rfl
    clear hz hhead
    go_enter Tryz.func45, Tryz.ntmps45
    go_wp2_with fail
    go_ret2
    exact NumR.no HN.out (Below.refl _ _)
  have HCAN := Lib.hid (fun (h : (sB s).all isD = true) => show canon (sB s) = true from by
    have hl : (sB s).length = s.size := rfl
    unfold canon
    rw [h, hhead, hl, Bool.and_true]
    have hn : (sB s).isEmpty = false := by
      cases hh : sB s with
      | nil => rw [hh] at hl; simp at hl; omega
      | cons a t => rfl
    rw [hn]
    simp only [Bool.not_false, Bool.true_and, Bool.not_eq_true', Bool.and_eq_false_iff, decide_eq_false_iff_not]
    by_cases h1 : 1 < s.size
    · exact Or.inr (fun e => hz ⟨h1, by injection e⟩)
    · exact Or.inl h1)
  have hl12 : s.size ≤ 12 := by omega
  have hxz : 1 < s.size → s[0] ≠ 48 := fun h e => hz ⟨h, e⟩
  clear hz hhead h12
  have key : Calls Tryz.prog 45 #[.string s] w fun e w' => NumR s w e w' := by
    by_cases h1 : 1 < s.size
    · have u1 : decide ((1 : Int) < (s.size : Int)) = true := by rw [decide_eq_true_eq]; omega
      have u1' : decide (1 < s.size) = true := by simpa using h1
      have hx2 : s[0].toNat ≠ 48 := fun e => hxz h1 (by rw [← UInt8.toNat_inj, e]; rfl)
      have hx3 : (((s[0].toNat : Nat) : Int) == 48) = false := by rw [beq_eq_false_iff_ne]; omega
      have hx4 : (s[0].toNat == 48) = false := by rw [beq_eq_false_iff_ne]; exact hx2
      clear hx2 hxz h1
      go_enter Tryz.func45, Tryz.ntmps45
      go_wp2_with fail
      go_loopw [4] (fun iv wr => ∃ (k : Nat), iv = .int .i64 k ∧ k ≤ s.size ∧ w = wr ∧ Hid (allD s k = true)) (fun iv _ => s.size - (intOf iv).toNat)
      case atStart => exact ⟨0, rfl, by omega, rfl, Lib.hid rfl⟩
      case round =>
        obtain ⟨k, rfl, hk, rfl, HA⟩ := hrel
        by_cases hlt : k < s.size
        · have t3 : decide ((k : Int) < (s.size : Int)) = true := by rw [decide_eq_true_eq]; omega
          have t3' : decide (k < s.size) = true := by simpa using hlt
          have hub : (s[k].toNat : Int) ≤ 255 := by have := s[k].toNat_lt; omega
          have hnn : 0 ≤ (s[k].toNat : Int) := Int.natCast_nonneg _
          have OK := Lib.hid (fun (h : 48 ≤ (s[k].toNat : Int) ∧ (s[k].toNat : Int) ≤ 57) => allD_step hlt HA.out (by unfold isD; simp; omega))
          have BAD := Lib.hid (fun (h : ¬ (48 ≤ (s[k].toNat : Int) ∧ (s[k].toNat : Int) ≤ 57)) => canon_no (canon_all hlt (by
            cases hd : isD s[k] with
            | false => rfl
            | true =>
              exfalso
              unfold isD at hd
              simp only [Bool.and_eq_true, decide_eq_true_eq] at hd
              exact h (by omega))))
          obtain ⟨x, hx⟩ : ∃ x : Int, (s[k].toNat : Int) = x := ⟨_, rfl⟩
          rw [hx] at hub hnn OK BAD
          by_cases hd : 48 ≤ x ∧ x ≤ 57
          · have y1 : decide (x < 48) = false := by rw [decide_eq_false_iff_not]; omega
            have y2 : decide (57 < x) = false := by rw [decide_eq_false_iff_not]; omega
            have HN := Lib.hid (OK.out hd)
            clear hd OK BAD
            go_wp2_with fail
            go_roundw
            case rel => exact ⟨k + 1, by go_num, by omega, trivial, HN⟩
            case measure => simp [intOf]; omega
          · have HN := Lib.hid (BAD.out hd)
            by_cases h48 : x < 48
            · have y1 : decide (x < 48) = true := by rw [decide_eq_true_eq]; omega
              clear hd OK BAD h48
              go_wp2_with fail
              go_ret2
              exact NumR.no HN.out (Below.refl _ _)
            · have y1 : decide (x < 48) = false := by rw [decide_eq_false_iff_not]; omega
              have y2 : decide (57 < x) = true := by rw [decide_eq_true_eq]; omega
              clear hd OK BAD h48
              go_wp2_with fail
              go_ret2
              exact NumR.no HN.out (Below.refl _ _)
        · have t3 : decide ((k : Int) < (s.size : Int)) = false := by rw [decide_eq_false_iff_not]; omega
          have t3' : decide (k < s.size) = false := by simpa using hlt
          obtain rfl : k = s.size := by omega
          obtain ⟨v, hv1, hv2⟩ := num_some hl12 (HCAN.out (allD_end HA.out))
          have HV1 := Lib.hid hv1
          have HV2 := Lib.hid hv2
          clear hlt hv1 hv2
          go_wp2_with (go_at_call 68; refine DA.out.mono ?_; rintro e w2 ⟨n, ev, rfl, hb2, hn0, hn1, hcase⟩; refine Hid.out ?_)
          refine Lib.hid ?_
          have hvn : n = v ∧ ev = .nilIface := by
            rcases hcase with ⟨h1, h2⟩ | ⟨_, h2⟩
            · rw [HV2.out] at h2
              injection h2 with h2
              exact ⟨h2.symm, h1⟩
            · exact absurd HV2.out (h2 v)
          obtain ⟨rfl, rfl⟩ := hvn
          have HB2 := Lib.hid hb2
          clear hcase hb2
          go_wp2_with fail
          go_ret2
          exact ⟨by rw [HV1.out]; rfl, HB2.out⟩
    · have u1 : decide ((1 : Int) < (s.size : Int)) = false := by rw [decide_eq_false_iff_not]; omega
      have u1' : decide (1 < s.size) = false := by simpa using h1
      clear hxz h1
      go_enter Tryz.func45, Tryz.ntmps45
      go_wp2_with fail
      go_loopw [4] (fun iv wr => ∃ (k : Nat), iv = .int .i64 k ∧ k ≤ s.size ∧ w = wr ∧ Hid (allD s k = true)) (fun iv _ => s.size - (intOf iv).toNat)
      case atStart => exact ⟨0, rfl, by omega, rfl, Lib.hid rfl⟩
      case round =>
        obtain ⟨k, rfl, hk, rfl, HA⟩ := hrel
        by_cases hlt : k < s.size
        · have t3 : decide ((k : Int) < (s.size : Int)) = true := by rw [decide_eq_true_eq]; omega
          have t3' : decide (k < s.size) = true := by simpa using hlt
          have hub : (s[k].toNat : Int) ≤ 255 := by have := s[k].toNat_lt; omega
          have hnn : 0 ≤ (s[k].toNat : Int) := Int.natCast_nonneg _
          have OK := Lib.hid (fun (h : 48 ≤ (s[k].toNat : Int) ∧ (s[k].toNat : Int) ≤ 57) => allD_step hlt HA.out (by unfold isD; simp; omega))
          have BAD := Lib.hid (fun (h : ¬ (48 ≤ (s[k].toNat : Int) ∧ (s[k].toNat : Int) ≤ 57)) => canon_no (canon_all hlt (by
            cases hd : isD s[k] with
            | false => rfl
            | true =>
              exfalso
              unfold isD at hd
              simp only [Bool.and_eq_true, decide_eq_true_eq] at hd
              exact h (by omega))))
          obtain ⟨x, hx⟩ : ∃ x : Int, (s[k].toNat : Int) = x := ⟨_, rfl⟩
          rw [hx] at hub hnn OK BAD
          by_cases hd : 48 ≤ x ∧ x ≤ 57
          · have y1 : decide (x < 48) = false := by rw [decide_eq_false_iff_not]; omega
            have y2 : decide (57 < x) = false := by rw [decide_eq_false_iff_not]; omega
            have HN := Lib.hid (OK.out hd)
            clear hd OK BAD
            go_wp2_with fail
            go_roundw
            case rel => exact ⟨k + 1, by go_num, by omega, trivial, HN⟩
            case measure => simp [intOf]; omega
          · have HN := Lib.hid (BAD.out hd)
            by_cases h48 : x < 48
            · have y1 : decide (x < 48) = true := by rw [decide_eq_true_eq]; omega
              clear hd OK BAD h48
              go_wp2_with fail
              go_ret2
              exact NumR.no HN.out (Below.refl _ _)
            · have y1 : decide (x < 48) = false := by rw [decide_eq_false_iff_not]; omega
              have y2 : decide (57 < x) = true := by rw [decide_eq_true_eq]; omega
              clear hd OK BAD h48
              go_wp2_with fail
              go_ret2
              exact NumR.no HN.out (Below.refl _ _)
        · have t3 : decide ((k : Int) < (s.size : Int)) = false := by rw [decide_eq_false_iff_not]; omega
          have t3' : decide (k < s.size) = false := by simpa using hlt
          obtain rfl : k = s.size := by omega
          obtain ⟨v, hv1, hv2⟩ := num_some hl12 (HCAN.out (allD_end HA.out))
          have HV1 := Lib.hid hv1
          have HV2 := Lib.hid hv2
          clear hlt hv1 hv2
          go_wp2_with (go_at_call 68; refine DA.out.mono ?_; rintro e w2 ⟨n, ev, rfl, hb2, hn0, hn1, hcase⟩; refine Hid.out ?_)
          refine Lib.hid ?_
          have hvn : n = v ∧ ev = .nilIface := by
            rcases hcase with ⟨h1, h2⟩ | ⟨_, h2⟩
            · rw [HV2.out] at h2
              injection h2 with h2
              exact ⟨h2.symm, h1⟩
            · exact absurd HV2.out (h2 v)
          obtain ⟨rfl, rfl⟩ := hvn
          have HB2 := Lib.hid hb2
          clear hcase hb2
          go_wp2_with fail
          go_ret2
          exact ⟨by rw [HV1.out]; rfl, HB2.out⟩
  exact key
end Go.Proofs.YthdmceeipmmhjaaGreatDoor
