/- Several texts of this claim in one. -/
import Derived.Test.YthdmceeipmmhjaaGreatDoorFt6
import Derived.Test.YthdmceeipmmhjaaGreatDoorFt3
import Derived.Test.YthdmceeipmmhjaaGreatDoorFt5
import Derived.Test.YthdmceeipmmhjaaGreatDoorFt2
/- Gear: the kind of a line; a line is taken (reference). (printed by gen_take.py) -/
namespace Go.Proofs.YthdmceeipmmhjaaGreatDoor
open Go.RowKit Go.BigFrame
open Txt

/-- the kind of a line, by its words -/
def kindW (ws : List ByteArray) : Int :=
  if ws[0]? = some kPart ∧ ws.length = 3 then 1 else if ws[0]? = some kSlot ∧ ws.length = 3 then 2 else if ws[0]? = some kMount ∧ ws.length = 5 then 3 else if ws[0]? = some kUse ∧ ws.length = 6 then 4 else 0
set_option maxHeartbeats 4000000 in
set_option maxRecDepth 100000 in
theorem kindOf_any (ws : List ByteArray) (bw : Nat) (w : World) (hc : ∀ j x, ws[j]? = some x → w.cell? ⟨bw, 0 + j, none⟩ = some (.string x)) (h1 : 1 ≤ ws.length) (hnl : ws.length ≤ 1000001) :
    Calls Tryz.prog 20 #[.slice (some ⟨bw, 0, none⟩) ws.length ws.length] w fun e w' => e = .returned (.int .i64 (kindW ws)) ∧ w = w' := by
  obtain ⟨w0, hw0⟩ : ∃ x, ws[0]? = some x := ⟨_, List.getElem?_eq_getElem (show 0 < ws.length by omega)⟩
  have k0 : w.cell? ⟨bw, 0, none⟩ = some (.string w0) := hc 0 w0 hw0
  have HK : Hid (kindW ws = if w0 = kPart ∧ ws.length = 3 then 1 else if w0 = kSlot ∧ ws.length = 3 then 2 else if w0 = kMount ∧ ws.length = 5 then 3 else if w0 = kUse ∧ ws.length = 6 then 4 else 0) := Lib.hid (by
    unfold kindW
    rw [hw0]
    simp only [Option.some.injEq])
  have hnn : (0 : Int) < (ws.length : Int) := by omega
  clear hc hw0
  go_enter Tryz.func20, Tryz.ntmps20
  go_upto_region 1 with (fail)
  go_cut [3] from 4 to 42 (fun cv wx => cv = .bool (decide (w0 = kPart ∧ ws.length = 3)) ∧ w = wx)
  case first =>
    have hse : (w0.toList == [112, 97, 114, 116]) = decide (w0 = kPart) := by
      have h0 := str_eq w0 kPart
      rwa [show kPart.toList = [112, 97, 114, 116] by rw [ByteArray.toList_eq]; rfl] at h0
    by_cases e0 : w0 = kPart
    · rw [decide_eq_true e0] at hse
      by_cases el : ws.length = 3
      · have t1 : ((ws.length : Int) == 3) = true := by rw [el]; rfl
        have t1' : (ws.length == 3) = true := by rw [el]; rfl
        have HR : Hid (decide (w0 = kPart ∧ ws.length = 3) = true) := Lib.hid (decide_eq_true ⟨e0, el⟩)
        clear e0 el
        go_wp2_with fail
        go_meet
        case rel => exact ⟨by rw [HR.out], rfl⟩
      · have t1 : ((ws.length : Int) == 3) = false := by rw [beq_eq_false_iff_ne]; omega
        have t1' : (ws.length == 3) = false := by rw [beq_eq_false_iff_ne]; omega
        have HR : Hid (decide (w0 = kPart ∧ ws.length = 3) = false) := Lib.hid (decide_eq_false fun x => el x.2)
        clear e0 el
        go_wp2_with fail
        go_meet
        case rel => exact ⟨by rw [HR.out], rfl⟩
    · rw [decide_eq_false e0] at hse
      have HR : Hid (decide (w0 = kPart ∧ ws.length = 3) = false) := Lib.hid (decide_eq_false fun x => e0 x.1)
      clear e0
      go_wp2_with fail
      go_meet
      case rel => exact ⟨by rw [HR.out], rfl⟩
  case rest =>
  obtain ⟨rfl, rfl⟩ := hcut
  by_cases hA : w0 = kPart ∧ ws.length = 3
  · rw [decide_eq_true hA]
    have HE : Hid (kindW ws = 1) := Lib.hid (by rw [HK.out, if_pos hA])
    clear hA
    go_wp2_with fail
    go_ret
    exact ⟨by rw [HE.out]; rfl, rfl⟩
  rw [decide_eq_false hA]
  have H0 := Lib.hid hA
  clear hA
  go_upto_region 3 with (fail)
  go_cut [13] from 4 to 42 (fun cv wx => cv = .bool (decide (w0 = kSlot ∧ ws.length = 3)) ∧ w = wx)
  case first =>
    have hse : (w0.toList == [115, 108, 111, 116]) = decide (w0 = kSlot) := by
      have h0 := str_eq w0 kSlot
      rwa [show kSlot.toList = [115, 108, 111, 116] by rw [ByteArray.toList_eq]; rfl] at h0
    by_cases e0 : w0 = kSlot
    · rw [decide_eq_true e0] at hse
      by_cases el : ws.length = 3
      · have t1 : ((ws.length : Int) == 3) = true := by rw [el]; rfl
        have t1' : (ws.length == 3) = true := by rw [el]; rfl
        have HR : Hid (decide (w0 = kSlot ∧ ws.length = 3) = true) := Lib.hid (decide_eq_true ⟨e0, el⟩)
        clear e0 el
        go_wp2_with fail
        go_meet
        case rel => exact ⟨by rw [HR.out], rfl⟩
      · have t1 : ((ws.length : Int) == 3) = false := by rw [beq_eq_false_iff_ne]; omega
        have t1' : (ws.length == 3) = false := by rw [beq_eq_false_iff_ne]; omega
        have HR : Hid (decide (w0 = kSlot ∧ ws.length = 3) = false) := Lib.hid (decide_eq_false fun x => el x.2)
        clear e0 el
        go_wp2_with fail
        go_meet
        case rel => exact ⟨by rw [HR.out], rfl⟩
    · rw [decide_eq_false e0] at hse
      have HR : Hid (decide (w0 = kSlot ∧ ws.length = 3) = false) := Lib.hid (decide_eq_false fun x => e0 x.1)
      clear e0
      go_wp2_with fail
      go_meet
      case rel => exact ⟨by rw [HR.out], rfl⟩
  case rest =>
  obtain ⟨rfl, rfl⟩ := hcut
  by_cases hA : w0 = kSlot ∧ ws.length = 3
  · rw [decide_eq_true hA]
    have HE : Hid (kindW ws = 2) := Lib.hid (by rw [HK.out, if_neg H0.out, if_pos hA])
    clear hA
    go_wp2_with fail
    go_ret
    exact ⟨by rw [HE.out]; rfl, rfl⟩
  rw [decide_eq_false hA]
  have H1 := Lib.hid hA
  clear hA
  go_upto_region 5 with (fail)
  go_cut [23] from 4 to 42 (fun cv wx => cv = .bool (decide (w0 = kMount ∧ ws.length = 5)) ∧ w = wx)
  case first =>
    have hse : (w0.toList == [109, 111, 117, 110, 116]) = decide (w0 = kMount) := by
      have h0 := str_eq w0 kMount
      rwa [show kMount.toList = [109, 111, 117, 110, 116] by rw [ByteArray.toList_eq]; rfl] at h0
    by_cases e0 : w0 = kMount
    · rw [decide_eq_true e0] at hse
      by_cases el : ws.length = 5
      · have t1 : ((ws.length : Int) == 5) = true := by rw [el]; rfl
        have t1' : (ws.length == 5) = true := by rw [el]; rfl
        have HR : Hid (decide (w0 = kMount ∧ ws.length = 5) = true) := Lib.hid (decide_eq_true ⟨e0, el⟩)
        clear e0 el
        go_wp2_with fail
        go_meet
        case rel => exact ⟨by rw [HR.out], rfl⟩
      · have t1 : ((ws.length : Int) == 5) = false := by rw [beq_eq_false_iff_ne]; omega
        have t1' : (ws.length == 5) = false := by rw [beq_eq_false_iff_ne]; omega
        have HR : Hid (decide (w0 = kMount ∧ ws.length = 5) = false) := Lib.hid (decide_eq_false fun x => el x.2)
        clear e0 el
        go_wp2_with fail
        go_meet
        case rel => exact ⟨by rw [HR.out], rfl⟩
    · rw [decide_eq_false e0] at hse
      have HR : Hid (decide (w0 = kMount ∧ ws.length = 5) = false) := Lib.hid (decide_eq_false fun x => e0 x.1)
      clear e0
      go_wp2_with fail
      go_meet
      case rel => exact ⟨by rw [HR.out], rfl⟩
  case rest =>
  obtain ⟨rfl, rfl⟩ := hcut
  by_cases hA : w0 = kMount ∧ ws.length = 5
  · rw [decide_eq_true hA]
    have HE : Hid (kindW ws = 3) := Lib.hid (by rw [HK.out, if_neg H0.out, if_neg H1.out, if_pos hA])
    clear hA
    go_wp2_with fail
    go_ret
    exact ⟨by rw [HE.out]; rfl, rfl⟩
  rw [decide_eq_false hA]
  have H2 := Lib.hid hA
  clear hA
  go_upto_region 7 with (fail)
  go_cut [33] from 4 to 42 (fun cv wx => cv = .bool (decide (w0 = kUse ∧ ws.length = 6)) ∧ w = wx)
  case first =>
    have hse : (w0.toList == [117, 115, 101]) = decide (w0 = kUse) := by
      have h0 := str_eq w0 kUse
      rwa [show kUse.toList = [117, 115, 101] by rw [ByteArray.toList_eq]; rfl] at h0
    by_cases e0 : w0 = kUse
    · rw [decide_eq_true e0] at hse
      by_cases el : ws.length = 6
      · have t1 : ((ws.length : Int) == 6) = true := by rw [el]; rfl
        have t1' : (ws.length == 6) = true := by rw [el]; rfl
        have HR : Hid (decide (w0 = kUse ∧ ws.length = 6) = true) := Lib.hid (decide_eq_true ⟨e0, el⟩)
        clear e0 el
        go_wp2_with fail
        go_meet
        case rel => exact ⟨by rw [HR.out], rfl⟩
      · have t1 : ((ws.length : Int) == 6) = false := by rw [beq_eq_false_iff_ne]; omega
        have t1' : (ws.length == 6) = false := by rw [beq_eq_false_iff_ne]; omega
        have HR : Hid (decide (w0 = kUse ∧ ws.length = 6) = false) := Lib.hid (decide_eq_false fun x => el x.2)
        clear e0 el
        go_wp2_with fail
        go_meet
        case rel => exact ⟨by rw [HR.out], rfl⟩
    · rw [decide_eq_false e0] at hse
      have HR : Hid (decide (w0 = kUse ∧ ws.length = 6) = false) := Lib.hid (decide_eq_false fun x => e0 x.1)
      clear e0
      go_wp2_with fail
      go_meet
      case rel => exact ⟨by rw [HR.out], rfl⟩
  case rest =>
  obtain ⟨rfl, rfl⟩ := hcut
  by_cases hA : w0 = kUse ∧ ws.length = 6
  · rw [decide_eq_true hA]
    have HE : Hid (kindW ws = 4) := Lib.hid (by rw [HK.out, if_neg H0.out, if_neg H1.out, if_neg H2.out, if_pos hA])
    clear hA
    go_wp2_with fail
    go_ret
    exact ⟨by rw [HE.out]; rfl, rfl⟩
  rw [decide_eq_false hA]
  have H3 := Lib.hid hA
  clear hA
  have HE : Hid (kindW ws = 0) := Lib.hid (by rw [HK.out, if_neg H0.out, if_neg H1.out, if_neg H2.out, if_neg H3.out])
  go_wp2_with fail
  go_ret
  exact ⟨by rw [HE.out]; rfl, rfl⟩
/-- what changes while one row is appended to -/
def Ot0 (gb : Nat) (v : Value) (k : Nat) : Prop := k = gb ∨ v.ownBlock = some k
theorem GSt.addP0 {gb : Nat} {w w' : World} {acc : List Ln} {vP vS vM vU v' : Value} (h : GSt gb w acc vP vS vM vU) (hk : Kept (Ot0 gb vP) w w')
    (hb : w'.heap[gb]? = some (.cells #[v', vS, vM, vU] 27 (0, 0))) (a : ByteArray) (n1 : Int) (ho : w'.ownsRow gb 43 2 v' (nP acc + 1) (cP acc ++ [.string a, .int .i64 n1])) : GSt gb w' (acc ++ [.part a n1]) v' vS vM vU := by
  obtain ⟨e1, e2⟩ := nP_snoc acc a n1
  have far : ∀ {n m : Nat} {T : TypeId} {v : Value} {xs : List Value}, w.ownsRow gb T m v n xs → T ≠ 27 → T ≠ 43 → w'.ownsRow gb T m v n xs := fun h0 t1 t3 => by
    refine own_kept h0 hk fun g hg => ?_
    rintro (e | e)
    · subst e
      exact own_apart h0 h.b t1 hg
    · obtain ⟨_, cs, hc⟩ := own_type h.oP e
      exact own_apart h0 hc t3 hg
  refine ⟨hb, ?_, ?_, ?_, ?_⟩
  · rw [e1, e2]
    exact ho
  · rw [show nS (acc ++ [.part a n1]) = nS acc by simp [nS, Ln.slot?], show cS (acc ++ [.part a n1]) = cS acc by simp [cS, Ln.slot?]]
    exact far h.oS (by decide) (by decide)
  · rw [show nM (acc ++ [.part a n1]) = nM acc by simp [nM, Ln.mnt?], show cM (acc ++ [.part a n1]) = cM acc by simp [cM, Ln.mnt?]]
    exact far h.oM (by decide) (by decide)
  · rw [show nU (acc ++ [.part a n1]) = nU acc by simp [nU, Ln.use?], show cU (acc ++ [.part a n1]) = cU acc by simp [cU, Ln.use?]]
    exact far h.oU (by decide) (by decide)
theorem GSt.addS0 {gb : Nat} {w w' : World} {acc : List Ln} {vP vS vM vU v' : Value} (h : GSt gb w acc vP vS vM vU) (hk : Kept (Ot0 gb vS) w w')
    (hb : w'.heap[gb]? = some (.cells #[vP, v', vM, vU] 27 (0, 0))) (a b : ByteArray) (ho : w'.ownsRow gb 50 2 v' (nS acc + 1) (cS acc ++ [.string a, .string b])) : GSt gb w' (acc ++ [.slot a b]) vP v' vM vU := by
  obtain ⟨e1, e2⟩ := nS_snoc acc a b
  have far : ∀ {n m : Nat} {T : TypeId} {v : Value} {xs : List Value}, w.ownsRow gb T m v n xs → T ≠ 27 → T ≠ 50 → w'.ownsRow gb T m v n xs := fun h0 t1 t3 => by
    refine own_kept h0 hk fun g hg => ?_
    rintro (e | e)
    · subst e
      exact own_apart h0 h.b t1 hg
    · obtain ⟨_, cs, hc⟩ := own_type h.oS e
      exact own_apart h0 hc t3 hg
  refine ⟨hb, ?_, ?_, ?_, ?_⟩
  · rw [show nP (acc ++ [.slot a b]) = nP acc by simp [nP, Ln.part?], show cP (acc ++ [.slot a b]) = cP acc by simp [cP, Ln.part?]]
    exact far h.oP (by decide) (by decide)
  · rw [e1, e2]
    exact ho
  · rw [show nM (acc ++ [.slot a b]) = nM acc by simp [nM, Ln.mnt?], show cM (acc ++ [.slot a b]) = cM acc by simp [cM, Ln.mnt?]]
    exact far h.oM (by decide) (by decide)
  · rw [show nU (acc ++ [.slot a b]) = nU acc by simp [nU, Ln.use?], show cU (acc ++ [.slot a b]) = cU acc by simp [cU, Ln.use?]]
    exact far h.oU (by decide) (by decide)
theorem GSt.addM0 {gb : Nat} {w w' : World} {acc : List Ln} {vP vS vM vU v' : Value} (h : GSt gb w acc vP vS vM vU) (hk : Kept (Ot0 gb vM) w w')
    (hb : w'.heap[gb]? = some (.cells #[vP, vS, v', vU] 27 (0, 0))) (a b : ByteArray) (n1 n2 : Int) (ho : w'.ownsRow gb 52 4 v' (nM acc + 1) (cM acc ++ [.string a, .string b, .int .i64 n1, .int .i64 n2])) : GSt gb w' (acc ++ [.mnt a b n1 n2]) vP vS v' vU := by
  obtain ⟨e1, e2⟩ := nM_snoc acc a b n1 n2
  have far : ∀ {n m : Nat} {T : TypeId} {v : Value} {xs : List Value}, w.ownsRow gb T m v n xs → T ≠ 27 → T ≠ 52 → w'.ownsRow gb T m v n xs := fun h0 t1 t3 => by
    refine own_kept h0 hk fun g hg => ?_
    rintro (e | e)
    · subst e
      exact own_apart h0 h.b t1 hg
    · obtain ⟨_, cs, hc⟩ := own_type h.oM e
      exact own_apart h0 hc t3 hg
  refine ⟨hb, ?_, ?_, ?_, ?_⟩
  · rw [show nP (acc ++ [.mnt a b n1 n2]) = nP acc by simp [nP, Ln.part?], show cP (acc ++ [.mnt a b n1 n2]) = cP acc by simp [cP, Ln.part?]]
    exact far h.oP (by decide) (by decide)
  · rw [show nS (acc ++ [.mnt a b n1 n2]) = nS acc by simp [nS, Ln.slot?], show cS (acc ++ [.mnt a b n1 n2]) = cS acc by simp [cS, Ln.slot?]]
    exact far h.oS (by decide) (by decide)
  · rw [e1, e2]
    exact ho
  · rw [show nU (acc ++ [.mnt a b n1 n2]) = nU acc by simp [nU, Ln.use?], show cU (acc ++ [.mnt a b n1 n2]) = cU acc by simp [cU, Ln.use?]]
    exact far h.oU (by decide) (by decide)
theorem GSt.addU0 {gb : Nat} {w w' : World} {acc : List Ln} {vP vS vM vU v' : Value} (h : GSt gb w acc vP vS vM vU) (hk : Kept (Ot0 gb vU) w w')
    (hb : w'.heap[gb]? = some (.cells #[vP, vS, vM, v'] 27 (0, 0))) (a b : ByteArray) (n1 n2 n3 : Int) (ho : w'.ownsRow gb 54 5 v' (nU acc + 1) (cU acc ++ [.string a, .string b, .int .i64 n1, .int .i64 n2, .int .i64 n3])) : GSt gb w' (acc ++ [.use a b n1 n2 n3]) vP vS vM v' := by
  obtain ⟨e1, e2⟩ := nU_snoc acc a b n1 n2 n3
  have far : ∀ {n m : Nat} {T : TypeId} {v : Value} {xs : List Value}, w.ownsRow gb T m v n xs → T ≠ 27 → T ≠ 54 → w'.ownsRow gb T m v n xs := fun h0 t1 t3 => by
    refine own_kept h0 hk fun g hg => ?_
    rintro (e | e)
    · subst e
      exact own_apart h0 h.b t1 hg
    · obtain ⟨_, cs, hc⟩ := own_type h.oU e
      exact own_apart h0 hc t3 hg
  refine ⟨hb, ?_, ?_, ?_, ?_⟩
  · rw [show nP (acc ++ [.use a b n1 n2 n3]) = nP acc by simp [nP, Ln.part?], show cP (acc ++ [.use a b n1 n2 n3]) = cP acc by simp [cP, Ln.part?]]
    exact far h.oP (by decide) (by decide)
  · rw [show nS (acc ++ [.use a b n1 n2 n3]) = nS acc by simp [nS, Ln.slot?], show cS (acc ++ [.use a b n1 n2 n3]) = cS acc by simp [cS, Ln.slot?]]
    exact far h.oS (by decide) (by decide)
  · rw [show nM (acc ++ [.use a b n1 n2 n3]) = nM acc by simp [nM, Ln.mnt?], show cM (acc ++ [.use a b n1 n2 n3]) = cM acc by simp [cM, Ln.mnt?]]
    exact far h.oM (by decide) (by decide)
  · rw [e1, e2]
    exact ho
/-- what take does -/
def RdT (gb : Nat) (w : World) (acc : List Ln) (ws : List ByteArray) (e : Ending) (w' : World) : Prop :=
  ∃ r : Bool, e = .returned (.bool r) ∧ Below gb w w' ∧ (r = false → lineOf ws = none) ∧ (r = true → ∃ ln, lineOf ws = some ln ∧ kindW ws = ln.kind ∧ ∃ vP vS vM vU, GSt gb w' (acc ++ [ln]) vP vS vM vU)
theorem RdT.end {gb : Nat} {w w' : World} {acc : List Ln} {ws : List ByteArray} {r : Bool} (hb : Below gb w w') (hn : r = false → lineOf ws = none) (hy : r = true → ∃ ln, lineOf ws = some ln ∧ kindW ws = ln.kind ∧ ∃ vP vS vM vU, GSt gb w' (acc ++ [ln]) vP vS vM vU) : RdT gb w acc ws (.returned (.bool r)) w' := ⟨r, rfl, hb, hn, hy⟩
theorem kind_cases {ws : List ByteArray} (h : 1 ≤ kindW ws) : (∃ a b, ws = [kPart, a, b]) ∨ (∃ a b, ws = [kSlot, a, b]) ∨ (∃ a b c d, ws = [kMount, a, b, c, d]) ∨ (∃ a b c d e, ws = [kUse, a, b, c, d, e]) := by
  unfold kindW at h
  split at h
  · rename_i h1
    obtain ⟨x, a, b, rfl⟩ := len3 h1.2
    have := h1.1
    simp only [List.getElem?_cons_zero, Option.some.injEq] at this
    exact Or.inl ⟨a, b, by rw [this]⟩
  split at h
  · rename_i h1
    obtain ⟨x, a, b, rfl⟩ := len3 h1.2
    have := h1.1
    simp only [List.getElem?_cons_zero, Option.some.injEq] at this
    exact Or.inr (Or.inl ⟨a, b, by rw [this]⟩)
  split at h
  · rename_i h1
    obtain ⟨x, a, b, c, d, rfl⟩ := len5 h1.2
    have := h1.1
    simp only [List.getElem?_cons_zero, Option.some.injEq] at this
    exact Or.inr (Or.inr (Or.inl ⟨a, b, c, d, by rw [this]⟩))
  split at h
  · rename_i h1
    obtain ⟨x, a, b, c, d, e, rfl⟩ := len6 h1.2
    have := h1.1
    simp only [List.getElem?_cons_zero, Option.some.injEq] at this
    exact Or.inr (Or.inr (Or.inr ⟨a, b, c, d, e, by rw [this]⟩))
  · omega
set_option maxHeartbeats 8000000 in
set_option maxRecDepth 100000 in
theorem takeP_any (gb bw : Nat) (acc : List Ln) (vP vS vM vU : Value) (a b : ByteArray) (w : World) (h : GSt gb w acc vP vS vM vU) (hg : Glo w) (hbq : w.heap[bw]? = some (.cells #[.string kPart, .string a, .string b] 9 (0, 0))) (hbw : gb < bw) (hsz : ∀ x, x ∈ [kPart, a, b] → x.size ≤ 1000000) (hacc : acc.length ≤ 1000000) :
    Calls Tryz.prog 21 #[.pointer (some ⟨gb, 0, none⟩), .int .i64 1, .slice (some ⟨bw, 0, none⟩) 3 3] w fun en w' => RdT gb w acc [kPart, a, b] en w' := by
  have HS := Lib.hid h
  have HG := Lib.hid hg
  have HBQ := Lib.hid hbq
  have hgl := h.lt
  have hl := n_le acc
  have hbwl := lt_of_block hbq
  have HSZ := Lib.hid hsz
  have HRC : Hid (anyE [kPart, a, b] = false → lineOf [kPart, a, b] = ((numG b).map (Ln.part a))) := Lib.hid (fun h => by unfold lineOf; rw [if_neg (by rw [h]; simp)]; simp [recOf, kPart])
  have HKW : Hid (kindW [kPart, a, b] = 1) := Lib.hid (by simp [kindW, kPart])
  have HCE := Lib.hid (fun (j : Nat) (x : ByteArray) (hx : [kPart, a, b][j]? = some x) => show w.cell? ⟨bw, j, none⟩ = some (.string x) from block_cell hbq (by rw [show (#[Value.string kPart, Value.string a, Value.string b] : Array Value) = (([kPart, a, b] : List ByteArray).map Value.string).toArray from rfl, List.getElem?_toArray, List.getElem?_map, hx]; rfl))
  obtain ⟨i0, hi0, hzi0, hzi1, hzi2⟩ := info_parts (show (Tryz.prog.info? 43).map (fun i => (i.zero, i.size, i.bytes)) = some (some (.agg #[.string ⟨#[]⟩, .int .i64 0]), 2, 24) by kernel_rfl)
  have HI0 := Lib.hid hi0
  have HZI0 := Lib.hid hzi0
  have HZI1 := Lib.hid hzi1
  have HZI2 := Lib.hid hzi2
  have HU := Lib.hid (show Tryz.prog.underlying 22 = some (.slice 43) by kernel_rfl)
  clear hi0 hzi0 hzi1 hzi2
  clear h hg hbq hsz
  go_enter Tryz.func21, Tryz.ntmps21
  go_wp2_with fail
  go_loopw [23] (fun iv wr => ∃ (j : Nat), iv = .int .i64 j ∧ j ≤ 3 ∧ w = wr ∧ Hid (∀ i x, i < j → [kPart, a, b][i]? = some x → x ≠ ⟨#[]⟩)) (fun iv _ => 3 - (intOf iv).toNat)
  case atStart => exact ⟨0, rfl, by omega, rfl, Lib.hid (fun i x hi => by omega)⟩
  case round =>
    obtain ⟨j, rfl, hj, rfl, HJ⟩ := hrel
    by_cases hlt : j < 3
    · have t1 : decide ((j : Int) < 3) = true := by rw [decide_eq_true_eq]; omega
      have t1' : decide (j < 3) = true := by simpa using hlt
      have hji : (j : Int) < 3 := by omega
      obtain ⟨x, hx⟩ : ∃ x, [kPart, a, b][j]? = some x := ⟨_, List.getElem?_eq_getElem (by simpa using hlt)⟩
      have c0 := HCE.out j x hx
      have HX := Lib.hid hx
      have hse : (x.toList == ([] : List UInt8)) = decide (x = ⟨#[]⟩) := by
        have h0 := str_eq x ⟨#[]⟩
        rwa [show (ByteArray.mk #[]).toList = [] by rw [ByteArray.toList_eq]] at h0
      clear hx
      by_cases he : x = ⟨#[]⟩
      · rw [decide_eq_true he] at hse
        have HN : Hid (lineOf [kPart, a, b] = none) := Lib.hid (by
          unfold lineOf
          rw [if_pos]
          unfold anyE
          rw [List.any_eq_true]
          exact ⟨x, List.mem_of_getElem? HX.out, by simpa using he⟩)
        clear he
        go_wp2_with fail
        go_ret
        exact RdT.end (Below.refl _ _) (fun _ => HN.out) (fun e => by cases e)
      · rw [decide_eq_false he] at hse
        have HJ2 : Hid (∀ i y, i < j + 1 → [kPart, a, b][i]? = some y → y ≠ ⟨#[]⟩) := Lib.hid (fun i y hi hy => by
          by_cases e : i = j
          · subst e
            rw [HX.out] at hy
            injection hy with hy
            rw [← hy]; exact he
          · exact HJ.out i y (by omega) hy)
        clear he
        go_wp2_with fail
        go_roundw
        case rel => exact ⟨j + 1, by go_num, by omega, trivial, HJ2⟩
        case measure => simp [intOf]; omega
    · have t1 : decide ((j : Int) < 3) = false := by rw [decide_eq_false_iff_not]; omega
      have t1' : decide (j < 3) = false := by simpa using hlt
      obtain rfl : j = 3 := by omega
      have HLO : Hid (lineOf [kPart, a, b] = ((numG b).map (Ln.part a))) := Lib.hid (HRC.out (by
        cases ha : anyE [kPart, a, b] with
        | false => rfl
        | true =>
          exfalso
          unfold anyE at ha
          rw [List.any_eq_true] at ha
          obtain ⟨x, h1, h2⟩ := ha
          obtain ⟨i, hi⟩ := List.getElem?_of_mem h1
          have hil : i < 3 := by
            have := List.getElem?_eq_some_iff.1 hi
            simpa using this.1
          exact HJ.out i x hil hi (by simpa using h2)))
      have hno : ¬ Ot0 gb vP bw := fun e => by
        rcases e with e | e
        · omega
        · exact own_apart HS.out.oP HBQ.out (by decide) e
      clear hlt HJ HRC t1 t1'
      have ca : ∀ X : Ext w, X.1.cell? ⟨bw, 1, none⟩ = some (.string a) := Ext.ex (HCE.out 1 a rfl)
      have Ca := ca ⟨w, Below.refl _ _⟩
      have cb : ∀ X : Ext w, X.1.cell? ⟨bw, 2, none⟩ = some (.string b) := Ext.ex (HCE.out 2 b rfl)
      have Cb := cb ⟨w, Below.refl _ _⟩
      have DN1 := Lib.hid (rnumber_any b w (HG.out.below (Below.refl _ _)) (HSZ.out b (by simp)))
      obtain ⟨n1, hn1⟩ : ∃ n, (numG b).getD 0 = n := ⟨_, rfl⟩
      obtain ⟨r1, hr1⟩ : ∃ r, (numG b).isSome = r := ⟨_, rfl⟩
      unfold NumR at DN1
      rw [hn1, hr1] at DN1
      have HN1 := Lib.hid hn1
      have HR1 := Lib.hid hr1
      clear hn1 hr1
      go_upto_region 10 with (go_at_call 45; refine DN1.out.mono ?_; rintro e w1 ⟨rfl, hb1⟩)
      obtain ⟨X1, rfl⟩ : ∃ X : Ext w, w1 = X.1 := ⟨⟨w1, hb1⟩, rfl⟩
      clear hb1 DN1
      obtain ⟨W6, hW6⟩ : ∃ W, X1.1 = W := ⟨_, rfl⟩
      have HB6 := Lib.hid (X1.2)
      rw [hW6] at HB6 ⊢
      have fa : ∀ Z : ExtO (Ot0 gb vP) W6, Z.1.cell? ⟨bw, 1, none⟩ = some (.string a) := ExtO.ex hno (by rw [← hW6]; exact ca X1)
      have fb : ∀ Z : ExtO (Ot0 gb vP) W6, Z.1.cell? ⟨bw, 2, none⟩ = some (.string b) := ExtO.ex hno (by rw [← hW6]; exact cb X1)
      clear hW6
      refine held_start (C := fun w' => ∃ Z : ExtO (Ot0 gb vP) W6, w' = Z.1) (by kernel_rfl) ?_
      obtain ⟨Z0, hZ0, hz0⟩ : ∃ Z : ExtO (Ot0 gb vP) W6, ({ W6 with drawn := W6.drawn + 1 } : World) = Z.1 ∧ Below W6.heap.size W6 Z.1 := ⟨⟨{ W6 with drawn := W6.drawn + 1 }, ⟨rfl, rfl, rfl, Nat.le_refl _, fun _ _ _ => rfl⟩⟩, rfl, ⟨rfl, rfl, rfl, Nat.le_refl _, fun _ _ => rfl⟩⟩
      rw [hZ0]
      have HBZ0 := Lib.hid (HB6.out.trans (hz0.mono HB6.out.size))
      clear hZ0 hz0
      refine held_quiet2 (by kernel_rfl) (fun _ _ d _ _ h => by cases d <;> exact h) ⟨Z0, rfl⟩ [0, 1, 2, 3, 5, 6, 7, 8, 9] 6 _ _ (by kernel_rfl) ?_
      change wpQuiet _ _ _ _ (_ :: _ :: _ :: _ :: _ :: _ :: _ :: _ :: _ :: []) _
      repeat go_big_quiet_step (fail)
      refine wpQuiet_nil ?_
      refine held_two (i := 4) (j := 10) _ _ rfl rfl (by kernel_rfl) rfl rfl (fun K hK => ?_) (fun K hK => ?_)
      · have g0 : Z0.1.cell? ⟨gb, 0, none⟩ = some vP := block_cell (below_block HBZ0.out HS.out.b) rfl
        go_simp
        refine hK _ _ ⟨Z0, rfl⟩ ?_
        clear hK K g0
        try simp only [Act.put, List.setIfInBounds_toArray, List.set_cons_zero, List.set_cons_succ]
        refine held_do (i := 10) _ rfl (by kernel_rfl) rfl (fun K hK => ?_)
        go_simp
        obtain ⟨Wb, hWb, hwb1, hwb2, hwq⟩ := alloc_block Z0.1 #[.string a, .int .i64 n1] 43
        rw [hWb]
        obtain ⟨Z1, rfl⟩ : ∃ Z : ExtO (Ot0 gb vP) W6, Wb = Z.1 := ⟨⟨Wb, Z0.2.trans (Kept.of_below hwb1)⟩, rfl⟩
        have HBZ1 := Lib.hid (HBZ0.out.trans (hwb1.mono HBZ0.out.size))
        have HWQ := Lib.hid hwq
        have hbsl : Z0.1.heap.size < Z1.1.heap.size := by omega
        refine hK _ _ ⟨Z1, rfl⟩ ?_
        clear hWb hwb1 hwq hK K
        try simp only [Act.put, List.setIfInBounds_toArray, List.set_cons_zero, List.set_cons_succ]
        refine held_do (i := 11) _ rfl (by kernel_rfl) rfl (fun K hK => ?_)
        have hown := ownsRow_below HS.out.oP HBZ1.out
        refine wp_append_lies Z1.1 (.tmp 44) (.tmp 50) 22 rfl gb 43 i0 (.agg #[.string ⟨#[]⟩, .int .i64 0]) 2 24 HU.out HI0.out HZI0.out HZI1.out HZI2.out rfl (by decide) vP (nP acc) (cP acc) rfl hown ⟨Z0.1.heap.size, 0, none⟩ 1 1 [.string a, .int .i64 n1] rfl rfl (fun j u hu => by rw [addr_add0]; exact block_cell HWQ.out (by simpa using hu)) (fun u hu => by simp only [List.mem_cons, List.not_mem_nil, or_false] at hu; rcases hu with rfl | rfl <;> rfl) (by omega) (by unfold maxLen; omega) (by omega) (Nat.le_trans (Nat.le_of_lt hgl) HBZ1.out.size) _ rfl (fun g6 cap6 w6 hown6 hg6 hat6 hlt6 => ?_)
        have hgb6 : w6.heap[gb]? = some (.cells #[vP, vS, vM, vU] 27 (0, 0)) := (hg6.block gb (Nat.lt_of_lt_of_le hgl HBZ1.out.size) (fun e => own_apart hown (below_block HBZ1.out HS.out.b) (by decide) e.symm)).trans (below_block HBZ1.out HS.out.b)
        obtain ⟨Y6, rfl⟩ : ∃ Z : ExtO (Ot0 gb vP) W6, w6 = Z.1 := ⟨⟨w6, Z1.2.grown hg6 (fun q hq _ => Or.inr hq)⟩, rfl⟩
        have HGB6 := Lib.hid hgb6
        have HO6 := Lib.hid hown6
        refine hK _ _ ⟨Y6, rfl⟩ ?_
        try simp only [Act.put, List.setIfInBounds_toArray, List.set_cons_zero, List.set_cons_succ]
        refine held_quiet2 (by kernel_rfl) (fun _ _ d _ _ h => by cases d <;> exact h) ⟨Y6, rfl⟩ [12, 13] 1 _ _ (by kernel_rfl) ?_
        change wpQuiet _ _ _ _ (_ :: _ :: []) _
        repeat go_big_quiet_step (fail)
        refine wpQuiet_nil ?_
        have y0 : Y6.1.cell? ⟨gb, 0, none⟩ = some vP := block_cell HGB6.out rfl
        have y1 : Y6.1.frozen? ⟨gb, 0, none⟩ = false := Lib.frozen_of_heap HGB6.out 0
        obtain ⟨W9, hW9⟩ : ∃ W, Y6.1.setCell ⟨gb, 0, none⟩ (.slice (some ⟨g6, 0, none⟩) (nP acc + 1) cap6) = W := ⟨_, rfl⟩
        have hb9 : W9.heap[gb]? = some (.cells #[(.slice (some ⟨g6, 0, none⟩) (nP acc + 1) cap6), vS, vM, vU] 27 (0, 0)) := by rw [← hW9]; exact cells_set HGB6.out
        have hk9 : Kept (fun k => k = gb) Y6.1 W9 := by rw [← hW9]; exact kept_set1
        have HO9 := Lib.hid (own_kept HO6.out hk9 (fun g hg e => by subst e; exact own_apart HO6.out HGB6.out (by decide) hg))
        have HK9 := Lib.hid (Y6.2.trans (hk9.weaken2 fun k e => Or.inl e))
        have HB9 := Lib.hid hb9
        have HBL9 := Lib.hid (Kept.below (HB6.out.mono (Nat.le_of_lt hgl)) HK9.out (Nat.le_trans (Nat.le_of_lt hgl) HB6.out.size) (fun k hk e => by
          rcases e with e | e
          · omega
          · have := (HS.out.oP.lt k e).1
            omega))
        refine held_do (i := 14) _ rfl (by kernel_rfl) rfl (fun K hK => ?_)
        go_simp
        try rw [hW9]
        refine hK _ _ ⟨⟨W9, HK9.out⟩, rfl⟩ ?_
        try simp only [Act.put, List.setIfInBounds_toArray, List.set_cons_zero, List.set_cons_succ]
        refine wpAnyH_done (by kernel_rfl) ?_ _
        cases r1
        all_goals
          go_wp2_with fail
          go_ret
          refine RdT.end HBL9.out (fun hr => ?_) (fun hr => ?_)
          · rw [HLO.out]
            first | (cases hr; done) | (rw [none_of HR1.out]; rfl)
          · rw [HLO.out, HKW.out]
            first | (cases hr; done) | (obtain ⟨v, hv⟩ := some_of HR1.out; have h1 := HN1.out; rw [hv] at h1 ⊢; exact ⟨_, rfl, rfl, _, _, _, _, by rw [show v = n1 from h1]; exact (HS.out.below HB6.out).addP0 HK9.out HB9.out a n1 HO9.out⟩)
      · go_simp
        obtain ⟨Wb, hWb, hwb1, hwb2, hwq⟩ := alloc_block Z0.1 #[.string a, .int .i64 n1] 43
        rw [hWb]
        obtain ⟨Z1, rfl⟩ : ∃ Z : ExtO (Ot0 gb vP) W6, Wb = Z.1 := ⟨⟨Wb, Z0.2.trans (Kept.of_below hwb1)⟩, rfl⟩
        have HBZ1 := Lib.hid (HBZ0.out.trans (hwb1.mono HBZ0.out.size))
        have HWQ := Lib.hid hwq
        have hbsl : Z0.1.heap.size < Z1.1.heap.size := by omega
        refine hK _ _ ⟨Z1, rfl⟩ ?_
        clear hWb hwb1 hwq hK K
        try simp only [Act.put, List.setIfInBounds_toArray, List.set_cons_zero, List.set_cons_succ]
        refine held_do (i := 4) _ rfl (by kernel_rfl) rfl (fun K hK => ?_)
        have g0 : Z1.1.cell? ⟨gb, 0, none⟩ = some vP := block_cell (below_block HBZ1.out HS.out.b) rfl
        go_simp
        refine hK _ _ ⟨Z1, rfl⟩ ?_
        clear hK K g0
        try simp only [Act.put, List.setIfInBounds_toArray, List.set_cons_zero, List.set_cons_succ]
        refine held_do (i := 11) _ rfl (by kernel_rfl) rfl (fun K hK => ?_)
        have hown := ownsRow_below HS.out.oP HBZ1.out
        refine wp_append_lies Z1.1 (.tmp 44) (.tmp 50) 22 rfl gb 43 i0 (.agg #[.string ⟨#[]⟩, .int .i64 0]) 2 24 HU.out HI0.out HZI0.out HZI1.out HZI2.out rfl (by decide) vP (nP acc) (cP acc) rfl hown ⟨Z0.1.heap.size, 0, none⟩ 1 1 [.string a, .int .i64 n1] rfl rfl (fun j u hu => by rw [addr_add0]; exact block_cell HWQ.out (by simpa using hu)) (fun u hu => by simp only [List.mem_cons, List.not_mem_nil, or_false] at hu; rcases hu with rfl | rfl <;> rfl) (by omega) (by unfold maxLen; omega) (by omega) (Nat.le_trans (Nat.le_of_lt hgl) HBZ1.out.size) _ rfl (fun g6 cap6 w6 hown6 hg6 hat6 hlt6 => ?_)
        have hgb6 : w6.heap[gb]? = some (.cells #[vP, vS, vM, vU] 27 (0, 0)) := (hg6.block gb (Nat.lt_of_lt_of_le hgl HBZ1.out.size) (fun e => own_apart hown (below_block HBZ1.out HS.out.b) (by decide) e.symm)).trans (below_block HBZ1.out HS.out.b)
        obtain ⟨Y6, rfl⟩ : ∃ Z : ExtO (Ot0 gb vP) W6, w6 = Z.1 := ⟨⟨w6, Z1.2.grown hg6 (fun q hq _ => Or.inr hq)⟩, rfl⟩
        have HGB6 := Lib.hid hgb6
        have HO6 := Lib.hid hown6
        refine hK _ _ ⟨Y6, rfl⟩ ?_
        try simp only [Act.put, List.setIfInBounds_toArray, List.set_cons_zero, List.set_cons_succ]
        refine held_quiet2 (by kernel_rfl) (fun _ _ d _ _ h => by cases d <;> exact h) ⟨Y6, rfl⟩ [12, 13] 1 _ _ (by kernel_rfl) ?_
        change wpQuiet _ _ _ _ (_ :: _ :: []) _
        repeat go_big_quiet_step (fail)
        refine wpQuiet_nil ?_
        have y0 : Y6.1.cell? ⟨gb, 0, none⟩ = some vP := block_cell HGB6.out rfl
        have y1 : Y6.1.frozen? ⟨gb, 0, none⟩ = false := Lib.frozen_of_heap HGB6.out 0
        obtain ⟨W9, hW9⟩ : ∃ W, Y6.1.setCell ⟨gb, 0, none⟩ (.slice (some ⟨g6, 0, none⟩) (nP acc + 1) cap6) = W := ⟨_, rfl⟩
        have hb9 : W9.heap[gb]? = some (.cells #[(.slice (some ⟨g6, 0, none⟩) (nP acc + 1) cap6), vS, vM, vU] 27 (0, 0)) := by rw [← hW9]; exact cells_set HGB6.out
        have hk9 : Kept (fun k => k = gb) Y6.1 W9 := by rw [← hW9]; exact kept_set1
        have HO9 := Lib.hid (own_kept HO6.out hk9 (fun g hg e => by subst e; exact own_apart HO6.out HGB6.out (by decide) hg))
        have HK9 := Lib.hid (Y6.2.trans (hk9.weaken2 fun k e => Or.inl e))
        have HB9 := Lib.hid hb9
        have HBL9 := Lib.hid (Kept.below (HB6.out.mono (Nat.le_of_lt hgl)) HK9.out (Nat.le_trans (Nat.le_of_lt hgl) HB6.out.size) (fun k hk e => by
          rcases e with e | e
          · omega
          · have := (HS.out.oP.lt k e).1
            omega))
        refine held_do (i := 14) _ rfl (by kernel_rfl) rfl (fun K hK => ?_)
        go_simp
        try rw [hW9]
        refine hK _ _ ⟨⟨W9, HK9.out⟩, rfl⟩ ?_
        try simp only [Act.put, List.setIfInBounds_toArray, List.set_cons_zero, List.set_cons_succ]
        refine wpAnyH_done (by kernel_rfl) ?_ _
        cases r1
        all_goals
          go_wp2_with fail
          go_ret
          refine RdT.end HBL9.out (fun hr => ?_) (fun hr => ?_)
          · rw [HLO.out]
            first | (cases hr; done) | (rw [none_of HR1.out]; rfl)
          · rw [HLO.out, HKW.out]
            first | (cases hr; done) | (obtain ⟨v, hv⟩ := some_of HR1.out; have h1 := HN1.out; rw [hv] at h1 ⊢; exact ⟨_, rfl, rfl, _, _, _, _, by rw [show v = n1 from h1]; exact (HS.out.below HB6.out).addP0 HK9.out HB9.out a n1 HO9.out⟩)
set_option maxHeartbeats 8000000 in
set_option maxRecDepth 100000 in
theorem takeS_any (gb bw : Nat) (acc : List Ln) (vP vS vM vU : Value) (a b : ByteArray) (w : World) (h : GSt gb w acc vP vS vM vU) (hg : Glo w) (hbq : w.heap[bw]? = some (.cells #[.string kSlot, .string a, .string b] 9 (0, 0))) (hbw : gb < bw) (hsz : ∀ x, x ∈ [kSlot, a, b] → x.size ≤ 1000000) (hacc : acc.length ≤ 1000000) :
    Calls Tryz.prog 21 #[.pointer (some ⟨gb, 0, none⟩), .int .i64 2, .slice (some ⟨bw, 0, none⟩) 3 3] w fun en w' => RdT gb w acc [kSlot, a, b] en w' := by
  have HS := Lib.hid h
  have HG := Lib.hid hg
  have HBQ := Lib.hid hbq
  have hgl := h.lt
  have hl := n_le acc
  have hbwl := lt_of_block hbq
  have HSZ := Lib.hid hsz
  have HRC : Hid (anyE [kSlot, a, b] = false → lineOf [kSlot, a, b] = (some (Ln.slot a b))) := Lib.hid (fun h => by unfold lineOf; rw [if_neg (by rw [h]; simp)]; simp [recOf, kSlot, kPart])
  have HKW : Hid (kindW [kSlot, a, b] = 2) := Lib.hid (by simp [kindW, kSlot, kPart])
  have HCE := Lib.hid (fun (j : Nat) (x : ByteArray) (hx : [kSlot, a, b][j]? = some x) => show w.cell? ⟨bw, j, none⟩ = some (.string x) from block_cell hbq (by rw [show (#[Value.string kSlot, Value.string a, Value.string b] : Array Value) = (([kSlot, a, b] : List ByteArray).map Value.string).toArray from rfl, List.getElem?_toArray, List.getElem?_map, hx]; rfl))
  obtain ⟨i0, hi0, hzi0, hzi1, hzi2⟩ := info_parts (show (Tryz.prog.info? 50).map (fun i => (i.zero, i.size, i.bytes)) = some (some (.agg #[.string ⟨#[]⟩, .string ⟨#[]⟩]), 2, 32) by kernel_rfl)
  have HI0 := Lib.hid hi0
  have HZI0 := Lib.hid hzi0
  have HZI1 := Lib.hid hzi1
  have HZI2 := Lib.hid hzi2
  have HU := Lib.hid (show Tryz.prog.underlying 23 = some (.slice 50) by kernel_rfl)
  clear hi0 hzi0 hzi1 hzi2
  clear h hg hbq hsz
  go_enter Tryz.func21, Tryz.ntmps21
  go_wp2_with fail
  go_loopw [23] (fun iv wr => ∃ (j : Nat), iv = .int .i64 j ∧ j ≤ 3 ∧ w = wr ∧ Hid (∀ i x, i < j → [kSlot, a, b][i]? = some x → x ≠ ⟨#[]⟩)) (fun iv _ => 3 - (intOf iv).toNat)
  case atStart => exact ⟨0, rfl, by omega, rfl, Lib.hid (fun i x hi => by omega)⟩
  case round =>
    obtain ⟨j, rfl, hj, rfl, HJ⟩ := hrel
    by_cases hlt : j < 3
    · have t1 : decide ((j : Int) < 3) = true := by rw [decide_eq_true_eq]; omega
      have t1' : decide (j < 3) = true := by simpa using hlt
      have hji : (j : Int) < 3 := by omega
      obtain ⟨x, hx⟩ : ∃ x, [kSlot, a, b][j]? = some x := ⟨_, List.getElem?_eq_getElem (by simpa using hlt)⟩
      have c0 := HCE.out j x hx
      have HX := Lib.hid hx
      have hse : (x.toList == ([] : List UInt8)) = decide (x = ⟨#[]⟩) := by
        have h0 := str_eq x ⟨#[]⟩
        rwa [show (ByteArray.mk #[]).toList = [] by rw [ByteArray.toList_eq]] at h0
      clear hx
      by_cases he : x = ⟨#[]⟩
      · rw [decide_eq_true he] at hse
        have HN : Hid (lineOf [kSlot, a, b] = none) := Lib.hid (by
          unfold lineOf
          rw [if_pos]
          unfold anyE
          rw [List.any_eq_true]
          exact ⟨x, List.mem_of_getElem? HX.out, by simpa using he⟩)
        clear he
        go_wp2_with fail
        go_ret
        exact RdT.end (Below.refl _ _) (fun _ => HN.out) (fun e => by cases e)
      · rw [decide_eq_false he] at hse
        have HJ2 : Hid (∀ i y, i < j + 1 → [kSlot, a, b][i]? = some y → y ≠ ⟨#[]⟩) := Lib.hid (fun i y hi hy => by
          by_cases e : i = j
          · subst e
            rw [HX.out] at hy
            injection hy with hy
            rw [← hy]; exact he
          · exact HJ.out i y (by omega) hy)
        clear he
        go_wp2_with fail
        go_roundw
        case rel => exact ⟨j + 1, by go_num, by omega, trivial, HJ2⟩
        case measure => simp [intOf]; omega
    · have t1 : decide ((j : Int) < 3) = false := by rw [decide_eq_false_iff_not]; omega
      have t1' : decide (j < 3) = false := by simpa using hlt
      obtain rfl : j = 3 := by omega
      have HLO : Hid (lineOf [kSlot, a, b] = (some (Ln.slot a b))) := Lib.hid (HRC.out (by
        cases ha : anyE [kSlot, a, b] with
        | false => rfl
        | true =>
          exfalso
          unfold anyE at ha
          rw [List.any_eq_true] at ha
          obtain ⟨x, h1, h2⟩ := ha
          obtain ⟨i, hi⟩ := List.getElem?_of_mem h1
          have hil : i < 3 := by
            have := List.getElem?_eq_some_iff.1 hi
            simpa using this.1
          exact HJ.out i x hil hi (by simpa using h2)))
      have hno : ¬ Ot0 gb vS bw := fun e => by
        rcases e with e | e
        · omega
        · exact own_apart HS.out.oS HBQ.out (by decide) e
      clear hlt HJ HRC t1 t1'
      have ca : ∀ X : Ext w, X.1.cell? ⟨bw, 1, none⟩ = some (.string a) := Ext.ex (HCE.out 1 a rfl)
      have Ca := ca ⟨w, Below.refl _ _⟩
      have cb : ∀ X : Ext w, X.1.cell? ⟨bw, 2, none⟩ = some (.string b) := Ext.ex (HCE.out 2 b rfl)
      have Cb := cb ⟨w, Below.refl _ _⟩
      go_upto_region 13 with (fail)
      have HB6 := Lib.hid (Below.refl w.heap.size w)
      have fa : ∀ Z : ExtO (Ot0 gb vS) w, Z.1.cell? ⟨bw, 1, none⟩ = some (.string a) := ExtO.ex hno (by exact Ca)
      have fb : ∀ Z : ExtO (Ot0 gb vS) w, Z.1.cell? ⟨bw, 2, none⟩ = some (.string b) := ExtO.ex hno (by exact Cb)
      refine held_start (C := fun w' => ∃ Z : ExtO (Ot0 gb vS) w, w' = Z.1) (by kernel_rfl) ?_
      obtain ⟨Z0, hZ0, hz0⟩ : ∃ Z : ExtO (Ot0 gb vS) w, ({ w with drawn := w.drawn + 1 } : World) = Z.1 ∧ Below w.heap.size w Z.1 := ⟨⟨{ w with drawn := w.drawn + 1 }, ⟨rfl, rfl, rfl, Nat.le_refl _, fun _ _ _ => rfl⟩⟩, rfl, ⟨rfl, rfl, rfl, Nat.le_refl _, fun _ _ => rfl⟩⟩
      rw [hZ0]
      have HBZ0 := Lib.hid (HB6.out.trans (hz0.mono HB6.out.size))
      clear hZ0 hz0
      refine held_quiet2 (by kernel_rfl) (fun _ _ d _ _ h => by cases d <;> exact h) ⟨Z0, rfl⟩ [0, 1, 2, 3, 5, 6, 7, 8, 9, 10, 11] 6 _ _ (by kernel_rfl) ?_
      change wpQuiet _ _ _ _ (_ :: _ :: _ :: _ :: _ :: _ :: _ :: _ :: _ :: _ :: _ :: []) _
      repeat go_big_quiet_step (fail)
      refine wpQuiet_nil ?_
      refine held_two (i := 4) (j := 12) _ _ rfl rfl (by kernel_rfl) rfl rfl (fun K hK => ?_) (fun K hK => ?_)
      · have g0 : Z0.1.cell? ⟨gb, 1, none⟩ = some vS := block_cell (below_block HBZ0.out HS.out.b) rfl
        go_simp
        refine hK _ _ ⟨Z0, rfl⟩ ?_
        clear hK K g0
        try simp only [Act.put, List.setIfInBounds_toArray, List.set_cons_zero, List.set_cons_succ]
        refine held_do (i := 12) _ rfl (by kernel_rfl) rfl (fun K hK => ?_)
        go_simp
        obtain ⟨Wb, hWb, hwb1, hwb2, hwq⟩ := alloc_block Z0.1 #[.string a, .string b] 50
        rw [hWb]
        obtain ⟨Z1, rfl⟩ : ∃ Z : ExtO (Ot0 gb vS) w, Wb = Z.1 := ⟨⟨Wb, Z0.2.trans (Kept.of_below hwb1)⟩, rfl⟩
        have HBZ1 := Lib.hid (HBZ0.out.trans (hwb1.mono HBZ0.out.size))
        have HWQ := Lib.hid hwq
        have hbsl : Z0.1.heap.size < Z1.1.heap.size := by omega
        refine hK _ _ ⟨Z1, rfl⟩ ?_
        clear hWb hwb1 hwq hK K
        try simp only [Act.put, List.setIfInBounds_toArray, List.set_cons_zero, List.set_cons_succ]
        refine held_do (i := 13) _ rfl (by kernel_rfl) rfl (fun K hK => ?_)
        have hown := ownsRow_below HS.out.oS HBZ1.out
        refine wp_append_lies Z1.1 (.tmp 61) (.tmp 69) 23 rfl gb 50 i0 (.agg #[.string ⟨#[]⟩, .string ⟨#[]⟩]) 2 32 HU.out HI0.out HZI0.out HZI1.out HZI2.out rfl (by decide) vS (nS acc) (cS acc) rfl hown ⟨Z0.1.heap.size, 0, none⟩ 1 1 [.string a, .string b] rfl rfl (fun j u hu => by rw [addr_add0]; exact block_cell HWQ.out (by simpa using hu)) (fun u hu => by simp only [List.mem_cons, List.not_mem_nil, or_false] at hu; rcases hu with rfl | rfl <;> rfl) (by omega) (by unfold maxLen; omega) (by omega) (Nat.le_trans (Nat.le_of_lt hgl) HBZ1.out.size) _ rfl (fun g6 cap6 w6 hown6 hg6 hat6 hlt6 => ?_)
        have hgb6 : w6.heap[gb]? = some (.cells #[vP, vS, vM, vU] 27 (0, 0)) := (hg6.block gb (Nat.lt_of_lt_of_le hgl HBZ1.out.size) (fun e => own_apart hown (below_block HBZ1.out HS.out.b) (by decide) e.symm)).trans (below_block HBZ1.out HS.out.b)
        obtain ⟨Y6, rfl⟩ : ∃ Z : ExtO (Ot0 gb vS) w, w6 = Z.1 := ⟨⟨w6, Z1.2.grown hg6 (fun q hq _ => Or.inr hq)⟩, rfl⟩
        have HGB6 := Lib.hid hgb6
        have HO6 := Lib.hid hown6
        refine hK _ _ ⟨Y6, rfl⟩ ?_
        try simp only [Act.put, List.setIfInBounds_toArray, List.set_cons_zero, List.set_cons_succ]
        refine held_quiet2 (by kernel_rfl) (fun _ _ d _ _ h => by cases d <;> exact h) ⟨Y6, rfl⟩ [14, 15] 1 _ _ (by kernel_rfl) ?_
        change wpQuiet _ _ _ _ (_ :: _ :: []) _
        repeat go_big_quiet_step (fail)
        refine wpQuiet_nil ?_
        have y0 : Y6.1.cell? ⟨gb, 1, none⟩ = some vS := block_cell HGB6.out rfl
        have y1 : Y6.1.frozen? ⟨gb, 1, none⟩ = false := Lib.frozen_of_heap HGB6.out 1
        obtain ⟨W9, hW9⟩ : ∃ W, Y6.1.setCell ⟨gb, 1, none⟩ (.slice (some ⟨g6, 0, none⟩) (nS acc + 1) cap6) = W := ⟨_, rfl⟩
        have hb9 : W9.heap[gb]? = some (.cells #[vP, (.slice (some ⟨g6, 0, none⟩) (nS acc + 1) cap6), vM, vU] 27 (0, 0)) := by rw [← hW9]; exact cells_set HGB6.out
        have hk9 : Kept (fun k => k = gb) Y6.1 W9 := by rw [← hW9]; exact kept_set1
        have HO9 := Lib.hid (own_kept HO6.out hk9 (fun g hg e => by subst e; exact own_apart HO6.out HGB6.out (by decide) hg))
        have HK9 := Lib.hid (Y6.2.trans (hk9.weaken2 fun k e => Or.inl e))
        have HB9 := Lib.hid hb9
        have HBL9 := Lib.hid (Kept.below (HB6.out.mono (Nat.le_of_lt hgl)) HK9.out (Nat.le_trans (Nat.le_of_lt hgl) HB6.out.size) (fun k hk e => by
          rcases e with e | e
          · omega
          · have := (HS.out.oS.lt k e).1
            omega))
        refine held_do (i := 16) _ rfl (by kernel_rfl) rfl (fun K hK => ?_)
        go_simp
        try rw [hW9]
        refine hK _ _ ⟨⟨W9, HK9.out⟩, rfl⟩ ?_
        try simp only [Act.put, List.setIfInBounds_toArray, List.set_cons_zero, List.set_cons_succ]
        refine wpAnyH_done (by kernel_rfl) ?_ _
        go_wp2_with fail
        go_ret
        refine RdT.end HBL9.out (fun hr => ?_) (fun hr => ?_)
        · rw [HLO.out]
          cases hr
        · rw [HLO.out, HKW.out]
          exact ⟨_, rfl, rfl, _, _, _, _, (HS.out.below HB6.out).addS0 HK9.out HB9.out a b HO9.out⟩
      · go_simp
        obtain ⟨Wb, hWb, hwb1, hwb2, hwq⟩ := alloc_block Z0.1 #[.string a, .string b] 50
        rw [hWb]
        obtain ⟨Z1, rfl⟩ : ∃ Z : ExtO (Ot0 gb vS) w, Wb = Z.1 := ⟨⟨Wb, Z0.2.trans (Kept.of_below hwb1)⟩, rfl⟩
        have HBZ1 := Lib.hid (HBZ0.out.trans (hwb1.mono HBZ0.out.size))
        have HWQ := Lib.hid hwq
        have hbsl : Z0.1.heap.size < Z1.1.heap.size := by omega
        refine hK _ _ ⟨Z1, rfl⟩ ?_
        clear hWb hwb1 hwq hK K
        try simp only [Act.put, List.setIfInBounds_toArray, List.set_cons_zero, List.set_cons_succ]
        refine held_do (i := 4) _ rfl (by kernel_rfl) rfl (fun K hK => ?_)
        have g0 : Z1.1.cell? ⟨gb, 1, none⟩ = some vS := block_cell (below_block HBZ1.out HS.out.b) rfl
        go_simp
        refine hK _ _ ⟨Z1, rfl⟩ ?_
        clear hK K g0
        try simp only [Act.put, List.setIfInBounds_toArray, List.set_cons_zero, List.set_cons_succ]
        refine held_do (i := 13) _ rfl (by kernel_rfl) rfl (fun K hK => ?_)
        have hown := ownsRow_below HS.out.oS HBZ1.out
        refine wp_append_lies Z1.1 (.tmp 61) (.tmp 69) 23 rfl gb 50 i0 (.agg #[.string ⟨#[]⟩, .string ⟨#[]⟩]) 2 32 HU.out HI0.out HZI0.out HZI1.out HZI2.out rfl (by decide) vS (nS acc) (cS acc) rfl hown ⟨Z0.1.heap.size, 0, none⟩ 1 1 [.string a, .string b] rfl rfl (fun j u hu => by rw [addr_add0]; exact block_cell HWQ.out (by simpa using hu)) (fun u hu => by simp only [List.mem_cons, List.not_mem_nil, or_false] at hu; rcases hu with rfl | rfl <;> rfl) (by omega) (by unfold maxLen; omega) (by omega) (Nat.le_trans (Nat.le_of_lt hgl) HBZ1.out.size) _ rfl (fun g6 cap6 w6 hown6 hg6 hat6 hlt6 => ?_)
        have hgb6 : w6.heap[gb]? = some (.cells #[vP, vS, vM, vU] 27 (0, 0)) := (hg6.block gb (Nat.lt_of_lt_of_le hgl HBZ1.out.size) (fun e => own_apart hown (below_block HBZ1.out HS.out.b) (by decide) e.symm)).trans (below_block HBZ1.out HS.out.b)
        obtain ⟨Y6, rfl⟩ : ∃ Z : ExtO (Ot0 gb vS) w, w6 = Z.1 := ⟨⟨w6, Z1.2.grown hg6 (fun q hq _ => Or.inr hq)⟩, rfl⟩
        have HGB6 := Lib.hid hgb6
        have HO6 := Lib.hid hown6
        refine hK _ _ ⟨Y6, rfl⟩ ?_
        try simp only [Act.put, List.setIfInBounds_toArray, List.set_cons_zero, List.set_cons_succ]
        refine held_quiet2 (by kernel_rfl) (fun _ _ d _ _ h => by cases d <;> exact h) ⟨Y6, rfl⟩ [14, 15] 1 _ _ (by kernel_rfl) ?_
        change wpQuiet _ _ _ _ (_ :: _ :: []) _
        repeat go_big_quiet_step (fail)
        refine wpQuiet_nil ?_
        have y0 : Y6.1.cell? ⟨gb, 1, none⟩ = some vS := block_cell HGB6.out rfl
        have y1 : Y6.1.frozen? ⟨gb, 1, none⟩ = false := Lib.frozen_of_heap HGB6.out 1
        obtain ⟨W9, hW9⟩ : ∃ W, Y6.1.setCell ⟨gb, 1, none⟩ (.slice (some ⟨g6, 0, none⟩) (nS acc + 1) cap6) = W := ⟨_, rfl⟩
        have hb9 : W9.heap[gb]? = some (.cells #[vP, (.slice (some ⟨g6, 0, none⟩) (nS acc + 1) cap6), vM, vU] 27 (0, 0)) := by rw [← hW9]; exact cells_set HGB6.out
        have hk9 : Kept (fun k => k = gb) Y6.1 W9 := by rw [← hW9]; exact kept_set1
        have HO9 := Lib.hid (own_kept HO6.out hk9 (fun g hg e => by subst e; exact own_apart HO6.out HGB6.out (by decide) hg))
        have HK9 := Lib.hid (Y6.2.trans (hk9.weaken2 fun k e => Or.inl e))
        have HB9 := Lib.hid hb9
        have HBL9 := Lib.hid (Kept.below (HB6.out.mono (Nat.le_of_lt hgl)) HK9.out (Nat.le_trans (Nat.le_of_lt hgl) HB6.out.size) (fun k hk e => by
          rcases e with e | e
          · omega
          · have := (HS.out.oS.lt k e).1
            omega))
        refine held_do (i := 16) _ rfl (by kernel_rfl) rfl (fun K hK => ?_)
        go_simp
        try rw [hW9]
        refine hK _ _ ⟨⟨W9, HK9.out⟩, rfl⟩ ?_
        try simp only [Act.put, List.setIfInBounds_toArray, List.set_cons_zero, List.set_cons_succ]
        refine wpAnyH_done (by kernel_rfl) ?_ _
        go_wp2_with fail
        go_ret
        refine RdT.end HBL9.out (fun hr => ?_) (fun hr => ?_)
        · rw [HLO.out]
          cases hr
        · rw [HLO.out, HKW.out]
          exact ⟨_, rfl, rfl, _, _, _, _, (HS.out.below HB6.out).addS0 HK9.out HB9.out a b HO9.out⟩
set_option maxHeartbeats 8000000 in
set_option maxRecDepth 100000 in
theorem takeM_any (gb bw : Nat) (acc : List Ln) (vP vS vM vU : Value) (a b c d : ByteArray) (w : World) (h : GSt gb w acc vP vS vM vU) (hg : Glo w) (hbq : w.heap[bw]? = some (.cells #[.string kMount, .string a, .string b, .string c, .string d] 9 (0, 0))) (hbw : gb < bw) (hsz : ∀ x, x ∈ [kMount, a, b, c, d] → x.size ≤ 1000000) (hacc : acc.length ≤ 1000000) :
    Calls Tryz.prog 21 #[.pointer (some ⟨gb, 0, none⟩), .int .i64 3, .slice (some ⟨bw, 0, none⟩) 5 5] w fun en w' => RdT gb w acc [kMount, a, b, c, d] en w' := by
  have HS := Lib.hid h
  have HG := Lib.hid hg
  have HBQ := Lib.hid hbq
  have hgl := h.lt
  have hl := n_le acc
  have hbwl := lt_of_block hbq
  have HSZ := Lib.hid hsz
  have HRC : Hid (anyE [kMount, a, b, c, d] = false → lineOf [kMount, a, b, c, d] = ((numG c).bind fun f => (toG d).map fun t => Ln.mnt a b f t)) := Lib.hid (fun h => by unfold lineOf; rw [if_neg (by rw [h]; simp)]; simp [recOf, kMount])
  have HKW : Hid (kindW [kMount, a, b, c, d] = 3) := Lib.hid (by simp [kindW, kSlot, kPart, kMount])
  have HCE := Lib.hid (fun (j : Nat) (x : ByteArray) (hx : [kMount, a, b, c, d][j]? = some x) => show w.cell? ⟨bw, j, none⟩ = some (.string x) from block_cell hbq (by rw [show (#[Value.string kMount, Value.string a, Value.string b, Value.string c, Value.string d] : Array Value) = (([kMount, a, b, c, d] : List ByteArray).map Value.string).toArray from rfl, List.getElem?_toArray, List.getElem?_map, hx]; rfl))
  obtain ⟨i0, hi0, hzi0, hzi1, hzi2⟩ := info_parts (show (Tryz.prog.info? 52).map (fun i => (i.zero, i.size, i.bytes)) = some (some (.agg #[.string ⟨#[]⟩, .string ⟨#[]⟩, .int .i64 0, .int .i64 0]), 4, 48) by kernel_rfl)
  have HI0 := Lib.hid hi0
  have HZI0 := Lib.hid hzi0
  have HZI1 := Lib.hid hzi1
  have HZI2 := Lib.hid hzi2
  have HU := Lib.hid (show Tryz.prog.underlying 24 = some (.slice 52) by kernel_rfl)
  clear hi0 hzi0 hzi1 hzi2
  clear h hg hbq hsz
  go_enter Tryz.func21, Tryz.ntmps21
  go_wp2_with fail
  go_loopw [23] (fun iv wr => ∃ (j : Nat), iv = .int .i64 j ∧ j ≤ 5 ∧ w = wr ∧ Hid (∀ i x, i < j → [kMount, a, b, c, d][i]? = some x → x ≠ ⟨#[]⟩)) (fun iv _ => 5 - (intOf iv).toNat)
  case atStart => exact ⟨0, rfl, by omega, rfl, Lib.hid (fun i x hi => by omega)⟩
  case round =>
    obtain ⟨j, rfl, hj, rfl, HJ⟩ := hrel
    by_cases hlt : j < 5
    · have t1 : decide ((j : Int) < 5) = true := by rw [decide_eq_true_eq]; omega
      have t1' : decide (j < 5) = true := by simpa using hlt
      have hji : (j : Int) < 5 := by omega
      obtain ⟨x, hx⟩ : ∃ x, [kMount, a, b, c, d][j]? = some x := ⟨_, List.getElem?_eq_getElem (by simpa using hlt)⟩
      have c0 := HCE.out j x hx
      have HX := Lib.hid hx
      have hse : (x.toList == ([] : List UInt8)) = decide (x = ⟨#[]⟩) := by
        have h0 := str_eq x ⟨#[]⟩
        rwa [show (ByteArray.mk #[]).toList = [] by rw [ByteArray.toList_eq]] at h0
      clear hx
      by_cases he : x = ⟨#[]⟩
      · rw [decide_eq_true he] at hse
        have HN : Hid (lineOf [kMount, a, b, c, d] = none) := Lib.hid (by
          unfold lineOf
          rw [if_pos]
          unfold anyE
          rw [List.any_eq_true]
          exact ⟨x, List.mem_of_getElem? HX.out, by simpa using he⟩)
        clear he
        go_wp2_with fail
        go_ret
        exact RdT.end (Below.refl _ _) (fun _ => HN.out) (fun e => by cases e)
      · rw [decide_eq_false he] at hse
        have HJ2 : Hid (∀ i y, i < j + 1 → [kMount, a, b, c, d][i]? = some y → y ≠ ⟨#[]⟩) := Lib.hid (fun i y hi hy => by
          by_cases e : i = j
          · subst e
            rw [HX.out] at hy
            injection hy with hy
            rw [← hy]; exact he
          · exact HJ.out i y (by omega) hy)
        clear he
        go_wp2_with fail
        go_roundw
        case rel => exact ⟨j + 1, by go_num, by omega, trivial, HJ2⟩
        case measure => simp [intOf]; omega
    · have t1 : decide ((j : Int) < 5) = false := by rw [decide_eq_false_iff_not]; omega
      have t1' : decide (j < 5) = false := by simpa using hlt
      obtain rfl : j = 5 := by omega
      have HLO : Hid (lineOf [kMount, a, b, c, d] = ((numG c).bind fun f => (toG d).map fun t => Ln.mnt a b f t)) := Lib.hid (HRC.out (by
        cases ha : anyE [kMount, a, b, c, d] with
        | false => rfl
        | true =>
          exfalso
          unfold anyE at ha
          rw [List.any_eq_true] at ha
          obtain ⟨x, h1, h2⟩ := ha
          obtain ⟨i, hi⟩ := List.getElem?_of_mem h1
          have hil : i < 5 := by
            have := List.getElem?_eq_some_iff.1 hi
            simpa using this.1
          exact HJ.out i x hil hi (by simpa using h2)))
      have hno : ¬ Ot0 gb vM bw := fun e => by
        rcases e with e | e
        · omega
        · exact own_apart HS.out.oM HBQ.out (by decide) e
      clear hlt HJ HRC t1 t1'
      have ca : ∀ X : Ext w, X.1.cell? ⟨bw, 1, none⟩ = some (.string a) := Ext.ex (HCE.out 1 a rfl)
      have Ca := ca ⟨w, Below.refl _ _⟩
      have cb : ∀ X : Ext w, X.1.cell? ⟨bw, 2, none⟩ = some (.string b) := Ext.ex (HCE.out 2 b rfl)
      have Cb := cb ⟨w, Below.refl _ _⟩
      have cc : ∀ X : Ext w, X.1.cell? ⟨bw, 3, none⟩ = some (.string c) := Ext.ex (HCE.out 3 c rfl)
      have Cc := cc ⟨w, Below.refl _ _⟩
      have cd : ∀ X : Ext w, X.1.cell? ⟨bw, 4, none⟩ = some (.string d) := Ext.ex (HCE.out 4 d rfl)
      have Cd := cd ⟨w, Below.refl _ _⟩
      have DN1 := Lib.hid (rnumber_any c w (HG.out.below (Below.refl _ _)) (HSZ.out c (by simp)))
      obtain ⟨n1, hn1⟩ : ∃ n, (numG c).getD 0 = n := ⟨_, rfl⟩
      obtain ⟨r1, hr1⟩ : ∃ r, (numG c).isSome = r := ⟨_, rfl⟩
      unfold NumR at DN1
      rw [hn1, hr1] at DN1
      have HN1 := Lib.hid hn1
      have HR1 := Lib.hid hr1
      clear hn1 hr1
      go_upto_region 18 with (go_at_call 45; refine DN1.out.mono ?_; rintro e w1 ⟨rfl, hb1⟩)
      obtain ⟨X1, rfl⟩ : ∃ X : Ext w, w1 = X.1 := ⟨⟨w1, hb1⟩, rfl⟩
      clear hb1 DN1
      have Ca := ca X1
      have Cb := cb X1
      have Cc := cc X1
      have Cd := cd X1
      have hse : (d.toList == [45]) = decide (d = dashB) := by
        have h0 := str_eq d dashB
        rwa [show dashB.toList = [45] by rw [ByteArray.toList_eq]; rfl] at h0
      have hsn : (d.toList != [45]) = !decide (d = dashB) := by rw [bne, hse]
      by_cases hd : d = dashB
      · have y2 : (!decide (d = dashB)) = false := by rw [decide_eq_true hd]; rfl
        rw [decide_eq_true hd] at hse hsn
        have HT : Hid (toG d = some (-1)) := Lib.hid (by unfold toG; rw [if_pos hd])
        clear hd
        go_upto_region 20 with (fail)
        obtain ⟨W6, hW6⟩ : ∃ W, X1.1 = W := ⟨_, rfl⟩
        have HB6 := Lib.hid (X1.2)
        rw [hW6] at HB6 ⊢
        have fa : ∀ Z : ExtO (Ot0 gb vM) W6, Z.1.cell? ⟨bw, 1, none⟩ = some (.string a) := ExtO.ex hno (by rw [← hW6]; exact ca X1)
        have fb : ∀ Z : ExtO (Ot0 gb vM) W6, Z.1.cell? ⟨bw, 2, none⟩ = some (.string b) := ExtO.ex hno (by rw [← hW6]; exact cb X1)
        clear hW6
        refine held_start (C := fun w' => ∃ Z : ExtO (Ot0 gb vM) W6, w' = Z.1) (by kernel_rfl) ?_
        obtain ⟨Z0, hZ0, hz0⟩ : ∃ Z : ExtO (Ot0 gb vM) W6, ({ W6 with drawn := W6.drawn + 1 } : World) = Z.1 ∧ Below W6.heap.size W6 Z.1 := ⟨⟨{ W6 with drawn := W6.drawn + 1 }, ⟨rfl, rfl, rfl, Nat.le_refl _, fun _ _ _ => rfl⟩⟩, rfl, ⟨rfl, rfl, rfl, Nat.le_refl _, fun _ _ => rfl⟩⟩
        rw [hZ0]
        have HBZ0 := Lib.hid (HB6.out.trans (hz0.mono HB6.out.size))
        clear hZ0 hz0
        refine held_quiet2 (by kernel_rfl) (fun _ _ d _ _ h => by cases d <;> exact h) ⟨Z0, rfl⟩ [0, 1, 2, 3, 5, 6, 7, 8, 9, 10, 11, 12, 13] 6 _ _ (by kernel_rfl) ?_
        change wpQuiet _ _ _ _ (_ :: _ :: _ :: _ :: _ :: _ :: _ :: _ :: _ :: _ :: _ :: _ :: _ :: []) _
        repeat go_big_quiet_step (fail)
        refine wpQuiet_nil ?_
        refine held_two (i := 4) (j := 14) _ _ rfl rfl (by kernel_rfl) rfl rfl (fun K hK => ?_) (fun K hK => ?_)
        · have g0 : Z0.1.cell? ⟨gb, 2, none⟩ = some vM := block_cell (below_block HBZ0.out HS.out.b) rfl
          go_simp
          refine hK _ _ ⟨Z0, rfl⟩ ?_
          clear hK K g0
          try simp only [Act.put, List.setIfInBounds_toArray, List.set_cons_zero, List.set_cons_succ]
          refine held_do (i := 14) _ rfl (by kernel_rfl) rfl (fun K hK => ?_)
          go_simp
          obtain ⟨Wb, hWb, hwb1, hwb2, hwq⟩ := alloc_block Z0.1 #[.string a, .string b, .int .i64 n1, .int .i64 (-1)] 52
          rw [hWb]
          obtain ⟨Z1, rfl⟩ : ∃ Z : ExtO (Ot0 gb vM) W6, Wb = Z.1 := ⟨⟨Wb, Z0.2.trans (Kept.of_below hwb1)⟩, rfl⟩
          have HBZ1 := Lib.hid (HBZ0.out.trans (hwb1.mono HBZ0.out.size))
          have HWQ := Lib.hid hwq
          have hbsl : Z0.1.heap.size < Z1.1.heap.size := by omega
          refine hK _ _ ⟨Z1, rfl⟩ ?_
          clear hWb hwb1 hwq hK K
          try simp only [Act.put, List.setIfInBounds_toArray, List.set_cons_zero, List.set_cons_succ]
          refine held_do (i := 15) _ rfl (by kernel_rfl) rfl (fun K hK => ?_)
          have hown := ownsRow_below HS.out.oM HBZ1.out
          refine wp_append_lies Z1.1 (.tmp 97) (.tmp 107) 24 rfl gb 52 i0 (.agg #[.string ⟨#[]⟩, .string ⟨#[]⟩, .int .i64 0, .int .i64 0]) 4 48 HU.out HI0.out HZI0.out HZI1.out HZI2.out rfl (by decide) vM (nM acc) (cM acc) rfl hown ⟨Z0.1.heap.size, 0, none⟩ 1 1 [.string a, .string b, .int .i64 n1, .int .i64 (-1)] rfl rfl (fun j u hu => by rw [addr_add0]; exact block_cell HWQ.out (by simpa using hu)) (fun u hu => by simp only [List.mem_cons, List.not_mem_nil, or_false] at hu; rcases hu with rfl | rfl | rfl | rfl <;> rfl) (by omega) (by unfold maxLen; omega) (by omega) (Nat.le_trans (Nat.le_of_lt hgl) HBZ1.out.size) _ rfl (fun g6 cap6 w6 hown6 hg6 hat6 hlt6 => ?_)
          have hgb6 : w6.heap[gb]? = some (.cells #[vP, vS, vM, vU] 27 (0, 0)) := (hg6.block gb (Nat.lt_of_lt_of_le hgl HBZ1.out.size) (fun e => own_apart hown (below_block HBZ1.out HS.out.b) (by decide) e.symm)).trans (below_block HBZ1.out HS.out.b)
          obtain ⟨Y6, rfl⟩ : ∃ Z : ExtO (Ot0 gb vM) W6, w6 = Z.1 := ⟨⟨w6, Z1.2.grown hg6 (fun q hq _ => Or.inr hq)⟩, rfl⟩
          have HGB6 := Lib.hid hgb6
          have HO6 := Lib.hid hown6
          refine hK _ _ ⟨Y6, rfl⟩ ?_
          try simp only [Act.put, List.setIfInBounds_toArray, List.set_cons_zero, List.set_cons_succ]
          refine held_quiet2 (by kernel_rfl) (fun _ _ d _ _ h => by cases d <;> exact h) ⟨Y6, rfl⟩ [16, 17] 1 _ _ (by kernel_rfl) ?_
          change wpQuiet _ _ _ _ (_ :: _ :: []) _
          repeat go_big_quiet_step (fail)
          refine wpQuiet_nil ?_
          have y0 : Y6.1.cell? ⟨gb, 2, none⟩ = some vM := block_cell HGB6.out rfl
          have y1 : Y6.1.frozen? ⟨gb, 2, none⟩ = false := Lib.frozen_of_heap HGB6.out 2
          obtain ⟨W9, hW9⟩ : ∃ W, Y6.1.setCell ⟨gb, 2, none⟩ (.slice (some ⟨g6, 0, none⟩) (nM acc + 1) cap6) = W := ⟨_, rfl⟩
          have hb9 : W9.heap[gb]? = some (.cells #[vP, vS, (.slice (some ⟨g6, 0, none⟩) (nM acc + 1) cap6), vU] 27 (0, 0)) := by rw [← hW9]; exact cells_set HGB6.out
          have hk9 : Kept (fun k => k = gb) Y6.1 W9 := by rw [← hW9]; exact kept_set1
          have HO9 := Lib.hid (own_kept HO6.out hk9 (fun g hg e => by subst e; exact own_apart HO6.out HGB6.out (by decide) hg))
          have HK9 := Lib.hid (Y6.2.trans (hk9.weaken2 fun k e => Or.inl e))
          have HB9 := Lib.hid hb9
          have HBL9 := Lib.hid (Kept.below (HB6.out.mono (Nat.le_of_lt hgl)) HK9.out (Nat.le_trans (Nat.le_of_lt hgl) HB6.out.size) (fun k hk e => by
            rcases e with e | e
            · omega
            · have := (HS.out.oM.lt k e).1
              omega))
          refine held_do (i := 18) _ rfl (by kernel_rfl) rfl (fun K hK => ?_)
          go_simp
          try rw [hW9]
          refine hK _ _ ⟨⟨W9, HK9.out⟩, rfl⟩ ?_
          try simp only [Act.put, List.setIfInBounds_toArray, List.set_cons_zero, List.set_cons_succ]
          refine wpAnyH_done (by kernel_rfl) ?_ _
          cases r1
          all_goals
            go_wp2_with fail
            go_ret
            refine RdT.end HBL9.out (fun hr => ?_) (fun hr => ?_)
            · rw [HLO.out]
              first | (cases hr; done) | (rw [none_of HR1.out]; rfl)
            · rw [HLO.out, HKW.out]
              first | (cases hr; done) | (obtain ⟨v, hv⟩ := some_of HR1.out; have h1 := HN1.out; rw [hv] at h1 ⊢; rw [HT.out]; exact ⟨_, rfl, rfl, _, _, _, _, by rw [show v = n1 from h1]; exact (HS.out.below HB6.out).addM0 HK9.out HB9.out a b n1 (-1) HO9.out⟩)
        · go_simp
          obtain ⟨Wb, hWb, hwb1, hwb2, hwq⟩ := alloc_block Z0.1 #[.string a, .string b, .int .i64 n1, .int .i64 (-1)] 52
          rw [hWb]
          obtain ⟨Z1, rfl⟩ : ∃ Z : ExtO (Ot0 gb vM) W6, Wb = Z.1 := ⟨⟨Wb, Z0.2.trans (Kept.of_below hwb1)⟩, rfl⟩
          have HBZ1 := Lib.hid (HBZ0.out.trans (hwb1.mono HBZ0.out.size))
          have HWQ := Lib.hid hwq
          have hbsl : Z0.1.heap.size < Z1.1.heap.size := by omega
          refine hK _ _ ⟨Z1, rfl⟩ ?_
          clear hWb hwb1 hwq hK K
          try simp only [Act.put, List.setIfInBounds_toArray, List.set_cons_zero, List.set_cons_succ]
          refine held_do (i := 4) _ rfl (by kernel_rfl) rfl (fun K hK => ?_)
          have g0 : Z1.1.cell? ⟨gb, 2, none⟩ = some vM := block_cell (below_block HBZ1.out HS.out.b) rfl
          go_simp
          refine hK _ _ ⟨Z1, rfl⟩ ?_
          clear hK K g0
          try simp only [Act.put, List.setIfInBounds_toArray, List.set_cons_zero, List.set_cons_succ]
          refine held_do (i := 15) _ rfl (by kernel_rfl) rfl (fun K hK => ?_)
          have hown := ownsRow_below HS.out.oM HBZ1.out
          refine wp_append_lies Z1.1 (.tmp 97) (.tmp 107) 24 rfl gb 52 i0 (.agg #[.string ⟨#[]⟩, .string ⟨#[]⟩, .int .i64 0, .int .i64 0]) 4 48 HU.out HI0.out HZI0.out HZI1.out HZI2.out rfl (by decide) vM (nM acc) (cM acc) rfl hown ⟨Z0.1.heap.size, 0, none⟩ 1 1 [.string a, .string b, .int .i64 n1, .int .i64 (-1)] rfl rfl (fun j u hu => by rw [addr_add0]; exact block_cell HWQ.out (by simpa using hu)) (fun u hu => by simp only [List.mem_cons, List.not_mem_nil, or_false] at hu; rcases hu with rfl | rfl | rfl | rfl <;> rfl) (by omega) (by unfold maxLen; omega) (by omega) (Nat.le_trans (Nat.le_of_lt hgl) HBZ1.out.size) _ rfl (fun g6 cap6 w6 hown6 hg6 hat6 hlt6 => ?_)
          have hgb6 : w6.heap[gb]? = some (.cells #[vP, vS, vM, vU] 27 (0, 0)) := (hg6.block gb (Nat.lt_of_lt_of_le hgl HBZ1.out.size) (fun e => own_apart hown (below_block HBZ1.out HS.out.b) (by decide) e.symm)).trans (below_block HBZ1.out HS.out.b)
          obtain ⟨Y6, rfl⟩ : ∃ Z : ExtO (Ot0 gb vM) W6, w6 = Z.1 := ⟨⟨w6, Z1.2.grown hg6 (fun q hq _ => Or.inr hq)⟩, rfl⟩
          have HGB6 := Lib.hid hgb6
          have HO6 := Lib.hid hown6
          refine hK _ _ ⟨Y6, rfl⟩ ?_
          try simp only [Act.put, List.setIfInBounds_toArray, List.set_cons_zero, List.set_cons_succ]
          refine held_quiet2 (by kernel_rfl) (fun _ _ d _ _ h => by cases d <;> exact h) ⟨Y6, rfl⟩ [16, 17] 1 _ _ (by kernel_rfl) ?_
          change wpQuiet _ _ _ _ (_ :: _ :: []) _
          repeat go_big_quiet_step (fail)
          refine wpQuiet_nil ?_
          have y0 : Y6.1.cell? ⟨gb, 2, none⟩ = some vM := block_cell HGB6.out rfl
          have y1 : Y6.1.frozen? ⟨gb, 2, none⟩ = false := Lib.frozen_of_heap HGB6.out 2
          obtain ⟨W9, hW9⟩ : ∃ W, Y6.1.setCell ⟨gb, 2, none⟩ (.slice (some ⟨g6, 0, none⟩) (nM acc + 1) cap6) = W := ⟨_, rfl⟩
          have hb9 : W9.heap[gb]? = some (.cells #[vP, vS, (.slice (some ⟨g6, 0, none⟩) (nM acc + 1) cap6), vU] 27 (0, 0)) := by rw [← hW9]; exact cells_set HGB6.out
          have hk9 : Kept (fun k => k = gb) Y6.1 W9 := by rw [← hW9]; exact kept_set1
          have HO9 := Lib.hid (own_kept HO6.out hk9 (fun g hg e => by subst e; exact own_apart HO6.out HGB6.out (by decide) hg))
          have HK9 := Lib.hid (Y6.2.trans (hk9.weaken2 fun k e => Or.inl e))
          have HB9 := Lib.hid hb9
          have HBL9 := Lib.hid (Kept.below (HB6.out.mono (Nat.le_of_lt hgl)) HK9.out (Nat.le_trans (Nat.le_of_lt hgl) HB6.out.size) (fun k hk e => by
            rcases e with e | e
            · omega
            · have := (HS.out.oM.lt k e).1
              omega))
          refine held_do (i := 18) _ rfl (by kernel_rfl) rfl (fun K hK => ?_)
          go_simp
          try rw [hW9]
          refine hK _ _ ⟨⟨W9, HK9.out⟩, rfl⟩ ?_
          try simp only [Act.put, List.setIfInBounds_toArray, List.set_cons_zero, List.set_cons_succ]
          refine wpAnyH_done (by kernel_rfl) ?_ _
          cases r1
          all_goals
            go_wp2_with fail
            go_ret
            refine RdT.end HBL9.out (fun hr => ?_) (fun hr => ?_)
            · rw [HLO.out]
              first | (cases hr; done) | (rw [none_of HR1.out]; rfl)
            · rw [HLO.out, HKW.out]
              first | (cases hr; done) | (obtain ⟨v, hv⟩ := some_of HR1.out; have h1 := HN1.out; rw [hv] at h1 ⊢; rw [HT.out]; exact ⟨_, rfl, rfl, _, _, _, _, by rw [show v = n1 from h1]; exact (HS.out.below HB6.out).addM0 HK9.out HB9.out a b n1 (-1) HO9.out⟩)
      · have y2 : (!decide (d = dashB)) = true := by rw [decide_eq_false hd]; rfl
        rw [decide_eq_false hd] at hse hsn
        have HT : Hid (toG d = numG d) := Lib.hid (by unfold toG; rw [if_neg hd])
        clear hd
        have DN2 := Lib.hid (rnumber_any d X1.1 (HG.out.below X1.2) (HSZ.out d (by simp)))
        obtain ⟨n2, hn2⟩ : ∃ n, (numG d).getD 0 = n := ⟨_, rfl⟩
        obtain ⟨r2, hr2⟩ : ∃ r, (numG d).isSome = r := ⟨_, rfl⟩
        unfold NumR at DN2
        rw [hn2, hr2] at DN2
        have HN2 := Lib.hid hn2
        have HR2 := Lib.hid hr2
        clear hn2 hr2
        go_upto_region 20 with (go_at_call 45; refine DN2.out.mono ?_; rintro e w2 ⟨rfl, hb2⟩)
        obtain ⟨X2, rfl⟩ : ∃ X : Ext w, w2 = X.1 := ⟨⟨w2, below_step X1.2 hb2⟩, rfl⟩
        clear hb2 DN2
        obtain ⟨W6, hW6⟩ : ∃ W, X2.1 = W := ⟨_, rfl⟩
        have HB6 := Lib.hid (X2.2)
        rw [hW6] at HB6 ⊢
        have fa : ∀ Z : ExtO (Ot0 gb vM) W6, Z.1.cell? ⟨bw, 1, none⟩ = some (.string a) := ExtO.ex hno (by rw [← hW6]; exact ca X2)
        have fb : ∀ Z : ExtO (Ot0 gb vM) W6, Z.1.cell? ⟨bw, 2, none⟩ = some (.string b) := ExtO.ex hno (by rw [← hW6]; exact cb X2)
        clear hW6
        refine held_start (C := fun w' => ∃ Z : ExtO (Ot0 gb vM) W6, w' = Z.1) (by kernel_rfl) ?_
        obtain ⟨Z0, hZ0, hz0⟩ : ∃ Z : ExtO (Ot0 gb vM) W6, ({ W6 with drawn := W6.drawn + 1 } : World) = Z.1 ∧ Below W6.heap.size W6 Z.1 := ⟨⟨{ W6 with drawn := W6.drawn + 1 }, ⟨rfl, rfl, rfl, Nat.le_refl _, fun _ _ _ => rfl⟩⟩, rfl, ⟨rfl, rfl, rfl, Nat.le_refl _, fun _ _ => rfl⟩⟩
        rw [hZ0]
        have HBZ0 := Lib.hid (HB6.out.trans (hz0.mono HB6.out.size))
        clear hZ0 hz0
        refine held_quiet2 (by kernel_rfl) (fun _ _ d _ _ h => by cases d <;> exact h) ⟨Z0, rfl⟩ [0, 1, 2, 3, 5, 6, 7, 8, 9, 10, 11, 12, 13] 6 _ _ (by kernel_rfl) ?_
        change wpQuiet _ _ _ _ (_ :: _ :: _ :: _ :: _ :: _ :: _ :: _ :: _ :: _ :: _ :: _ :: _ :: []) _
        repeat go_big_quiet_step (fail)
        refine wpQuiet_nil ?_
        refine held_two (i := 4) (j := 14) _ _ rfl rfl (by kernel_rfl) rfl rfl (fun K hK => ?_) (fun K hK => ?_)
        · have g0 : Z0.1.cell? ⟨gb, 2, none⟩ = some vM := block_cell (below_block HBZ0.out HS.out.b) rfl
          go_simp
          refine hK _ _ ⟨Z0, rfl⟩ ?_
          clear hK K g0
          try simp only [Act.put, List.setIfInBounds_toArray, List.set_cons_zero, List.set_cons_succ]
          refine held_do (i := 14) _ rfl (by kernel_rfl) rfl (fun K hK => ?_)
          go_simp
          obtain ⟨Wb, hWb, hwb1, hwb2, hwq⟩ := alloc_block Z0.1 #[.string a, .string b, .int .i64 n1, .int .i64 n2] 52
          rw [hWb]
          obtain ⟨Z1, rfl⟩ : ∃ Z : ExtO (Ot0 gb vM) W6, Wb = Z.1 := ⟨⟨Wb, Z0.2.trans (Kept.of_below hwb1)⟩, rfl⟩
          have HBZ1 := Lib.hid (HBZ0.out.trans (hwb1.mono HBZ0.out.size))
          have HWQ := Lib.hid hwq
          have hbsl : Z0.1.heap.size < Z1.1.heap.size := by omega
          refine hK _ _ ⟨Z1, rfl⟩ ?_
          clear hWb hwb1 hwq hK K
          try simp only [Act.put, List.setIfInBounds_toArray, List.set_cons_zero, List.set_cons_succ]
          refine held_do (i := 15) _ rfl (by kernel_rfl) rfl (fun K hK => ?_)
          have hown := ownsRow_below HS.out.oM HBZ1.out
          refine wp_append_lies Z1.1 (.tmp 97) (.tmp 107) 24 rfl gb 52 i0 (.agg #[.string ⟨#[]⟩, .string ⟨#[]⟩, .int .i64 0, .int .i64 0]) 4 48 HU.out HI0.out HZI0.out HZI1.out HZI2.out rfl (by decide) vM (nM acc) (cM acc) rfl hown ⟨Z0.1.heap.size, 0, none⟩ 1 1 [.string a, .string b, .int .i64 n1, .int .i64 n2] rfl rfl (fun j u hu => by rw [addr_add0]; exact block_cell HWQ.out (by simpa using hu)) (fun u hu => by simp only [List.mem_cons, List.not_mem_nil, or_false] at hu; rcases hu with rfl | rfl | rfl | rfl <;> rfl) (by omega) (by unfold maxLen; omega) (by omega) (Nat.le_trans (Nat.le_of_lt hgl) HBZ1.out.size) _ rfl (fun g6 cap6 w6 hown6 hg6 hat6 hlt6 => ?_)
          have hgb6 : w6.heap[gb]? = some (.cells #[vP, vS, vM, vU] 27 (0, 0)) := (hg6.block gb (Nat.lt_of_lt_of_le hgl HBZ1.out.size) (fun e => own_apart hown (below_block HBZ1.out HS.out.b) (by decide) e.symm)).trans (below_block HBZ1.out HS.out.b)
          obtain ⟨Y6, rfl⟩ : ∃ Z : ExtO (Ot0 gb vM) W6, w6 = Z.1 := ⟨⟨w6, Z1.2.grown hg6 (fun q hq _ => Or.inr hq)⟩, rfl⟩
          have HGB6 := Lib.hid hgb6
          have HO6 := Lib.hid hown6
          refine hK _ _ ⟨Y6, rfl⟩ ?_
          try simp only [Act.put, List.setIfInBounds_toArray, List.set_cons_zero, List.set_cons_succ]
          refine held_quiet2 (by kernel_rfl) (fun _ _ d _ _ h => by cases d <;> exact h) ⟨Y6, rfl⟩ [16, 17] 1 _ _ (by kernel_rfl) ?_
          change wpQuiet _ _ _ _ (_ :: _ :: []) _
          repeat go_big_quiet_step (fail)
          refine wpQuiet_nil ?_
          have y0 : Y6.1.cell? ⟨gb, 2, none⟩ = some vM := block_cell HGB6.out rfl
          have y1 : Y6.1.frozen? ⟨gb, 2, none⟩ = false := Lib.frozen_of_heap HGB6.out 2
          obtain ⟨W9, hW9⟩ : ∃ W, Y6.1.setCell ⟨gb, 2, none⟩ (.slice (some ⟨g6, 0, none⟩) (nM acc + 1) cap6) = W := ⟨_, rfl⟩
          have hb9 : W9.heap[gb]? = some (.cells #[vP, vS, (.slice (some ⟨g6, 0, none⟩) (nM acc + 1) cap6), vU] 27 (0, 0)) := by rw [← hW9]; exact cells_set HGB6.out
          have hk9 : Kept (fun k => k = gb) Y6.1 W9 := by rw [← hW9]; exact kept_set1
          have HO9 := Lib.hid (own_kept HO6.out hk9 (fun g hg e => by subst e; exact own_apart HO6.out HGB6.out (by decide) hg))
          have HK9 := Lib.hid (Y6.2.trans (hk9.weaken2 fun k e => Or.inl e))
          have HB9 := Lib.hid hb9
          have HBL9 := Lib.hid (Kept.below (HB6.out.mono (Nat.le_of_lt hgl)) HK9.out (Nat.le_trans (Nat.le_of_lt hgl) HB6.out.size) (fun k hk e => by
            rcases e with e | e
            · omega
            · have := (HS.out.oM.lt k e).1
              omega))
          refine held_do (i := 18) _ rfl (by kernel_rfl) rfl (fun K hK => ?_)
          go_simp
          try rw [hW9]
          refine hK _ _ ⟨⟨W9, HK9.out⟩, rfl⟩ ?_
          try simp only [Act.put, List.setIfInBounds_toArray, List.set_cons_zero, List.set_cons_succ]
          refine wpAnyH_done (by kernel_rfl) ?_ _
          cases r1 <;> cases r2
          all_goals
            go_wp2_with fail
            go_ret
            refine RdT.end HBL9.out (fun hr => ?_) (fun hr => ?_)
            · rw [HLO.out]
              first | (cases hr; done) | (rw [none_of HR1.out]; rfl) | (rw [HT.out, none_of HR2.out]; cases numG c <;> rfl)
            · rw [HLO.out, HKW.out]
              first | (cases hr; done) | (obtain ⟨v, hv⟩ := some_of HR1.out; obtain ⟨v2, hv2⟩ := some_of HR2.out; have h1 := HN1.out; have h2 := HN2.out; rw [hv] at h1; rw [hv2] at h2; rw [HT.out, hv, hv2]; exact ⟨_, rfl, rfl, _, _, _, _, by rw [show v = n1 from h1, show v2 = n2 from h2]; exact (HS.out.below HB6.out).addM0 HK9.out HB9.out a b n1 n2 HO9.out⟩)
        · go_simp
          obtain ⟨Wb, hWb, hwb1, hwb2, hwq⟩ := alloc_block Z0.1 #[.string a, .string b, .int .i64 n1, .int .i64 n2] 52
          rw [hWb]
          obtain ⟨Z1, rfl⟩ : ∃ Z : ExtO (Ot0 gb vM) W6, Wb = Z.1 := ⟨⟨Wb, Z0.2.trans (Kept.of_below hwb1)⟩, rfl⟩
          have HBZ1 := Lib.hid (HBZ0.out.trans (hwb1.mono HBZ0.out.size))
          have HWQ := Lib.hid hwq
          have hbsl : Z0.1.heap.size < Z1.1.heap.size := by omega
          refine hK _ _ ⟨Z1, rfl⟩ ?_
          clear hWb hwb1 hwq hK K
          try simp only [Act.put, List.setIfInBounds_toArray, List.set_cons_zero, List.set_cons_succ]
          refine held_do (i := 4) _ rfl (by kernel_rfl) rfl (fun K hK => ?_)
          have g0 : Z1.1.cell? ⟨gb, 2, none⟩ = some vM := block_cell (below_block HBZ1.out HS.out.b) rfl
          go_simp
          refine hK _ _ ⟨Z1, rfl⟩ ?_
          clear hK K g0
          try simp only [Act.put, List.setIfInBounds_toArray, List.set_cons_zero, List.set_cons_succ]
          refine held_do (i := 15) _ rfl (by kernel_rfl) rfl (fun K hK => ?_)
          have hown := ownsRow_below HS.out.oM HBZ1.out
          refine wp_append_lies Z1.1 (.tmp 97) (.tmp 107) 24 rfl gb 52 i0 (.agg #[.string ⟨#[]⟩, .string ⟨#[]⟩, .int .i64 0, .int .i64 0]) 4 48 HU.out HI0.out HZI0.out HZI1.out HZI2.out rfl (by decide) vM (nM acc) (cM acc) rfl hown ⟨Z0.1.heap.size, 0, none⟩ 1 1 [.string a, .string b, .int .i64 n1, .int .i64 n2] rfl rfl (fun j u hu => by rw [addr_add0]; exact block_cell HWQ.out (by simpa using hu)) (fun u hu => by simp only [List.mem_cons, List.not_mem_nil, or_false] at hu; rcases hu with rfl | rfl | rfl | rfl <;> rfl) (by omega) (by unfold maxLen; omega) (by omega) (Nat.le_trans (Nat.le_of_lt hgl) HBZ1.out.size) _ rfl (fun g6 cap6 w6 hown6 hg6 hat6 hlt6 => ?_)
          have hgb6 : w6.heap[gb]? = some (.cells #[vP, vS, vM, vU] 27 (0, 0)) := (hg6.block gb (Nat.lt_of_lt_of_le hgl HBZ1.out.size) (fun e => own_apart hown (below_block HBZ1.out HS.out.b) (by decide) e.symm)).trans (below_block HBZ1.out HS.out.b)
          obtain ⟨Y6, rfl⟩ : ∃ Z : ExtO (Ot0 gb vM) W6, w6 = Z.1 := ⟨⟨w6, Z1.2.grown hg6 (fun q hq _ => Or.inr hq)⟩, rfl⟩
          have HGB6 := Lib.hid hgb6
          have HO6 := Lib.hid hown6
          refine hK _ _ ⟨Y6, rfl⟩ ?_
          try simp only [Act.put, List.setIfInBounds_toArray, List.set_cons_zero, List.set_cons_succ]
          refine held_quiet2 (by kernel_rfl) (fun _ _ d _ _ h => by cases d <;> exact h) ⟨Y6, rfl⟩ [16, 17] 1 _ _ (by kernel_rfl) ?_
          change wpQuiet _ _ _ _ (_ :: _ :: []) _
          repeat go_big_quiet_step (fail)
          refine wpQuiet_nil ?_
          have y0 : Y6.1.cell? ⟨gb, 2, none⟩ = some vM := block_cell HGB6.out rfl
          have y1 : Y6.1.frozen? ⟨gb, 2, none⟩ = false := Lib.frozen_of_heap HGB6.out 2
          obtain ⟨W9, hW9⟩ : ∃ W, Y6.1.setCell ⟨gb, 2, none⟩ (.slice (some ⟨g6, 0, none⟩) (nM acc + 1) cap6) = W := ⟨_, rfl⟩
          have hb9 : W9.heap[gb]? = some (.cells #[vP, vS, (.slice (some ⟨g6, 0, none⟩) (nM acc + 1) cap6), vU] 27 (0, 0)) := by rw [← hW9]; exact cells_set HGB6.out
          have hk9 : Kept (fun k => k = gb) Y6.1 W9 := by rw [← hW9]; exact kept_set1
          have HO9 := Lib.hid (own_kept HO6.out hk9 (fun g hg e => by subst e; exact own_apart HO6.out HGB6.out (by decide) hg))
          have HK9 := Lib.hid (Y6.2.trans (hk9.weaken2 fun k e => Or.inl e))
          have HB9 := Lib.hid hb9
          have HBL9 := Lib.hid (Kept.below (HB6.out.mono (Nat.le_of_lt hgl)) HK9.out (Nat.le_trans (Nat.le_of_lt hgl) HB6.out.size) (fun k hk e => by
            rcases e with e | e
            · omega
            · have := (HS.out.oM.lt k e).1
              omega))
          refine held_do (i := 18) _ rfl (by kernel_rfl) rfl (fun K hK => ?_)
          go_simp
          try rw [hW9]
          refine hK _ _ ⟨⟨W9, HK9.out⟩, rfl⟩ ?_
          try simp only [Act.put, List.setIfInBounds_toArray, List.set_cons_zero, List.set_cons_succ]
          refine wpAnyH_done (by kernel_rfl) ?_ _
          cases r1 <;> cases r2
          all_goals
            go_wp2_with fail
            go_ret
            refine RdT.end HBL9.out (fun hr => ?_) (fun hr => ?_)
            · rw [HLO.out]
              first | (cases hr; done) | (rw [none_of HR1.out]; rfl) | (rw [HT.out, none_of HR2.out]; cases numG c <;> rfl)
            · rw [HLO.out, HKW.out]
              first | (cases hr; done) | (obtain ⟨v, hv⟩ := some_of HR1.out; obtain ⟨v2, hv2⟩ := some_of HR2.out; have h1 := HN1.out; have h2 := HN2.out; rw [hv] at h1; rw [hv2] at h2; rw [HT.out, hv, hv2]; exact ⟨_, rfl, rfl, _, _, _, _, by rw [show v = n1 from h1, show v2 = n2 from h2]; exact (HS.out.below HB6.out).addM0 HK9.out HB9.out a b n1 n2 HO9.out⟩)
set_option maxHeartbeats 8000000 in
set_option maxRecDepth 100000 in
theorem takeU_any (gb bw : Nat) (acc : List Ln) (vP vS vM vU : Value) (a b c d e : ByteArray) (w : World) (h : GSt gb w acc vP vS vM vU) (hg : Glo w) (hbq : w.heap[bw]? = some (.cells #[.string kUse, .string a, .string b, .string c, .string d, .string e] 9 (0, 0))) (hbw : gb < bw) (hsz : ∀ x, x ∈ [kUse, a, b, c, d, e] → x.size ≤ 1000000) (hacc : acc.length ≤ 1000000) :
    Calls Tryz.prog 21 #[.pointer (some ⟨gb, 0, none⟩), .int .i64 4, .slice (some ⟨bw, 0, none⟩) 6 6] w fun en w' => RdT gb w acc [kUse, a, b, c, d, e] en w' := by
  have HS := Lib.hid h
  have HG := Lib.hid hg
  have HBQ := Lib.hid hbq
  have hgl := h.lt
  have hl := n_le acc
  have hbwl := lt_of_block hbq
  have HSZ := Lib.hid hsz
  have HRC : Hid (anyE [kUse, a, b, c, d, e] = false → lineOf [kUse, a, b, c, d, e] = ((numG c).bind fun f => (numG d).bind fun s => (numG e).map fun w => Ln.use a b f s w)) := Lib.hid (fun h => by unfold lineOf; rw [if_neg (by rw [h]; simp)]; simp [recOf, kUse])
  have HKW : Hid (kindW [kUse, a, b, c, d, e] = 4) := Lib.hid (by simp [kindW, kSlot, kPart, kMount, kUse])
  have HCE := Lib.hid (fun (j : Nat) (x : ByteArray) (hx : [kUse, a, b, c, d, e][j]? = some x) => show w.cell? ⟨bw, j, none⟩ = some (.string x) from block_cell hbq (by rw [show (#[Value.string kUse, Value.string a, Value.string b, Value.string c, Value.string d, Value.string e] : Array Value) = (([kUse, a, b, c, d, e] : List ByteArray).map Value.string).toArray from rfl, List.getElem?_toArray, List.getElem?_map, hx]; rfl))
  obtain ⟨i0, hi0, hzi0, hzi1, hzi2⟩ := info_parts (show (Tryz.prog.info? 54).map (fun i => (i.zero, i.size, i.bytes)) = some (some (.agg #[.string ⟨#[]⟩, .string ⟨#[]⟩, .int .i64 0, .int .i64 0, .int .i64 0]), 5, 56) by kernel_rfl)
  have HI0 := Lib.hid hi0
  have HZI0 := Lib.hid hzi0
  have HZI1 := Lib.hid hzi1
  have HZI2 := Lib.hid hzi2
  have HU := Lib.hid (show Tryz.prog.underlying 25 = some (.slice 54) by kernel_rfl)
  clear hi0 hzi0 hzi1 hzi2
  clear h hg hbq hsz
  go_enter Tryz.func21, Tryz.ntmps21
  go_wp2_with fail
  go_loopw [23] (fun iv wr => ∃ (j : Nat), iv = .int .i64 j ∧ j ≤ 6 ∧ w = wr ∧ Hid (∀ i x, i < j → [kUse, a, b, c, d, e][i]? = some x → x ≠ ⟨#[]⟩)) (fun iv _ => 6 - (intOf iv).toNat)
  case atStart => exact ⟨0, rfl, by omega, rfl, Lib.hid (fun i x hi => by omega)⟩
  case round =>
    obtain ⟨j, rfl, hj, rfl, HJ⟩ := hrel
    by_cases hlt : j < 6
    · have t1 : decide ((j : Int) < 6) = true := by rw [decide_eq_true_eq]; omega
      have t1' : decide (j < 6) = true := by simpa using hlt
      have hji : (j : Int) < 6 := by omega
      obtain ⟨x, hx⟩ : ∃ x, [kUse, a, b, c, d, e][j]? = some x := ⟨_, List.getElem?_eq_getElem (by simpa using hlt)⟩
      have c0 := HCE.out j x hx
      have HX := Lib.hid hx
      have hse : (x.toList == ([] : List UInt8)) = decide (x = ⟨#[]⟩) := by
        have h0 := str_eq x ⟨#[]⟩
        rwa [show (ByteArray.mk #[]).toList = [] by rw [ByteArray.toList_eq]] at h0
      clear hx
      by_cases he : x = ⟨#[]⟩
      · rw [decide_eq_true he] at hse
        have HN : Hid (lineOf [kUse, a, b, c, d, e] = none) := Lib.hid (by
          unfold lineOf
          rw [if_pos]
          unfold anyE
          rw [List.any_eq_true]
          exact ⟨x, List.mem_of_getElem? HX.out, by simpa using he⟩)
        clear he
        go_wp2_with fail
        go_ret
        exact RdT.end (Below.refl _ _) (fun _ => HN.out) (fun e => by cases e)
      · rw [decide_eq_false he] at hse
        have HJ2 : Hid (∀ i y, i < j + 1 → [kUse, a, b, c, d, e][i]? = some y → y ≠ ⟨#[]⟩) := Lib.hid (fun i y hi hy => by
          by_cases e : i = j
          · subst e
            rw [HX.out] at hy
            injection hy with hy
            rw [← hy]; exact he
          · exact HJ.out i y (by omega) hy)
        clear he
        go_wp2_with fail
        go_roundw
        case rel => exact ⟨j + 1, by go_num, by omega, trivial, HJ2⟩
        case measure => simp [intOf]; omega
    · have t1 : decide ((j : Int) < 6) = false := by rw [decide_eq_false_iff_not]; omega
      have t1' : decide (j < 6) = false := by simpa using hlt
      obtain rfl : j = 6 := by omega
      have HLO : Hid (lineOf [kUse, a, b, c, d, e] = ((numG c).bind fun f => (numG d).bind fun s => (numG e).map fun w => Ln.use a b f s w)) := Lib.hid (HRC.out (by
        cases ha : anyE [kUse, a, b, c, d, e] with
        | false => rfl
        | true =>
          exfalso
          unfold anyE at ha
          rw [List.any_eq_true] at ha
          obtain ⟨x, h1, h2⟩ := ha
          obtain ⟨i, hi⟩ := List.getElem?_of_mem h1
          have hil : i < 6 := by
            have := List.getElem?_eq_some_iff.1 hi
            simpa using this.1
          exact HJ.out i x hil hi (by simpa using h2)))
      have hno : ¬ Ot0 gb vU bw := fun e => by
        rcases e with e | e
        · omega
        · exact own_apart HS.out.oU HBQ.out (by decide) e
      clear hlt HJ HRC t1 t1'
      have ca : ∀ X : Ext w, X.1.cell? ⟨bw, 1, none⟩ = some (.string a) := Ext.ex (HCE.out 1 a rfl)
      have Ca := ca ⟨w, Below.refl _ _⟩
      have cb : ∀ X : Ext w, X.1.cell? ⟨bw, 2, none⟩ = some (.string b) := Ext.ex (HCE.out 2 b rfl)
      have Cb := cb ⟨w, Below.refl _ _⟩
      have cc : ∀ X : Ext w, X.1.cell? ⟨bw, 3, none⟩ = some (.string c) := Ext.ex (HCE.out 3 c rfl)
      have Cc := cc ⟨w, Below.refl _ _⟩
      have cd : ∀ X : Ext w, X.1.cell? ⟨bw, 4, none⟩ = some (.string d) := Ext.ex (HCE.out 4 d rfl)
      have Cd := cd ⟨w, Below.refl _ _⟩
      have ce : ∀ X : Ext w, X.1.cell? ⟨bw, 5, none⟩ = some (.string e) := Ext.ex (HCE.out 5 e rfl)
      have Ce := ce ⟨w, Below.refl _ _⟩
      have DN1 := Lib.hid (rnumber_any c w (HG.out.below (Below.refl _ _)) (HSZ.out c (by simp)))
      obtain ⟨n1, hn1⟩ : ∃ n, (numG c).getD 0 = n := ⟨_, rfl⟩
      obtain ⟨r1, hr1⟩ : ∃ r, (numG c).isSome = r := ⟨_, rfl⟩
      unfold NumR at DN1
      rw [hn1, hr1] at DN1
      have HN1 := Lib.hid hn1
      have HR1 := Lib.hid hr1
      clear hn1 hr1
      go_upto_region 23 with (go_at_call 45; refine DN1.out.mono ?_; rintro e w1 ⟨rfl, hb1⟩)
      obtain ⟨X1, rfl⟩ : ∃ X : Ext w, w1 = X.1 := ⟨⟨w1, hb1⟩, rfl⟩
      clear hb1 DN1
      have Ca := ca X1
      have Cb := cb X1
      have Cc := cc X1
      have Cd := cd X1
      have Ce := ce X1
      have DN2 := Lib.hid (rnumber_any d X1.1 (HG.out.below X1.2) (HSZ.out d (by simp)))
      obtain ⟨n2, hn2⟩ : ∃ n, (numG d).getD 0 = n := ⟨_, rfl⟩
      obtain ⟨r2, hr2⟩ : ∃ r, (numG d).isSome = r := ⟨_, rfl⟩
      unfold NumR at DN2
      rw [hn2, hr2] at DN2
      have HN2 := Lib.hid hn2
      have HR2 := Lib.hid hr2
      clear hn2 hr2
      go_upto_region 24 with (go_at_call 45; refine DN2.out.mono ?_; rintro e w2 ⟨rfl, hb2⟩)
      obtain ⟨X2, rfl⟩ : ∃ X : Ext w, w2 = X.1 := ⟨⟨w2, below_step X1.2 hb2⟩, rfl⟩
      clear hb2 DN2
      have Ca := ca X2
      have Cb := cb X2
      have Cc := cc X2
      have Cd := cd X2
      have Ce := ce X2
      have DN3 := Lib.hid (rnumber_any e X2.1 (HG.out.below X2.2) (HSZ.out e (by simp)))
      obtain ⟨n3, hn3⟩ : ∃ n, (numG e).getD 0 = n := ⟨_, rfl⟩
      obtain ⟨r3, hr3⟩ : ∃ r, (numG e).isSome = r := ⟨_, rfl⟩
      unfold NumR at DN3
      rw [hn3, hr3] at DN3
      have HN3 := Lib.hid hn3
      have HR3 := Lib.hid hr3
      clear hn3 hr3
      go_upto_region 25 with (go_at_call 45; refine DN3.out.mono ?_; rintro e w3 ⟨rfl, hb3⟩)
      obtain ⟨X3, rfl⟩ : ∃ X : Ext w, w3 = X.1 := ⟨⟨w3, below_step X2.2 hb3⟩, rfl⟩
      clear hb3 DN3
      obtain ⟨W6, hW6⟩ : ∃ W, X3.1 = W := ⟨_, rfl⟩
      have HB6 := Lib.hid (X3.2)
      rw [hW6] at HB6 ⊢
      have fa : ∀ Z : ExtO (Ot0 gb vU) W6, Z.1.cell? ⟨bw, 1, none⟩ = some (.string a) := ExtO.ex hno (by rw [← hW6]; exact ca X3)
      have fb : ∀ Z : ExtO (Ot0 gb vU) W6, Z.1.cell? ⟨bw, 2, none⟩ = some (.string b) := ExtO.ex hno (by rw [← hW6]; exact cb X3)
      clear hW6
      refine held_start (C := fun w' => ∃ Z : ExtO (Ot0 gb vU) W6, w' = Z.1) (by kernel_rfl) ?_
      obtain ⟨Z0, hZ0, hz0⟩ : ∃ Z : ExtO (Ot0 gb vU) W6, ({ W6 with drawn := W6.drawn + 1 } : World) = Z.1 ∧ Below W6.heap.size W6 Z.1 := ⟨⟨{ W6 with drawn := W6.drawn + 1 }, ⟨rfl, rfl, rfl, Nat.le_refl _, fun _ _ _ => rfl⟩⟩, rfl, ⟨rfl, rfl, rfl, Nat.le_refl _, fun _ _ => rfl⟩⟩
      rw [hZ0]
      have HBZ0 := Lib.hid (HB6.out.trans (hz0.mono HB6.out.size))
      clear hZ0 hz0
      refine held_quiet2 (by kernel_rfl) (fun _ _ d _ _ h => by cases d <;> exact h) ⟨Z0, rfl⟩ [0, 1, 2, 3, 5, 6, 7, 8, 9, 10, 11, 12, 13, 14] 6 _ _ (by kernel_rfl) ?_
      change wpQuiet _ _ _ _ (_ :: _ :: _ :: _ :: _ :: _ :: _ :: _ :: _ :: _ :: _ :: _ :: _ :: _ :: []) _
      repeat go_big_quiet_step (fail)
      refine wpQuiet_nil ?_
      refine held_two (i := 4) (j := 15) _ _ rfl rfl (by kernel_rfl) rfl rfl (fun K hK => ?_) (fun K hK => ?_)
      · have g0 : Z0.1.cell? ⟨gb, 3, none⟩ = some vU := block_cell (below_block HBZ0.out HS.out.b) rfl
        go_simp
        refine hK _ _ ⟨Z0, rfl⟩ ?_
        clear hK K g0
        try simp only [Act.put, List.setIfInBounds_toArray, List.set_cons_zero, List.set_cons_succ]
        refine held_do (i := 15) _ rfl (by kernel_rfl) rfl (fun K hK => ?_)
        go_simp
        obtain ⟨Wb, hWb, hwb1, hwb2, hwq⟩ := alloc_block Z0.1 #[.string a, .string b, .int .i64 n1, .int .i64 n2, .int .i64 n3] 54
        rw [hWb]
        obtain ⟨Z1, rfl⟩ : ∃ Z : ExtO (Ot0 gb vU) W6, Wb = Z.1 := ⟨⟨Wb, Z0.2.trans (Kept.of_below hwb1)⟩, rfl⟩
        have HBZ1 := Lib.hid (HBZ0.out.trans (hwb1.mono HBZ0.out.size))
        have HWQ := Lib.hid hwq
        have hbsl : Z0.1.heap.size < Z1.1.heap.size := by omega
        refine hK _ _ ⟨Z1, rfl⟩ ?_
        clear hWb hwb1 hwq hK K
        try simp only [Act.put, List.setIfInBounds_toArray, List.set_cons_zero, List.set_cons_succ]
        refine held_do (i := 16) _ rfl (by kernel_rfl) rfl (fun K hK => ?_)
        have hown := ownsRow_below HS.out.oU HBZ1.out
        refine wp_append_lies Z1.1 (.tmp 140) (.tmp 151) 25 rfl gb 54 i0 (.agg #[.string ⟨#[]⟩, .string ⟨#[]⟩, .int .i64 0, .int .i64 0, .int .i64 0]) 5 56 HU.out HI0.out HZI0.out HZI1.out HZI2.out rfl (by decide) vU (nU acc) (cU acc) rfl hown ⟨Z0.1.heap.size, 0, none⟩ 1 1 [.string a, .string b, .int .i64 n1, .int .i64 n2, .int .i64 n3] rfl rfl (fun j u hu => by rw [addr_add0]; exact block_cell HWQ.out (by simpa using hu)) (fun u hu => by simp only [List.mem_cons, List.not_mem_nil, or_false] at hu; rcases hu with rfl | rfl | rfl | rfl | rfl <;> rfl) (by omega) (by unfold maxLen; omega) (by omega) (Nat.le_trans (Nat.le_of_lt hgl) HBZ1.out.size) _ rfl (fun g6 cap6 w6 hown6 hg6 hat6 hlt6 => ?_)
        have hgb6 : w6.heap[gb]? = some (.cells #[vP, vS, vM, vU] 27 (0, 0)) := (hg6.block gb (Nat.lt_of_lt_of_le hgl HBZ1.out.size) (fun e => own_apart hown (below_block HBZ1.out HS.out.b) (by decide) e.symm)).trans (below_block HBZ1.out HS.out.b)
        obtain ⟨Y6, rfl⟩ : ∃ Z : ExtO (Ot0 gb vU) W6, w6 = Z.1 := ⟨⟨w6, Z1.2.grown hg6 (fun q hq _ => Or.inr hq)⟩, rfl⟩
        have HGB6 := Lib.hid hgb6
        have HO6 := Lib.hid hown6
        refine hK _ _ ⟨Y6, rfl⟩ ?_
        try simp only [Act.put, List.setIfInBounds_toArray, List.set_cons_zero, List.set_cons_succ]
        refine held_quiet2 (by kernel_rfl) (fun _ _ d _ _ h => by cases d <;> exact h) ⟨Y6, rfl⟩ [17, 18] 1 _ _ (by kernel_rfl) ?_
        change wpQuiet _ _ _ _ (_ :: _ :: []) _
        repeat go_big_quiet_step (fail)
        refine wpQuiet_nil ?_
        have y0 : Y6.1.cell? ⟨gb, 3, none⟩ = some vU := block_cell HGB6.out rfl
        have y1 : Y6.1.frozen? ⟨gb, 3, none⟩ = false := Lib.frozen_of_heap HGB6.out 3
        obtain ⟨W9, hW9⟩ : ∃ W, Y6.1.setCell ⟨gb, 3, none⟩ (.slice (some ⟨g6, 0, none⟩) (nU acc + 1) cap6) = W := ⟨_, rfl⟩
        have hb9 : W9.heap[gb]? = some (.cells #[vP, vS, vM, (.slice (some ⟨g6, 0, none⟩) (nU acc + 1) cap6)] 27 (0, 0)) := by rw [← hW9]; exact cells_set HGB6.out
        have hk9 : Kept (fun k => k = gb) Y6.1 W9 := by rw [← hW9]; exact kept_set1
        have HO9 := Lib.hid (own_kept HO6.out hk9 (fun g hg e => by subst e; exact own_apart HO6.out HGB6.out (by decide) hg))
        have HK9 := Lib.hid (Y6.2.trans (hk9.weaken2 fun k e => Or.inl e))
        have HB9 := Lib.hid hb9
        have HBL9 := Lib.hid (Kept.below (HB6.out.mono (Nat.le_of_lt hgl)) HK9.out (Nat.le_trans (Nat.le_of_lt hgl) HB6.out.size) (fun k hk e => by
          rcases e with e | e
          · omega
          · have := (HS.out.oU.lt k e).1
            omega))
        refine held_do (i := 19) _ rfl (by kernel_rfl) rfl (fun K hK => ?_)
        go_simp
        try rw [hW9]
        refine hK _ _ ⟨⟨W9, HK9.out⟩, rfl⟩ ?_
        try simp only [Act.put, List.setIfInBounds_toArray, List.set_cons_zero, List.set_cons_succ]
        refine wpAnyH_done (by kernel_rfl) ?_ _
        cases r1 <;> cases r2 <;> cases r3
        all_goals
          go_wp2_with fail
          go_ret
          refine RdT.end HBL9.out (fun hr => ?_) (fun hr => ?_)
          · rw [HLO.out]
            first | (cases hr; done) | (rw [none_of HR1.out]; rfl) | (rw [none_of HR2.out]; cases numG c <;> rfl) | (rw [none_of HR3.out]; cases numG c <;> cases numG d <;> rfl)
          · rw [HLO.out, HKW.out]
            first | (cases hr; done) | (obtain ⟨v, hv⟩ := some_of HR1.out; obtain ⟨v2, hv2⟩ := some_of HR2.out; obtain ⟨v3, hv3⟩ := some_of HR3.out; have h1 := HN1.out; have h2 := HN2.out; have h3 := HN3.out; rw [hv] at h1; rw [hv2] at h2; rw [hv3] at h3; rw [hv, hv2, hv3]; exact ⟨_, rfl, rfl, _, _, _, _, by rw [show v = n1 from h1, show v2 = n2 from h2, show v3 = n3 from h3]; exact (HS.out.below HB6.out).addU0 HK9.out HB9.out a b n1 n2 n3 HO9.out⟩)
      · go_simp
        obtain ⟨Wb, hWb, hwb1, hwb2, hwq⟩ := alloc_block Z0.1 #[.string a, .string b, .int .i64 n1, .int .i64 n2, .int .i64 n3] 54
        rw [hWb]
        obtain ⟨Z1, rfl⟩ : ∃ Z : ExtO (Ot0 gb vU) W6, Wb = Z.1 := ⟨⟨Wb, Z0.2.trans (Kept.of_below hwb1)⟩, rfl⟩
        have HBZ1 := Lib.hid (HBZ0.out.trans (hwb1.mono HBZ0.out.size))
        have HWQ := Lib.hid hwq
        have hbsl : Z0.1.heap.size < Z1.1.heap.size := by omega
        refine hK _ _ ⟨Z1, rfl⟩ ?_
        clear hWb hwb1 hwq hK K
        try simp only [Act.put, List.setIfInBounds_toArray, List.set_cons_zero, List.set_cons_succ]
        refine held_do (i := 4) _ rfl (by kernel_rfl) rfl (fun K hK => ?_)
        have g0 : Z1.1.cell? ⟨gb, 3, none⟩ = some vU := block_cell (below_block HBZ1.out HS.out.b) rfl
        go_simp
        refine hK _ _ ⟨Z1, rfl⟩ ?_
        clear hK K g0
        try simp only [Act.put, List.setIfInBounds_toArray, List.set_cons_zero, List.set_cons_succ]
        refine held_do (i := 16) _ rfl (by kernel_rfl) rfl (fun K hK => ?_)
        have hown := ownsRow_below HS.out.oU HBZ1.out
        refine wp_append_lies Z1.1 (.tmp 140) (.tmp 151) 25 rfl gb 54 i0 (.agg #[.string ⟨#[]⟩, .string ⟨#[]⟩, .int .i64 0, .int .i64 0, .int .i64 0]) 5 56 HU.out HI0.out HZI0.out HZI1.out HZI2.out rfl (by decide) vU (nU acc) (cU acc) rfl hown ⟨Z0.1.heap.size, 0, none⟩ 1 1 [.string a, .string b, .int .i64 n1, .int .i64 n2, .int .i64 n3] rfl rfl (fun j u hu => by rw [addr_add0]; exact block_cell HWQ.out (by simpa using hu)) (fun u hu => by simp only [List.mem_cons, List.not_mem_nil, or_false] at hu; rcases hu with rfl | rfl | rfl | rfl | rfl <;> rfl) (by omega) (by unfold maxLen; omega) (by omega) (Nat.le_trans (Nat.le_of_lt hgl) HBZ1.out.size) _ rfl (fun g6 cap6 w6 hown6 hg6 hat6 hlt6 => ?_)
        have hgb6 : w6.heap[gb]? = some (.cells #[vP, vS, vM, vU] 27 (0, 0)) := (hg6.block gb (Nat.lt_of_lt_of_le hgl HBZ1.out.size) (fun e => own_apart hown (below_block HBZ1.out HS.out.b) (by decide) e.symm)).trans (below_block HBZ1.out HS.out.b)
        obtain ⟨Y6, rfl⟩ : ∃ Z : ExtO (Ot0 gb vU) W6, w6 = Z.1 := ⟨⟨w6, Z1.2.grown hg6 (fun q hq _ => Or.inr hq)⟩, rfl⟩
        have HGB6 := Lib.hid hgb6
        have HO6 := Lib.hid hown6
        refine hK _ _ ⟨Y6, rfl⟩ ?_
        try simp only [Act.put, List.setIfInBounds_toArray, List.set_cons_zero, List.set_cons_succ]
        refine held_quiet2 (by kernel_rfl) (fun _ _ d _ _ h => by cases d <;> exact h) ⟨Y6, rfl⟩ [17, 18] 1 _ _ (by kernel_rfl) ?_
        change wpQuiet _ _ _ _ (_ :: _ :: []) _
        repeat go_big_quiet_step (fail)
        refine wpQuiet_nil ?_
        have y0 : Y6.1.cell? ⟨gb, 3, none⟩ = some vU := block_cell HGB6.out rfl
        have y1 : Y6.1.frozen? ⟨gb, 3, none⟩ = false := Lib.frozen_of_heap HGB6.out 3
        obtain ⟨W9, hW9⟩ : ∃ W, Y6.1.setCell ⟨gb, 3, none⟩ (.slice (some ⟨g6, 0, none⟩) (nU acc + 1) cap6) = W := ⟨_, rfl⟩
        have hb9 : W9.heap[gb]? = some (.cells #[vP, vS, vM, (.slice (some ⟨g6, 0, none⟩) (nU acc + 1) cap6)] 27 (0, 0)) := by rw [← hW9]; exact cells_set HGB6.out
        have hk9 : Kept (fun k => k = gb) Y6.1 W9 := by rw [← hW9]; exact kept_set1
        have HO9 := Lib.hid (own_kept HO6.out hk9 (fun g hg e => by subst e; exact own_apart HO6.out HGB6.out (by decide) hg))
        have HK9 := Lib.hid (Y6.2.trans (hk9.weaken2 fun k e => Or.inl e))
        have HB9 := Lib.hid hb9
        have HBL9 := Lib.hid (Kept.below (HB6.out.mono (Nat.le_of_lt hgl)) HK9.out (Nat.le_trans (Nat.le_of_lt hgl) HB6.out.size) (fun k hk e => by
          rcases e with e | e
          · omega
          · have := (HS.out.oU.lt k e).1
            omega))
        refine held_do (i := 19) _ rfl (by kernel_rfl) rfl (fun K hK => ?_)
        go_simp
        try rw [hW9]
        refine hK _ _ ⟨⟨W9, HK9.out⟩, rfl⟩ ?_
        try simp only [Act.put, List.setIfInBounds_toArray, List.set_cons_zero, List.set_cons_succ]
        refine wpAnyH_done (by kernel_rfl) ?_ _
        cases r1 <;> cases r2 <;> cases r3
        all_goals
          go_wp2_with fail
          go_ret
          refine RdT.end HBL9.out (fun hr => ?_) (fun hr => ?_)
          · rw [HLO.out]
            first | (cases hr; done) | (rw [none_of HR1.out]; rfl) | (rw [none_of HR2.out]; cases numG c <;> rfl) | (rw [none_of HR3.out]; cases numG c <;> cases numG d <;> rfl)
          · rw [HLO.out, HKW.out]
            first | (cases hr; done) | (obtain ⟨v, hv⟩ := some_of HR1.out; obtain ⟨v2, hv2⟩ := some_of HR2.out; obtain ⟨v3, hv3⟩ := some_of HR3.out; have h1 := HN1.out; have h2 := HN2.out; have h3 := HN3.out; rw [hv] at h1; rw [hv2] at h2; rw [hv3] at h3; rw [hv, hv2, hv3]; exact ⟨_, rfl, rfl, _, _, _, _, by rw [show v = n1 from h1, show v2 = n2 from h2, show v3 = n3 from h3]; exact (HS.out.below HB6.out).addU0 HK9.out HB9.out a b n1 n2 n3 HO9.out⟩)
end Go.Proofs.YthdmceeipmmhjaaGreatDoor

/- Gear: Read of the program: the walk. -/
namespace Go.Proofs.YthdmceeipmmhjaaGreatDoor
open Go.RowKit Go.BigFrame
open Txt
open Gar (chk)

/-- what Read hands back -/
def RdR (s : ByteArray) (w : World) (e : Ending) (w' : World) : Prop :=
  ∃ a0 a1 a2 a3 c0 c1 c2 c3, e = .returned (.tuple #[garV (gOf (readE s).1) a0 a1 a2 a3 c0 c1 c2 c3, .int .i64 (readE s).2.1, .int .i64 (readE s).2.2]) ∧ GarIn w' (gOf (readE s).1) a0 a1 a2 a3 ∧ (gOf (readE s).1).nm ≤ c2 ∧ (gOf (readE s).1).nu ≤ c3 ∧ Below w.heap.size w w'
theorem garIn_nil (w : World) : GarIn w (gOf []) none none none none :=
  ⟨⟨fun h => absurd h (by simp [gOf])⟩, ⟨fun h => absurd h (by simp [gOf])⟩, ⟨fun h => absurd h (by simp [gOf])⟩, ⟨fun h => absurd h (by simp [gOf])⟩, fun i h => absurd h (by simp [gOf]), fun i h => absurd h (by simp [gOf]), fun i h => absurd h (by simp [gOf]), fun i h => absurd h (by simp [gOf]), by simp [gOf], by simp [gOf], by simp [gOf], by simp [gOf]⟩
theorem RdR.zero {s : ByteArray} {w w' : World} {at' er : Int} (h : readE s = ([], at', er)) (hb : Below w.heap.size w w') : RdR s w (.returned (.tuple #[.agg #[.slice none 0 0, .slice none 0 0, .slice none 0 0, .slice none 0 0], .int .i64 at', .int .i64 er])) w' := by
  unfold RdR
  rw [h]
  exact ⟨none, none, none, none, 0, 0, 0, 0, rfl, garIn_nil w', Nat.le_refl _, Nat.le_refl _, hb⟩
def strSize : Value → Nat
  | .string s => s.size
  | _ => 0
/-- the garage is emptied -/
theorem zero4 {W : World} {gb : Nat} {a b c d : Value} (h : W.heap[gb]? = some (.cells #[a, b, c, d] 27 (0, 0))) (x y z u : Value) : ∃ W1, (((W.setCell ⟨gb, 0, none⟩ x).setCell ⟨gb, 1, none⟩ y).setCell ⟨gb, 2, none⟩ z).setCell ⟨gb, 3, none⟩ u = W1 ∧
    W1.heap[gb]? = some (.cells #[x, y, z, u] 27 (0, 0)) ∧ Kept (fun k => k = gb) W W1 :=
  ⟨_, rfl, cells_set (cells_set (cells_set (cells_set h))), ((kept_set1.trans kept_set1).trans kept_set1).trans kept_set1⟩
/-- the cells of the emptied garage on the way -/
theorem zero_way {W : World} {gb : Nat} {a b c d : Value} (h : W.heap[gb]? = some (.cells #[a, b, c, d] 27 (0, 0))) (x y z : Value) :
    (W.cell? ⟨gb, 0, none⟩ = some a ∧ W.cell? ⟨gb, 1, none⟩ = some b ∧ W.cell? ⟨gb, 2, none⟩ = some c ∧ W.cell? ⟨gb, 3, none⟩ = some d) ∧ (∀ j, W.frozen? ⟨gb, j, none⟩ = false) ∧
    ((W.setCell ⟨gb, 0, none⟩ x).cell? ⟨gb, 1, none⟩ = some b ∧ (W.setCell ⟨gb, 0, none⟩ x).frozen? ⟨gb, 1, none⟩ = false) ∧
    (((W.setCell ⟨gb, 0, none⟩ x).setCell ⟨gb, 1, none⟩ y).cell? ⟨gb, 2, none⟩ = some c ∧ ((W.setCell ⟨gb, 0, none⟩ x).setCell ⟨gb, 1, none⟩ y).frozen? ⟨gb, 2, none⟩ = false) ∧
    ((((W.setCell ⟨gb, 0, none⟩ x).setCell ⟨gb, 1, none⟩ y).setCell ⟨gb, 2, none⟩ z).cell? ⟨gb, 3, none⟩ = some d ∧ (((W.setCell ⟨gb, 0, none⟩ x).setCell ⟨gb, 1, none⟩ y).setCell ⟨gb, 2, none⟩ z).frozen? ⟨gb, 3, none⟩ = false) := by
  have h1 := cells_set (i := 0) (v := x) h
  have h2 := cells_set (i := 1) (v := y) h1
  have h3 := cells_set (i := 2) (v := z) h2
  exact ⟨⟨block_cell h rfl, block_cell h rfl, block_cell h rfl, block_cell h rfl⟩, fun j => Lib.frozen_of_heap h j, ⟨block_cell h1 rfl, Lib.frozen_of_heap h1 1⟩, ⟨block_cell h2 rfl, Lib.frozen_of_heap h2 2⟩, ⟨block_cell h3 rfl, Lib.frozen_of_heap h3 3⟩⟩
theorem readF_nil (n last : Nat) (acc : List Ln) (f : Nat) : readF (f + 1) [] n last acc = .good acc := by
  rw [readF, if_pos rfl]
theorem readF_bad {s : List UInt8} {n last : Nat} {acc : List Ln} {f : Nat} (hs : s ≠ []) (h : ∀ ln, lineOf (wordsB (bt (Lib.cut s [10]).1)) = some ln → ¬ ((Lib.cut s [10]).2.2 = true ∧ last ≤ ln.kind)) : readF (f + 1) s n last acc = .bad n := by
  rw [readF, if_neg hs]
  cases hl : lineOf (wordsB (bt (Lib.cut s [10]).1)) with
  | none => rfl
  | some ln => simp only; rw [if_neg (h ln hl)]
theorem readF_on {s : List UInt8} {n last : Nat} {acc : List Ln} {f : Nat} {ln : Ln} (hs : s ≠ []) (h : lineOf (wordsB (bt (Lib.cut s [10]).1)) = some ln) (he : (Lib.cut s [10]).2.2 = true) (hk : last ≤ ln.kind) : readF (f + 1) s n last acc = readF f (Lib.cut s [10]).2.1 (n + 1) ln.kind (acc ++ [ln]) := by
  rw [readF, if_neg hs, h]
  simp only
  rw [if_pos ⟨he, hk⟩]
set_option maxHeartbeats 8000000 in
set_option maxRecDepth 100000 in
theorem gRead_any (s : ByteArray) (w : World) (hg : Glo w) (hs63 : s.size ≤ maxLen) :
    Calls Tryz.prog 6 #[.string s] w fun e w' => RdR s w e w' := by
  have hmx : maxLen = 9223372036854775807 := rfl
  obtain ⟨W0, hW0, hb0, hs0, hq0⟩ := alloc_block w #[.slice none 0 0, .slice none 0 0, .slice none 0 0, .slice none 0 0] 27
  have HW0 := Lib.hid hW0
  have HB0 := Lib.hid hb0
  have HST : Hid (GSt w.heap.size W0 [] (.slice none 0 0) (.slice none 0 0) (.slice none 0 0) (.slice none 0 0)) := Lib.hid ⟨hq0, World.ownsRow_nil _ _ _ _, World.ownsRow_nil _ _ _ _, World.ownsRow_nil _ _ _ _, World.ownsRow_nil _ _ _ _⟩
  have HG := Lib.hid hg
  clear hW0 hb0 hg
  by_cases hbig : 1000000 < s.size
  case pos =>
    have t1 : decide ((1000000 : Int) < (s.size : Int)) = true := by rw [decide_eq_true_eq]; omega
    have t1' : decide (1000000 < s.size) = true := by simpa using hbig
    have HE : Hid (readE s = ([], 0, 3)) := Lib.hid (by unfold readE; rw [if_pos hbig])
    obtain ⟨⟨x0, x1, x2, x3⟩, xf, ⟨y1, z1⟩, ⟨y2, z2⟩, ⟨y3, z3⟩⟩ := zero_way hq0 (.slice none 0 0) (.slice none 0 0) (.slice none 0 0)
    have xf0 := xf 0
    obtain ⟨W1, hW1, hq1, hk1⟩ := zero4 hq0 (.slice none 0 0) (.slice none 0 0) (.slice none 0 0) (.slice none 0 0)
    have HK1 := Lib.hid hk1
    have q0 : W1.cell? ⟨w.heap.size, 0, none⟩ = some (.slice none 0 0) := block_cell hq1 rfl
    have q1 : W1.cell? ⟨w.heap.size, 1, none⟩ = some (.slice none 0 0) := block_cell hq1 rfl
    have q2 : W1.cell? ⟨w.heap.size, 2, none⟩ = some (.slice none 0 0) := block_cell hq1 rfl
    have q3 : W1.cell? ⟨w.heap.size, 3, none⟩ = some (.slice none 0 0) := block_cell hq1 rfl
    clear hbig hq0 hq1 hk1 xf
    go_enter Tryz.func6, Tryz.ntmps6
    go_upto_region 1 with (fail)
    rw [HW0.out]
    go_wp2_with fail
    exact bodyPost_ret (v := .tuple #[.agg #[.slice none 0 0, .slice none 0 0, .slice none 0 0, .slice none 0 0], .int .i64 0, .int .i64 3]) (by simp [results, Tryz.results6, go_sem, q0, q1, q2, q3]) rfl (RdR.zero HE.out (Kept.below HB0.out HK1.out HB0.out.size (fun k hk e => by omega)))
  have hsm : s.size ≤ 1000000 := by omega
  have t1 : decide ((1000000 : Int) < (s.size : Int)) = false := by rw [decide_eq_false_iff_not]; omega
  have t1' : decide (1000000 < s.size) = false := by simpa using hbig
  obtain ⟨R, hR⟩ : ∃ R, readF (s.size + 1) (sB s) 1 1 [] = R := ⟨_, rfl⟩
  have HE : Hid (readE s = endR R) := Lib.hid (by unfold readE; rw [if_neg hbig, hR])
  have HR0 := Lib.hid hR
  obtain ⟨mg, hmg⟩ := HG.out.m
  have HMG := Lib.hid hmg
  clear hR hbig hmg
  go_enter Tryz.func6, Tryz.ntmps6
  go_upto_region 1 with (fail)
  rw [HW0.out]
  go_wp2_with fail
  go_loopw [0, 3, 5] (fun sv nv lv wr => ∃ (rest : List UInt8) (n last : Nat) (acc : List Ln) (vP vS vM vU : Value), sv = .string (bt rest) ∧ nv = .int .i64 n ∧ lv = .int .i64 last ∧ n + rest.length ≤ 1000001 ∧ 1 ≤ last ∧ last ≤ 4 ∧ acc.length + rest.length ≤ 1000000 ∧ Hid (GSt w.heap.size wr acc vP vS vM vU) ∧ Hid (Below w.heap.size w wr) ∧ Hid (readF (rest.length + 1) rest n last acc = R) ∧ Hid (∀ l, l ∈ acc → ∀ x, x ∈ l.nms → x.size ≤ 1000000)) (fun sv _ _ _ => strSize sv)
  case atStart =>
    have hl : (sB s).length = s.size := rfl
    exact ⟨sB s, 1, 1, [], _, _, _, _, rfl, rfl, rfl, by omega, by omega, by omega, by simp only [List.length_nil]; omega, HST, HB0, Lib.hid (by rw [hl]; exact HR0.out), Lib.hid (fun l hl => by simp at hl)⟩
  case round =>
    obtain ⟨rest, n, last, acc, vP, vS, vM, vU, rfl, rfl, rfl, hnr, hl1, hl4, har, HS, HB, HF, HZ⟩ := hrel
    by_cases hr : rest = []
    case pos =>
      subst hr
      have e1 : ((bt []).toList != ([] : List UInt8)) = false := by rw [ByteArray.toList_eq]; rfl
      have e2 : ((bt []).toList == ([] : List UInt8)) = true := by rw [ByteArray.toList_eq]; rfl
      have HRG : Hid (R = .good acc) := Lib.hid (by rw [← HF.out]; exact readF_nil _ _ _ _)
      obtain ⟨a0, a1, a2, a3, c0, c1, c2, c3, rfl, rfl, rfl, rfl, hin, hc2, hc3⟩ := gst_in HS.out (by omega) HZ.out
      have HIN := Lib.hid hin
      have DC := Lib.hid (gCheck_any (gOf acc) a0 a1 a2 a3 c0 c1 c2 c3 wr hin)
      have g0 : wr.cell? ⟨w.heap.size, 0, none⟩ = some (.slice a0 (gOf acc).np c0) := block_cell HS.out.b rfl
      have g1 : wr.cell? ⟨w.heap.size, 1, none⟩ = some (.slice a1 (gOf acc).ns c1) := block_cell HS.out.b rfl
      have g2 : wr.cell? ⟨w.heap.size, 2, none⟩ = some (.slice a2 (gOf acc).nm c2) := block_cell HS.out.b rfl
      have g3 : wr.cell? ⟨w.heap.size, 3, none⟩ = some (.slice a3 (gOf acc).nu c3) := block_cell HS.out.b rfl
      have HEG : Hid (readE s = if chk (gOf acc) ≠ 0 then ([], 0, chk (gOf acc)) else (acc, 0, 0)) := Lib.hid (by rw [HE.out, HRG.out]; rfl)
      unfold garV at DC
      clear hin
      by_cases k0 : chk (gOf acc) = 0
      case neg =>
        have x0' : (chk (gOf acc) != 0) = true := by simpa using k0
        have HEZ : Hid (readE s = ([], 0, chk (gOf acc))) := Lib.hid (by rw [HEG.out, if_pos k0])
        generalize chk (gOf acc) = ck at DC x0' HEZ
        clear k0
        go_upto_region 14 with (go_at_call 10; refine DC.out.mono ?_; rintro e w3 ⟨rfl, hb3⟩)
        have hq3 := below_block hb3 HS.out.b
        have HB3 := Lib.hid (HB.out.trans (hb3.mono HB.out.size))
        obtain ⟨⟨x0, x1, x2, x3⟩, xf, ⟨y1, z1⟩, ⟨y2, z2⟩, ⟨y3, z3⟩⟩ := zero_way hq3 (.slice none 0 0) (.slice none 0 0) (.slice none 0 0)
        have xf0 := xf 0
        obtain ⟨W1, hW1, hq1, hk1⟩ := zero4 hq3 (.slice none 0 0) (.slice none 0 0) (.slice none 0 0) (.slice none 0 0)
        have HK1 := Lib.hid hk1
        have q0 : W1.cell? ⟨w.heap.size, 0, none⟩ = some (.slice none 0 0) := block_cell hq1 rfl
        have q1 : W1.cell? ⟨w.heap.size, 1, none⟩ = some (.slice none 0 0) := block_cell hq1 rfl
        have q2 : W1.cell? ⟨w.heap.size, 2, none⟩ = some (.slice none 0 0) := block_cell hq1 rfl
        have q3 : W1.cell? ⟨w.heap.size, 3, none⟩ = some (.slice none 0 0) := block_cell hq1 rfl
        clear hq1 hk1 xf
        clear hq3 hb3 DC
        go_wp2_with fail
        exact bodyPost_ret (v := .tuple #[.agg #[.slice none 0 0, .slice none 0 0, .slice none 0 0, .slice none 0 0], .int .i64 0, .int .i64 ck]) (by simp [results, Tryz.results6, go_sem, q0, q1, q2, q3]) rfl (RdR.zero HEZ.out (Kept.below HB3.out HK1.out HB3.out.size (fun k hk e => by omega)))
      case pos =>
        have x0' : (chk (gOf acc) != 0) = false := by simpa using k0
        have HEZ : Hid (readE s = (acc, 0, 0)) := Lib.hid (by rw [HEG.out, if_neg (by simpa using k0)])
        rw [k0] at DC
        go_upto_region 14 with (go_at_call 10; refine DC.out.mono ?_; rintro e w3 ⟨rfl, hb3⟩)
        have hq3 := below_block hb3 HS.out.b
        have HB3 := Lib.hid (HB.out.trans (hb3.mono HB.out.size))
        have HIN3 := Lib.hid (HIN.out.below hb3)
        obtain ⟨⟨x0, x1, x2, x3⟩, xf, ⟨y1, z1⟩, ⟨y2, z2⟩, ⟨y3, z3⟩⟩ := zero_way hq3 (.slice a0 (gOf acc).np c0) (.slice a1 (gOf acc).ns c1) (.slice a2 (gOf acc).nm c2)
        have xf0 := xf 0
        obtain ⟨W1, hW1, hq1, hk1⟩ := zero4 hq3 (.slice a0 (gOf acc).np c0) (.slice a1 (gOf acc).ns c1) (.slice a2 (gOf acc).nm c2) (.slice a3 (gOf acc).nu c3)
        have HK1 := Lib.hid hk1
        have HOWN := Lib.hid (HS.out.below hb3)
        have HQ1 := Lib.hid hq1
        have q0 : W1.cell? ⟨w.heap.size, 0, none⟩ = some (.slice a0 (gOf acc).np c0) := block_cell hq1 rfl
        have q1 : W1.cell? ⟨w.heap.size, 1, none⟩ = some (.slice a1 (gOf acc).ns c1) := block_cell hq1 rfl
        have q2 : W1.cell? ⟨w.heap.size, 2, none⟩ = some (.slice a2 (gOf acc).nm c2) := block_cell hq1 rfl
        have q3 : W1.cell? ⟨w.heap.size, 3, none⟩ = some (.slice a3 (gOf acc).nu c3) := block_cell hq1 rfl
        clear hq1 hk1 xf hq3 hb3 DC k0
        go_wp2_with fail
        refine bodyPost_ret (v := .tuple #[.agg #[.slice a0 (gOf acc).np c0, .slice a1 (gOf acc).ns c1, .slice a2 (gOf acc).nm c2, .slice a3 (gOf acc).nu c3], .int .i64 0, .int .i64 0]) (by simp [results, Tryz.results6, go_sem, q0, q1, q2, q3]) rfl ?_
        have far : ∀ {k m : Nat} {T : TypeId} {v : Value} {xs : List Value}, w3.ownsRow w.heap.size T m v k xs → T ≠ 27 → W1.ownsRow w.heap.size T m v k xs := fun h0 t => own_kept h0 HK1.out (fun g hg e => by subst e; exact own_apart h0 HOWN.out.b t hg)
        have hgst : GSt w.heap.size W1 acc (.slice a0 (gOf acc).np c0) (.slice a1 (gOf acc).ns c1) (.slice a2 (gOf acc).nm c2) (.slice a3 (gOf acc).nu c3) :=
          ⟨HQ1.out, far HOWN.out.oP (by decide), far HOWN.out.oS (by decide), far HOWN.out.oM (by decide), far HOWN.out.oU (by decide)⟩
        obtain ⟨b0, b1, b2, b3, d0, d1, d2, d3, p0, p1, p2, p3, hin1, _, _⟩ := gst_in hgst (by omega) HZ.out
        injection p0 with p0
        injection p1 with p1
        injection p2 with p2
        injection p3 with p3
        subst p0 p1 p2 p3
        unfold RdR
        rw [HEZ.out]
        exact ⟨a0, a1, a2, a3, c0, c1, c2, c3, rfl, hin1, hc2, hc3, Kept.below HB3.out HK1.out HB3.out.size (fun k hk e => by omega)⟩
    case neg =>
      have hrl : 1 ≤ rest.length := by
        cases rest with
        | nil => exact absurd rfl hr
        | cons a t => simp
      have e1 : ((bt rest).toList != ([] : List UInt8)) = true := by
        rw [bne_iff_ne, ByteArray.toList_eq]
        exact hr
      have e2 : ((bt rest).toList == ([] : List UInt8)) = false := by
        rw [beq_eq_false_iff_ne, ByteArray.toList_eq]
        exact hr
      have DCUT := Lib.hid (Tryz.strings_Cut (bt rest) ⟨#[10]⟩ mg wr (by show rest.length < _; omega) (below_cell HB.out HMG.out))
      rw [show (bt rest).data.toList = rest from rfl, show (ByteArray.mk #[10]).data.toList = [10] from rfl] at DCUT
      obtain ⟨l1, l2, l3⟩ := cut_len rest [10] (by simp)
      have l3 := l3 hr
      have HBAD := Lib.hid (fun h => readF_bad (n := n) (last := last) (acc := acc) (f := rest.length) hr h)
      have HON := Lib.hid (fun ln h he hk => readF_on (n := n) (last := last) (acc := acc) (f := rest.length) (ln := ln) hr h he hk)
      obtain ⟨tx, htx⟩ : ∃ t, (Lib.cut rest [10]).1 = t := ⟨_, rfl⟩
      obtain ⟨r2, hr2⟩ : ∃ t, (Lib.cut rest [10]).2.1 = t := ⟨_, rfl⟩
      obtain ⟨en, hen⟩ : ∃ t, (Lib.cut rest [10]).2.2 = t := ⟨_, rfl⟩
      rw [htx, hr2, hen] at DCUT
      rw [htx] at l1
      rw [hr2] at l2 l3
      rw [htx, hen] at HBAD
      rw [htx, hen, hr2] at HON
      have DCUT := Lib.hid (show Calls _ _ _ _ fun e w' => e = .returned (.tuple #[.string (bt tx), .string (bt r2), .bool en]) ∧ _ from DCUT.out)
      clear htx hr2 hen hr
      go_upto_region 8 with (go_at_call 17; refine DCUT.out.mono ?_; rintro e w2 ⟨rfl, nd, rfl⟩)
      obtain ⟨W2, hW2, hbw2⟩ : ∃ W, wr.drewN nd = W ∧ Below wr.heap.size wr W := ⟨_, rfl, ⟨rfl, rfl, rfl, Nat.le_refl _, fun _ _ => rfl⟩⟩
      rw [hW2]
      have HS2 := Lib.hid (HS.out.below hbw2)
      have HB2 := Lib.hid (HB.out.trans (hbw2.mono HB.out.size))
      have DL := Lib.hid (readLine_any w.heap.size acc vP vS vM vU (bt tx) W2 HS2.out (HG.out.below HB2.out) (by show tx.length ≤ _; omega) (by omega))
      have HNM := Lib.hid (fun ln (h : lineOf (wordsB (bt tx)) = some ln) (x : ByteArray) (hx : x ∈ ln.nms) => Nat.le_trans (words_le (nms_words h x hx)) (show (bt tx).size ≤ 1000000 from by show tx.length ≤ _; omega))
      clear hW2 hbw2 DCUT
      go_upto_region 10 with (go_at_call 18; refine DL.out.mono ?_; rintro e w4 ⟨k, rfl, hb4, hx4, hno, hyes⟩)
      have HB4 := Lib.hid (HB2.out.trans hb4)
      have HX4 := Lib.hid hx4
      have HYES := Lib.hid hyes
      have HNO := Lib.hid hno
      clear hb4 hx4 hyes hno DL
      by_cases hgo : en = true ∧ (last : Int) ≤ k
      case neg =>
        have HRB : Hid (R = .bad n) := Lib.hid (by
          rw [← HF.out]
          refine HBAD.out fun ln hln hc => hgo ⟨hc.1, ?_⟩
          rw [(HYES.out ln hln).1]
          omega)
        have HEZ : Hid (readE s = ([], (n : Int), 6)) := Lib.hid (by rw [HE.out, HRB.out]; rfl)
        obtain ⟨xa, xb, xc, xd, hq4⟩ := HX4.out
        obtain ⟨⟨x0, x1, x2, x3⟩, xf, ⟨y1, z1⟩, ⟨y2, z2⟩, ⟨y3, z3⟩⟩ := zero_way hq4 (.slice none 0 0) (.slice none 0 0) (.slice none 0 0)
        have xf0 := xf 0
        obtain ⟨W1, hW1, hq1, hk1⟩ := zero4 hq4 (.slice none 0 0) (.slice none 0 0) (.slice none 0 0) (.slice none 0 0)
        have HK1 := Lib.hid hk1
        have q0 : W1.cell? ⟨w.heap.size, 0, none⟩ = some (.slice none 0 0) := block_cell hq1 rfl
        have q1 : W1.cell? ⟨w.heap.size, 1, none⟩ = some (.slice none 0 0) := block_cell hq1 rfl
        have q2 : W1.cell? ⟨w.heap.size, 2, none⟩ = some (.slice none 0 0) := block_cell hq1 rfl
        have q3 : W1.cell? ⟨w.heap.size, 3, none⟩ = some (.slice none 0 0) := block_cell hq1 rfl
        clear hq1 hk1 xf
        clear hq4
        cases en
        case false =>
          clear hgo
          go_wp2_with fail
          exact bodyPost_ret (v := .tuple #[.agg #[.slice none 0 0, .slice none 0 0, .slice none 0 0, .slice none 0 0], .int .i64 n, .int .i64 6]) (by simp [results, Tryz.results6, go_sem, q0, q1, q2, q3]) rfl (RdR.zero HEZ.out (Kept.below HB4.out HK1.out HB4.out.size (fun k hk e => by omega)))
        case true =>
          have hk : k < (last : Int) := by
            apply Classical.byContradiction
            intro h
            exact hgo ⟨rfl, by omega⟩
          have e3 : decide (k < (last : Int)) = true := by simpa using hk
          clear hgo hk
          go_wp2_with fail
          exact bodyPost_ret (v := .tuple #[.agg #[.slice none 0 0, .slice none 0 0, .slice none 0 0, .slice none 0 0], .int .i64 n, .int .i64 6]) (by simp [results, Tryz.results6, go_sem, q0, q1, q2, q3]) rfl (RdR.zero HEZ.out (Kept.below HB4.out HK1.out HB4.out.size (fun k hk e => by omega)))
      case pos =>
        obtain ⟨rfl, hk⟩ := hgo
        have e3 : decide (k < (last : Int)) = false := by rw [decide_eq_false_iff_not]; omega
        cases hlo : lineOf (wordsB (bt tx)) with
        | none =>
          exfalso
          have := HNO.out hlo
          omega
        | some ln =>
          obtain ⟨rfl, vP', vS', vM', vU', hst⟩ := HYES.out ln hlo
          have HST4 := Lib.hid hst
          have hk4 : ln.kind ≤ 4 ∧ 1 ≤ ln.kind := by cases ln <;> simp [Ln.kind]
          have HF4 : Hid (readF (r2.length + 1) r2 (n + 1) ln.kind (acc ++ [ln]) = R) := Lib.hid (by
            rw [← HF.out, HON.out ln hlo rfl (by omega)]
            exact readF_fuel _ _ _ _ _ _ (by omega) (by omega))
          have HZ4 : Hid (∀ l, l ∈ acc ++ [ln] → ∀ x, x ∈ l.nms → x.size ≤ 1000000) := Lib.hid (fun l hl x hx => by
            rcases List.mem_append.1 hl with h | h
            · exact HZ.out l h x hx
            · simp only [List.mem_singleton] at h
              subst h
              exact HNM.out l hlo x hx)
          clear hst hlo hk
          obtain ⟨kk, hkk⟩ : ∃ kk, ln.kind = kk := ⟨_, rfl⟩
          rw [hkk] at hk4 e3 HF4 ⊢
          clear hkk
          have e3' : decide (kk < last) = false := by
            rw [decide_eq_false_iff_not] at e3 ⊢
            omega
          go_wp2_with fail
          go_roundw
          case rel => exact ⟨r2, n + 1, kk, acc ++ [ln], vP', vS', vM', vU', rfl, by go_num, rfl, by omega, hk4.2, hk4.1, by rw [List.length_append, List.length_singleton]; omega, HST4, HB4, HF4, HZ4⟩
          case measure => show r2.length < rest.length; exact l3
end Go.Proofs.YthdmceeipmmhjaaGreatDoor

/- Gear: Read of the reference: the walk. -/
namespace Go.Proofs.YthdmceeipmmhjaaGreatDoor
open Go.RowKit Go.BigFrame
open Txt
open Gar (chk)

theorem line_kind {ws : List ByteArray} {ln : Ln} (h : lineOf ws = some ln) : kindW ws = ln.kind := by
  unfold lineOf at h
  split at h
  · cases h
  · unfold recOf at h
    split at h
    · split at h
      · rename_i k a b _ hk
        cases hb : numG b with
        | none => rw [hb] at h; cases h
        | some v => rw [hb] at h; injection h with h; subst h; simp [kindW, Ln.kind, hk]
      · split at h
        · rename_i k a b _ hk1 hk2
          injection h with h; subst h; simp [kindW, Ln.kind, hk2, kPart, kSlot]
        · cases h
    · split at h
      · rename_i k a b c d _ hk
        cases hc : numG c with
        | none => rw [hc] at h; cases h
        | some v =>
          cases hd : toG d with
          | none => rw [hc, hd] at h; cases h
          | some u => rw [hc, hd] at h; injection h with h; subst h; simp [kindW, Ln.kind, hk, kPart, kSlot, kMount]
      · cases h
    · split at h
      · rename_i k a b c d e _ hk
        cases hc : numG c with
        | none => rw [hc] at h; cases h
        | some v =>
          cases hd : numG d with
          | none => rw [hc, hd] at h; cases h
          | some u =>
            cases he : numG e with
            | none => rw [hc, hd, he] at h; cases h
            | some y => rw [hc, hd, he] at h; injection h with h; subst h; simp [kindW, Ln.kind, hk, kPart, kSlot, kMount, kUse]
      · cases h
    · cases h
theorem rtakeL_any (gb bw : Nat) (acc : List Ln) (vP vS vM vU : Value) (ws : List ByteArray) (w : World) (h : GSt gb w acc vP vS vM vU) (hg : Glo w) (hbq : w.heap[bw]? = some (.cells (ws.map Value.string).toArray 9 (0, 0))) (hbw : gb < bw) (hsz : ∀ x, x ∈ ws → x.size ≤ 1000000) (hacc : acc.length ≤ 1000000) (hk : 1 ≤ kindW ws) :
    Calls Tryz.prog 21 #[.pointer (some ⟨gb, 0, none⟩), .int .i64 (kindW ws), .slice (some ⟨bw, 0, none⟩) ws.length ws.length] w fun en w' => RdT gb w acc ws en w' := by
  rcases kind_cases hk with ⟨a, b, rfl⟩ | ⟨a, b, rfl⟩ | ⟨a, b, c, d, rfl⟩ | ⟨a, b, c, d, e, rfl⟩
  · rw [show kindW [kPart, a, b] = 1 by simp [kindW]]
    exact takeP_any gb bw acc vP vS vM vU a b w h hg hbq hbw hsz hacc
  · rw [show kindW [kSlot, a, b] = 2 by simp [kindW, kPart, kSlot]]
    exact takeS_any gb bw acc vP vS vM vU a b w h hg hbq hbw hsz hacc
  · rw [show kindW [kMount, a, b, c, d] = 3 by simp [kindW, kPart, kSlot, kMount]]
    exact takeM_any gb bw acc vP vS vM vU a b c d w h hg hbq hbw hsz hacc
  · rw [show kindW [kUse, a, b, c, d, e] = 4 by simp [kindW, kPart, kSlot, kMount, kUse]]
    exact takeU_any gb bw acc vP vS vM vU a b c d e w h hg hbq hbw hsz hacc
set_option maxHeartbeats 8000000 in
set_option maxRecDepth 100000 in
theorem rRead_any (s : ByteArray) (w : World) (hg : Glo w) (hs63 : s.size ≤ maxLen) :
    Calls Tryz.prog 7 #[.string s] w fun e w' => RdR s w e w' := by
  have hmx : maxLen = 9223372036854775807 := rfl
  obtain ⟨W0, hW0, hb0, hs0, hq0⟩ := alloc_block w #[.slice none 0 0, .slice none 0 0, .slice none 0 0, .slice none 0 0] 27
  have HW0 := Lib.hid hW0
  have HB0 := Lib.hid hb0
  have HG := Lib.hid hg
  clear hW0 hb0 hg
  by_cases hbig : 1000000 < s.size
  case pos =>
    have t1 : decide ((1000000 : Int) < (s.size : Int)) = true := by rw [decide_eq_true_eq]; omega
    have t1' : decide (1000000 < s.size) = true := by simpa using hbig
    have HE : Hid (readE s = ([], 0, 3)) := Lib.hid (by unfold readE; rw [if_pos hbig])
    obtain ⟨⟨x0, x1, x2, x3⟩, xf, ⟨y1, z1⟩, ⟨y2, z2⟩, ⟨y3, z3⟩⟩ := zero_way hq0 (.slice none 0 0) (.slice none 0 0) (.slice none 0 0)
    have xf0 := xf 0
    obtain ⟨W1, hW1, hq1, hk1⟩ := zero4 hq0 (.slice none 0 0) (.slice none 0 0) (.slice none 0 0) (.slice none 0 0)
    have HK1 := Lib.hid hk1
    have q0 : W1.cell? ⟨w.heap.size, 0, none⟩ = some (.slice none 0 0) := block_cell hq1 rfl
    have q1 : W1.cell? ⟨w.heap.size, 1, none⟩ = some (.slice none 0 0) := block_cell hq1 rfl
    have q2 : W1.cell? ⟨w.heap.size, 2, none⟩ = some (.slice none 0 0) := block_cell hq1 rfl
    have q3 : W1.cell? ⟨w.heap.size, 3, none⟩ = some (.slice none 0 0) := block_cell hq1 rfl
    clear hbig hq0 hq1 hk1 xf
    go_enter Tryz.func7, Tryz.ntmps7
    go_upto_region 1 with (fail)
    rw [HW0.out]
    go_wp2_with fail
    exact bodyPost_ret (v := .tuple #[.agg #[.slice none 0 0, .slice none 0 0, .slice none 0 0, .slice none 0 0], .int .i64 0, .int .i64 3]) (by simp [results, Tryz.results7, go_sem, q0, q1, q2, q3]) rfl (RdR.zero HE.out (Kept.below HB0.out HK1.out HB0.out.size (fun k hk e => by omega)))
  have hsm : s.size ≤ 1000000 := by omega
  have t1 : decide ((1000000 : Int) < (s.size : Int)) = false := by rw [decide_eq_false_iff_not]; omega
  have t1' : decide (1000000 < s.size) = false := by simpa using hbig
  obtain ⟨R, hR⟩ : ∃ R, readF (s.size + 1) (sB s) 1 1 [] = R := ⟨_, rfl⟩
  have HE : Hid (readE s = endR R) := Lib.hid (by unfold readE; rw [if_neg hbig, hR])
  have HR0 := Lib.hid hR
  obtain ⟨mg, hmg⟩ := HG.out.m
  have HMG := Lib.hid hmg
  obtain ⟨W1, hW1, hb1, hs1, hq1⟩ := alloc_block W0 #[.slice none 0 0, .slice none 0 0, .slice none 0 0, .slice none 0 0] 27
  have HW1 := Lib.hid hW1
  obtain ⟨gb, hgb⟩ : ∃ gb, W0.heap.size = gb := ⟨_, rfl⟩
  have hrb : w.heap.size < gb := by omega
  rw [hgb] at hq1 hb1
  have HST : Hid (GSt gb W1 [] (.slice none 0 0) (.slice none 0 0) (.slice none 0 0) (.slice none 0 0)) := Lib.hid ⟨hq1, World.ownsRow_nil _ _ _ _, World.ownsRow_nil _ _ _ _, World.ownsRow_nil _ _ _ _, World.ownsRow_nil _ _ _ _⟩
  have HB1 : Hid (Below gb W0 W1) := Lib.hid hb1
  have HQ0 := Lib.hid hq0
  have HGB := Lib.hid hgb
  -- what lies below the garage of its own
  have HBW : Hid (∀ W : World, Below gb W0 W → Below w.heap.size w W) := Lib.hid (fun W h => HB0.out.trans (h.mono (by omega)))
  have HQ : Hid (∀ W : World, Below gb W0 W → W.heap[w.heap.size]? = some (.cells #[.slice none 0 0, .slice none 0 0, .slice none 0 0, .slice none 0 0] 27 (0, 0))) := Lib.hid (fun W h => (h.block _ (by omega)).trans HQ0.out)
  clear hR hbig hmg hW1 hb1 hq1 hq0 hgb hs0 hs1
  go_enter Tryz.func7, Tryz.ntmps7
  go_upto_region 1 with (fail)
  rw [HW0.out]
  go_upto_region 4 with (fail)
  rw [HW1.out, HGB.out]
  go_wp2_with fail
  go_loopw [0, 6, 7] (fun sv lv nv wr => ∃ (rest : List UInt8) (n last : Nat) (acc : List Ln) (vP vS vM vU : Value), sv = .string (bt rest) ∧ nv = .int .i64 n ∧ lv = .int .i64 last ∧ n + rest.length ≤ 1000001 ∧ 1 ≤ last ∧ last ≤ 4 ∧ acc.length + rest.length ≤ 1000000 ∧ Hid (GSt gb wr acc vP vS vM vU) ∧ Hid (Below gb W0 wr) ∧ Hid (readF (rest.length + 1) rest n last acc = R) ∧ Hid (∀ l, l ∈ acc → ∀ x, x ∈ l.nms → x.size ≤ 1000000)) (fun sv _ _ _ => strSize sv)
  case atStart =>
    have hl : (sB s).length = s.size := rfl
    exact ⟨sB s, 1, 1, [], _, _, _, _, rfl, rfl, rfl, by omega, by omega, by omega, by simp only [List.length_nil]; omega, HST, HB1, Lib.hid (by rw [hl]; exact HR0.out), Lib.hid (fun l hl => by simp at hl)⟩
  case round =>
    obtain ⟨rest, n, last, acc, vP, vS, vM, vU, rfl, rfl, rfl, hnr, hl1, hl4, har, HS, HB, HF, HZ⟩ := hrel
    have hgl := HS.out.lt
    by_cases hr : rest = []
    case pos =>
      subst hr
      have e1 : ((bt []).toList != ([] : List UInt8)) = false := by rw [ByteArray.toList_eq]; rfl
      have e2 : ((bt []).toList == ([] : List UInt8)) = true := by rw [ByteArray.toList_eq]; rfl
      have HRG : Hid (R = .good acc) := Lib.hid (by rw [← HF.out]; exact readF_nil _ _ _ _)
      obtain ⟨a0, a1, a2, a3, c0, c1, c2, c3, rfl, rfl, rfl, rfl, hin, hc2, hc3⟩ := gst_in HS.out (by omega) HZ.out
      have DC := Lib.hid (rCheck_any (gOf acc) a0 a1 a2 a3 c0 c1 c2 c3 wr hin hc2 hc3)
      have g0 : wr.cell? ⟨gb, 0, none⟩ = some (.slice a0 (gOf acc).np c0) := block_cell HS.out.b rfl
      have g1 : wr.cell? ⟨gb, 1, none⟩ = some (.slice a1 (gOf acc).ns c1) := block_cell HS.out.b rfl
      have g2 : wr.cell? ⟨gb, 2, none⟩ = some (.slice a2 (gOf acc).nm c2) := block_cell HS.out.b rfl
      have g3 : wr.cell? ⟨gb, 3, none⟩ = some (.slice a3 (gOf acc).nu c3) := block_cell HS.out.b rfl
      have HEG : Hid (readE s = if chk (gOf acc) ≠ 0 then ([], 0, chk (gOf acc)) else (acc, 0, 0)) := Lib.hid (by rw [HE.out, HRG.out]; rfl)
      unfold garV at DC
      clear hin
      by_cases k0 : chk (gOf acc) = 0
      case neg =>
        have x0' : (chk (gOf acc) != 0) = true := by simpa using k0
        have HEZ : Hid (readE s = ([], 0, chk (gOf acc))) := Lib.hid (by rw [HEG.out, if_pos k0])
        generalize chk (gOf acc) = ck at DC x0' HEZ
        clear k0
        go_upto_region 16 with (go_at_call 16; refine DC.out.mono ?_; rintro e w3 ⟨rfl, hb3⟩)
        have HB3 := Lib.hid (HB.out.trans (hb3.mono (by omega)))
        clear hb3 DC
        obtain ⟨⟨x0, x1, x2, x3⟩, xf, ⟨y1, z1⟩, ⟨y2, z2⟩, ⟨y3, z3⟩⟩ := zero_way (HQ.out w3 HB3.out) (.slice none 0 0) (.slice none 0 0) (.slice none 0 0)
        have xf0 := xf 0
        obtain ⟨Y1, hY1, hq1, hk1⟩ := zero4 (HQ.out w3 HB3.out) (.slice none 0 0) (.slice none 0 0) (.slice none 0 0) (.slice none 0 0)
        have HK1 := Lib.hid hk1
        have q0 : Y1.cell? ⟨w.heap.size, 0, none⟩ = some (.slice none 0 0) := block_cell hq1 rfl
        have q1 : Y1.cell? ⟨w.heap.size, 1, none⟩ = some (.slice none 0 0) := block_cell hq1 rfl
        have q2 : Y1.cell? ⟨w.heap.size, 2, none⟩ = some (.slice none 0 0) := block_cell hq1 rfl
        have q3 : Y1.cell? ⟨w.heap.size, 3, none⟩ = some (.slice none 0 0) := block_cell hq1 rfl
        clear hq1 hk1 xf
        go_wp2_with fail
        exact bodyPost_ret (v := .tuple #[.agg #[.slice none 0 0, .slice none 0 0, .slice none 0 0, .slice none 0 0], .int .i64 0, .int .i64 ck]) (by simp [results, Tryz.results7, go_sem, q0, q1, q2, q3]) rfl (RdR.zero HEZ.out (Kept.below (HBW.out _ HB3.out) HK1.out (HBW.out _ HB3.out).size (fun k hk e => by omega)))
      case pos =>
        have x0' : (chk (gOf acc) != 0) = false := by simpa using k0
        have HEZ : Hid (readE s = (acc, 0, 0)) := Lib.hid (by rw [HEG.out, if_neg (by simpa using k0)])
        rw [k0] at DC
        go_upto_region 16 with (go_at_call 16; refine DC.out.mono ?_; rintro e w3 ⟨rfl, hb3⟩)
        have HB3 := Lib.hid (HB.out.trans (hb3.mono (by omega)))
        have HOWN := Lib.hid (HS.out.below hb3)
        obtain ⟨⟨x0, x1, x2, x3⟩, xf, ⟨y1, z1⟩, ⟨y2, z2⟩, ⟨y3, z3⟩⟩ := zero_way (HQ.out w3 HB3.out) (.slice a0 (gOf acc).np c0) (.slice a1 (gOf acc).ns c1) (.slice a2 (gOf acc).nm c2)
        have xf0 := xf 0
        obtain ⟨Y1, hY1, hq1, hk1⟩ := zero4 (HQ.out w3 HB3.out) (.slice a0 (gOf acc).np c0) (.slice a1 (gOf acc).ns c1) (.slice a2 (gOf acc).nm c2) (.slice a3 (gOf acc).nu c3)
        have HK1 := Lib.hid hk1
        have q0 : Y1.cell? ⟨w.heap.size, 0, none⟩ = some (.slice a0 (gOf acc).np c0) := block_cell hq1 rfl
        have q1 : Y1.cell? ⟨w.heap.size, 1, none⟩ = some (.slice a1 (gOf acc).ns c1) := block_cell hq1 rfl
        have q2 : Y1.cell? ⟨w.heap.size, 2, none⟩ = some (.slice a2 (gOf acc).nm c2) := block_cell hq1 rfl
        have q3 : Y1.cell? ⟨w.heap.size, 3, none⟩ = some (.slice a3 (gOf acc).nu c3) := block_cell hq1 rfl
        have h0 : w3.cell? ⟨gb, 0, none⟩ = some (.slice a0 (gOf acc).np c0) := block_cell HOWN.out.b rfl
        have h1 : w3.cell? ⟨gb, 1, none⟩ = some (.slice a1 (gOf acc).ns c1) := block_cell HOWN.out.b rfl
        have h2 : w3.cell? ⟨gb, 2, none⟩ = some (.slice a2 (gOf acc).nm c2) := block_cell HOWN.out.b rfl
        have h3 : w3.cell? ⟨gb, 3, none⟩ = some (.slice a3 (gOf acc).nu c3) := block_cell HOWN.out.b rfl
        clear hq1 hk1 xf hb3 DC k0
        go_wp2_with fail
        refine bodyPost_ret (v := .tuple #[.agg #[.slice a0 (gOf acc).np c0, .slice a1 (gOf acc).ns c1, .slice a2 (gOf acc).nm c2, .slice a3 (gOf acc).nu c3], .int .i64 0, .int .i64 0]) (by simp [results, Tryz.results7, go_sem, q0, q1, q2, q3]) rfl ?_
        have far : ∀ {k m : Nat} {T : TypeId} {v : Value} {xs : List Value}, w3.ownsRow gb T m v k xs → Y1.ownsRow gb T m v k xs := fun h0 => own_kept h0 HK1.out (fun g hg e => by
          have := (h0.lt g hg).1
          omega)
        have hgst : GSt gb Y1 acc (.slice a0 (gOf acc).np c0) (.slice a1 (gOf acc).ns c1) (.slice a2 (gOf acc).nm c2) (.slice a3 (gOf acc).nu c3) :=
          ⟨(HK1.out.block gb HOWN.out.lt (by omega)).trans HOWN.out.b, far HOWN.out.oP, far HOWN.out.oS, far HOWN.out.oM, far HOWN.out.oU⟩
        obtain ⟨b0, b1, b2, b3, d0, d1, d2, d3, p0, p1, p2, p3, hin1, _, _⟩ := gst_in hgst (by omega) HZ.out
        injection p0 with p0
        injection p1 with p1
        injection p2 with p2
        injection p3 with p3
        subst p0 p1 p2 p3
        unfold RdR
        rw [HEZ.out]
        exact ⟨a0, a1, a2, a3, c0, c1, c2, c3, rfl, hin1, hc2, hc3, Kept.below (HBW.out _ HB3.out) HK1.out (HBW.out _ HB3.out).size (fun k hk e => by omega)⟩
    case neg =>
      have hrl : 1 ≤ rest.length := by
        cases rest with
        | nil => exact absurd rfl hr
        | cons a t => simp
      have e1 : ((bt rest).toList != ([] : List UInt8)) = true := by
        rw [bne_iff_ne, ByteArray.toList_eq]
        exact hr
      have e2 : ((bt rest).toList == ([] : List UInt8)) = false := by
        rw [beq_eq_false_iff_ne, ByteArray.toList_eq]
        exact hr
      have DCUT := Lib.hid (Tryz.strings_Cut (bt rest) ⟨#[10]⟩ mg wr (by show rest.length < _; omega) (below_cell (HBW.out _ HB.out) HMG.out))
      rw [show (bt rest).data.toList = rest from rfl, show (ByteArray.mk #[10]).data.toList = [10] from rfl] at DCUT
      obtain ⟨l1, l2, l3⟩ := cut_len rest [10] (by simp)
      have l3 := l3 hr
      have HBAD := Lib.hid (fun h => readF_bad (n := n) (last := last) (acc := acc) (f := rest.length) hr h)
      have HON := Lib.hid (fun ln h he hk => readF_on (n := n) (last := last) (acc := acc) (f := rest.length) (ln := ln) hr h he hk)
      obtain ⟨tx, htx⟩ : ∃ t, (Lib.cut rest [10]).1 = t := ⟨_, rfl⟩
      obtain ⟨r2, hr2⟩ : ∃ t, (Lib.cut rest [10]).2.1 = t := ⟨_, rfl⟩
      obtain ⟨en, hen⟩ : ∃ t, (Lib.cut rest [10]).2.2 = t := ⟨_, rfl⟩
      rw [htx, hr2, hen] at DCUT
      rw [htx] at l1
      rw [hr2] at l2 l3
      rw [htx, hen] at HBAD
      rw [htx, hen, hr2] at HON
      have DCUT := Lib.hid (show Calls _ _ _ _ fun e w' => e = .returned (.tuple #[.string (bt tx), .string (bt r2), .bool en]) ∧ _ from DCUT.out)
      clear htx hr2 hen hr
      go_upto_region 9 with (go_at_call 17; refine DCUT.out.mono ?_; rintro e w2 ⟨rfl, nd, rfl⟩)
      obtain ⟨W2, hW2, hbw2⟩ : ∃ W, wr.drewN nd = W ∧ Below wr.heap.size wr W := ⟨_, rfl, ⟨rfl, rfl, rfl, Nat.le_refl _, fun _ _ => rfl⟩⟩
      rw [hW2]
      have HS2 := Lib.hid (HS.out.below hbw2)
      have HB2 := Lib.hid (HB.out.trans (hbw2.mono (by omega)))
      have htl : (bt tx).size ≤ 1000000 := by show tx.length ≤ _; omega
      have DSP := Lib.hid (Tryz.strings_Split (bt tx) ⟨#[32]⟩ mg W2 (by omega) (below_cell (HBW.out _ HB2.out) HMG.out) (by decide))
      rw [← words_len (bt tx), show Lib.splitB ⟨#[32]⟩ 0 (Lib.countB (bt tx) ⟨#[32]⟩) (bt tx) = wordsB (bt tx) from rfl] at DSP
      have hwl := words_len (bt tx)
      have HSZ := Lib.hid (fun (x : ByteArray) (hx : x ∈ wordsB (bt tx)) => Nat.le_trans (words_le hx) htl)
      have hcnt := Lib.countB_le ⟨#[32]⟩ (by decide) (bt tx).size (bt tx) (Nat.le_refl _)
      have hn1 : 1 ≤ (wordsB (bt tx)).length := by omega
      have hnl : (wordsB (bt tx)).length ≤ 1000001 := by omega
      obtain ⟨ws, hws⟩ : ∃ ws, wordsB (bt tx) = ws := ⟨_, rfl⟩
      rw [hws] at DSP HSZ hn1 hnl HBAD HON
      obtain ⟨W3, hW3, hbw3, hs3, hq3⟩ := alloc_block W2 (ws.map Value.string).toArray 9
      rw [hW3] at DSP
      have hgw : gb < W2.heap.size := HS2.out.lt
      have HB3 := Lib.hid (HB2.out.trans (hbw3.mono (by omega)))
      have HS3 := Lib.hid (HS2.out.below hbw3)
      
      have DK := Lib.hid (kindOf_any ws W2.heap.size W3 (fun j x hx => block_cell hq3 (by rw [List.getElem?_toArray, List.getElem?_map, Nat.zero_add, hx]; rfl)) hn1 hnl)
      have DT := Lib.hid (rtakeL_any gb W2.heap.size acc vP vS vM vU ws W3 HS3.out (HG.out.below (HBW.out _ HB3.out)) hq3 hgw HSZ.out (by omega))
      have HNM := Lib.hid (fun ln (h : lineOf ws = some ln) (x : ByteArray) (hx : x ∈ ln.nms) => HSZ.out x (nms_words h x hx))
      have HLK := Lib.hid (fun ln (h : lineOf ws = some ln) => line_kind h)
      clear hwl hcnt hW2 hbw2 DCUT hW3 hbw3 hq3 hs3 hws
      go_upto_region 10 with (go_at_call 19; refine DSP.out.mono ?_; rintro e w3 ⟨rfl, rfl⟩)
      obtain ⟨kw, hkw⟩ : ∃ kw, kindW ws = kw := ⟨_, rfl⟩
      rw [hkw] at DK DT HLK
      have HKW := Lib.hid hkw
      clear hkw
      go_upto_region 11 with (go_at_call 20; refine DK.out.mono ?_; rintro e w3 ⟨rfl, rfl⟩)
      clear DSP DK
      by_cases hgo : en = true ∧ (last : Int) ≤ kw
      case neg =>
        have HRB : Hid (R = .bad n) := Lib.hid (by
          rw [← HF.out]
          refine HBAD.out fun ln hln hc => hgo ⟨hc.1, ?_⟩
          rw [HLK.out ln hln]
          omega)
        have HEZ : Hid (readE s = ([], (n : Int), 6)) := Lib.hid (by rw [HE.out, HRB.out]; rfl)
        cases en
        case false =>
          clear hgo
          obtain ⟨⟨x0, x1, x2, x3⟩, xf, ⟨y1, z1⟩, ⟨y2, z2⟩, ⟨y3, z3⟩⟩ := zero_way (HQ.out w3 HB3.out) (.slice none 0 0) (.slice none 0 0) (.slice none 0 0)
          have xf0 := xf 0
          obtain ⟨Y1, hY1, hq1, hk1⟩ := zero4 (HQ.out w3 HB3.out) (.slice none 0 0) (.slice none 0 0) (.slice none 0 0) (.slice none 0 0)
          have HK1 := Lib.hid hk1
          have q0 : Y1.cell? ⟨w.heap.size, 0, none⟩ = some (.slice none 0 0) := block_cell hq1 rfl
          have q1 : Y1.cell? ⟨w.heap.size, 1, none⟩ = some (.slice none 0 0) := block_cell hq1 rfl
          have q2 : Y1.cell? ⟨w.heap.size, 2, none⟩ = some (.slice none 0 0) := block_cell hq1 rfl
          have q3 : Y1.cell? ⟨w.heap.size, 3, none⟩ = some (.slice none 0 0) := block_cell hq1 rfl
          clear hq1 hk1 xf
          go_wp2_with fail
          exact bodyPost_ret (v := .tuple #[.agg #[.slice none 0 0, .slice none 0 0, .slice none 0 0, .slice none 0 0], .int .i64 n, .int .i64 6]) (by simp [results, Tryz.results7, go_sem, q0, q1, q2, q3]) rfl (RdR.zero HEZ.out (Kept.below (HBW.out _ HB3.out) HK1.out (HBW.out _ HB3.out).size (fun k hk e => by omega)))
        case true =>
          have hk : kw < (last : Int) := by
            apply Classical.byContradiction
            intro h
            exact hgo ⟨rfl, by omega⟩
          have e3 : decide (kw < (last : Int)) = true := by simpa using hk
          clear hgo hk
          obtain ⟨⟨x0, x1, x2, x3⟩, xf, ⟨y1, z1⟩, ⟨y2, z2⟩, ⟨y3, z3⟩⟩ := zero_way (HQ.out w3 HB3.out) (.slice none 0 0) (.slice none 0 0) (.slice none 0 0)
          have xf0 := xf 0
          obtain ⟨Y1, hY1, hq1, hk1⟩ := zero4 (HQ.out w3 HB3.out) (.slice none 0 0) (.slice none 0 0) (.slice none 0 0) (.slice none 0 0)
          have HK1 := Lib.hid hk1
          have q0 : Y1.cell? ⟨w.heap.size, 0, none⟩ = some (.slice none 0 0) := block_cell hq1 rfl
          have q1 : Y1.cell? ⟨w.heap.size, 1, none⟩ = some (.slice none 0 0) := block_cell hq1 rfl
          have q2 : Y1.cell? ⟨w.heap.size, 2, none⟩ = some (.slice none 0 0) := block_cell hq1 rfl
          have q3 : Y1.cell? ⟨w.heap.size, 3, none⟩ = some (.slice none 0 0) := block_cell hq1 rfl
          clear hq1 hk1 xf
          go_wp2_with fail
          exact bodyPost_ret (v := .tuple #[.agg #[.slice none 0 0, .slice none 0 0, .slice none 0 0, .slice none 0 0], .int .i64 n, .int .i64 6]) (by simp [results, Tryz.results7, go_sem, q0, q1, q2, q3]) rfl (RdR.zero HEZ.out (Kept.below (HBW.out _ HB3.out) HK1.out (HBW.out _ HB3.out).size (fun k hk e => by omega)))
      case pos =>
        obtain ⟨rfl, hk⟩ := hgo
        have e3 : decide (kw < (last : Int)) = false := by rw [decide_eq_false_iff_not]; omega
        have DT := Lib.hid (DT.out (by omega))
        go_upto_region 12 with (go_at_call 21; refine DT.out.mono ?_; rintro e w4 ⟨r, rfl, hb4, hno, hyes⟩; have HB4 : Hid (Below gb W0 w4) := Lib.hid (HB3.out.trans hb4))
        rotate_left
        · have hr0 : (!r) = false := by assumption
          obtain rfl : r = true := by simpa using hr0
          obtain ⟨ln, hlo, hkk, vP', vS', vM', vU', hst⟩ := hyes rfl
          rw [HKW.out] at hkk
          have hk4 : ln.kind ≤ 4 ∧ 1 ≤ ln.kind := by cases ln <;> simp [Ln.kind]
          refine ⟨⟨r2, n + 1, ln.kind, acc ++ [ln], vP', vS', vM', vU', rfl, by go_num, by rw [hkk], by omega, hk4.2, hk4.1, by rw [List.length_append, List.length_singleton]; omega, Lib.hid hst, HB4, ?_, ?_⟩, l3⟩
          · refine Lib.hid ?_
            rw [← HF.out, HON.out ln hlo trivial (by omega)]
            exact readF_fuel _ _ _ _ _ _ (by omega) (by omega)
          · refine Lib.hid (fun l hl x hx => ?_)
            rcases List.mem_append.1 hl with h | h
            · exact HZ.out l h x hx
            · simp only [List.mem_singleton] at h
              subst h
              exact HNM.out l hlo x hx
        · have hr0 : (!r) = true := by assumption
          obtain rfl : r = false := by simpa using hr0
          have HRB : Hid (R = .bad n) := Lib.hid (by
            rw [← HF.out]
            refine HBAD.out fun ln hln hc => ?_
            rw [hno rfl] at hln
            cases hln)
          have HEZ : Hid (readE s = ([], (n : Int), 6)) := Lib.hid (by rw [HE.out, HRB.out]; rfl)
          obtain ⟨⟨x0, x1, x2, x3⟩, xf, ⟨y1, z1⟩, ⟨y2, z2⟩, ⟨y3, z3⟩⟩ := zero_way (HQ.out w4 HB4.out) (.slice none 0 0) (.slice none 0 0) (.slice none 0 0)
          have xf0 := xf 0
          obtain ⟨Y1, hY1, hq1, hk1⟩ := zero4 (HQ.out w4 HB4.out) (.slice none 0 0) (.slice none 0 0) (.slice none 0 0) (.slice none 0 0)
          have HK1 := Lib.hid hk1
          have q0 : Y1.cell? ⟨w.heap.size, 0, none⟩ = some (.slice none 0 0) := block_cell hq1 rfl
          have q1 : Y1.cell? ⟨w.heap.size, 1, none⟩ = some (.slice none 0 0) := block_cell hq1 rfl
          have q2 : Y1.cell? ⟨w.heap.size, 2, none⟩ = some (.slice none 0 0) := block_cell hq1 rfl
          have q3 : Y1.cell? ⟨w.heap.size, 3, none⟩ = some (.slice none 0 0) := block_cell hq1 rfl
          clear hq1 hk1 xf
          go_wp2_with fail
          exact bodyPost_ret (v := .tuple #[.agg #[.slice none 0 0, .slice none 0 0, .slice none 0 0, .slice none 0 0], .int .i64 n, .int .i64 6]) (by simp [results, Tryz.results7, go_sem, q0, q1, q2, q3]) rfl (RdR.zero HEZ.out (Kept.below (HBW.out _ HB4.out) HK1.out (HBW.out _ HB4.out).size (fun k hk e => by omega)))
end Go.Proofs.YthdmceeipmmhjaaGreatDoor

/- Gear: Print of the reference. (printed by gen_rprint.py) -/
namespace Go.Proofs.YthdmceeipmmhjaaGreatDoor
open Go.RowKit Go.BigFrame
open Txt
open Gar (chk)

theorem sB_app (a b : ByteArray) : sB (a ++ b) = sB a ++ sB b := by
  simp [sB, ByteArray.data_append]
theorem bs_app (l : List UInt8) (s : ByteArray) : bt l ++ s = bt (l ++ sB s) := by
  apply sB_inj
  rw [sB_app]
  rfl
theorem text_part (n : ByteArray) (c : Int) : (Ln.part n c).text = sB (⟨#[112, 97, 114, 116, 32]⟩ ++ n ++ ⟨#[32]⟩ ++ itoaB c ++ ⟨#[10]⟩) := by
  simp only [sB_app]
  simp [Ln.text, Ln.words, joinL, sB, kPart]
theorem text_slot (n r : ByteArray) : (Ln.slot n r).text = sB (⟨#[115, 108, 111, 116, 32]⟩ ++ n ++ ⟨#[32]⟩ ++ r ++ ⟨#[10]⟩) := by
  simp only [sB_app]
  simp [Ln.text, Ln.words, joinL, sB, kSlot]
theorem text_mnt (s p : ByteArray) (f t : Int) : (Ln.mnt s p f t).text = sB (⟨#[109, 111, 117, 110, 116, 32]⟩ ++ s ++ ⟨#[32]⟩ ++ p ++ ⟨#[32]⟩ ++ itoaB f ++ ⟨#[32]⟩ ++ toB t ++ ⟨#[10]⟩) := by
  simp only [sB_app]
  simp [Ln.text, Ln.words, joinL, sB, kMount]
theorem text_use (n r : ByteArray) (f s w : Int) : (Ln.use n r f s w).text = sB (⟨#[117, 115, 101, 32]⟩ ++ n ++ ⟨#[32]⟩ ++ r ++ ⟨#[32]⟩ ++ itoaB f ++ ⟨#[32]⟩ ++ itoaB s ++ ⟨#[32]⟩ ++ itoaB w ++ ⟨#[10]⟩) := by
  simp only [sB_app]
  simp [Ln.text, Ln.words, joinL, sB, kUse]
theorem name_size {s : ByteArray} (h : nameB s = true) : s.size ≤ 60 := by
  unfold nameB at h
  rw [Bool.and_eq_true, Bool.and_eq_true, decide_eq_true_eq, decide_eq_true_eq] at h
  exact h.1.2
theorem itoa_size {n : Int} (h : okN n) : (itoaB n).size ≤ 12 := by
  obtain ⟨m, rfl⟩ : ∃ m : Nat, n = m := ⟨n.toNat, by have := h.1; omega⟩
  have hm : m < 10 ^ (11 + 1) := by have := h.2; omega
  unfold itoaB
  rw [Lib.itoa_nonneg]
  exact dec_len 11 m hm
set_option maxHeartbeats 8000000 in
set_option maxRecDepth 100000 in
theorem rPrint_any (g : Gar) (a0 a1 a2 a3 : Option Addr) (c0 c1 c2 c3 : Nat) (w : World) (h : GarIn w g a0 a1 a2 a3) (hc2 : g.nm ≤ c2) (hc3 : g.nu ≤ c3) (hgl : Glo w) :
    Calls Tryz.prog 5 #[garV g a0 a1 a2 a3 c0 c1 c2 c3] w fun e w' => e = .returned (.tuple #[.string (printS g), .int .i64 (printE g)]) ∧ Below w.heap.size w w' := by
  have HG := Lib.hid h
  have HGL := Lib.hid hgl
  obtain ⟨V, hV, hb, hs, hq⟩ := alloc_block w #[.slice a0 g.np c0, .slice a1 g.ns c1, .slice a2 g.nm c2, .slice a3 g.nu c3] 27
  have HV := Lib.hid hV
  have HB := Lib.hid hb
  have hsV : w.heap.size ≤ V.heap.size := hb.size
  have G0 := Ext.ex (block_cell (i := 0) hq rfl)
  have G1 := Ext.ex (block_cell (i := 1) hq rfl)
  have G2 := Ext.ex (block_cell (i := 2) hq rfl)
  have G3 := Ext.ex (block_cell (i := 3) hq rfl)
  have hl0 := h.l0
  have hl1 := h.l1
  have hl2 := h.l2
  have hl3 := h.l3
  have DC := Lib.hid (fun (Y : Ext V) => Y.calls (rCheck_any g a0 a1 a2 a3 c0 c1 c2 c3 Y.1 (HG.out.below (Y.down HB.out hsV)) hc2 hc3))
  unfold garV at DC ⊢
  clear h hgl hV hb hq
  by_cases k0 : chk g = 0
  case neg =>
    have x0 : (chk g != 0) = true := by simpa using k0
    have HX1 := Lib.hid (show printE g = chk g by unfold printE; rw [if_pos k0])
    have HX2 := Lib.hid (show printS g = ⟨#[]⟩ by unfold printS; rw [if_neg (by rw [HX1.out]; exact k0)])
    rw [HX1.out, HX2.out]
    go_enter Tryz.func5, Tryz.ntmps5
    go_upto_region 1 with (fail)
    rw [HV.out]
    refine ext_wp fun Y => ?_
    go_wp2_with (go_at_call 16; refine ((DC.out _).mono ?_); rintro e w3 ⟨rfl, Y3, rfl⟩)
    go_ret2
    exact ⟨rfl, Y3.down HB.out hsV⟩
  have x0 : (chk g != 0) = false := by simpa using k0
  rw [k0] at DC
  have hpt := Gar.chk_parts k0
  have HOK := Lib.hid (lines_ok k0)
  have b0 := hpt.1
  have b1 := hpt.2.1
  have b2 := hpt.2.2.1
  have b3 := hpt.2.2.2.1
  have HLP := Lib.hid (fun n (hn : n ≤ g.np) => (show (tP g n).length ≤ 400 * n from flat_len _ n (fun i hi => HOK.out.1 i (by omega))))
  have HLS := Lib.hid (fun n (hn : n ≤ g.ns) => (show (tS g n).length ≤ 400 * n from flat_len _ n (fun i hi => HOK.out.2.1 i (by omega))))
  have HLM := Lib.hid (fun n (hn : n ≤ g.nm) => (show (tM g n).length ≤ 400 * n from flat_len _ n (fun i hi => HOK.out.2.2.1 i (by omega))))
  have HLU := Lib.hid (fun n (hn : n ≤ g.nu) => (show (tU g n).length ≤ 400 * n from flat_len _ n (fun i hi => HOK.out.2.2.2 i (by omega))))
  have HPE := Lib.hid (show printE g = if 1000000 < (textG g).length then 3 else 0 by unfold printE; rw [if_neg (by simpa using k0)])
  have HPS := Lib.hid (show printS g = if printE g = 0 then bt (textG g) else ⟨#[]⟩ from rfl)
  have HTX := Lib.hid (textG_eq g)
  clear hpt
  go_enter Tryz.func5, Tryz.ntmps5
  go_upto_region 1 with (fail)
  rw [HV.out]
  refine ext_wp fun Y => ?_
  go_upto_region 4 with (go_at_call 16; refine ((DC.out _).mono ?_); rintro e w3 ⟨rfl, Y3, rfl⟩)
  have HB1 := Lib.hid (Y3.down HB.out hsV)
  have q0 := G0 Y3
  have q1 := G1 Y3
  have q2 := G2 Y3
  have q3 := G3 Y3
  obtain ⟨W1, hW1⟩ : ∃ W, Y3.1 = W := ⟨_, rfl⟩
  rw [hW1] at HB1 q0 q1 q2 q3 ⊢
  have hw1 := HB1.out.size
  have Q0 := Ext.ex q0
  have Q1 := Ext.ex q1
  have Q2 := Ext.ex q2
  have Q3 := Ext.ex q3
  have HST : Hid ((⟨#[]⟩ : ByteArray) = bt (tP g 0)) := Lib.hid rfl
  have HXX : Hid (∃ X : Ext W1, W1 = X.1) := Lib.hid ⟨⟨W1, Below.refl _ _⟩, rfl⟩
  have z0 := Q0 ⟨W1, Below.refl _ _⟩
  clear hW1 Y3 Y G0 G1 G2 G3 DC HB HV
  go_wp2_with fail
  go_loopw [5, 23] (fun sv iv wr => ∃ (acc : ByteArray) (i : Nat), sv = .string acc ∧ iv = .int .i64 i ∧ i ≤ g.np ∧ Hid (acc = bt (tP g i)) ∧ Hid (∃ X : Ext W1, wr = X.1)) (fun _ iv _ => g.np - (intOf iv).toNat)
  case atStart => exact ⟨_, 0, rfl, rfl, by omega, HST, HXX⟩
  case round =>
    obtain ⟨acc, i, rfl, rfl, hi, HA, HX⟩ := hrel
    obtain ⟨X, rfl⟩ := HX.out
    clear HX
    have HD := Lib.hid (X.down HB1.out hw1)
    have hdz := HD.out.size
    by_cases hlt : i < g.np
    · have t1 : decide ((i : Int) < (g.np : Int)) = true := by rw [decide_eq_true_eq]; omega
      have t1' : decide (i < g.np) = true := by simpa using hlt
      have hii : (i : Int) < (g.np : Int) := by omega
      obtain ⟨b, off, rfl, hbl, hcc⟩ := (HG.out.r0.below HD.out (Nat.le_refl _)).here (by omega)
      have e0 : X.1.cell? ⟨b, off + i * 2, none⟩ = some (.string (g.pn i)) := hcc i hlt 0 (by omega)
      have e1 : X.1.cell? ⟨b, off + i * 2 + 1, none⟩ = some (.int .i64 (g.pc i)) := hcc i hlt 1 (by omega)
      obtain ⟨V1, hV1, hvb, hvs, hvq⟩ := alloc_block X.1 #[.string (g.pn i), .int .i64 (g.pc i)] 43
      have HV1 := Lib.hid hV1
      have HVB := Lib.hid hvb
      have HD1 := Lib.hid (HD.out.trans (hvb.mono hdz))
      have hok := HOK.out.1 i hlt
      have HT : Hid ((tP g (i + 1)) = (tP g i) ++ (Ln.part (g.pn i) (g.pc i)).text) := Lib.hid (by
        rw [show tP g (i + 1) = tP g i ++ (Ln.part (g.pn i) (g.pc i)).text from flat_snoc (fun i => Ln.part (g.pn i) (g.pc i)) i]
        try simp only [List.append_assoc])
      have hsa : acc.size ≤ 3040000 := by
        have h0 : acc.size = ((tP g i)).length := by rw [HA.out]; rfl
        rw [h0]
        try simp only [List.length_append]
        have lP := HLP.out i (by omega)
        omega
      have hs0 : (g.pn i).size ≤ 60 := name_size hok.1
      have hi0 : (itoaB (g.pc i)).size ≤ 12 := itoa_size hok.2
      have hn0 : 0 ≤ g.pc i ∧ g.pc i < 1000000000000 := hok.2
      have F0 : ∀ Z : Ext V1, Z.1.cell? ⟨X.1.heap.size, 0, none⟩ = some (.string (g.pn i)) := Ext.ex (block_cell hvq rfl)
      have F0' := F0 ⟨V1, Below.refl _ _⟩
      have F1 : ∀ Z : Ext V1, Z.1.cell? ⟨X.1.heap.size, 1, none⟩ = some (.int .i64 (g.pc i)) := Ext.ex (block_cell hvq rfl)
      have F1' := F1 ⟨V1, Below.refl _ _⟩
      have D0 := Lib.hid (fun (Y : Ext V1) => Y.calls (itoa_any (g.pc i) (by omega) (by omega) Y.1 (HGL.out.below (HD1.out.trans (Y.2.mono HD1.out.size)))))
      clear hcc hV1 hvb hvs hvq
      go_upto_region 8 with (fail)
      rw [HV1.out]
      refine ext_wp fun Y0 => ?_
      refine wp_region_ext (W := V1) _ (by kernel_rfl) (by kernel_rfl) ?_
      repeat go_big_quiet_step ((first | (go_at_call 11; with_reducible exact D0.out _)))
      refine wpQuiet_nil ?_
      intro _ hw'
      obtain ⟨Y, rfl⟩ := hw'
      go_wp2_with fail
      go_roundw
      case rel => exact ⟨_, i + 1, rfl, by go_num, by omega, Lib.hid (by rw [HT.out, HA.out, text_part, bs_app]), Lib.hid ⟨⟨_, below_step X.2 (below_step HVB.out Y.2)⟩, rfl⟩⟩
      case measure => simp [intOf]; omega
    · have t1 : decide ((i : Int) < (g.np : Int)) = false := by rw [decide_eq_false_iff_not]; omega
      have t1' : decide (i < g.np) = false := by simpa using hlt
      obtain rfl : i = g.np := by omega
      have HST : Hid (acc = bt (tP g g.np ++ tS g 0)) := Lib.hid (by
        rw [HA.out, show tS g 0 = [] from rfl]
        simp)
      have HXX : Hid (∃ Z : Ext W1, X.1 = Z.1) := Lib.hid ⟨X, rfl⟩
      have z0 := Q1 X
      clear hlt HA HD hdz
      go_wp2_with fail
      go_loopw [5, 42] (fun sv iv wr => ∃ (acc : ByteArray) (i : Nat), sv = .string acc ∧ iv = .int .i64 i ∧ i ≤ g.ns ∧ Hid (acc = bt (tP g g.np ++ tS g i)) ∧ Hid (∃ X : Ext W1, wr = X.1)) (fun _ iv _ => g.ns - (intOf iv).toNat)
      case atStart => exact ⟨_, 0, rfl, rfl, by omega, HST, HXX⟩
      case round =>
        obtain ⟨acc, i, rfl, rfl, hi, HA, HX⟩ := hrel
        obtain ⟨X, rfl⟩ := HX.out
        clear HX
        have HD := Lib.hid (X.down HB1.out hw1)
        have hdz := HD.out.size
        by_cases hlt : i < g.ns
        · have t1 : decide ((i : Int) < (g.ns : Int)) = true := by rw [decide_eq_true_eq]; omega
          have t1' : decide (i < g.ns) = true := by simpa using hlt
          have hii : (i : Int) < (g.ns : Int) := by omega
          obtain ⟨b, off, rfl, hbl, hcc⟩ := (HG.out.r1.below HD.out (Nat.le_refl _)).here (by omega)
          have e0 : X.1.cell? ⟨b, off + i * 2, none⟩ = some (.string (g.sn i)) := hcc i hlt 0 (by omega)
          have e1 : X.1.cell? ⟨b, off + i * 2 + 1, none⟩ = some (.string (g.sr i)) := hcc i hlt 1 (by omega)
          obtain ⟨V1, hV1, hvb, hvs, hvq⟩ := alloc_block X.1 #[.string (g.sn i), .string (g.sr i)] 50
          have HV1 := Lib.hid hV1
          have HVB := Lib.hid hvb
          have HD1 := Lib.hid (HD.out.trans (hvb.mono hdz))
          have hok := HOK.out.2.1 i hlt
          have HT : Hid ((tP g g.np ++ tS g (i + 1)) = (tP g g.np ++ tS g i) ++ (Ln.slot (g.sn i) (g.sr i)).text) := Lib.hid (by
            rw [show tS g (i + 1) = tS g i ++ (Ln.slot (g.sn i) (g.sr i)).text from flat_snoc (fun i => Ln.slot (g.sn i) (g.sr i)) i]
            try simp only [List.append_assoc])
          have hsa : acc.size ≤ 3040000 := by
            have h0 : acc.size = ((tP g g.np ++ tS g i)).length := by rw [HA.out]; rfl
            rw [h0]
            try simp only [List.length_append]
            have lP := HLP.out g.np (by omega)
            have lS := HLS.out i (by omega)
            omega
          have hs0 : (g.sn i).size ≤ 60 := name_size hok.1
          have hs1 : (g.sr i).size ≤ 60 := name_size hok.2
          have F0 : ∀ Z : Ext V1, Z.1.cell? ⟨X.1.heap.size, 0, none⟩ = some (.string (g.sn i)) := Ext.ex (block_cell hvq rfl)
          have F0' := F0 ⟨V1, Below.refl _ _⟩
          have F1 : ∀ Z : Ext V1, Z.1.cell? ⟨X.1.heap.size, 1, none⟩ = some (.string (g.sr i)) := Ext.ex (block_cell hvq rfl)
          have F1' := F1 ⟨V1, Below.refl _ _⟩
          clear hcc hV1 hvb hvs hvq
          go_upto_region 13 with (fail)
          rw [HV1.out]
          go_wp2_with fail
          go_roundw
          case rel => exact ⟨_, i + 1, rfl, by go_num, by omega, Lib.hid (by rw [HT.out, HA.out, text_slot, bs_app]), Lib.hid ⟨⟨_, below_step X.2 HVB.out⟩, rfl⟩⟩
          case measure => simp [intOf]; omega
        · have t1 : decide ((i : Int) < (g.ns : Int)) = false := by rw [decide_eq_false_iff_not]; omega
          have t1' : decide (i < g.ns) = false := by simpa using hlt
          obtain rfl : i = g.ns := by omega
          have HST : Hid (acc = bt ((tP g g.np ++ tS g g.ns) ++ tM g 0)) := Lib.hid (by
            rw [HA.out, show tM g 0 = [] from rfl]
            simp)
          have HXX : Hid (∃ Z : Ext W1, X.1 = Z.1) := Lib.hid ⟨X, rfl⟩
          have z0 := Q2 X
          clear hlt HA HD hdz
          go_wp2_with fail
          go_loopw [5, 60] (fun sv iv wr => ∃ (acc : ByteArray) (i : Nat), sv = .string acc ∧ iv = .int .i64 i ∧ i ≤ g.nm ∧ Hid (acc = bt ((tP g g.np ++ tS g g.ns) ++ tM g i)) ∧ Hid (∃ X : Ext W1, wr = X.1)) (fun _ iv _ => g.nm - (intOf iv).toNat)
          case atStart => exact ⟨_, 0, rfl, rfl, by omega, HST, HXX⟩
          case round =>
            obtain ⟨acc, i, rfl, rfl, hi, HA, HX⟩ := hrel
            obtain ⟨X, rfl⟩ := HX.out
            clear HX
            have HD := Lib.hid (X.down HB1.out hw1)
            have hdz := HD.out.size
            by_cases hlt : i < g.nm
            · have t1 : decide ((i : Int) < (g.nm : Int)) = true := by rw [decide_eq_true_eq]; omega
              have t1' : decide (i < g.nm) = true := by simpa using hlt
              have hii : (i : Int) < (g.nm : Int) := by omega
              obtain ⟨b, off, rfl, hbl, hcc⟩ := (HG.out.r2.below HD.out (Nat.le_refl _)).here (by omega)
              have e0 : X.1.cell? ⟨b, off + i * 4, none⟩ = some (.string (g.ms i)) := hcc i hlt 0 (by omega)
              have e1 : X.1.cell? ⟨b, off + i * 4 + 1, none⟩ = some (.string (g.mp i)) := hcc i hlt 1 (by omega)
              have e2 : X.1.cell? ⟨b, off + i * 4 + 2, none⟩ = some (.int .i64 (g.mf i)) := hcc i hlt 2 (by omega)
              have e3 : X.1.cell? ⟨b, off + i * 4 + 3, none⟩ = some (.int .i64 (g.mt i)) := hcc i hlt 3 (by omega)
              obtain ⟨V1, hV1, hvb, hvs, hvq⟩ := alloc_block X.1 #[.string (g.ms i), .string (g.mp i), .int .i64 (g.mf i), .int .i64 (g.mt i)] 52
              have HV1 := Lib.hid hV1
              have HVB := Lib.hid hvb
              have HD1 := Lib.hid (HD.out.trans (hvb.mono hdz))
              have hok := HOK.out.2.2.1 i hlt
              have HT : Hid (((tP g g.np ++ tS g g.ns) ++ tM g (i + 1)) = ((tP g g.np ++ tS g g.ns) ++ tM g i) ++ (Ln.mnt (g.ms i) (g.mp i) (g.mf i) (g.mt i)).text) := Lib.hid (by
                rw [show tM g (i + 1) = tM g i ++ (Ln.mnt (g.ms i) (g.mp i) (g.mf i) (g.mt i)).text from flat_snoc (fun i => Ln.mnt (g.ms i) (g.mp i) (g.mf i) (g.mt i)) i]
                try simp only [List.append_assoc])
              have hsa : acc.size ≤ 3040000 := by
                have h0 : acc.size = (((tP g g.np ++ tS g g.ns) ++ tM g i)).length := by rw [HA.out]; rfl
                rw [h0]
                try simp only [List.length_append]
                have lP := HLP.out g.np (by omega)
                have lS := HLS.out g.ns (by omega)
                have lM := HLM.out i (by omega)
                omega
              have hs0 : (g.ms i).size ≤ 60 := name_size hok.1
              have hs1 : (g.mp i).size ≤ 60 := name_size hok.2.1
              have hi0 : (itoaB (g.mf i)).size ≤ 12 := itoa_size hok.2.2.1
              have hn0 : 0 ≤ g.mf i ∧ g.mf i < 1000000000000 := hok.2.2.1
              have F0 : ∀ Z : Ext V1, Z.1.cell? ⟨X.1.heap.size, 0, none⟩ = some (.string (g.ms i)) := Ext.ex (block_cell hvq rfl)
              have F0' := F0 ⟨V1, Below.refl _ _⟩
              have F1 : ∀ Z : Ext V1, Z.1.cell? ⟨X.1.heap.size, 1, none⟩ = some (.string (g.mp i)) := Ext.ex (block_cell hvq rfl)
              have F1' := F1 ⟨V1, Below.refl _ _⟩
              have F2 : ∀ Z : Ext V1, Z.1.cell? ⟨X.1.heap.size, 2, none⟩ = some (.int .i64 (g.mf i)) := Ext.ex (block_cell hvq rfl)
              have F2' := F2 ⟨V1, Below.refl _ _⟩
              have F3 : ∀ Z : Ext V1, Z.1.cell? ⟨X.1.heap.size, 3, none⟩ = some (.int .i64 (g.mt i)) := Ext.ex (block_cell hvq rfl)
              have F3' := F3 ⟨V1, Below.refl _ _⟩
              have D0 := Lib.hid (fun (Y : Ext V1) => Y.calls (itoa_any (g.mf i) (by omega) (by omega) Y.1 (HGL.out.below (HD1.out.trans (Y.2.mono HD1.out.size)))))
              clear hcc hV1 hvb hvs hvq
              have hmt : g.mt i = -1 ∨ okN (g.mt i) := hok.2.2.2
              have hmt2 : g.mt i = -1 ∨ (0 ≤ g.mt i ∧ g.mt i < 1000000000000) := hmt
              have htb : (toB (g.mt i)).size ≤ 12 := by
                unfold toB
                split
                · exact itoa_size (hmt.resolve_left (by omega))
                · decide
              have DI := Lib.hid (fun (h : 0 ≤ g.mt i) => itoa_any (g.mt i) (by omega) (by omega) V1 (HGL.out.below HD1.out))
              by_cases ht : 0 ≤ g.mt i
              · have y1 : decide (g.mt i ≥ 0) = true := by simpa using ht
                have y2 : decide (0 ≤ g.mt i) = true := by simpa using ht
                have HTB := Lib.hid (show itoaB (g.mt i) = toB (g.mt i) by unfold toB; rw [if_pos ht])
                have DI := Lib.hid (DI.out ht)
                rw [HTB.out] at DI
                clear hmt hmt2
                go_upto_region 19 with (fail)
                rw [HV1.out]
                go_upto_region 21 with (go_at_call 11; refine DI.out.mono ?_; rintro e w2 ⟨rfl, hb2⟩)
                obtain ⟨Y0, rfl⟩ : ∃ Y : Ext V1, w2 = Y.1 := ⟨⟨w2, hb2⟩, rfl⟩
                refine wp_region_ext (W := V1) _ (by kernel_rfl) (by kernel_rfl) ?_
                repeat go_big_quiet_step ((first | (go_at_call 11; with_reducible exact D0.out _)))
                refine wpQuiet_nil ?_
                intro _ hw'
                obtain ⟨Y, rfl⟩ := hw'
                go_wp2_with fail
                go_roundw
                case rel => exact ⟨_, i + 1, rfl, by go_num, by omega, Lib.hid (by rw [HT.out, HA.out, text_mnt, bs_app]), Lib.hid ⟨⟨_, below_step X.2 (below_step HVB.out Y.2)⟩, rfl⟩⟩
                case measure => simp [intOf]; omega
              · have y1 : decide (g.mt i ≥ 0) = false := by simpa using ht
                have y2 : decide (0 ≤ g.mt i) = false := by simpa using ht
                have HTB := Lib.hid (show (⟨#[45]⟩ : ByteArray) = toB (g.mt i) by unfold toB; rw [if_neg ht]; rfl)
                clear hmt hmt2
                go_upto_region 19 with (fail)
                rw [HV1.out]
                go_upto_region 21 with (fail)
                rw [HTB.out]
                refine ext_wp fun Y0 => ?_
                refine wp_region_ext (W := V1) _ (by kernel_rfl) (by kernel_rfl) ?_
                repeat go_big_quiet_step ((first | (go_at_call 11; with_reducible exact D0.out _)))
                refine wpQuiet_nil ?_
                intro _ hw'
                obtain ⟨Y, rfl⟩ := hw'
                go_wp2_with fail
                go_roundw
                case rel => exact ⟨_, i + 1, rfl, by go_num, by omega, Lib.hid (by rw [HT.out, HA.out, text_mnt, bs_app]), Lib.hid ⟨⟨_, below_step X.2 (below_step HVB.out Y.2)⟩, rfl⟩⟩
                case measure => simp [intOf]; omega
            · have t1 : decide ((i : Int) < (g.nm : Int)) = false := by rw [decide_eq_false_iff_not]; omega
              have t1' : decide (i < g.nm) = false := by simpa using hlt
              obtain rfl : i = g.nm := by omega
              have HST : Hid (acc = bt (((tP g g.np ++ tS g g.ns) ++ tM g g.nm) ++ tU g 0)) := Lib.hid (by
                rw [HA.out, show tU g 0 = [] from rfl]
                simp)
              have HXX : Hid (∃ Z : Ext W1, X.1 = Z.1) := Lib.hid ⟨X, rfl⟩
              have z0 := Q3 X
              clear hlt HA HD hdz
              go_wp2_with fail
              go_loopw [5, 92] (fun sv iv wr => ∃ (acc : ByteArray) (i : Nat), sv = .string acc ∧ iv = .int .i64 i ∧ i ≤ g.nu ∧ Hid (acc = bt (((tP g g.np ++ tS g g.ns) ++ tM g g.nm) ++ tU g i)) ∧ Hid (∃ X : Ext W1, wr = X.1)) (fun _ iv _ => g.nu - (intOf iv).toNat)
              case atStart => exact ⟨_, 0, rfl, rfl, by omega, HST, HXX⟩
              case round =>
                obtain ⟨acc, i, rfl, rfl, hi, HA, HX⟩ := hrel
                obtain ⟨X, rfl⟩ := HX.out
                clear HX
                have HD := Lib.hid (X.down HB1.out hw1)
                have hdz := HD.out.size
                by_cases hlt : i < g.nu
                · have t1 : decide ((i : Int) < (g.nu : Int)) = true := by rw [decide_eq_true_eq]; omega
                  have t1' : decide (i < g.nu) = true := by simpa using hlt
                  have hii : (i : Int) < (g.nu : Int) := by omega
                  obtain ⟨b, off, rfl, hbl, hcc⟩ := (HG.out.r3.below HD.out (Nat.le_refl _)).here (by omega)
                  have e0 : X.1.cell? ⟨b, off + i * 5, none⟩ = some (.string (g.un i)) := hcc i hlt 0 (by omega)
                  have e1 : X.1.cell? ⟨b, off + i * 5 + 1, none⟩ = some (.string (g.ur i)) := hcc i hlt 1 (by omega)
                  have e2 : X.1.cell? ⟨b, off + i * 5 + 2, none⟩ = some (.int .i64 (g.uf i)) := hcc i hlt 2 (by omega)
                  have e3 : X.1.cell? ⟨b, off + i * 5 + 3, none⟩ = some (.int .i64 (g.us i)) := hcc i hlt 3 (by omega)
                  have e4 : X.1.cell? ⟨b, off + i * 5 + 4, none⟩ = some (.int .i64 (g.uw i)) := hcc i hlt 4 (by omega)
                  obtain ⟨V1, hV1, hvb, hvs, hvq⟩ := alloc_block X.1 #[.string (g.un i), .string (g.ur i), .int .i64 (g.uf i), .int .i64 (g.us i), .int .i64 (g.uw i)] 54
                  have HV1 := Lib.hid hV1
                  have HVB := Lib.hid hvb
                  have HD1 := Lib.hid (HD.out.trans (hvb.mono hdz))
                  have hok := HOK.out.2.2.2 i hlt
                  have HT : Hid ((((tP g g.np ++ tS g g.ns) ++ tM g g.nm) ++ tU g (i + 1)) = (((tP g g.np ++ tS g g.ns) ++ tM g g.nm) ++ tU g i) ++ (Ln.use (g.un i) (g.ur i) (g.uf i) (g.us i) (g.uw i)).text) := Lib.hid (by
                    rw [show tU g (i + 1) = tU g i ++ (Ln.use (g.un i) (g.ur i) (g.uf i) (g.us i) (g.uw i)).text from flat_snoc (fun i => Ln.use (g.un i) (g.ur i) (g.uf i) (g.us i) (g.uw i)) i]
                    try simp only [List.append_assoc])
                  have hsa : acc.size ≤ 3040000 := by
                    have h0 : acc.size = ((((tP g g.np ++ tS g g.ns) ++ tM g g.nm) ++ tU g i)).length := by rw [HA.out]; rfl
                    rw [h0]
                    try simp only [List.length_append]
                    have lP := HLP.out g.np (by omega)
                    have lS := HLS.out g.ns (by omega)
                    have lM := HLM.out g.nm (by omega)
                    have lU := HLU.out i (by omega)
                    omega
                  have hs0 : (g.un i).size ≤ 60 := name_size hok.1
                  have hs1 : (g.ur i).size ≤ 60 := name_size hok.2.1
                  have hi0 : (itoaB (g.uf i)).size ≤ 12 := itoa_size hok.2.2.1
                  have hn0 : 0 ≤ g.uf i ∧ g.uf i < 1000000000000 := hok.2.2.1
                  have hi1 : (itoaB (g.us i)).size ≤ 12 := itoa_size hok.2.2.2.1
                  have hn1 : 0 ≤ g.us i ∧ g.us i < 1000000000000 := hok.2.2.2.1
                  have hi2 : (itoaB (g.uw i)).size ≤ 12 := itoa_size hok.2.2.2.2
                  have hn2 : 0 ≤ g.uw i ∧ g.uw i < 1000000000000 := hok.2.2.2.2
                  have F0 : ∀ Z : Ext V1, Z.1.cell? ⟨X.1.heap.size, 0, none⟩ = some (.string (g.un i)) := Ext.ex (block_cell hvq rfl)
                  have F0' := F0 ⟨V1, Below.refl _ _⟩
                  have F1 : ∀ Z : Ext V1, Z.1.cell? ⟨X.1.heap.size, 1, none⟩ = some (.string (g.ur i)) := Ext.ex (block_cell hvq rfl)
                  have F1' := F1 ⟨V1, Below.refl _ _⟩
                  have F2 : ∀ Z : Ext V1, Z.1.cell? ⟨X.1.heap.size, 2, none⟩ = some (.int .i64 (g.uf i)) := Ext.ex (block_cell hvq rfl)
                  have F2' := F2 ⟨V1, Below.refl _ _⟩
                  have F3 : ∀ Z : Ext V1, Z.1.cell? ⟨X.1.heap.size, 3, none⟩ = some (.int .i64 (g.us i)) := Ext.ex (block_cell hvq rfl)
                  have F3' := F3 ⟨V1, Below.refl _ _⟩
                  have F4 : ∀ Z : Ext V1, Z.1.cell? ⟨X.1.heap.size, 4, none⟩ = some (.int .i64 (g.uw i)) := Ext.ex (block_cell hvq rfl)
                  have F4' := F4 ⟨V1, Below.refl _ _⟩
                  have D0 := Lib.hid (fun (Y : Ext V1) => Y.calls (itoa_any (g.uf i) (by omega) (by omega) Y.1 (HGL.out.below (HD1.out.trans (Y.2.mono HD1.out.size)))))
                  have D1 := Lib.hid (fun (Y : Ext V1) => Y.calls (itoa_any (g.us i) (by omega) (by omega) Y.1 (HGL.out.below (HD1.out.trans (Y.2.mono HD1.out.size)))))
                  have D2 := Lib.hid (fun (Y : Ext V1) => Y.calls (itoa_any (g.uw i) (by omega) (by omega) Y.1 (HGL.out.below (HD1.out.trans (Y.2.mono HD1.out.size)))))
                  clear hcc hV1 hvb hvs hvq
                  go_upto_region 26 with (fail)
                  rw [HV1.out]
                  refine ext_wp fun Y0 => ?_
                  refine wp_region_ext (W := V1) _ (by kernel_rfl) (by kernel_rfl) ?_
                  repeat go_big_quiet_step ((first | (go_at_call 11; with_reducible exact D0.out _) | (go_at_call 11; with_reducible exact D1.out _) | (go_at_call 11; with_reducible exact D2.out _)))
                  refine wpQuiet_nil ?_
                  intro _ hw'
                  obtain ⟨Y, rfl⟩ := hw'
                  go_wp2_with fail
                  go_roundw
                  case rel => exact ⟨_, i + 1, rfl, by go_num, by omega, Lib.hid (by rw [HT.out, HA.out, text_use, bs_app]), Lib.hid ⟨⟨_, below_step X.2 (below_step HVB.out Y.2)⟩, rfl⟩⟩
                  case measure => simp [intOf]; omega
                · have t1 : decide ((i : Int) < (g.nu : Int)) = false := by rw [decide_eq_false_iff_not]; omega
                  have t1' : decide (i < g.nu) = false := by simpa using hlt
                  obtain rfl : i = g.nu := by omega
                  have HBT : Hid (acc = bt (textG g)) := Lib.hid (by
                    rw [HTX.out, HA.out]
                    simp only [List.append_assoc])
                  have HSZ : Hid (acc.size = (textG g).length) := Lib.hid (by rw [HBT.out]; rfl)
                  obtain ⟨tx, htx⟩ : ∃ t, textG g = t := ⟨_, rfl⟩
                  rw [htx] at HBT HPE HPS HSZ
                  clear hlt HA htx
                  by_cases hbig : 1000000 < tx.length
                  · have hbig2 : 1000000 < acc.size := by rw [HSZ.out]; exact hbig
                    have y1 : decide ((1000000 : Int) < (acc.size : Int)) = true := by rw [decide_eq_true_eq]; omega
                    have y1' : decide (1000000 < acc.size) = true := by simpa using hbig2
                    have HE3 : Hid (printE g = 3) := Lib.hid (by rw [HPE.out, if_pos hbig])
                    have HS3 : Hid (printS g = ⟨#[]⟩) := Lib.hid (by rw [HPS.out, if_neg (by rw [HE3.out]; decide)])
                    clear hbig hbig2
                    go_wp2_with fail
                    go_ret2
                    exact ⟨by rw [HE3.out, HS3.out]; rfl, HD.out⟩
                  · have hbig2 : ¬ 1000000 < acc.size := by rw [HSZ.out]; exact hbig
                    have y1 : decide ((1000000 : Int) < (acc.size : Int)) = false := by rw [decide_eq_false_iff_not]; omega
                    have y1' : decide (1000000 < acc.size) = false := by simpa using hbig2
                    have HE3 : Hid (printE g = 0) := Lib.hid (by rw [HPE.out, if_neg hbig])
                    have HS3 : Hid (printS g = acc) := Lib.hid (by rw [HPS.out, if_pos HE3.out, HBT.out])
                    clear hbig hbig2
                    go_wp2_with fail
                    go_ret2
                    exact ⟨by rw [HE3.out, HS3.out]; rfl, HD.out⟩
end Go.Proofs.YthdmceeipmmhjaaGreatDoor

/- Gear: what the pieces say of a moment (plain laws for GearPiecesFollowMounts). -/
namespace Go.Proofs.YthdmceeipmmhjaaGreatDoor
open Go.RowKit Go.BigFrame
open Gar (chk chkS momG endG)

theorem less_irr : ∀ a : List UInt8, Op.bytesLess a a = false
  | [] => rfl
  | a :: l => by simp [Op.bytesLess, less_irr l]
theorem less_trans : ∀ a b c : List UInt8, Op.bytesLess a b = true → Op.bytesLess b c = true → Op.bytesLess a c = true
  | _, _, [], _, h => by cases h2 : Op.bytesLess _ [] <;> simp_all [Op.bytesLess]
  | _, [], _ :: _, h, _ => by simp [Op.bytesLess] at h
  | [], _ :: _, _ :: _, _, _ => rfl
  | a :: x, b :: y, c :: z, h1, h2 => by
    simp only [Op.bytesLess, Bool.or_eq_true, Bool.and_eq_true, decide_eq_true_eq, beq_iff_eq] at h1 h2 ⊢
    rcases h1 with h1 | ⟨rfl, h1⟩
    · rcases h2 with h2 | ⟨rfl, h2⟩
      · exact Or.inl (UInt8.lt_trans h1 h2)
      · exact Or.inl h1
    · rcases h2 with h2 | ⟨rfl, h2⟩
      · exact Or.inl h2
      · exact Or.inr ⟨rfl, less_trans x y z h1 h2⟩
theorem chkS_step {g : Gar} : ∀ (n k : Nat), chkS g n k = 0 → ∀ i, k ≤ i → i < k + n → 0 < i → strLt (g.sn (i - 1)) (g.sn i) = true
  | 0, k, _, i, h1, h2, _ => by omega
  | n + 1, k, h, i, h1, h2, h0 => by
    rw [chkS] at h
    split at h
    · omega
    · split at h
      · omega
      · split at h
        · omega
        · rename_i a b c
          by_cases e : i = k
          · subst e
            cases hb : strLt (g.sn (i - 1)) (g.sn i)
            · exact absurd ⟨h0, hb⟩ b
            · rfl
          · exact chkS_step n (k + 1) h i (by omega) (by omega) h0
theorem slot_lt {g : Gar} (h : chkS g g.ns 0 = 0) : ∀ (d i : Nat), i + d + 1 < g.ns → strLt (g.sn i) (g.sn (i + d + 1)) = true
  | 0, i, hi => chkS_step g.ns 0 h (i + 1) (by omega) (by omega) (by omega)
  | d + 1, i, hi => less_trans _ _ _ (slot_lt h d i (by omega)) (chkS_step g.ns 0 h (i + (d + 1) + 1) (by omega) (by omega) (by omega))
theorem slot_inj {g : Gar} (h : chk g = 0) {i j : Nat} (hi : i < g.ns) (hj : j < g.ns) (he : g.sn i = g.sn j) : i = j := by
  have hS := (Gar.chk_parts h).2.2.2.2.2.1
  have no : ∀ i j, i < j → j < g.ns → g.sn i ≠ g.sn j := fun i j hij hj e => by
    have := slot_lt hS (j - i - 1) i (by omega)
    rw [show i + (j - i - 1) + 1 = j by omega, e] at this
    unfold strLt at this
    rw [less_irr] at this
    cases this
  rcases Nat.lt_trichotomy i j with h1 | h1 | h1
  · exact absurd he (no i j h1 hj)
  · exact h1
  · exact absurd he.symm (no j i h1 hi)
theorem use_inj {g : Gar} (h : chk g = 0) {i j : Nat} (hi : i < g.nu) (hj : j < g.nu) (he : g.un i = g.un j) : i = j := by
  have hU := (Gar.chk_parts h).2.2.2.2.2.2.2.2
  rcases Nat.lt_trichotomy i j with h1 | h1 | h1
  · exact absurd he ((Gar.use_right hU hj).2.1 i h1)
  · exact h1
  · exact absurd he.symm ((Gar.use_right hU hi).2.1 j h1)

/-- the law's walk of all pieces: the part of the use u and slot s at the second left -/
def scanE (g : Gar) (u s : ByteArray) : List Ev → Int → Option ByteArray
  | [], _ => none
  | e :: l, left => if g.un e.i = u ∧ e.s = s then (if left < e.sec then some e.p else scanE g u s l (left - e.sec)) else scanE g u s l left
def isE (g : Gar) (u s : ByteArray) (e : Ev) : Bool := decide (g.un e.i = u ∧ e.s = s)
theorem scanE_pick (g : Gar) (u s : ByteArray) : ∀ (l : List Ev) (left : Int), scanE g u s l left = Pcs.pick left ((l.filter (isE g u s)).map fun e => (e.p, e.sec))
  | [], _ => rfl
  | e :: l, left => by
    rw [scanE, List.filter_cons]
    by_cases c : g.un e.i = u ∧ e.s = s
    · rw [if_pos c, show isE g u s e = true by simpa [isE] using c, if_pos rfl, List.map_cons, Pcs.pick]
      simp only [scanE_pick g u s l]
    · rw [if_neg c, show isE g u s e = false by simpa [isE] using c, if_neg (by simp), scanE_pick g u s l]
theorem evQ_mem {g : Gar} {i j : Nat} {e : Ev} : ∀ {n : Nat}, e ∈ evQ g i j n → e.i = i ∧ e.s = g.sn j
  | 0, h => by simp [evQ] at h
  | n + 1, h => by
    rw [evQ] at h
    rcases List.mem_append.1 h with h | h
    · exact evQ_mem h
    · simp at h
      subst h
      exact ⟨rfl, rfl⟩
theorem evQ_map (g : Gar) (i j : Nat) : ∀ n, n ≤ (pcsOf g i j).length → (evQ g i j n).map (fun e => (e.p, e.sec)) = (pcsOf g i j).take n
  | 0, _ => rfl
  | n + 1, h => by
    rw [evQ, List.map_append, evQ_map g i j n (by omega), List.take_succ_eq_append_getElem (show n < (pcsOf g i j).length by omega), List.map_cons, List.map_nil]
    unfold evP pget
    simp only [List.getD_eq_getElem?_getD, List.getElem?_eq_getElem (show n < (pcsOf g i j).length by omega), Option.getD_some]
theorem evS_none (g : Gar) {i k : Nat} (hik : g.un i ≠ g.un k) (s : ByteArray) : ∀ n, (evS g i n).filter (isE g (g.un k) s) = []
  | 0 => rfl
  | n + 1 => by
    rw [evS, List.filter_append, evS_none g hik s n, List.nil_append]
    split
    · exact List.filter_eq_nil_iff.2 fun e he => by simp [isE, (evQ_mem he).1, hik]
    · rfl
theorem evS_one {g : Gar} (h : chk g = 0) {k j : Nat} (hj : j < g.ns) (hr : g.sr j = g.ur k) : ∀ n, n ≤ g.ns → (evS g k n).filter (isE g (g.un k) (g.sn j)) = if j < n then evQ g k j (pcsOf g k j).length else []
  | 0, _ => rfl
  | n + 1, hn => by
    rw [evS, List.filter_append, evS_one h hj hr n (by omega)]
    by_cases c : n = j
    · subst c
      rw [if_neg (by omega), if_pos hr, if_pos (Nat.lt_succ_self _), List.nil_append]
      exact List.filter_eq_self.2 fun e he => by simp [isE, (evQ_mem he).1, (evQ_mem he).2]
    · have hno : g.sn n ≠ g.sn j := fun e => c (slot_inj h (by omega) hj e)
      have : (if g.sr n = g.ur k then evQ g k n (pcsOf g k n).length else []).filter (isE g (g.un k) (g.sn j)) = [] := by
        split
        · exact List.filter_eq_nil_iff.2 fun e he => by simp [isE, (evQ_mem he).2, hno]
        · rfl
      rw [this, List.append_nil]
      by_cases d : j < n
      · rw [if_pos d, if_pos (by omega)]
      · rw [if_neg d, if_neg (by omega)]
theorem evG_one {g : Gar} (h : chk g = 0) {k j : Nat} (hk : k < g.nu) (hj : j < g.ns) (hr : g.sr j = g.ur k) : ∀ n, n ≤ g.nu → (evG g n).filter (isE g (g.un k) (g.sn j)) = if k < n then evQ g k j (pcsOf g k j).length else []
  | 0, _ => rfl
  | n + 1, hn => by
    rw [evG, List.filter_append, evG_one h hk hj hr n (by omega)]
    by_cases c : n = k
    · subst c
      rw [if_neg (by omega), if_pos (by omega), List.nil_append, evS_one h hj hr _ (Nat.le_refl _), if_pos hj]
    · rw [evS_none g (fun e => c (use_inj h (by omega) hk e)), List.append_nil]
      by_cases d : k < n
      · rw [if_pos d, if_pos (by omega)]
      · rw [if_neg d, if_neg (by omega)]
theorem scan_pcs {g : Gar} (h : chk g = 0) {k j : Nat} (hk : k < g.nu) (hj : j < g.ns) (hr : g.sr j = g.ur k) (x : Int) : scanE g (g.un k) (g.sn j) (evG g g.nu) x = Pcs.pick x (pcsOf g k j) := by
  rw [scanE_pick, evG_one h hk hj hr _ (Nat.le_refl _), if_pos hk, evQ_map _ _ _ _ (Nat.le_refl _), List.take_length]
theorem scan_part {g : Gar} (h : chk g = 0) {k j : Nat} (hk : k < g.nu) (hj : j < g.ns) (hr : g.sr j = g.ur k) {x : Int} (h0 : 0 ≤ x) (h1 : x < g.us k) :
    scanE g (g.un k) (g.sn j) (evG g g.nu) x = some (Pcs.partAt (g.mounts (g.sn j)) (g.uf k + x)) := by
  have hp := Gar.chk_parts h
  have ho : Pcs.Ord (g.mounts (g.sn j)) := Gar.ord_mounts hp.2.2.2.2.2.2.1 hp.2.2.2.2.2.2.2.1 _ _ (Nat.le_refl _)
  rw [scan_pcs h hk hj hr]
  unfold pcsOf
  rw [← Pcs.pieces_eq ho (n := (g.us k).toNat) (by omega)]
  have := Pcs.rp_pick ho (last := g.uf k + g.us k) (g.us k).toNat (g.uf k) (g.uf k + x) (by omega) (by omega) (by omega)
  rwa [show g.uf k + x - g.uf k = x by omega] at this
end Go.Proofs.YthdmceeipmmhjaaGreatDoor

/- Gear: the part at a moment, as In finds it. -/
namespace Go.Proofs.YthdmceeipmmhjaaGreatDoor
open Go.RowKit Go.BigFrame
open Gar (chk mountsK)

def fromK (g : Gar) (s : ByteArray) : Nat → Nat → List Pcs.Mnt
  | 0, _ => []
  | n + 1, k => if g.ms k = s then g.mnt k :: fromK g s n (k + 1) else fromK g s n (k + 1)
theorem mountsK_from (g : Gar) (s : ByteArray) : ∀ n k, mountsK g s (k + n) = mountsK g s k ++ fromK g s n k
  | 0, k => by simp [fromK]
  | n + 1, k => by
    rw [show k + (n + 1) = (k + 1) + n by omega, mountsK_from g s n (k + 1), fromK, mountsK]
    split
    · simp
    · rfl
theorem part_from (g : Gar) (s : ByteArray) (x : Int) : ∀ n k, Pcs.partAt (fromK g s n k) x = (inR (inF g s x n k)).1
  | 0, _ => rfl
  | n + 1, k => by
    have he : (isG (g.mf k) (g.mt k) x = true) ↔ ((g.mnt k).f ≤ x ∧ x < Pcs.en (g.mnt k)) := by
      unfold isG
      rw [Bool.and_eq_true, decide_eq_true_eq, decide_eq_true_eq]
      rfl
    rw [fromK, inF]
    by_cases c : g.ms k = s
    · rw [if_pos c, Pcs.partAt]
      by_cases d : (g.mnt k).f ≤ x ∧ x < Pcs.en (g.mnt k)
      · rw [if_pos d, if_pos (by rw [Bool.and_eq_true]; exact ⟨by simpa using c, he.2 d⟩)]
        rfl
      · rw [if_neg d, if_neg (by rw [Bool.and_eq_true]; exact fun h => d (he.1 h.2)), part_from g s x n (k + 1)]
    · rw [if_neg c, if_neg (by rw [Bool.and_eq_true]; exact fun h => c (by simpa using h.1)), part_from g s x n (k + 1)]
theorem part_in (g : Gar) (s : ByteArray) (x : Int) : Pcs.partAt (g.mounts s) x = (inR (inF g s x g.nm 0)).1 := by
  have := mountsK_from g s g.nm 0
  rw [Nat.zero_add] at this
  unfold Gar.mounts
  rw [this, show mountsK g s 0 = [] from rfl, List.nil_append, part_from]
end Go.Proofs.YthdmceeipmmhjaaGreatDoor
