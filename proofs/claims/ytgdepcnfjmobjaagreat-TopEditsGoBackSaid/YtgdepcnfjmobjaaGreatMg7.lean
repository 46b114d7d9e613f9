/- Several texts of this claim in one. -/
import Derived.Test.YtgdepcnfjmobjaaGreatMg6
import Derived.Test.YtgdepcnfjmobjaaGreatMg2
import Derived.Test.YtgdepcnfjmobjaaGreatMg5
import Derived.Test.YtgdepcnfjmobjaaGreatMg4
import Derived.Deep.DeepCutAuto
/- A text of this claim. -/
namespace Go.Proofs.YtgdepcnfjmobjaaGreat
open Go.RowKit Go.BigFrame
open Tr (inR Ed)
def apA (A : Acv) (x : Ed) : Int := if chkA A ≠ 0 then chkA A else chkE x
def appP (A : Acv) (x : Ed) : Acv := if x.k = 11 then { A with lp := putP ⟨x.f, x.t, x.s⟩ A.lp } else appZ A x
theorem chk_lap {x : Ed} (hk : x.k = 11) (h : chkE x = 0) : 0 ≤ x.f ∧ x.f < x.t ∧ titleB x.s = true := by
 unfold chkE at h
 rw [if_neg (by omega)] at h
 split at h
 · omega
 · unfold fieldE at h
   rw [if_neg (by omega), if_neg (by omega), if_neg (by omega), if_neg (by omega), if_neg (by omega), if_neg (by omega), if_neg (by omega), if_neg (by omega)] at h
   split at h
   · omega
   · split at h
     · rename_i h1 h2
       exact ⟨by omega, by omega, h2⟩
     · omega
theorem appP_same {A : Acv} {x : Ed} (hA : AcOk A) (hk : chkE x = 0) : chkA (appP A x) = chkA (appZ A x) ∧ (chkA (appZ A x) = 0 → appP A x = appZ A x) := by
 unfold appP
 by_cases h : x.k = 11
 · rw [if_pos h, appZ_11 h]
   obtain ⟨h1, h2, h3⟩ := chk_lap h hk
   obtain ⟨e1, e2⟩ := lap_same A ⟨x.f, x.t, x.s⟩ hA h1 h2 h3
   exact ⟨e1, fun h0 => by rw [e2 h0]⟩
 · rw [if_neg h]
   exact ⟨rfl, fun _ => rfl⟩
theorem apE_bad {A : Acv} {x : Ed} (h : apA A x ≠ 0) : apE A x = apA A x ∧ apZ A x = Az := by
 have e : apE A x = apA A x := by
  unfold apE apA at *
  by_cases h1 : chkA A ≠ 0
  · rw [if_pos h1, if_pos h1]
  · rw [if_neg h1] at h ⊢
    rw [if_neg h1, if_pos h]
 exact ⟨e, by unfold apZ; rw [e, if_neg h]⟩
theorem apA_zero {A : Acv} {x : Ed} (h : apA A x = 0) : chkA A = 0 ∧ chkE x = 0 := by
 unfold apA at h
 by_cases h1 : chkA A = 0
 · rw [if_neg (by simpa using h1)] at h
   exact ⟨h1, h⟩
 · rw [if_pos h1] at h
   exact absurd h h1
theorem apE_ok {A : Acv} {x : Ed} (h : apA A x = 0) : apE A x = if appE A x ≠ 0 then appE A x else chkA (appZ A x) := by
 obtain ⟨h1, h2⟩ := apA_zero h
 unfold apE
 rw [if_neg (by simpa using h1), if_neg (by simpa using h2)]
def ActResF (Z : Acv) (er : Int) (w : World) (e : Ending) (w' : World) : Prop :=
 Below w.heap.size w w' ∧ ∃ a b c ca cb cc, e = .returned (.tuple #[actV Z a b c ca cb cc, .int .i64 er]) ∧ ActIn w' Z a b c ∧ ∀ q, (a = some q ∨ b = some q ∨ c = some q) → w.heap.size ≤ q.block
theorem ActResF.bad {w : World} {er : Int} {w' : World} (hb : Below w.heap.size w w') : ActResF Az er w (.returned (.tuple #[ac0, .int .i64 er])) w' := ⟨hb, none, none, none, 0, 0, 0, by rw [actV_z], actIn_z w', fun q hq => by rcases hq with h | h | h <;> cases h⟩
def LiP (A : Acv) (x : Ed) (base g : Nat) (w : World) (e : Ending) (w' : World) : Prop :=
 Below base w w' ∧ e = .returned (.int .i64 (appE A x)) ∧ (appE A x = 0 → Lies w' base g (appP A x))
theorem LiR.p {A : Acv} {x : Ed} {base g : Nat} {w : World} {e : Ending} {w' : World} (h : LiR A x base g w e w') (hk : x.k ≠ 11) : LiP A x base g w e w' := by
 obtain ⟨h1, h2, h3⟩ := h
 exact ⟨h1, h2, fun h0 => by unfold appP; rw [if_neg hk]; exact h3 h0⟩
set_option maxHeartbeats 8000000 in
set_option maxRecDepth 100000 in
theorem applyBad_any (x : Ed) (A : Acv) (a b c : Option Addr) (ca cb cc : Nat) (w : World) (hA : ActIn w A a b c) (hs : x.s.size ≤ maxLen) (hne : apA A x ≠ 0) :
 Calls Tryz.prog 16 #[actV A a b c ca cb cc, edV x] w fun e w' => ActResF (apZ A x) (apE A x) w e w' := by
 rw [(apE_bad hne).1, (apE_bad hne).2]
 obtain ⟨k, n, f, t, s⟩ := x
 obtain ⟨V0, hV0, hb0, hs0, ha0⟩ := alloc_ac w A.name A.sport A.start (.slice a A.sm.length ca) (.slice b A.lp.length cb) (.slice c A.tg.length cc)
 obtain ⟨V1, hV1, hb1, hs1, hl1⟩ := alloc_cells V0 #[.int .i64 k, .int .i64 n, .int .i64 f, .int .i64 t, .string s] 36
 obtain ⟨V2, hV2, hb2, hs2, ha2⟩ := alloc_ac V1 ⟨#[]⟩ 0 0 (.slice none 0 0) (.slice none 0 0) (.slice none 0 0)
 have hs11 : V1.heap.size = w.heap.size + 2 := by omega
 rw [hs0] at hl1
 rw [hs11] at ha2
 have hA0 := (ha0.below hb1).below hb2
 have HB := Lib.hid (below_step (below_step hb0 hb1) hb2)
 have HSZ := Lib.hid (show V2.heap.size = w.heap.size + 3 from by omega)
 have HIA := Lib.hid (hA.below HB.out)
 have HA2 := Lib.hid ha2
 obtain ⟨eA, heA⟩ : ∃ e, chkA A = e := ⟨_, rfl⟩
 obtain ⟨eB, heB⟩ : ∃ e, chkE ⟨k, n, f, t, s⟩ = e := ⟨_, rfl⟩
 have DA := Lib.hid (fun X : Ext V2 => show Calls Tryz.prog 14 #[.agg #[.string A.name, .int .i64 A.sport, .int .i64 A.start, .slice a A.sm.length ca, .slice b A.lp.length cb, .slice c A.tg.length cc]] X.1 fun e w'' => e = .returned (.int .i64 eA) ∧ ∃ Y : Ext V2, w'' = Y.1 from by
  have h := check_any A a b c ca cb cc X.1 (HIA.out.below X.2)
  unfold ChkG actV at h
  rw [heA] at h
  exact X.calls h)
 have DB := Lib.hid (fun X : Ext V2 => show Calls Tryz.prog 33 #[.agg #[.int .i64 k, .int .i64 n, .int .i64 f, .int .i64 t, .string s]] X.1 fun e w'' => e = .returned (.int .i64 eB) ∧ ∃ Y : Ext V2, w'' = Y.1 from by
  have h := checkEdit_any ⟨k, n, f, t, s⟩ X.1 hs
  unfold edV at h
  rw [heB] at h
  exact X.calls h)
 obtain ⟨z0, z1, z2, z3, z4, z5⟩ := hA0.cell
 have A0 := Ext.ex z0
 have A1 := Ext.ex z1
 have A2 := Ext.ex z2
 have A3 := Ext.ex z3
 have A4 := Ext.ex z4
 have A5 := Ext.ex z5
 have B0 := Ext.ex (below_cell hb2 (hl1 0 _ rfl))
 have B1 := Ext.ex (below_cell hb2 (hl1 1 _ rfl))
 have B2 := Ext.ex (below_cell hb2 (hl1 2 _ rfl))
 have B3 := Ext.ex (below_cell hb2 (hl1 3 _ rfl))
 have B4 := Ext.ex (below_cell hb2 (hl1 4 _ rfl))
 have her : apA A ⟨k, n, f, t, s⟩ = if eA ≠ 0 then eA else eB := by unfold apA; rw [heA, heB]
 obtain ⟨er, hee⟩ : ∃ e, apA A ⟨k, n, f, t, s⟩ = e := ⟨_, rfl⟩
 have HER := Lib.hid (hee.symm.trans her)
 rw [hee] at hne ⊢
 clear hA hs hb0 hb1 hb2 ha0 ha2 hl1 hA0 hs1 hs2 z0 z1 z2 z3 z4 z5 heA heB her hee
 unfold actV
 unfold edV
 go_enter Tryz.func16, Tryz.ntmps16
 go_upto_region 1 with (fail)
 clear hV0 hV1 hV2 hs0 hs11
 refine ext_wp (W := V2) fun X => ?_
 refine held_start (C := fun w' => ∃ Z : Ext V2, w' = Z.1) (by kernel_rfl) ?_
 obtain ⟨Z0, hZ0⟩ : ∃ Z : Ext V2, ({ X.1 with drawn := X.1.drawn + 1 } : World) = Z.1 := ⟨⟨{ X.1 with drawn := X.1.drawn + 1 }, below_step X.2 ⟨rfl, rfl, rfl, Nat.le_refl _, fun _ _ => rfl⟩⟩, rfl⟩
 rw [hZ0]
 clear hZ0
 refine held_quiet (by kernel_rfl) (fun _ _ d _ _ h => by cases d <;> exact h) ⟨Z0, rfl⟩ [0, 2] 5 _ _ (by kernel_rfl) ?_
 change wpQuiet _ _ _ _ (_ :: _ :: []) _
 repeat go_big_quiet_step (fail)
 refine wpQuiet_nil ?_
 refine held_do (i := 1) _ rfl (by kernel_rfl) rfl (fun K hK => ?_)
 go_simp
 refine (DA.out Z0).mono ?_
 rintro e w1 ⟨rfl, Z1, rfl⟩
 refine hK _ _ ⟨Z1, rfl⟩ ?_
 clear hK K
 try simp only [Act.put, List.setIfInBounds_toArray, List.set_cons_zero, List.set_cons_succ]
 refine held_do (i := 3) _ rfl (by kernel_rfl) rfl (fun K hK => ?_)
 go_simp
 refine (DB.out Z1).mono ?_
 rintro e w1 ⟨rfl, Z2, rfl⟩
 refine hK _ _ ⟨Z2, rfl⟩ ?_
 clear hK K
 try simp only [Act.put, List.setIfInBounds_toArray, List.set_cons_zero, List.set_cons_succ]
 refine held_do (i := 4) _ rfl (by kernel_rfl) rfl (fun K hK => ?_)
 go_simp
 obtain ⟨Wb, hWb, hwb1, hwb2, hwq⟩ := alloc_cells Z2.1 #[.int .i64 eA, .int .i64 eB] 29
 rw [hWb]
 obtain ⟨Z3, rfl⟩ : ∃ Z : Ext V2, Wb = Z.1 := ⟨⟨Wb, below_step Z2.2 hwb1⟩, rfl⟩
 have DO := Lib.hid (orE_any [eA, eB] Z2.1.heap.size 2 Z3.1 (by simp) (fun i v hv => hwq i _ (by
  match i, hv with
  | 0, h => injection h with h; subst h; rfl
  | 1, h => injection h with h; subst h; rfl
  | n + 2, h => simp at h)))
 rw [orL_two] at DO
 obtain ⟨eO, heO⟩ : ∃ e, (if eA ≠ 0 then eA else eB) = e := ⟨_, rfl⟩
 rw [heO] at DO
 refine hK _ _ ⟨Z3, rfl⟩ ?_
 clear hK K hWb hwb1 hwb2 hwq
 try simp only [Act.put, List.setIfInBounds_toArray, List.set_cons_zero, List.set_cons_succ]
 refine held_do (i := 5) _ rfl (by kernel_rfl) rfl (fun K hK => ?_)
 go_simp
 refine DO.out.mono ?_
 rintro e w1 ⟨rfl, rfl⟩
 refine hK _ _ ⟨Z3, rfl⟩ ?_
 clear hK K DO
 try simp only [Act.put, List.setIfInBounds_toArray, List.set_cons_zero, List.set_cons_succ]
 refine held_quiet (by kernel_rfl) (fun _ _ d _ _ h => by cases d <;> exact h) ⟨Z3, rfl⟩ [6] 0 _ _ (by kernel_rfl) ?_
 change wpQuiet _ _ _ _ (_ :: []) _
 repeat go_big_quiet_step (fail)
 refine wpQuiet_nil ?_
 refine wpAnyH_done (by kernel_rfl) ?_ _
 clear DA DB X Z0 Z1
 have u1 : (eO != 0) = true := by rw [bne_iff_ne, ← heO, ← HER.out]; exact hne
 have HEO := Lib.hid (show eO = er from by rw [← heO, HER.out])
 clear heO hne
 have hR := HA2.out.below Z3.2
 obtain ⟨r0, r1, r2, r3, r4, r5⟩ := hR.cell
 have fr := hR.free
 obtain ⟨WF, hWF, haF, hkF⟩ := hR.store ⟨#[]⟩ 0 0 (.slice none 0 0) (.slice none 0 0) (.slice none 0 0)
 have HAF := Lib.hid haF
 have HKF := Lib.hid (hkF (fun q => q = w.heap.size + 2) rfl)
 clear haF hkF hR
 have HBF := Lib.hid (show Below w.heap.size w WF from
  have h1 := below_step HB.out Z3.2
  Kept.below h1 HKF.out h1.size (fun k hk e => by omega))
 go_wp2_with fail
 have q := HAF.out.cell
 exact bodyPost_ret (v := .tuple #[ac0, .int .i64 eO]) (by simp [results, Tryz.results16, go_sem, q, ac0]) rfl (by rw [HEO.out]; exact ActResF.bad HBF.out)
set_option maxHeartbeats 8000000 in
set_option maxRecDepth 100000 in
theorem apply_go (x : Ed) (T : TypeId) (fa : FuncId) (hE : edI x = .iface T (edV x))
 (hm : ∀ m w, (method (m + 1) T (edV x) "harrier/trail.apply").run Tryz.prog w = .ok (fa, edV x) w)
 (hf : ∀ (args : Array Value) w, (callFunc fa args).run Tryz.prog w = .ok (.enter fa args) w)
 (hP : ∀ (A : Acv) (base g : Nat) (w : World), Mine w base g A → AcOk A → ActText A → base ≤ w.heap.size → Calls Tryz.prog fa #[edV x, .pointer (some ⟨g, 0, none⟩)] w fun e w' => LiP A x base g w e w')
 (A : Acv) (a b c : Option Addr) (ca cb cc : Nat) (w : World) (hA : ActIn w A a b c) (hs : x.s.size ≤ maxLen) (h0 : apA A x = 0) :
 Calls Tryz.prog 16 #[actV A a b c ca cb cc, edV x] w fun e w' => ActResF (apZ A x) (apE A x) w e w' := by
 have hm := hm 287
 simp only [Nat.reduceAdd] at hm
 obtain ⟨oA, oE⟩ := apA_zero h0
 have HOA := Lib.hid (chkA_zero.1 oA)
 have HTX := Lib.hid hA.text
 have DE := Lib.hid (editOf_any x)
 rw [hE] at DE
 have HP := Lib.hid hP
 have HEQ := Lib.hid (apE_ok h0)
 have HSA := Lib.hid (appP_same HOA.out oE)
 obtain ⟨eP, heP⟩ : ∃ z, appE A x = z := ⟨_, rfl⟩
 have HEP := Lib.hid heP
 obtain ⟨Z, hZ⟩ : ∃ Z, appP A x = Z := ⟨_, rfl⟩
 have HZ := Lib.hid hZ
 obtain ⟨rz, hrz⟩ : ∃ z, apZ A x = z := ⟨_, rfl⟩
 obtain ⟨re, hre⟩ : ∃ z, apE A x = z := ⟨_, rfl⟩
 have HRZ := Lib.hid (show rz = if re = 0 then appZ A x else Az from by rw [← hrz, ← hre]; rfl)
 have HRE := Lib.hid hre
 rw [hrz, hre]
 clear hP hE heP hZ hrz hre h0
 obtain ⟨k, n, f, t, s⟩ := x
 obtain ⟨V0, hV0, hb0, hs0, ha0⟩ := alloc_ac w A.name A.sport A.start (.slice a A.sm.length ca) (.slice b A.lp.length cb) (.slice c A.tg.length cc)
 obtain ⟨V1, hV1, hb1, hs1, hl1⟩ := alloc_cells V0 #[.int .i64 k, .int .i64 n, .int .i64 f, .int .i64 t, .string s] 36
 obtain ⟨V2, hV2, hb2, hs2, ha2⟩ := alloc_ac V1 ⟨#[]⟩ 0 0 (.slice none 0 0) (.slice none 0 0) (.slice none 0 0)
 have hs11 : V1.heap.size = w.heap.size + 2 := by omega
 rw [hs0] at hl1
 rw [hs11] at ha2
 have hA0 := (ha0.below hb1).below hb2
 have HB := Lib.hid (below_step (below_step hb0 hb1) hb2)
 have HSZ := Lib.hid (show V2.heap.size = w.heap.size + 3 from by omega)
 have HIA := Lib.hid (hA.below HB.out)
 have HA2 := Lib.hid ha2
 obtain ⟨eA, heA⟩ : ∃ e, chkA A = e := ⟨_, rfl⟩
 obtain ⟨eB, heB⟩ : ∃ e, chkE ⟨k, n, f, t, s⟩ = e := ⟨_, rfl⟩
 have DA := Lib.hid (fun X : Ext V2 => show Calls Tryz.prog 14 #[.agg #[.string A.name, .int .i64 A.sport, .int .i64 A.start, .slice a A.sm.length ca, .slice b A.lp.length cb, .slice c A.tg.length cc]] X.1 fun e w'' => e = .returned (.int .i64 eA) ∧ ∃ Y : Ext V2, w'' = Y.1 from by
  have h := check_any A a b c ca cb cc X.1 (HIA.out.below X.2)
  unfold ChkG actV at h
  rw [heA] at h
  exact X.calls h)
 have DB := Lib.hid (fun X : Ext V2 => show Calls Tryz.prog 33 #[.agg #[.int .i64 k, .int .i64 n, .int .i64 f, .int .i64 t, .string s]] X.1 fun e w'' => e = .returned (.int .i64 eB) ∧ ∃ Y : Ext V2, w'' = Y.1 from by
  have h := checkEdit_any ⟨k, n, f, t, s⟩ X.1 hs
  unfold edV at h
  rw [heB] at h
  exact X.calls h)
 obtain ⟨z0, z1, z2, z3, z4, z5⟩ := hA0.cell
 have A0 := Ext.ex z0
 have A1 := Ext.ex z1
 have A2 := Ext.ex z2
 have A3 := Ext.ex z3
 have A4 := Ext.ex z4
 have A5 := Ext.ex z5
 have B0 := Ext.ex (below_cell hb2 (hl1 0 _ rfl))
 have B1 := Ext.ex (below_cell hb2 (hl1 1 _ rfl))
 have B2 := Ext.ex (below_cell hb2 (hl1 2 _ rfl))
 have B3 := Ext.ex (below_cell hb2 (hl1 3 _ rfl))
 have B4 := Ext.ex (below_cell hb2 (hl1 4 _ rfl))
 rw [oA] at heA
 rw [oE] at heB
 subst heA heB
 clear hA hs hb0 hb1 hb2 ha0 ha2 hl1 hA0 hs1 hs2 z0 z1 z2 z3 z4 z5 oA oE
 unfold edV at hm DE
 unfold actV
 unfold edV
 go_enter Tryz.func16, Tryz.ntmps16
 go_upto_region 1 with (fail)
 clear hV0 hV1 hV2 hs0 hs11
 refine ext_wp (W := V2) fun X => ?_
 refine held_start (C := fun w' => ∃ Z : Ext V2, w' = Z.1) (by kernel_rfl) ?_
 obtain ⟨Z0, hZ0⟩ : ∃ Z : Ext V2, ({ X.1 with drawn := X.1.drawn + 1 } : World) = Z.1 := ⟨⟨{ X.1 with drawn := X.1.drawn + 1 }, below_step X.2 ⟨rfl, rfl, rfl, Nat.le_refl _, fun _ _ => rfl⟩⟩, rfl⟩
 rw [hZ0]
 clear hZ0
 refine held_quiet (by kernel_rfl) (fun _ _ d _ _ h => by cases d <;> exact h) ⟨Z0, rfl⟩ [0, 2] 5 _ _ (by kernel_rfl) ?_
 change wpQuiet _ _ _ _ (_ :: _ :: []) _
 repeat go_big_quiet_step (fail)
 refine wpQuiet_nil ?_
 refine held_do (i := 1) _ rfl (by kernel_rfl) rfl (fun K hK => ?_)
 go_simp
 refine (DA.out Z0).mono ?_
 rintro e w1 ⟨rfl, Z1, rfl⟩
 refine hK _ _ ⟨Z1, rfl⟩ ?_
 clear hK K
 try simp only [Act.put, List.setIfInBounds_toArray, List.set_cons_zero, List.set_cons_succ]
 refine held_do (i := 3) _ rfl (by kernel_rfl) rfl (fun K hK => ?_)
 go_simp
 refine (DB.out Z1).mono ?_
 rintro e w1 ⟨rfl, Z2, rfl⟩
 refine hK _ _ ⟨Z2, rfl⟩ ?_
 clear hK K
 try simp only [Act.put, List.setIfInBounds_toArray, List.set_cons_zero, List.set_cons_succ]
 refine held_do (i := 4) _ rfl (by kernel_rfl) rfl (fun K hK => ?_)
 go_simp
 obtain ⟨Wb, hWb, hwb1, hwb2, hwq⟩ := alloc_cells Z2.1 #[.int .i64 (0 : Int), .int .i64 (0 : Int)] 29
 rw [hWb]
 obtain ⟨Z3, rfl⟩ : ∃ Z : Ext V2, Wb = Z.1 := ⟨⟨Wb, below_step Z2.2 hwb1⟩, rfl⟩
 have DO := Lib.hid (orE_any [(0 : Int), (0 : Int)] Z2.1.heap.size 2 Z3.1 (by simp) (fun i v hv => hwq i _ (by
  match i, hv with
  | 0, h => injection h with h; subst h; rfl
  | 1, h => injection h with h; subst h; rfl
  | n + 2, h => simp at h)))
 rw [orL_two] at DO
 obtain ⟨eO, heO⟩ : ∃ e, (if (0 : Int) ≠ 0 then (0 : Int) else (0 : Int)) = e := ⟨_, rfl⟩
 rw [heO] at DO
 refine hK _ _ ⟨Z3, rfl⟩ ?_
 clear hK K hWb hwb1 hwb2 hwq
 try simp only [Act.put, List.setIfInBounds_toArray, List.set_cons_zero, List.set_cons_succ]
 refine held_do (i := 5) _ rfl (by kernel_rfl) rfl (fun K hK => ?_)
 go_simp
 refine DO.out.mono ?_
 rintro e w1 ⟨rfl, rfl⟩
 refine hK _ _ ⟨Z3, rfl⟩ ?_
 clear hK K DO
 try simp only [Act.put, List.setIfInBounds_toArray, List.set_cons_zero, List.set_cons_succ]
 refine held_quiet (by kernel_rfl) (fun _ _ d _ _ h => by cases d <;> exact h) ⟨Z3, rfl⟩ [6] 0 _ _ (by kernel_rfl) ?_
 change wpQuiet _ _ _ _ (_ :: []) _
 repeat go_big_quiet_step (fail)
 refine wpQuiet_nil ?_
 refine wpAnyH_done (by kernel_rfl) ?_ _
 clear DA DB X Z0 Z1
 obtain rfl : eO = 0 := by rw [← heO]; rfl
 clear heO
 have DCL := Lib.hid (show Calls Tryz.prog 15 #[.agg #[.string A.name, .int .i64 A.sport, .int .i64 A.start, .slice a A.sm.length ca, .slice b A.lp.length cb, .slice c A.tg.length cc]] Z3.1 fun e w'' => CloneRet A Z3.1 e w'' from by
  have h := cloneA_any A a b c ca cb cc Z3.1 (HIA.out.below Z3.2) (by have := HOA.out.nsm; omega) (by have := HOA.out.nlp; omega) (by have := HOA.out.ntg; omega)
  unfold actV at h
  exact h)
 go_wp2_with fail
 refine (DCL.out).mono ?_
 unfold CloneRet
 rintro e w2 ⟨⟨a1, b1, c1, ca1, cb1, cc1, rfl, ho3⟩, hb2⟩
 unfold actV
 obtain ⟨T0, hT⟩ : ∃ T, w2.heap.size = T := ⟨_, rfl⟩
 obtain ⟨W, hW, hbW, hsW, haW⟩ := alloc_ac w2 A.name A.sport A.start (.slice a1 A.sm.length ca1) (.slice b1 A.lp.length cb1) (.slice c1 A.tg.length cc1)
 obtain ⟨D0, hD0⟩ : ∃ D0, Z3.1.heap.size = D0 := ⟨_, rfl⟩
 have HD0 := Lib.hid hD0
 have hsz2 := hb2.size
 rw [hT] at haW hsz2
 rw [hD0] at ho3 hsz2
 have HT := Lib.hid hT
 have HBW := Lib.hid (show Below V2.heap.size V2 W from below_step Z3.2 (below_step hb2 hbW))
 have HBD := Lib.hid (show Below D0 Z3.1 W from hD0 ▸ below_step hb2 hbW)
 have HMI := Lib.hid (show Mine W D0 T0 A from by
  obtain ⟨B1, B2, hB1, hB2, hos, _, hol, _, hot⟩ := ho3.ex
  exact ⟨⟨a1, b1, c1, ca1, cb1, cc1, haW, hos.below hbW, (hol.weaken (by omega)).below hbW, (hot.weaken (by omega)).below hbW⟩, by omega⟩)
 have HDS := Lib.hid (show w.heap.size + 3 ≤ D0 ∧ D0 ≤ W.heap.size from by
  have h1 := HSZ.out
  have h2 := Z3.2.size
  have h3 := HBD.out.size
  have h4 := hbW.size
  omega)
 have b0 := B0 ⟨W, HBW.out⟩
 have b1' := B1 ⟨W, HBW.out⟩
 have b2' := B2 ⟨W, HBW.out⟩
 have b3' := B3 ⟨W, HBW.out⟩
 have b4' := B4 ⟨W, HBW.out⟩
 clear ho3 hb2 hbW hsW haW hD0 DCL B0 B1 B2 B3 B4 A0 A1 A2 A3 A4 A5 hsz2
 go_upto_region 5 with (fail)
 clear hW
 go_wp2_with fail
 refine (DE.out _).mono ?_
 rintro e w3 ⟨rfl, hb3⟩
 have HM3 := Lib.hid (HMI.out.below hb3)
 have HB3 := Lib.hid hb3
 have DAP := Lib.hid (HP.out A D0 T0 w3 HM3.out HOA.out HTX.out (by have := hb3.size; have := HDS.out; omega))
 unfold edV at DAP
 clear hb3 HP DE
 go_wp2_with fail
 refine (DAP.out).mono ?_
 unfold LiP
 rintro e w4 ⟨hb4, rfl, hli⟩
 rw [HEP.out] at hli ⊢
 have HB4 := Lib.hid hb4
 have HBX := Lib.hid (show Below D0 Z3.1 w4 from
  ⟨hb4.os.trans (HB3.out.os.trans HBD.out.os), hb4.tape.trans (HB3.out.tape.trans HBD.out.tape), hb4.output.trans (HB3.out.output.trans HBD.out.output), Nat.le_trans HBD.out.size (Nat.le_trans HB3.out.size hb4.size), fun k hk => (hb4.block k hk).trans ((HB3.out.block k (by have := HDS.out; omega)).trans (HBD.out.block k hk))⟩)
 have HBV := Lib.hid (show Below V2.heap.size V2 w4 from below_step Z3.2 (HD0.out ▸ HBX.out))
 have HLI := Lib.hid hli
 clear hb4 hli DAP
 by_cases hep : eP = 0
 case neg =>
  have u1 : (eP != 0) = true := by rw [bne_iff_ne]; exact hep
  have HZE := Lib.hid (show re = eP ∧ rz = Az from by
   have h1 : re = eP := by rw [← HRE.out, HEQ.out, HEP.out, if_pos hep]
   exact ⟨h1, by rw [HRZ.out, h1, if_neg hep]⟩)
  clear hep
  have hR := HA2.out.below HBV.out
  obtain ⟨r0, r1, r2, r3, r4, r5⟩ := hR.cell
  have fr := hR.free
  obtain ⟨WF, hWF, haF, hkF⟩ := hR.store ⟨#[]⟩ 0 0 (.slice none 0 0) (.slice none 0 0) (.slice none 0 0)
  have HAF := Lib.hid haF
  have HKF := Lib.hid (hkF (fun q => q = w.heap.size + 2) rfl)
  clear haF hkF hR
  have HBF := Lib.hid (show Below w.heap.size w WF from
   have h1 := below_step HB.out HBV.out
   Kept.below h1 HKF.out h1.size (fun k hk e => by omega))
  go_wp2_with fail
  have q := HAF.out.cell
  exact bodyPost_ret (v := .tuple #[ac0, .int .i64 eP]) (by simp [results, Tryz.results16, go_sem, q, ac0]) rfl (by rw [HZE.out.1, HZE.out.2]; exact ActResF.bad HBF.out)
 subst hep
 obtain ⟨za, zb, zc, zca, zcb, zcc, hzB, hzI, hzF⟩ := HLI.out rfl
 rw [HZ.out] at hzB hzI
 have HZB := Lib.hid hzB
 have HZI := Lib.hid hzI
 have HZF := Lib.hid hzF
 obtain ⟨er, her⟩ : ∃ z, chkA Z = z := ⟨_, rfl⟩
 have HER := Lib.hid her
 have DK := Lib.hid (show Calls Tryz.prog 14 #[.agg #[.string Z.name, .int .i64 Z.sport, .int .i64 Z.start, .slice za Z.sm.length zca, .slice zb Z.lp.length zcb, .slice zc Z.tg.length zcc]] w4 fun e w'' => e = .returned (.int .i64 er) ∧ Below w4.heap.size w4 w'' from by
  have h := check_any Z za zb zc zca zcb zcc w4 HZI.out
  unfold ChkG actV at h
  rw [her] at h
  exact h)
 have HZE := Lib.hid (show re = er ∧ (er = 0 → rz = Z) ∧ (er ≠ 0 → rz = Az) from by
  obtain ⟨e1, e2⟩ := HSA.out
  rw [HZ.out] at e1 e2
  have h1 : re = er := by
   rw [← HRE.out, HEQ.out, HEP.out, if_neg (by simp), ← e1]
   exact her
  refine ⟨h1, fun h => ?_, fun h => ?_⟩
  · rw [HRZ.out, h1, if_pos h, e2 (by rw [← e1, her]; exact h)]
  · rw [HRZ.out, h1, if_neg h])
 obtain ⟨y0, y1, y2, y3, y4, y5⟩ := hzB.cell
 clear hzB hzI hzF her
 go_wp2_with fail
 refine (DK.out).mono ?_
 rintro e w5 ⟨rfl, hb5⟩
 have HZB5 := Lib.hid (HZB.out.below hb5)
 have HZI5 := Lib.hid (HZI.out.below hb5)
 have HBV5 := Lib.hid (below_step HBV.out hb5)
 clear y0 y1 y2 y3 y4 y5 hb5 DK
 obtain ⟨y0, y1, y2, y3, y4, y5⟩ := HZB5.out.cell
 have hR := HA2.out.below HBV5.out
 obtain ⟨r0, r1, r2, r3, r4, r5⟩ := hR.cell
 have fr := hR.free
 by_cases her : er = 0
 · have HZ1 := Lib.hid (show rz = Z ∧ re = 0 from ⟨HZE.out.2.1 her, HZE.out.1.trans her⟩)
   clear HZE
   subst her
   obtain ⟨WF, hWF, haF, hkF⟩ := hR.store Z.name Z.sport Z.start (.slice za Z.sm.length zca) (.slice zb Z.lp.length zcb) (.slice zc Z.tg.length zcc)
   have HAF := Lib.hid haF
   have HKF := Lib.hid (hkF (fun q => q = w.heap.size + 2) rfl)
   clear haF hkF hR
   have HBF := Lib.hid (show Below w.heap.size w WF from
    have h1 := below_step HB.out HBV5.out
    Kept.below h1 HKF.out h1.size (fun k hk e => by omega))
   have HIF := Lib.hid (show ActIn WF Z za zb zc from by
    exact HZI5.out.kept HKF.out (fun q hq e => by have := HZF.out q hq; have := HDS.out; omega))
   go_wp2_with fail
   have q := HAF.out.cell
   exact bodyPost_ret (v := .tuple #[.agg #[.string Z.name, .int .i64 Z.sport, .int .i64 Z.start, .slice za Z.sm.length zca, .slice zb Z.lp.length zcb, .slice zc Z.tg.length zcc], .int .i64 0]) (by simp [results, Tryz.results16, go_sem, q]) rfl (by rw [HZ1.out.1, HZ1.out.2]; exact ⟨HBF.out, za, zb, zc, zca, zcb, zcc, rfl, HIF.out, fun q hq => by have := HZF.out q hq; have := HDS.out; omega⟩)
 · have u2 : (er != 0) = true := by rw [bne_iff_ne]; exact her
   obtain ⟨WF, hWF, haF, hkF⟩ := hR.store ⟨#[]⟩ 0 0 (.slice none 0 0) (.slice none 0 0) (.slice none 0 0)
   have HAF := Lib.hid haF
   have HKF := Lib.hid (hkF (fun q => q = w.heap.size + 2) rfl)
   have HNE := Lib.hid her
   clear haF hkF hR her
   have HBF := Lib.hid (show Below w.heap.size w WF from
    have h1 := below_step HB.out HBV5.out
    Kept.below h1 HKF.out h1.size (fun k hk e => by omega))
   go_wp2_with fail
   have q := HAF.out.cell
   exact bodyPost_ret (v := .tuple #[ac0, .int .i64 er]) (by simp [results, Tryz.results16, go_sem, q, ac0]) rfl (by rw [HZE.out.1, HZE.out.2.2 HNE.out]; exact ActResF.bad HBF.out)
theorem putP_mem {x y : Lp} {l : List Lp} (h : y ∈ putP x l) : y = x ∨ y ∈ l := by
 unfold putP at h
 rcases List.mem_append.1 h with h | h
 · rcases List.mem_append.1 h with h | h
   · exact Or.inr (List.mem_of_mem_take h)
   · exact Or.inl (List.mem_singleton.1 h)
 · exact Or.inr (List.mem_of_mem_drop h)
theorem lap_p {f t : Int} {s : ByteArray} {A : Acv} {base g : Nat} {w : World} {e : Ending} {w' : World} (_hk : chkE ⟨11, 0, f, t, s⟩ = 0) (oA : AcOk A) (ht : ActText A) (hs : s.size ≤ maxLen) (h : Below base w w' ∧ e = .returned (.int .i64 0) ∧ Mine w' base g { A with lp := putP ⟨f, t, s⟩ A.lp }) : LiP A ⟨11, 0, f, t, s⟩ base g w e w' := by
 obtain ⟨h1, h2, h3⟩ := h
 have n1 := oA.nsm
 have n2 := oA.nlp
 have n3 := oA.ntg
 refine ⟨h1, by rw [appE_11 rfl]; exact h2, fun _ => ?_⟩
 unfold appP
 rw [if_pos rfl]
 refine h3.lies ⟨ht.name, fun p hp => ?_, ht.tags⟩ ?_ ?_ ?_
 · rcases putP_mem hp with rfl | hp
   · exact hs
   · exact ht.titles p hp
 · show A.sm.length ≤ _
   omega
 · show (putP _ A.lp).length ≤ _
   rw [putP_len]
   omega
 · show A.tg.length ≤ _
   omega
theorem apply_f (x : Ed) (A : Acv) (a b c : Option Addr) (ca cb cc : Nat) (w : World) (hA : ActIn w A a b c) (hs : x.s.size ≤ maxLen) :
 Calls Tryz.prog 16 #[actV A a b c ca cb cc, edV x] w fun e w' => ActResF (apZ A x) (apE A x) w e w' := by
 by_cases h0 : apA A x = 0
 case neg => exact applyBad_any x A a b c ca cb cc w hA hs h0
 have hk := (apA_zero h0).2
 obtain ⟨k, n, f, t, s⟩ := x
 rcases kind_ways _ hk with h | h | h | h | h | h | h | h | h | h | h | h
 · obtain rfl : k = 1 := h
   exact apply_go _ 86 86 rfl (fun _ _ => by kernel_rfl) (fun _ _ => by kernel_rfl) (fun A base g w hM oA ht hb => ((ap_1 n f t s A base g w hM oA hb).mono fun _ _ h => (h.lies hk oA ht hs).p (show (1 : Int) ≠ 11 by decide))) A a b c ca cb cc w hA hs h0
 · obtain rfl : k = 2 := h
   exact apply_go _ 87 99 rfl (fun _ _ => by kernel_rfl) (fun _ _ => by kernel_rfl) (fun A base g w hM oA ht hb => ((ap_2 n f t s A base g w hM oA hb).mono fun _ _ h => (h.lies hk oA ht hs).p (show (2 : Int) ≠ 11 by decide))) A a b c ca cb cc w hA hs h0
 · obtain rfl : k = 3 := h
   exact apply_go _ 86 86 rfl (fun _ _ => by kernel_rfl) (fun _ _ => by kernel_rfl) (fun A base g w hM oA ht hb => ((ap_3 n f t s A base g w hM oA hb).mono fun _ _ h => (h.lies hk oA ht hs).p (show (3 : Int) ≠ 11 by decide))) A a b c ca cb cc w hA hs h0
 · obtain rfl : k = 4 := h
   exact apply_go _ 86 86 rfl (fun _ _ => by kernel_rfl) (fun _ _ => by kernel_rfl) (fun A base g w hM oA ht hb => ((ap_4 n f t s A base g w hM oA hb).mono fun _ _ h => (h.lies hk oA ht hs).p (show (4 : Int) ≠ 11 by decide))) A a b c ca cb cc w hA hs h0
 · obtain rfl : k = 5 := h
   have hr := chk_rng (lo := (-86399999999)) (hi := 86399999999) (show ¬ ((5 : Int) < 1 ∨ 12 < (5 : Int)) by decide) rfl hk
   exact apply_go _ 87 99 rfl (fun _ _ => by kernel_rfl) (fun _ _ => by kernel_rfl) (fun A base g w hM oA ht hb => ((ap_5 n f t s A base g w hM oA hb hr).mono fun _ _ h => (h.lies hk oA ht hs).p (show (5 : Int) ≠ 11 by decide))) A a b c ca cb cc w hA hs h0
 · obtain rfl : k = 6 := h
   have hr := chk_rng (lo := (-200000)) (hi := 200000) (show ¬ ((6 : Int) < 1 ∨ 12 < (6 : Int)) by decide) rfl hk
   exact apply_go _ 87 99 rfl (fun _ _ => by kernel_rfl) (fun _ _ => by kernel_rfl) (fun A base g w hM oA ht hb => ((ap_6 n f t s A base g w hM oA hb hr).mono fun _ _ h => (h.lies hk oA ht hs).p (show (6 : Int) ≠ 11 by decide))) A a b c ca cb cc w hA hs h0
 · obtain rfl : k = 7 := h
   have hr := chk_rng (lo := 1) (hi := 3) (show ¬ ((7 : Int) < 1 ∨ 12 < (7 : Int)) by decide) rfl hk
   simp only at hr
   have h3 : n = 1 ∨ n = 2 ∨ n = 3 := by omega
   rcases h3 with rfl | rfl | rfl
   · exact apply_go _ 87 99 rfl (fun _ _ => by kernel_rfl) (fun _ _ => by kernel_rfl) (fun A base g w hM oA ht hb => ((ap_7_1 f t s A base g w hM oA hb).mono fun _ _ h => (h.lies hk oA ht hs).p (show (7 : Int) ≠ 11 by decide))) A a b c ca cb cc w hA hs h0
   · exact apply_go _ 87 99 rfl (fun _ _ => by kernel_rfl) (fun _ _ => by kernel_rfl) (fun A base g w hM oA ht hb => ((ap_7_2 f t s A base g w hM oA hb).mono fun _ _ h => (h.lies hk oA ht hs).p (show (7 : Int) ≠ 11 by decide))) A a b c ca cb cc w hA hs h0
   · exact apply_go _ 87 99 rfl (fun _ _ => by kernel_rfl) (fun _ _ => by kernel_rfl) (fun A base g w hM oA ht hb => ((ap_7_3 f t s A base g w hM oA hb).mono fun _ _ h => (h.lies hk oA ht hs).p (show (7 : Int) ≠ 11 by decide))) A a b c ca cb cc w hA hs h0
 · obtain rfl : k = 8 := h
   exact apply_go _ 89 134 rfl (fun _ _ => by kernel_rfl) (fun _ _ => by kernel_rfl) (fun A base g w hM oA ht hb => ((ap_8 n f t s A base g w hM oA ht hb).mono fun _ _ h => h.p (show (8 : Int) ≠ 11 by decide))) A a b c ca cb cc w hA hs h0
 · obtain rfl : k = 9 := h
   have hr := chk_rng (lo := 0) (hi := 50) (show ¬ ((9 : Int) < 1 ∨ 12 < (9 : Int)) by decide) rfl hk
   exact apply_go _ 88 103 rfl (fun _ _ => by kernel_rfl) (fun _ _ => by kernel_rfl) (fun A base g w hM oA ht hb => ((ap_9 n f t s A base g w hM oA ht hb hr).mono fun _ _ h => h.p (show (9 : Int) ≠ 11 by decide))) A a b c ca cb cc w hA hs h0
 · obtain rfl : k = 10 := h
   have hr := chk_rng (lo := 0) (hi := 1000000) (show ¬ ((10 : Int) < 1 ∨ 12 < (10 : Int)) by decide) rfl hk
   exact apply_go _ 88 103 rfl (fun _ _ => by kernel_rfl) (fun _ _ => by kernel_rfl) (fun A base g w hM oA ht hb => ((ap_10 n f t s A base g w hM oA ht hb hr).mono fun _ _ h => h.p (show (10 : Int) ≠ 11 by decide))) A a b c ca cb cc w hA hs h0
 · obtain rfl : k = 11 := h
   have hn : n = 0 := by
    unfold chkE at hk
    rw [if_neg (show ¬ ((11 : Int) < 1 ∨ 12 < (11 : Int)) by decide)] at hk
    split at hk
    · omega
    · rename_i hf
      simpa [formE] using hf
   subst hn
   exact apply_go _ 89 134 rfl (fun _ _ => by kernel_rfl) (fun _ _ => by kernel_rfl) (fun A base g w hM oA ht hb => ((ap_11 f t s A base g w hM oA hb).mono fun _ _ h => lap_p hk oA ht hs h)) A a b c ca cb cc w hA hs h0
 · obtain rfl : k = 12 := h
   have hr := chk_rng (lo := 0) (hi := 199) (show ¬ ((12 : Int) < 1 ∨ 12 < (12 : Int)) by decide) rfl hk
   exact apply_go _ 89 134 rfl (fun _ _ => by kernel_rfl) (fun _ _ => by kernel_rfl) (fun A base g w hM oA ht hb => ((ap_12 n f t s A base g w hM oA hb hr).mono fun _ _ h => (h.lies hk oA ht hs).p (show (12 : Int) ≠ 11 by decide))) A a b c ca cb cc w hA hs h0
end Go.Proofs.YtgdepcnfjmobjaaGreat

/- A text of this claim. -/
namespace Go.Proofs.YtgdepcnfjmobjaaGreat
open Go.RowKit Go.BigFrame
open Tr (inR Ed)
end Go.Proofs.YtgdepcnfjmobjaaGreat

/- A text of this claim. -/
namespace Go.Proofs.YtgdepcnfjmobjaaGreat
open Go.RowKit Go.BigFrame
open Tr (inR Ed)
end Go.Proofs.YtgdepcnfjmobjaaGreat

/- A text of this claim. -/
namespace Go.Proofs.YtgdepcnfjmobjaaGreat
open Go.RowKit Go.BigFrame
open Tr (inR Ed)
end Go.Proofs.YtgdepcnfjmobjaaGreat

/- A text of this claim. -/
namespace Go.Proofs.YtgdepcnfjmobjaaGreat
open Go.RowKit Go.BigFrame
open Tr (inR Ed)
end Go.Proofs.YtgdepcnfjmobjaaGreat

/- A text of this claim. -/
namespace Go.Proofs.YtgdepcnfjmobjaaGreat
open Go.RowKit Go.BigFrame
open Tr (inR Ed)
set_option linter.unusedVariables false
theorem Own3.actIn {w : World} {base : Nat} {A : Acv} {a b c : Option Addr} {ca cb cc : Nat} (h : Own3 w base A (.slice a A.sm.length ca) (.slice b A.lp.length cb) (.slice c A.tg.length cc)) (ht : ActText A) (oA : AcOk A) :
 ActIn w A a b c ∧ A.sm.length ≤ ca ∧ A.lp.length ≤ cb ∧ A.tg.length ≤ cc ∧ ∀ q, (a = some q ∨ b = some q ∨ c = some q) → base ≤ q.block := by
 obtain ⟨B1, B2, hB1, hB2, h1, _, h2, _, h3⟩ := h.ex
 have n1 := oA.nsm
 have n2 := oA.nlp
 have n3 := oA.ntg
 obtain ⟨_, _, e1, k1, _, _⟩ := h1.row smEl
 injection e1 with f1 f2 f3
 obtain ⟨_, _, e2, k2, _, _⟩ := h2.row lpEl
 injection e2 with f4 f5 f6
 obtain ⟨_, _, e3, k3, _, _⟩ := h3.row tgEl
 injection e3 with f7 f8 f9
 exact ⟨⟨(h1.rw_ smEl).1, (h2.rw_ lpEl).1, (h3.rw_ tgEl).1, ht.name, ht.titles, ht.tags, by omega, by omega, by omega⟩, by omega, by omega, by omega, fun q hq => by
  rcases hq with e | e | e
  · exact ((h1.rw_ smEl).2.2 q e).1
  · have := ((h2.rw_ lpEl).2.2 q e).1
    omega
  · have := ((h3.rw_ tgEl).2.2 q e).1
    omega⟩
end Go.Proofs.YtgdepcnfjmobjaaGreat

/- A text of this claim. -/
namespace Go.Proofs.YtgdepcnfjmobjaaGreat
open Go.RowKit Go.BigFrame
open Tr (inR Ed)
end Go.Proofs.YtgdepcnfjmobjaaGreat

/- A text of this claim. -/
namespace Go.Proofs.YtgdepcnfjmobjaaGreat
open Go.RowKit Go.BigFrame
open Tr (inR Ed)
set_option linter.unusedVariables false
end Go.Proofs.YtgdepcnfjmobjaaGreat

/- A text of this claim. -/
namespace Go.Proofs.YtgdepcnfjmobjaaGreat
open Go.RowKit Go.BigFrame
open Tr (Ed inR)
end Go.Proofs.YtgdepcnfjmobjaaGreat

/- A text of this claim. -/
namespace Go.Proofs.YtgdepcnfjmobjaaGreat
open Go.RowKit Go.BigFrame
end Go.Proofs.YtgdepcnfjmobjaaGreat

/- A text of this claim. -/
namespace Go.Proofs.YtgdepcnfjmobjaaGreat
open Go.RowKit Go.BigFrame
open Tr (Ed inR)
end Go.Proofs.YtgdepcnfjmobjaaGreat

/- A text of this claim. -/
namespace Go.Proofs.YtgdepcnfjmobjaaGreat
open Go.RowKit Go.BigFrame
open Tr (Ed inR united bef)
end Go.Proofs.YtgdepcnfjmobjaaGreat

/- A text of this claim. -/
namespace Go.Proofs.YtgdepcnfjmobjaaGreat
open Go.RowKit Go.BigFrame
open Tr (Ed inR)
end Go.Proofs.YtgdepcnfjmobjaaGreat

/- A text of this claim. -/
namespace Go.Proofs.YtgdepcnfjmobjaaGreat
open Go.RowKit Go.BigFrame
open Tr (inR Ed)
end Go.Proofs.YtgdepcnfjmobjaaGreat

/- A text of this claim. -/
namespace Go.Proofs.YtgdepcnfjmobjaaGreat
open Go.RowKit Go.BigFrame
open Tr (inR Ed)
end Go.Proofs.YtgdepcnfjmobjaaGreat

/- A text of this claim. -/
namespace Go.Proofs.YtgdepcnfjmobjaaGreat
open Go.RowKit Go.BigFrame
open Tr (inR Ed)
end Go.Proofs.YtgdepcnfjmobjaaGreat

/- A text of this claim. -/
namespace Go.Proofs.YtgdepcnfjmobjaaGreat
open Go.RowKit Go.BigFrame
open Tr (inR Ed)
def allR : Acv → List Ed → Nat → Acv × Int × Int
 | A, [], _ => (A, 0, 0)
 | A, x :: l, i => if apE A x = 0 then allR (apZ A x) l (i + 1) else (Az, (i : Int), apE A x)
def allQ (A : Acv) (l : List Ed) : Acv × Int × Int := if 200 < l.length then (Az, 0, 3) else if chkA A = 0 then allR A l 0 else (Az, 0, chkA A)
theorem allR_step {A : Acv} {l : List Ed} {k : Nat} {x : Ed} (hx : l[k]? = some x) : allR A (l.drop k) k = if apE A x = 0 then allR (apZ A x) (l.drop (k + 1)) (k + 1) else (Az, (k : Int), apE A x) := by
 obtain ⟨h1, e1⟩ := List.getElem?_eq_some_iff.1 hx
 rw [List.drop_eq_getElem_cons h1, e1, allR]
theorem allR_end {A : Acv} {l : List Ed} {k : Nat} (h : l.length ≤ k) : allR A (l.drop k) k = (A, 0, 0) := by
 rw [List.drop_eq_nil_of_le h, allR]
def AllRes (q : Acv × Int × Int) (w : World) (e : Ending) (w' : World) : Prop :=
 Below w.heap.size w w' ∧ ∃ a b c ca cb cc, e = .returned (.tuple #[actV q.1 a b c ca cb cc, .int .i64 q.2.1, .int .i64 q.2.2]) ∧ ActIn w' q.1 a b c ∧ ∀ p, (a = some p ∨ b = some p ∨ c = some p) → w.heap.size ≤ p.block
theorem AllRes.bad {w : World} {i er : Int} {w' : World} (hb : Below w.heap.size w w') : AllRes (Az, i, er) w (.returned (.tuple #[ac0, .int .i64 i, .int .i64 er])) w' := ⟨hb, none, none, none, 0, 0, 0, by rw [actV_z], actIn_z w', fun q hq => by rcases hq with h | h | h <;> cases h⟩
theorem ERow.kept {O : Nat → Prop} {w w' : World} {a : Option Addr} {l : List Ed} (h : ERow w a l) (hk : Kept O w w') (ho : ∀ b, b < w.heap.size → ¬ O b) : ERow w' a l :=
 ⟨fun hl => by
  obtain ⟨b, off, e, hbl, hc⟩ := h.here hl
  exact ⟨b, off, e, Nat.lt_of_lt_of_le hbl hk.size, fun i x hx j v hv => hk.cell (ho b hbl) (hc i x hx j v hv)⟩⟩
theorem Below.of_kept {O : Nat → Prop} {w V X : World} (hb : Below w.heap.size w V) (hk : Kept O V X) (hO : ∀ k, k < w.heap.size → ¬ O k) : Below w.heap.size w X := Kept.below hb hk hb.size hO
set_option maxHeartbeats 8000000 in
set_option maxRecDepth 100000 in
theorem all_any (A : Acv) (a b c : Option Addr) (ca cb cc : Nat) (l : List Ed) (al : Option Addr) (cl : Nat) (w : World) (hA : ActIn w A a b c) (hr : ERow w al l) (hs : ∀ x, x ∈ l → x.s.size ≤ maxLen) :
 Calls Tryz.prog 5 #[actV A a b c ca cb cc, .slice al l.length cl] w fun e w' => AllRes (allQ A l) w e w' := by
 obtain ⟨n, hn⟩ : ∃ n, l.length = n := ⟨_, rfl⟩
 have HN := Lib.hid hn
 have HS := Lib.hid hs
 have HTX := Lib.hid hA.text
 have HR := Lib.hid hr
 obtain ⟨Q, hQ⟩ : ∃ Q, allQ A l = Q := ⟨_, rfl⟩
 obtain ⟨eA, heA⟩ : ∃ e, chkA A = e := ⟨_, rfl⟩
 have HEA := Lib.hid heA
 have HQ := Lib.hid (show Q = if 200 < n then (Az, 0, 3) else if eA = 0 then allR A l 0 else (Az, 0, eA) by rw [← hQ, ← hn, ← heA]; rfl)
 rw [hQ, hn]
 obtain ⟨V0, hV0, hb0, hs0, ha0⟩ := alloc_ac w A.name A.sport A.start (.slice a A.sm.length ca) (.slice b A.lp.length cb) (.slice c A.tg.length cc)
 obtain ⟨V1, hV1, hb1, hs1, ha1⟩ := alloc_ac V0 ⟨#[]⟩ 0 0 (.slice none 0 0) (.slice none 0 0) (.slice none 0 0)
 rw [hs0] at ha1
 have hA0 := ha0.below hb1
 have HB := Lib.hid (below_step hb0 hb1)
 have HSZ := Lib.hid (show V1.heap.size = w.heap.size + 2 from by omega)
 have HIA := Lib.hid (hA.below HB.out)
 have HA1 := Lib.hid ha1
 have DA := Lib.hid (show Calls Tryz.prog 14 #[.agg #[.string A.name, .int .i64 A.sport, .int .i64 A.start, .slice a A.sm.length ca, .slice b A.lp.length cb, .slice c A.tg.length cc]] V1 fun e w'' => e = .returned (.int .i64 eA) ∧ Below V1.heap.size V1 w'' from by
  have h := check_any A a b c ca cb cc V1 HIA.out
  unfold ChkG actV at h
  rw [heA] at h
  exact h)
 obtain ⟨z0, z1, z2, z3, z4, z5⟩ := hA0.cell
 clear hA hr hs hn hQ hb0 hb1 hs1 ha0 ha1 hA0 heA
 unfold actV
 by_cases hbig : 200 < n
 · have t1 : decide ((200 : Int) < (n : Int)) = true := by rw [decide_eq_true_eq]; omega
   have HQ1 := Lib.hid (HQ.out.trans (if_pos hbig))
   clear hbig HQ
   go_enter Tryz.func5, Tryz.ntmps5
   go_upto_region 1 with (fail)
   clear hV0 hV1 hs0
   have hR := HA1.out
   obtain ⟨r0, r1, r2, r3, r4, r5⟩ := hR.cell
   have fr := hR.free
   obtain ⟨WF, hWF, haF, hkF⟩ := hR.store ⟨#[]⟩ 0 0 (.slice none 0 0) (.slice none 0 0) (.slice none 0 0)
   have HAF := Lib.hid haF
   have HKF := Lib.hid (hkF (fun q => q = w.heap.size + 1) rfl)
   have HBF := Lib.hid (show Below w.heap.size w WF from Below.of_kept HB.out HKF.out (fun k hk e => by omega))
   clear haF hkF hR
   go_wp2_with fail
   have q := HAF.out.cell
   exact bodyPost_ret (v := .tuple #[ac0, .int .i64 0, .int .i64 3]) (by simp [results, Tryz.results5, go_sem, q, ac0]) rfl (by rw [HQ1.out]; exact AllRes.bad HBF.out)
 have t1 : decide ((200 : Int) < (n : Int)) = false := by rw [decide_eq_false_iff_not]; omega
 have HQ1 := Lib.hid (HQ.out.trans (if_neg hbig))
 have HNB := Lib.hid (show n ≤ 200 from by omega)
 clear hbig HQ
 go_enter Tryz.func5, Tryz.ntmps5
 go_upto_region 1 with (fail)
 clear hV0 hV1 hs0
 go_wp2_with fail
 refine (DA.out).mono ?_
 rintro e w3 ⟨rfl, hb3⟩
 have HB3 := Lib.hid hb3
 have HBW := Lib.hid (below_step HB.out hb3)
 have y0 := below_cell hb3 z0
 have y1 := below_cell hb3 z1
 have y2 := below_cell hb3 z2
 have y3 := below_cell hb3 z3
 have y4 := below_cell hb3 z4
 have y5 := below_cell hb3 z5
 clear z0 z1 z2 z3 z4 z5 hb3 DA
 by_cases hA : eA = 0
 case neg =>
  have u1 : (eA != 0) = true := by rw [bne_iff_ne]; exact hA
  have HQ2 := Lib.hid (HQ1.out.trans (if_neg hA))
  clear hA HQ1
  have hR := HA1.out.below HB3.out
  obtain ⟨r0, r1, r2, r3, r4, r5⟩ := hR.cell
  have fr := hR.free
  obtain ⟨WF, hWF, haF, hkF⟩ := hR.store ⟨#[]⟩ 0 0 (.slice none 0 0) (.slice none 0 0) (.slice none 0 0)
  have HAF := Lib.hid haF
  have HKF := Lib.hid (hkF (fun q => q = w.heap.size + 1) rfl)
  have HBF := Lib.hid (show Below w.heap.size w WF from Below.of_kept HBW.out HKF.out (fun k hk e => by omega))
  clear haF hkF hR
  go_wp2_with fail
  have q := HAF.out.cell
  exact bodyPost_ret (v := .tuple #[ac0, .int .i64 0, .int .i64 eA]) (by simp [results, Tryz.results5, go_sem, q, ac0]) rfl (by rw [HQ2.out]; exact AllRes.bad HBF.out)
 have HQ2 := Lib.hid (HQ1.out.trans (if_pos hA))
 clear HQ1
 subst hA
 have HOA := Lib.hid (chkA_zero.1 HEA.out)
 have DCL := Lib.hid (show Calls Tryz.prog 15 #[.agg #[.string A.name, .int .i64 A.sport, .int .i64 A.start, .slice a A.sm.length ca, .slice b A.lp.length cb, .slice c A.tg.length cc]] w3 fun e w'' => CloneRet A w3 e w'' from by
  have h := cloneA_any A a b c ca cb cc w3 (HIA.out.below HB3.out) (by have := HOA.out.nsm; omega) (by have := HOA.out.nlp; omega) (by have := HOA.out.ntg; omega)
  unfold actV at h
  exact h)
 go_wp2_with fail
 refine (DCL.out).mono ?_
 unfold CloneRet
 rintro e w4 ⟨⟨a1, b1, c1, ca1, cb1, cc1, rfl, ho4⟩, hb4⟩
 unfold actV
 obtain ⟨hI4, _, _, _, hq4⟩ := ho4.actIn HTX.out HOA.out
 have hR := (HA1.out.below HB3.out).below hb4
 obtain ⟨r0, r1, r2, r3, r4, r5⟩ := hR.cell
 have fr := hR.free
 obtain ⟨W5, hW5, ha5, hk5⟩ := hR.store A.name A.sport A.start (.slice a1 A.sm.length ca1) (.slice b1 A.lp.length cb1) (.slice c1 A.tg.length cc1)
 have HA5 := Lib.hid ha5
 have hk5' := hk5 (fun q => q = w.heap.size + 1) rfl
 have HK5 := Lib.hid (show Kept (fun q => q = w.heap.size + 1) V1 W5 from (Kept.of_below (below_step HB3.out hb4)).trans hk5')
 have HI5 := Lib.hid (show ActIn W5 A a1 b1 c1 ∧ ∀ q, (a1 = some q ∨ b1 = some q ∨ c1 = some q) → w.heap.size + 2 ≤ q.block from by
  have h2 := HSZ.out
  have h3 := HB3.out.size
  exact ⟨hI4.kept hk5' (fun q hq e => by have := hq4 q hq; omega), fun q hq => by have := hq4 q hq; omega⟩)
 have HRX := Lib.hid (fun X : ExtO (fun b => b = w.heap.size + 1) V1 => show ERow X.1 al l from HR.out.kept ((Kept.of_below HB.out).trans X.2) (fun b hb e => by omega))
 have HBX := Lib.hid (fun X : ExtO (fun b => b = w.heap.size + 1) V1 => show Below w.heap.size w X.1 from Below.of_kept HB.out X.2 (fun k hk e => by omega))
 clear hI4 hq4 ho4 hb4 hR ha5 hk5 hk5' DCL y0 y1 y2 y3 y4 y5
 go_wp2_with fail
 clear hW5 r0 r1 r2 r3 r4 r5 fr
 have hnb := HNB.out
 go_loopw [24] (fun iv wr => ∃ k : Nat, iv = .int .i64 k ∧ k ≤ n ∧ Hid (∃ B xa xb xc xca xcb xcc, AcB wr (w.heap.size + 1) B.name B.sport B.start (.slice xa B.sm.length xca) (.slice xb B.lp.length xcb) (.slice xc B.tg.length xcc) ∧ ActIn wr B xa xb xc ∧ (∀ q, (xa = some q ∨ xb = some q ∨ xc = some q) → w.heap.size + 2 ≤ q.block) ∧ Q = allR B (l.drop k) k) ∧ ∃ X : ExtO (fun b => b = w.heap.size + 1) V1, wr = X.1) (fun iv _ => n - (intOf iv).toNat)
 case atStart => exact ⟨0, rfl, by omega, Lib.hid ⟨A, a1, b1, c1, ca1, cb1, cc1, HA5.out, HI5.out.1, HI5.out.2, HQ2.out⟩, ⟨W5, HK5.out⟩, rfl⟩
 case round =>
  obtain ⟨k, rfl, hk, HST, X, rfl⟩ := hrel
  obtain ⟨B, xa, xb, xc, xca, xcb, xcc, hac, hin, hqs, heq⟩ := HST.out
  by_cases hlt : k < n
  · have t2 : decide ((k : Int) < (n : Int)) = true := by rw [decide_eq_true_eq]; omega
    have t2' : decide (k < n) = true := by simpa using hlt
    obtain ⟨x, hx⟩ : ∃ x, l[k]? = some x := ⟨_, List.getElem?_eq_getElem (by rw [HN.out]; exact hlt)⟩
    obtain ⟨bb, off, rfl, hbl, e0, e1, e2, e3, e4⟩ := (HRX.out X).at hx
    have hxs := HS.out x (List.mem_of_getElem? hx)
    have hst := heq.trans (allR_step hx)
    obtain ⟨V6, hV6, hb6, hs6, hl6⟩ := alloc_cells X.1 #[.int .i64 x.k, .int .i64 x.n, .int .i64 x.f, .int .i64 x.t, .string x.s] 36
    have u0 := hl6 0 _ rfl
    have u1 := hl6 1 _ rfl
    have u2 := hl6 2 _ rfl
    have u3 := hl6 3 _ rfl
    have u4 := hl6 4 _ rfl
    have HA6 := Lib.hid (hac.below hb6)
    have HI6 := Lib.hid (hin.below hb6)
    have HB6 := Lib.hid hb6
    obtain ⟨p0, p1, p2, p3, p4, p5⟩ := HA6.out.cell
    have DAP := Lib.hid (show Calls Tryz.prog 16 #[.agg #[.string B.name, .int .i64 B.sport, .int .i64 B.start, .slice xa B.sm.length xca, .slice xb B.lp.length xcb, .slice xc B.tg.length xcc], .agg #[.int .i64 x.k, .int .i64 x.n, .int .i64 x.f, .int .i64 x.t, .string x.s]] V6 fun e w' => ActResF (apZ B x) (apE B x) V6 e w' from by
     have h := apply_f x B xa xb xc xca xcb xcc V6 HI6.out hxs
     unfold actV edV at h
     exact h)
    obtain ⟨Z, hZ⟩ : ∃ z, apZ B x = z := ⟨_, rfl⟩
    obtain ⟨er, her⟩ : ∃ z, apE B x = z := ⟨_, rfl⟩
    rw [hZ, her] at DAP hst
    have HSTEP := Lib.hid hst
    have HS6 := Lib.hid (show V6.heap.size = X.1.heap.size + 1 from hs6)
    clear hx hxs hst hl6 hac hin hqs heq HST hb6 hs6 hZ her hbl
    go_upto_region 10 with (fail)
    clear hV6 e0 e1 e2 e3 e4
    go_wp2_with fail
    refine (DAP.out).mono ?_
    rintro e w7 ⟨hb7, ya, yb, yc, yca, ycb, ycc, rfl, hy7, hyq⟩
    unfold actV
    have hR := HA6.out.below hb7
    obtain ⟨r0, r1, r2, r3, r4, r5⟩ := hR.cell
    have fr := hR.free
    obtain ⟨W8, hW8, ha8, hk8⟩ := hR.store Z.name Z.sport Z.start (.slice ya Z.sm.length yca) (.slice yb Z.lp.length ycb) (.slice yc Z.tg.length ycc)
    have hk8' := hk8 (fun q => q = w.heap.size + 1) rfl
    obtain ⟨X8, rfl⟩ : ∃ Y : ExtO (fun b => b = w.heap.size + 1) V1, W8 = Y.1 := ⟨⟨W8, X.2.trans ((Kept.of_below (below_step HB6.out hb7)).trans hk8')⟩, rfl⟩
    have HA8 := Lib.hid ha8
    have HI8 := Lib.hid (show ActIn X8.1 Z ya yb yc ∧ ∀ q, (ya = some q ∨ yb = some q ∨ yc = some q) → w.heap.size + 2 ≤ q.block from by
     have h2 := HSZ.out
     have h3 := X.2.size
     have h4 := HS6.out
     exact ⟨hy7.kept hk8' (fun q hq e => by have := hyq q hq; omega), fun q hq => by have := hyq q hq; omega⟩)
    clear hR ha8 hk8 hk8' hb7 hy7 hyq DAP p0 p1 p2 p3 p4 p5
    go_upto_region 11 with (fail)
    clear hW8 r0 r1 r2 r3 r4 r5 fr u0 u1 u2 u3 u4
    by_cases h0 : er = 0
    · have HS2 := Lib.hid (HSTEP.out.trans (if_pos h0))
      subst h0
      clear HSTEP
      go_wp2_with fail
      go_roundw
      case rel => exact ⟨k + 1, by go_num, by omega, Lib.hid ⟨Z, ya, yb, yc, yca, ycb, ycc, HA8.out, HI8.out.1, HI8.out.2, HS2.out⟩, X8, rfl⟩
      case measure => simp [intOf]; omega
    · have HS2 := Lib.hid (HSTEP.out.trans (if_neg h0))
      have v1 : (er != 0) = true := by rw [bne_iff_ne]; exact h0
      have HB8 := Lib.hid (HBX.out X8)
      clear h0 HSTEP
      have hR := HA8.out
      obtain ⟨r0, r1, r2, r3, r4, r5⟩ := hR.cell
      have fr := hR.free
      obtain ⟨WF, hWF, haF, hkF⟩ := hR.store ⟨#[]⟩ 0 0 (.slice none 0 0) (.slice none 0 0) (.slice none 0 0)
      have HAF := Lib.hid haF
      have HKF := Lib.hid (hkF (fun q => q = w.heap.size + 1) rfl)
      have HBF := Lib.hid (show Below w.heap.size w WF from Below.of_kept HB8.out HKF.out (fun k hk e => by omega))
      clear haF hkF hR
      go_wp2_with fail
      have q := HAF.out.cell
      exact bodyPost_ret (v := .tuple #[ac0, .int .i64 k, .int .i64 er]) (by simp [results, Tryz.results5, go_sem, q, ac0]) rfl (by rw [HS2.out]; exact AllRes.bad HBF.out)
  · have t2 : decide ((k : Int) < (n : Int)) = false := by rw [decide_eq_false_iff_not]; omega
    have t2' : decide (k < n) = false := by simpa using hlt
    have HQ3 := Lib.hid (heq.trans (allR_end (by rw [HN.out]; omega)))
    have HB8 := Lib.hid (HBX.out X)
    obtain ⟨r0, r1, r2, r3, r4, r5⟩ := hac.cell
    have fr := hac.free
    obtain ⟨WF, hWF, haF, hkF⟩ := hac.store B.name B.sport B.start (.slice xa B.sm.length xca) (.slice xb B.lp.length xcb) (.slice xc B.tg.length xcc)
    have HAF := Lib.hid haF
    have hkF' := hkF (fun q => q = w.heap.size + 1) rfl
    have HBF := Lib.hid (show Below w.heap.size w WF from Below.of_kept HB8.out hkF' (fun k hk e => by omega))
    have HIF := Lib.hid (show ActIn WF B xa xb xc ∧ ∀ q, (xa = some q ∨ xb = some q ∨ xc = some q) → w.heap.size ≤ q.block from
     ⟨hin.kept hkF' (fun q hq e => by have := hqs q hq; omega), fun q hq => by have := hqs q hq; omega⟩)
    clear haF hkF hkF' hac hin hqs heq HST
    go_wp2_with fail
    have q := HAF.out.cell
    exact bodyPost_ret (v := .tuple #[.agg #[.string B.name, .int .i64 B.sport, .int .i64 B.start, .slice xa B.sm.length xca, .slice xb B.lp.length xcb, .slice xc B.tg.length xcc], .int .i64 0, .int .i64 0]) (by simp [results, Tryz.results5, go_sem, q]) rfl (by rw [HQ3.out]; exact ⟨HBF.out, xa, xb, xc, xca, xcb, xcc, rfl, HIF.out.1, HIF.out.2⟩)
end Go.Proofs.YtgdepcnfjmobjaaGreat

/- A text of this claim. -/
namespace Go.Proofs.YtgdepcnfjmobjaaGreat
open Go.RowKit Go.BigFrame
open Tr (inR Ed)
theorem apZ_len (A : Acv) (x : Ed) : (apZ A x).sm.length ≤ 20000 ∧ (apZ A x).lp.length ≤ 200 ∧ (apZ A x).tg.length ≤ 20 := by
 unfold apZ
 by_cases h : apE A x = 0
 · rw [if_pos h]
   have h2 : chkA (appZ A x) = 0 := by
    by_cases h0 : apA A x = 0
    · rw [apE_ok h0] at h
      by_cases h1 : appE A x = 0
      · rw [if_neg (by simpa using h1)] at h
        exact h
      · rw [if_pos h1] at h
        exact absurd h h1
    · rw [(apE_bad h0).1] at h
      exact absurd h h0
   have := chkA_zero.1 h2
   exact ⟨this.nsm, this.nlp, this.ntg⟩
 · rw [if_neg h]
   exact ⟨Nat.zero_le _, Nat.zero_le _, Nat.zero_le _⟩
end Go.Proofs.YtgdepcnfjmobjaaGreat

/- A text of this claim. -/
namespace Go.Proofs.YtgdepcnfjmobjaaGreat
open Go.RowKit Go.BigFrame
open Tr (inR Ed)
theorem allR_len : ∀ (l : List Ed) (A : Acv) (i : Nat), (A.sm.length ≤ 20000 ∧ A.lp.length ≤ 200 ∧ A.tg.length ≤ 20) → ((allR A l i).1.sm.length ≤ 20000 ∧ (allR A l i).1.lp.length ≤ 200 ∧ (allR A l i).1.tg.length ≤ 20)
 | [], A, i, h => h
 | x :: l, A, i, h => by
  rw [allR]
  split
  · exact allR_len l _ _ (apZ_len A x)
  · exact ⟨Nat.zero_le _, Nat.zero_le _, Nat.zero_le _⟩
end Go.Proofs.YtgdepcnfjmobjaaGreat

/- A text of this claim. -/
namespace Go.Proofs.YtgdepcnfjmobjaaGreat
open Go.RowKit Go.BigFrame
open Tr (inR Ed)
def nowA (A : Acv) (L : List Ed) : Acv := L.foldl apZ A
theorem nowA_snoc (A : Acv) (L : List Ed) (x : Ed) : nowA A (L ++ [x]) = apZ (nowA A L) x := by unfold nowA; rw [List.foldl_append]; rfl
theorem chkA_z : chkA Az = 8 := by
 unfold chkA
 rw [if_pos (show nameB Az.name = false from rfl)]
theorem apZ_z (x : Ed) : apZ Az x = Az := by
 have h : apE Az x = 8 := by
  unfold apE
  rw [chkA_z, if_pos (by decide)]
 unfold apZ
 rw [h, if_neg (by decide)]
theorem nowA_z : ∀ L : List Ed, nowA Az L = Az
 | [] => rfl
 | x :: L => by
  show nowA (apZ Az x) L = Az
  rw [apZ_z]
  exact nowA_z L
theorem allR_now : ∀ (L : List Ed) (A : Acv) (i : Nat), (allR A L i).1 = nowA A L
 | [], A, i => rfl
 | x :: L, A, i => by
  rw [allR]
  show _ = nowA (apZ A x) L
  by_cases h : apE A x = 0
  · rw [if_pos h]
    exact allR_now L _ _
  · rw [if_neg h]
    have : apZ A x = Az := by unfold apZ; rw [if_neg h]
    rw [this, nowA_z]
theorem allQ_now {A : Acv} {L : List Ed} (h0 : chkA A = 0) (hl : L.length ≤ 200) : (allQ A L).1 = nowA A L := by
 unfold allQ
 rw [if_neg (by omega), if_pos h0]
 exact allR_now L A 0
theorem nowA_len {A : Acv} (h0 : chkA A = 0) (L : List Ed) : (nowA A L).sm.length ≤ 20000 ∧ (nowA A L).lp.length ≤ 200 ∧ (nowA A L).tg.length ≤ 20 := by
 have := chkA_zero.1 h0
 rw [← allR_now L A 0]
 exact allR_len L A 0 ⟨this.nsm, this.nlp, this.ntg⟩
structure StOk (A : Acv) (L U : List Ed) : Prop where
 chk : chkA A = 0
 len : L.length + U.length ≤ 200
 tl : ∀ x, x ∈ L → x.s.size ≤ maxLen
 tu : ∀ x, x ∈ U → x.s.size ≤ maxLen
theorem StOk.start {A : Acv} (h : chkA A = 0) : StOk A [] [] := ⟨h, Nat.zero_le _, fun x hx => (by cases hx), fun x hx => (by cases hx)⟩
def RowOf (A : Acv) (a b c : Option Addr) (g : Nat) : Prop := (0 < A.sm.length ∧ ∃ q, a = some q ∧ q.block = g) ∨ (0 < A.lp.length ∧ ∃ q, b = some q ∧ q.block = g) ∨ (0 < A.tg.length ∧ ∃ q, c = some q ∧ q.block = g)
theorem Rw.keptN {α : Type} {C : α → List Value} {k : Nat} {O : Nat → Prop} {w w' : World} {a : Option Addr} {l : List α} (h : Rw C k w a l) (hk : Kept O w w') (ho : ∀ q, 0 < l.length → a = some q → ¬ O q.block) : Rw C k w' a l :=
 ⟨fun hl => by
  obtain ⟨b, off, e, hbl, hc⟩ := h.here hl
  exact ⟨b, off, e, Nat.lt_of_lt_of_le hbl hk.size, fun i x hx j v hv => hk.cell (ho ⟨b, off, none⟩ hl e) (hc i x hx j v hv)⟩⟩
theorem Rw.ltN {α : Type} {C : α → List Value} {k : Nat} {w : World} {a : Option Addr} {l : List α} (h : Rw C k w a l) {q : Addr} (hl : 0 < l.length) (hq : a = some q) : q.block < w.heap.size := by
 obtain ⟨b, off, e, hbl, _⟩ := h.here hl
 rw [hq] at e
 injection e with e
 rw [e]
 exact hbl
theorem ActIn.keptN {O : Nat → Prop} {w w' : World} {A : Acv} {a b c : Option Addr} (h : ActIn w A a b c) (hk : Kept O w w') (ho : ∀ g, RowOf A a b c g → ¬ O g) : ActIn w' A a b c :=
 ⟨h.sm.keptN hk (fun q hl e => ho _ (Or.inl ⟨hl, q, e, rfl⟩)), h.lp.keptN hk (fun q hl e => ho _ (Or.inr (Or.inl ⟨hl, q, e, rfl⟩))), h.tg.keptN hk (fun q hl e => ho _ (Or.inr (Or.inr ⟨hl, q, e, rfl⟩))), h.name, h.titles, h.tags, h.nsm, h.nlp, h.ntg⟩
theorem ActIn.ltN {w : World} {A : Acv} {a b c : Option Addr} (h : ActIn w A a b c) {g : Nat} (hg : RowOf A a b c g) : g < w.heap.size := by
 rcases hg with ⟨hl, q, e, rfl⟩ | ⟨hl, q, e, rfl⟩ | ⟨hl, q, e, rfl⟩
 · exact h.sm.ltN hl e
 · exact h.lp.ltN hl e
 · exact h.tg.ltN hl e
theorem RowOf.of {A : Acv} {a b c : Option Addr} {g : Nat} (h : RowOf A a b c g) {O : Nat → Prop} (ho : ∀ q, (a = some q ∨ b = some q ∨ c = some q) → O q.block) : O g := by
 rcases h with ⟨_, q, e, rfl⟩ | ⟨_, q, e, rfl⟩ | ⟨_, q, e, rfl⟩
 · exact ho q (Or.inl e)
 · exact ho q (Or.inr (Or.inl e))
 · exact ho q (Or.inr (Or.inr e))
theorem EdOwn.keptO {O : Nat → Prop} {w w' : World} {base : Nat} {v : Value} {l : List Ed} (h : EdOwn w base v l) (hk : Kept O w w') (ho : ∀ g, v.ownBlock = some g → ¬ O g) : EdOwn w' base v l := by
 refine ⟨h.1, ?_⟩
 rcases h.2 with e | ⟨g, cap, cur, h1, h2, h3, h4⟩
 · exact Or.inl e
 · exact Or.inr ⟨g, cap, cur, h1, h2, (hk.block g (lt_of_block h3) (ho g (by rw [h1]; rfl))).trans h3, h4⟩
theorem EdOwn.cutLast {w : World} {base : Nat} {v : Value} {L : List Ed} {x : Ed} (h : EdOwn w base v (L ++ [x])) :
 ∃ g cap, v = .slice (some ⟨g, 0, none⟩) (L.length + 1) cap ∧ EdOwn w base (.slice (some ⟨g, 0, none⟩) L.length cap) L ∧ L.length + 1 ≤ cap ∧ cap ≤ maxLen := by
 rcases h.2 with ⟨_, h0⟩ | ⟨g, cap, cur, h1, h2, h3, h4, h5, h6, h7⟩
 · rw [List.length_append, List.length_singleton] at h0
   omega
 · rw [List.length_append, List.length_singleton] at h1 h4 h7
   refine ⟨g, cap, h1, ⟨flatEd_len L, Or.inr ⟨g, cap, cur, rfl, h2, h3, by omega, h5, h6, ?_⟩⟩, h4, h5⟩
   have e : (cur.toList.take ((L.length + 1) * 5)).take (L.length * 5) = ((L ++ [x]).flatMap edC).take (L.length * 5) := by rw [h7]
   rw [List.take_take, Nat.min_eq_left (by omega)] at e
   rw [e, List.flatMap_append, List.take_append_of_le_length (by rw [flatEd_len]; omega), List.take_of_length_le (by rw [flatEd_len]; omega)]
theorem append_there {P : Program} {w w' : World} {base : Nat} {t ty e : TypeId} {i : TypeInfo} {z : Value} {size bytes : Nat} (ht : P.underlying t = some (.slice e)) (hi : P.info? e = some i) (hz : i.zero = some z)
 (hsize : i.size = size) (hby : i.bytes = bytes) (hzs : z.cells.size = size) (hsz : 0 < size) {v v' : Value} {n : Nat} {xs : List Value} (hown : w.ownsRow base e size v n xs)
 {a : Addr} {m c : Nat} {news : List Value} (hl : news.length = m * size) (hnews : ∀ j u, news[j]? = some u → w.cell? (a.add j) = some u) (h1 : ∀ u ∈ news, u.oneCell' = true)
 (h63 : n + m ≤ maxLen) (hbytes : (n + m) * bytes ≤ 140737488355328) (hrun : (Builtin.append_ #[t, t] ty #[v, .slice (some a) m c]).run P w = .ok v' w') :
 ∀ g, v'.ownBlock = some g → v.ownBlock = some g ∨ w.heap.size ≤ g := by
 have hsmall : n + m ≤ 9223372036854775807 := by simp only [maxLen] at h63; omega
 rcases hown.2 with ⟨rfl, rfl⟩ | ⟨b, cap, cur, rfl, hbg, hg, hnc, hcm, hcs, htake⟩
 · have hx : xs = [] := List.eq_nil_of_length_eq_zero (by simpa using hown.1)
   subst hx
   obtain ⟨v2, w2, hr, h2, _⟩ := run_append_own (P := P) w w.heap.size t ty e i z size bytes ht hi hz hsize hby hzs hsz _ 0 [] (World.ownsRow_nil w _ e size) a m c news hl hnews h1 h63 hbytes (Nat.le_refl _)
   rw [hrun] at hr
   injection hr with e1 e2
   subst e1 e2
   exact fun g hg => Or.inr (h2.lt g hg |>.1)
 · subst hsize
   subst hby
   by_cases hroom : n + m ≤ cap
   · have hfit : n * i.size + news.length ≤ cur.size := by rw [hl, hcs, ← Nat.add_mul]; exact Nat.mul_le_mul_right _ hroom
     have hr := run_append_room (P := P) w t ty e i ht hi b n cap cur hg a m c news hl hnews h1 hroom hfit
     rw [hrun] at hr
     injection hr with e1 e2
     subst e1
     exact fun g hg => Or.inl hg
   · have holds : ∀ j u, xs[j]? = some u → w.cell? ((⟨b, 0, none⟩ : Addr).add j) = some u := hown.cells (g := b) rfl
     have hr := run_append_grow (P := P) w t ty e i z ht hi hz ⟨b, 0, none⟩ n cap xs hown.1 holds a m c news hl hnews (by omega) (by omega) (growslice_fits (by omega) hbytes)
     rw [hrun] at hr
     injection hr with e1 e2
     subst e1
     intro g hg
     injection hg with hg
     exact Or.inr (Nat.le_of_eq hg)
theorem wp_append_ed {o : Oper} {a : Act} {K : Act → World → Prop} {Q : Exit → Act → World → Prop} {w : World} (s x : Operand)
 (ho : o.op = .call { callee := .builtin .append, args := #[s, x], argTypes := #[27, 27] }) {v : Value} {l : List Ed} (hs : a.eval s = v) (hown : EdOwn w 0 v l)
 {g k : Nat} {y : Ed} (hx : a.eval x = .slice (some ⟨g, 0, none⟩) 1 k) (hr : ∀ j u, (edC y)[j]? = some u → w.cell? ⟨g, j, none⟩ = some u) (hn : l.length + 1 ≤ 1000000)
 (h : ∀ a' n' c' w', EdOwn w' 0 (.slice a' n' c') (l ++ [y]) → n' = l.length + 1 → w.grownBy w' v.ownBlock → (∀ b, (Value.slice a' n' c').ownBlock = some b → v.ownBlock = some b ∨ w.heap.size ≤ b) → K (a.put o.dst (.slice a' n' c')) w') : o.wp Tryz.prog a w K Q := by
 obtain ⟨i0, hi0, hy0, hy1, hy2⟩ := info_parts (show (Tryz.prog.info? 36).map (fun i => (i.zero, i.size, i.bytes)) = some (some (.agg #[.int .i64 0, .int .i64 0, .int .i64 0, .int .i64 0, .string ⟨#[]⟩]), 5, 48) by kernel_rfl)
 have hnews : ∀ j u, (edC y)[j]? = some u → w.cell? ((⟨g, 0, none⟩ : Addr).add j) = some u := fun j u hj => by
  rw [addr_plus, Nat.zero_add]
  exact hr j u hj
 have h63 : l.length + 1 ≤ maxLen := by unfold maxLen; omega
 have hby : (l.length + 1) * 48 ≤ 140737488355328 := by omega
 obtain ⟨v', w', hrun, h2, h3, h4⟩ := run_append_own (P := Tryz.prog) w 0 27 o.type 36 i0 _ 5 48 Tryz.underlying27 hi0 hy0 hy1 hy2 rfl (by decide) v l.length (l.flatMap edC) hown ⟨g, 0, none⟩ 1 k (edC y) (by rfl) hnews (edC_one y) h63 hby (Nat.zero_le _)
 have h5 := append_there (P := Tryz.prog) Tryz.underlying27 hi0 hy0 hy1 hy2 rfl (by decide) hown (by rfl) hnews (edC_one y) h63 hby hrun
 have hE : EdOwn w' 0 v' (l ++ [y]) := EdOwn.snoc h2
 obtain ⟨av, cv, rfl, _⟩ := hE.row
 unfold Oper.wp execOp
 simp only [ho, resolve, invoke, builtin, Sem.run_bind, Sem.run_pure, Result.andThen_ok, List.map_toArray, List.map_cons, List.map_nil, hs, hx, hrun]
 exact h _ _ _ w' hE (by rw [List.length_append]; rfl) h3 h5
def spC (A Z : Acv) (a b c a' b' c' : Option Addr) (ca cb cc ca' cb' cc' : Nat) (ve vu : Value) : Array Value :=
 #[.string A.name, .int .i64 A.sport, .int .i64 A.start, .slice a A.sm.length ca, .slice b A.lp.length cb, .slice c A.tg.length cc,
  .string Z.name, .int .i64 Z.sport, .int .i64 Z.start, .slice a' Z.sm.length ca', .slice b' Z.lp.length cb', .slice c' Z.tg.length cc', ve, vu]
structure StS (P : Nat → Prop) (s : Nat) (ve vu : Value) (R : Nat → Prop) : Prop where
 st : P s
 eb : ∀ g, ve.ownBlock = some g → P g ∧ g ≠ s ∧ vu.ownBlock ≠ some g
 ub : ∀ g, vu.ownBlock = some g → P g ∧ g ≠ s
 rows : ∀ g, R g → P g ∧ g ≠ s ∧ ve.ownBlock ≠ some g ∧ vu.ownBlock ≠ some g
structure StP (w : World) (P : Nat → Prop) (s : Nat) (A : Acv) (L U : List Ed) : Prop where
 ok : StOk A L U
 ex : ∃ a b c a' b' c' ca cb cc ca' cb' cc' ve vu, w.heap[s]? = some (.cells (spC A (nowA A L) a b c a' b' c' ca cb cc ca' cb' cc' ve vu) 46 (0, 0)) ∧
  ActIn w A a b c ∧ ActIn w (nowA A L) a' b' c' ∧ EdOwn w 0 ve L ∧ EdOwn w 0 vu U ∧ StS P s ve vu (fun g => RowOf A a b c g ∨ RowOf (nowA A L) a' b' c' g)
theorem StP.kept {O P : Nat → Prop} {w w' : World} {s : Nat} {A : Acv} {L U : List Ed} (h : StP w P s A L U) (hk : Kept O w w') (hO : ∀ g, P g → ¬ O g) : StP w' P s A L U := by
 obtain ⟨h0, a, b, c, a', b', c', ca, cb, cc, ca', cb', cc', ve, vu, h1, h2, h3, h4, h5, h6⟩ := h
 exact ⟨h0, a, b, c, a', b', c', ca, cb, cc, ca', cb', cc', ve, vu, (hk.block s (lt_of_block h1) (hO _ h6.st)).trans h1, h2.keptN hk (fun g hg => hO g (h6.rows g (Or.inl hg)).1), h3.keptN hk (fun g hg => hO g (h6.rows g (Or.inr hg)).1),
  h4.keptO hk (fun g hg => hO g (h6.eb g hg).1), h5.keptO hk (fun g hg => hO g (h6.ub g hg).1), h6⟩
def Wider (P : Nat → Prop) (w w' : World) (g : Nat) : Prop := P g ∨ (w.heap.size ≤ g ∧ g < w'.heap.size)
end Go.Proofs.YtgdepcnfjmobjaaGreat

/- A text of this claim. -/
namespace Go.Proofs.YtgdepcnfjmobjaaGreat
open Tr (inR Ed)
def can (A : Acv) (x : Ed) : Prop :=
 (x.k = 3 → x.s ∉ A.tg) ∧ (x.k = 4 → x.s ∈ A.tg) ∧ (x.k = 8 → A.sm ≠ [] ∧ 0 ≤ x.f ∧ x.f < x.t ∧ x.t ≤ spanS A.sm)
def cans : Acv → List Ed → Prop
 | _, [] => True
 | A, x :: l => can A x ∧ cans (appZ A x) l
def raw (A : Acv) (l : List Ed) : Acv := l.foldl appZ A
def TSrt (A : Acv) : Prop := A.tg.Pairwise fun x y => bL x < bL y
theorem can_of {A B : Acv} {x : Ed} (h : can A x) (h1 : A.tg = B.tg) (h2 : A.sm ≠ [] → B.sm ≠ []) (h3 : spanS A.sm = spanS B.sm) : can B x :=
 ⟨fun k => h1 ▸ h.1 k, fun k => h1 ▸ h.2.1 k, fun k => ⟨h2 (h.2.2 k).1, (h.2.2 k).2.1, (h.2.2 k).2.2.1, h3 ▸ (h.2.2 k).2.2.2⟩⟩
theorem can_else {A : Acv} {x : Ed} (h3 : x.k ≠ 3) (h4 : x.k ≠ 4) (h8 : x.k ≠ 8) : can A x := ⟨fun k => absurd k h3, fun k => absurd k h4, fun k => absurd k h8⟩
theorem tg_unique : ∀ {a b : List ByteArray}, a.Pairwise (fun x y => bL x < bL y) → b.Pairwise (fun x y => bL x < bL y) → (∀ s, s ∈ a ↔ s ∈ b) → a = b
 | [], [], _, _, _ => rfl
 | [], y :: b, _, _, h => absurd ((h y).2 (List.mem_cons_self ..)) (by simp)
 | x :: a, [], _, _, h => absurd ((h x).1 (List.mem_cons_self ..)) (by simp)
 | x :: a, y :: b, ha, hb, h => by
  have ha' := List.pairwise_cons.1 ha
  have hb' := List.pairwise_cons.1 hb
  have hxy : x = y := by
   rcases List.mem_cons.1 ((h x).1 (List.mem_cons_self ..)) with e | e
   · exact e
   · rcases List.mem_cons.1 ((h y).2 (List.mem_cons_self ..)) with e2 | e2
     · exact e2.symm
     · exact absurd (List.lt_trans (hb'.1 x e) (ha'.1 y e2)) (bL_irr _)
  subst hxy
  congr 1
  refine tg_unique ha'.2 hb'.2 fun s => ⟨fun hs => ?_, fun hs => ?_⟩
  · rcases List.mem_cons.1 ((h s).1 (List.mem_cons_of_mem _ hs)) with e | e
    · subst e
      exact absurd (ha'.1 s hs) (bL_irr _)
    · exact e
  · rcases List.mem_cons.1 ((h s).2 (List.mem_cons_of_mem _ hs)) with e | e
    · subst e
      exact absurd (hb'.1 s hs) (bL_irr _)
    · exact e
theorem put_srt {T : List ByteArray} (h : T.Pairwise fun x y => bL x < bL y) (s : ByteArray) : (mergeT T [s]).Pairwise fun x y => bL x < bL y := mergeT_sorted _ T [s] rfl h (List.pairwise_singleton _ _)
theorem put_mem (T : List ByteArray) (s t : ByteArray) : t ∈ mergeT T [s] ↔ t ∈ T ∨ t = s := by
 rw [mergeT_mem _ T [s] rfl t, List.mem_singleton]
theorem del_srt {T : List ByteArray} (h : T.Pairwise fun x y => bL x < bL y) (s : ByteArray) : (delT s T).Pairwise fun x y => bL x < bL y := h.filter _
theorem del_mem (T : List ByteArray) (s t : ByteArray) : t ∈ delT s T ↔ t ∈ T ∧ t ≠ s := by
 unfold delT
 rw [List.mem_filter, decide_eq_true_eq]
def tagF (x : Ed) (T : List ByteArray) : List ByteArray := if x.k = 3 then mergeT T [x.s] else delT x.s T
theorem tagF_srt {T : List ByteArray} (h : T.Pairwise fun x y => bL x < bL y) (x : Ed) : (tagF x T).Pairwise fun x y => bL x < bL y := by
 unfold tagF
 split
 · exact put_srt h _
 · exact del_srt h _
theorem tagF_mem (x : Ed) (T : List ByteArray) (t : ByteArray) (h : t ≠ x.s) : t ∈ tagF x T ↔ t ∈ T := by
 unfold tagF
 split
 · rw [put_mem]
   exact ⟨fun e => e.resolve_right h, Or.inl⟩
 · rw [del_mem]
   exact ⟨fun e => e.1, fun e => ⟨e, h⟩⟩
theorem tagF_self (x : Ed) (T : List ByteArray) : x.s ∈ tagF x T ↔ x.k = 3 := by
 unfold tagF
 split
 · rename_i h
   rw [put_mem]
   exact ⟨fun _ => h, fun _ => Or.inr rfl⟩
 · rename_i h
   rw [del_mem]
   exact ⟨fun e => absurd rfl e.2, fun e => absurd e h⟩
theorem tagF_comm {T : List ByteArray} (h : T.Pairwise fun x y => bL x < bL y) {x y : Ed} (hxy : x.s ≠ y.s) : tagF y (tagF x T) = tagF x (tagF y T) := by
 refine tg_unique (tagF_srt (tagF_srt h _) _) (tagF_srt (tagF_srt h _) _) fun t => ?_
 by_cases h1 : t = x.s
 · subst h1
   rw [tagF_mem y _ _ hxy, tagF_self, tagF_self]
 · by_cases h2 : t = y.s
   · subst h2
     rw [tagF_self, tagF_mem x _ _ h1, tagF_self]
   · rw [tagF_mem y _ _ h2, tagF_mem x _ _ h1, tagF_mem x _ _ h1, tagF_mem y _ _ h2]
theorem tag_back {T : List ByteArray} (h : T.Pairwise fun x y => bL x < bL y) {x y : Ed} (hs : x.s = y.s) (hk : x.k = 3 ∧ y.k = 4 ∧ x.s ∉ T ∨ x.k = 4 ∧ y.k = 3 ∧ x.s ∈ T) : tagF y (tagF x T) = T := by
 refine tg_unique (tagF_srt (tagF_srt h _) _) h fun t => ?_
 by_cases h1 : t = y.s
 · subst h1
   rw [tagF_self]
   rcases hk with ⟨k1, k2, k3⟩ | ⟨k1, k2, k3⟩
   · rw [← hs]
     exact ⟨fun e => absurd (k2.symm.trans e) (by decide), fun e => absurd e k3⟩
   · rw [← hs]
     exact ⟨fun _ => k3, fun _ => k2⟩
 · rw [tagF_mem y _ _ h1, tagF_mem x _ _ (by rw [hs]; exact h1)]
theorem appZ_tag {A : Acv} {x : Ed} (h : x.k = 3 ∨ x.k = 4) : appZ A x = { A with tg := tagF x A.tg } := by
 unfold tagF
 rcases h with h | h
 · rw [appZ_3 h, if_pos h]
 · rw [appZ_4 h, if_neg (by omega)]
structure Nice (r : Sm → Sm) : Prop where
 tm : ∀ s, (r s).tm = s.tm
 am : ∀ p q n, amidS (r p) (r q) n = r (amidS p q n)
 back : ∀ d s, backS d (r s) = r (backS d s)
theorem nice_raise (n : Int) : Nice (raiseS n) := by
 refine ⟨fun s => rfl, fun p q m => ?_, fun d s => rfl⟩
 unfold amidS raiseS
 simp only [Sm.mk.injEq, true_and, and_true]
 unfold betw
 rw [show q.z + n - (p.z + n) = q.z - p.z by omega]
 omega
theorem nice_clear (n : Int) : Nice (clearS n) := by
 refine ⟨fun s => ?_, fun p q m => ?_, fun d s => ?_⟩ <;> unfold clearS
 · split
   · rfl
   · split <;> rfl
 · split
   · rfl
   · split <;> rfl
 · split
   · rfl
   · split <;> rfl
section
variable {r : Sm → Sm} (hr : Nice r)
include hr
theorem lb_map : ∀ (l : List Sm) (n : Int), lbS (l.map r) n = lbS l n
 | [], _ => rfl
 | s :: l, n => by rw [List.map_cons, lbS, lbS, hr.tm, lb_map l n]
theorem span_map (l : List Sm) : spanS (l.map r) = spanS l := by
 unfold spanS
 rw [List.length_map, List.getElem?_map]
 cases l[l.length - 1]? with
 | none => rfl
 | some s => exact hr.tm s
theorem where_map {l : List Sm} {n : Int} (hl : l ≠ []) (hn : n ≤ spanS l) : whereS (l.map r) n = r (whereS l n) := by
 have hlt : lbS l n < l.length := by
  rcases Nat.lt_or_ge (lbS l n) l.length with h | h
  · exact h
  · exfalso
    have h1 : ∀ (l : List Sm) (i : Nat) (s : Sm), i < lbS l n → l[i]? = some s → s.tm < n := by
     intro l
     induction l with
     | nil => intro i s hi _; simp [lbS] at hi
     | cons u l ih =>
      intro i s hi hs
      rw [lbS] at hi
      split at hi
      · rename_i hu
        cases i with
        | zero => injection hs with hs; subst hs; exact hu
        | succ i => exact ih i s (by omega) hs
      · omega
    have h0 : 0 < l.length := List.length_pos_iff.2 hl
    have h2 := h1 l (l.length - 1) _ (by omega) (List.getElem?_eq_getElem (by omega))
    unfold spanS at hn
    rw [List.getElem?_eq_getElem (show l.length - 1 < l.length by omega)] at hn
    simp only at hn
    omega
 unfold whereS
 rw [lb_map hr, List.getElem?_map, List.getElem?_map, List.getElem?_eq_getElem hlt, List.getElem?_eq_getElem (show lbS l n - 1 < l.length by omega)]
 simp only [Option.map_some]
 rw [hr.tm]
 split
 · rfl
 · exact hr.am _ _ _
theorem cut_map {l : List Sm} {f t : Int} (hl : l ≠ []) (hf : f < t) (ht : t ≤ spanS l) : cutL (l.map r) f t = (cutL l f t).map r := by
 unfold cutL
 rw [where_map hr hl (by omega), where_map hr hl ht, List.filter_map]
 simp only [List.map_cons, List.map_append, List.map_nil]
 have e : ((fun s : Sm => decide (f < s.tm) && decide (s.tm < t)) ∘ r) = fun s => decide (f < s.tm) && decide (s.tm < t) := by
  funext s
  show (decide (f < (r s).tm) && decide ((r s).tm < t)) = _
  rw [hr.tm]
 rw [e]
theorem part_map (A : Acv) (l : List Sm) (d : Int) : partA { A with sm := A.sm.map r } (l.map r) d = { partA A l d with sm := (partA A l d).sm.map r } := by
 have e : (l.map r).map (backS d) = (l.map (backS d)).map r := by
  rw [List.map_map, List.map_map]
  exact List.map_congr_left fun s _ => hr.back d s
 unfold partA
 simp only
 rw [e, span_map hr]
end
theorem win_map (r : Sm → Sm) (l : List Sm) (w i : Nat) : winZ (l.map r) w i = ((l.take (min (i + w + 1) l.length)).drop (i - w)).map (Sm.z ∘ r) := by
 unfold winZ
 rw [List.length_map, ← List.map_take, ← List.map_drop, List.map_map]
theorem mid_add (n : Int) {zs : List Int} (h : zs ≠ []) : midL (zs.map (· + n)) = midL zs + n := by
 unfold midL
 have e : (zs.map (· + n)).mergeSort (fun x y => decide (x ≤ y)) = (zs.mergeSort fun x y => decide (x ≤ y)).map (· + n) := by
  refine (List.map_mergeSort ?_).symm
  intro a _ b _
  rw [Bool.eq_iff_iff, decide_eq_true_eq, decide_eq_true_eq]
  constructor <;> intro h <;> omega
 rw [e, List.length_map]
 have hl : (zs.length - 1) / 2 < (zs.mergeSort fun x y => decide (x ≤ y)).length := by
  rw [List.length_mergeSort]
  have := List.length_pos_iff.2 h
  omega
 rw [List.getD_eq_getElem?_getD, List.getD_eq_getElem?_getD, List.getElem?_map, List.getElem?_eq_getElem hl]
 rfl
theorem level_raise (n : Int) (l : List Sm) (w : Nat) : levelS (l.map (raiseS n)) w = (levelS l w).map (raiseS n) := by
 unfold levelS
 apply List.ext_getElem?
 intro i
 rw [List.getElem?_mapIdx, List.getElem?_map, List.getElem?_map, List.getElem?_mapIdx]
 cases hx : l[i]? with
 | none => rfl
 | some s =>
  have hi := (List.getElem?_eq_some_iff.1 hx).1
  simp only [Option.map_some, Option.some.injEq]
  unfold levS
  have hw : winZ (l.map (raiseS n)) w i = (winZ l w i).map (· + n) := by
   rw [win_map]
   unfold winZ
   rw [List.map_map]
   rfl
  have hne : winZ l w i ≠ [] := by
   unfold winZ
   rw [ne_eq, List.map_eq_nil_iff, ← List.length_eq_zero_iff, List.length_drop, List.length_take]
   omega
  rw [hw, mid_add n hne]
  rfl
theorem clear_z (n : Int) (s : Sm) : (clearS n s).z = s.z := by
 unfold clearS
 split
 · rfl
 · split <;> rfl
theorem level_clear (n : Int) (l : List Sm) (w : Nat) : levelS (l.map (clearS n)) w = (levelS l w).map (clearS n) := by
 unfold levelS
 apply List.ext_getElem?
 intro i
 rw [List.getElem?_mapIdx, List.getElem?_map, List.getElem?_map, List.getElem?_mapIdx]
 cases hx : l[i]? with
 | none => rfl
 | some s =>
  simp only [Option.map_some, Option.some.injEq]
  unfold levS
  have hw : winZ (l.map (clearS n)) w i = winZ l w i := by
   rw [win_map]
   unfold winZ
   exact List.map_congr_left fun s _ => clear_z n s
  rw [hw]
  unfold clearS
  split
  · rfl
  · split <;> rfl
theorem level_zero (l : List Sm) : levelS l 0 = l := by
 unfold levelS
 apply List.ext_getElem?
 intro i
 rw [List.getElem?_mapIdx]
 cases hx : l[i]? with
 | none => rfl
 | some s =>
  obtain ⟨hi, hs⟩ := List.getElem?_eq_some_iff.1 hx
  simp only [Option.map_some, Option.some.injEq]
  have hw : winZ l 0 i = [s.z] := by
   unfold winZ
   rw [show min (i + 0 + 1) l.length = i + 1 by omega, Nat.sub_zero, List.take_add_one, List.drop_append_of_le_length (by rw [List.length_take]; omega), List.drop_eq_nil_of_le (by rw [List.length_take]; omega), hx]
   rfl
  unfold levS
  rw [hw]
  have : midL [s.z] = s.z := by
   unfold midL
   rw [List.mergeSort_singleton]
   simp
  rw [this]
theorem raise_zero (l : List Sm) : l.map (raiseS 0) = l := by
 rw [List.map_congr_left (g := id) fun s _ => ?_, List.map_id]
 unfold raiseS
 rw [Int.add_zero]
 rfl
theorem mapR_map {r g g' : Sm → Sm} (h : ∀ s, g' (r s) = r (g s)) (lo hi : Nat) (l : List Sm) : mapR lo hi g' (l.map r) = (mapR lo hi g l).map r := by
 unfold mapR
 apply List.ext_getElem?
 intro i
 rw [List.getElem?_mapIdx, List.getElem?_map, List.getElem?_map, List.getElem?_mapIdx]
 cases l[i]? with
 | none => rfl
 | some s =>
  simp only [Option.map_some, Option.some.injEq]
  split
  · exact h s
  · rfl
theorem pass_map {r : Sm → Sm} {gap : Int} {c : Nat} (htm : ∀ s, (r s).tm = s.tm) (hg : ∀ s, getN c (r s) = getN c s) (hs : ∀ v s, setN c v (r s) = r (setN c v s)) (src out : List Sm) :
 ∀ i, passN gap c (src.map r) (out.map r) i = ((passN gap c src out i).1.map r, (passN gap c src out i).2)
 | 0 => rfl
 | i + 1 => by
  have ih := pass_map (gap := gap) htm hg hs src out i
  have hf : ∀ p q s, fillB c (r p) (r q) (r s) = r (fillB c p q s) := fun p q s => by
   unfold fillB
   rw [hg, hg, htm, htm, htm, hs]
  rw [passN, passN, List.getElem?_map]
  cases src[i]? with
  | none => exact ih
  | some q =>
   simp only [Option.map_some]
   rw [hg, ih]
   split
   · rfl
   · cases h2 : (passN gap c src out i).2 with
     | none => rfl
     | some l =>
      simp only
      rw [List.getElem?_map]
      cases src[l]? with
      | none => rfl
      | some p =>
       simp only [Option.map_some]
       rw [htm, htm]
       split
       · simp only
         rw [mapR_map (fun s => hf p q s)]
       · rfl
theorem pass_off {gap : Int} {c : Nat} {src : List Sm} (h : ∀ q, q ∈ src → getN c q < 0) (out : List Sm) : ∀ i, passN gap c src out i = (out, none)
 | 0 => rfl
 | i + 1 => by
  have ih := pass_off (gap := gap) h out i
  rw [passN]
  cases hx : src[i]? with
  | none => exact ih
  | some q =>
   simp only
   rw [if_pos (h q (List.mem_of_getElem? hx))]
   exact ih
theorem pass_same {r : Sm → Sm} {gap : Int} {c : Nat} (hs : ∀ v s, r (setN c v s) = r s) (src out : List Sm) : ∀ i, (passN gap c src out i).1.map r = out.map r
 | 0 => rfl
 | i + 1 => by
  have ih := pass_same (gap := gap) hs src out i
  have hm : ∀ lo hi p q (l : List Sm), (mapR lo hi (fillB c p q) l).map r = l.map r := fun lo hi p q l => by
   unfold mapR
   apply List.ext_getElem?
   intro j
   rw [List.getElem?_map, List.getElem?_mapIdx, List.getElem?_map]
   cases l[j]? with
   | none => rfl
   | some s =>
    simp only [Option.map_some, Option.some.injEq]
    split
    · exact hs _ s
    · rfl
  rw [passN]
  repeat' split
  all_goals first
   | exact ih
   | (rw [hm]; exact ih)
theorem passF_raise (n gap : Int) (c : Nat) (src out : List Sm) : passF gap c (src.map (raiseS n)) (out.map (raiseS n)) = (passF gap c src out).map (raiseS n) := by
 unfold passF
 rw [List.length_map, pass_map (r := raiseS n) (fun s => rfl) (fun s => rfl) (fun v s => ?_)]
 unfold setN raiseS
 split
 · rfl
 · split <;> rfl
theorem fill_raise (n gap : Int) (l : List Sm) : fillA gap (l.map (raiseS n)) = (fillA gap l).map (raiseS n) := by
 unfold fillA
 rw [passF_raise, passF_raise, passF_raise]
def clr (n : Int) : Nat := if n = 1 then 0 else if n = 2 then 1 else 2
theorem clear_set (n : Int) (s : Sm) : clearS n s = setN (clr n) (-1) s := by
 unfold clearS setN clr
 by_cases h1 : n = 1
 · rw [if_pos h1, if_pos h1, if_pos rfl]
 · rw [if_neg h1, if_neg h1]
   by_cases h2 : n = 2
   · rw [if_pos h2, if_pos h2, if_neg (by decide), if_pos rfl]
   · rw [if_neg h2, if_neg h2, if_neg (by decide), if_neg (by decide)]
theorem setN_comm {c d : Nat} (hc : c < 3) (hd : d < 3) (h : c ≠ d) (u v : Int) (s : Sm) : setN c u (setN d v s) = setN d v (setN c u s) := by
 have h1 : c = 0 ∨ c = 1 ∨ c = 2 := by omega
 have h2 : d = 0 ∨ d = 1 ∨ d = 2 := by omega
 rcases h1 with rfl | rfl | rfl <;> rcases h2 with rfl | rfl | rfl <;> first | exact absurd rfl h | rfl
theorem setN_last (c : Nat) (u v : Int) (s : Sm) : setN c u (setN c v s) = setN c u s := by
 unfold setN
 by_cases h1 : c = 0
 · simp only [if_pos h1]
 · by_cases h2 : c = 1
   · simp only [if_neg h1, if_pos h2]
   · simp only [if_neg h1, if_neg h2]
theorem getN_set {c d : Nat} (hc : c < 3) (hd : d < 3) (h : c ≠ d) (v : Int) (s : Sm) : getN c (setN d v s) = getN c s := by
 have h1 : c = 0 ∨ c = 1 ∨ c = 2 := by omega
 have h2 : d = 0 ∨ d = 1 ∨ d = 2 := by omega
 rcases h1 with rfl | rfl | rfl <;> rcases h2 with rfl | rfl | rfl <;> first | exact absurd rfl h | rfl
theorem getN_self {c : Nat} (hc : c < 3) (v : Int) (s : Sm) : getN c (setN c v s) = v := by
 have h1 : c = 0 ∨ c = 1 ∨ c = 2 := by omega
 rcases h1 with rfl | rfl | rfl <;> rfl
theorem setN_time (c : Nat) (v : Int) (s : Sm) : (setN c v s).tm = s.tm := by
 unfold setN
 split
 · rfl
 · split <;> rfl
theorem clr_lt (n : Int) : clr n < 3 := by
 unfold clr
 split
 · decide
 · split <;> decide
theorem passF_clear (n gap : Int) {c : Nat} (hc : c < 3) (src out : List Sm) : passF gap c (src.map (clearS n)) (out.map (clearS n)) = (passF gap c src out).map (clearS n) := by
 have e : clearS n = setN (clr n) (-1) := funext (clear_set n)
 rw [e]
 unfold passF
 rw [List.length_map]
 by_cases h : c = clr n
 · subst h
   rw [pass_same (fun v s => setN_last _ _ _ _), pass_off (fun q hq => ?_)]
   obtain ⟨s, _, rfl⟩ := List.mem_map.1 hq
   rw [getN_self (clr_lt n)]
   decide
 · rw [pass_map (fun s => setN_time _ _ s) (fun s => getN_set hc (clr_lt n) h _ s) (fun v s => setN_comm hc (clr_lt n) h _ _ s)]
theorem fill_clear (n gap : Int) (l : List Sm) : fillA gap (l.map (clearS n)) = (fillA gap l).map (clearS n) := by
 unfold fillA
 rw [passF_clear n gap (by decide), passF_clear n gap (by decide), passF_clear n gap (by decide)]
theorem clear_comm (n m : Int) (s : Sm) : clearS n (clearS m s) = clearS m (clearS n s) := by
 rw [clear_set, clear_set, clear_set, clear_set]
 by_cases h : clr n = clr m
 · rw [h]
 · exact setN_comm (clr_lt n) (clr_lt m) h _ _ s
theorem clear_twice (n : Int) (s : Sm) : clearS n (clearS n s) = clearS n s := by
 rw [clear_set, clear_set, setN_last]
theorem raise_clear (n m : Int) (s : Sm) : clearS n (raiseS m s) = raiseS m (clearS n s) := by
 unfold clearS raiseS
 split
 · rfl
 · split <;> rfl
theorem raise_add (n m : Int) (s : Sm) : raiseS m (raiseS n s) = raiseS (m + n) s := by
 unfold raiseS
 simp only [Sm.mk.injEq, true_and, and_true]
 omega
end Go.Proofs.YtgdepcnfjmobjaaGreat

/- Neighbours that are put in order, united or struck make the same activity; so does Tidy. (printed by wip/t/gen_tqt.py) -/
namespace Go.Proofs.YtgdepcnfjmobjaaGreat
open Tr (inR Ed)

theorem com_name (A : Acv) {x : Ed} (s : ByteArray) (hk : chkE x = 0) (h1 : x.k ≠ 1) :
    appZ { A with name := s } x = { appZ A x with name := s } := by
  rcases kind_ways x hk with h | h | h | h | h | h | h | h | h | h | h | h
  · exact absurd h (by omega)
  · rw [appZ_2 h, appZ_2 h]
  · rw [appZ_3 h, appZ_3 h]
  · rw [appZ_4 h, appZ_4 h]
  · rw [appZ_5 h, appZ_5 h]
  · rw [appZ_6 h, appZ_6 h]
  · rw [appZ_7 h, appZ_7 h]
  · rw [appZ_8 h, appZ_8 h]
    rfl
  · rw [appZ_9 h, appZ_9 h]
  · rw [appZ_10 h, appZ_10 h]
  · rw [appZ_11 h, appZ_11 h]
  · rw [appZ_12 h, appZ_12 h]
theorem com_sport (A : Acv) {x : Ed} (n : Int) (hk : chkE x = 0) (h1 : x.k ≠ 2) :
    appZ { A with sport := n } x = { appZ A x with sport := n } := by
  rcases kind_ways x hk with h | h | h | h | h | h | h | h | h | h | h | h
  · rw [appZ_1 h, appZ_1 h]
  · exact absurd h (by omega)
  · rw [appZ_3 h, appZ_3 h]
  · rw [appZ_4 h, appZ_4 h]
  · rw [appZ_5 h, appZ_5 h]
  · rw [appZ_6 h, appZ_6 h]
  · rw [appZ_7 h, appZ_7 h]
  · rw [appZ_8 h, appZ_8 h]
    rfl
  · rw [appZ_9 h, appZ_9 h]
  · rw [appZ_10 h, appZ_10 h]
  · rw [appZ_11 h, appZ_11 h]
  · rw [appZ_12 h, appZ_12 h]
theorem com_start (A : Acv) {x : Ed} (n : Int) (hk : chkE x = 0) :
    appZ { A with start := A.start + n } x = { appZ A x with start := (appZ A x).start + n } := by
  rcases kind_ways x hk with h | h | h | h | h | h | h | h | h | h | h | h
  · rw [appZ_1 h, appZ_1 h]
  · rw [appZ_2 h, appZ_2 h]
  · rw [appZ_3 h, appZ_3 h]
  · rw [appZ_4 h, appZ_4 h]
  · rw [appZ_5 h, appZ_5 h]
    simp only [Acv.mk.injEq, true_and, and_true]
    omega
  · rw [appZ_6 h, appZ_6 h]
  · rw [appZ_7 h, appZ_7 h]
  · rw [appZ_8 h, appZ_8 h]
    unfold partA
    simp only [Acv.mk.injEq, true_and, and_true]
    omega
  · rw [appZ_9 h, appZ_9 h]
  · rw [appZ_10 h, appZ_10 h]
  · rw [appZ_11 h, appZ_11 h]
  · rw [appZ_12 h, appZ_12 h]
theorem com_tags (A : Acv) {x : Ed} (T : List ByteArray) (hk : chkE x = 0) (h3 : x.k ≠ 3) (h4 : x.k ≠ 4) :
    appZ { A with tg := T } x = { appZ A x with tg := T } := by
  rcases kind_ways x hk with h | h | h | h | h | h | h | h | h | h | h | h
  · rw [appZ_1 h, appZ_1 h]
  · rw [appZ_2 h, appZ_2 h]
  · exact absurd h (by omega)
  · exact absurd h (by omega)
  · rw [appZ_5 h, appZ_5 h]
  · rw [appZ_6 h, appZ_6 h]
  · rw [appZ_7 h, appZ_7 h]
  · rw [appZ_8 h, appZ_8 h]
    rfl
  · rw [appZ_9 h, appZ_9 h]
  · rw [appZ_10 h, appZ_10 h]
  · rw [appZ_11 h, appZ_11 h]
  · rw [appZ_12 h, appZ_12 h]
theorem com_raise (A : Acv) {x : Ed} (n : Int) (hk : chkE x = 0) (hc : can A x) :
    appZ { A with sm := A.sm.map (raiseS n) } x = { appZ A x with sm := (appZ A x).sm.map (raiseS n) } := by
  rcases kind_ways x hk with h | h | h | h | h | h | h | h | h | h | h | h
  · rw [appZ_1 h, appZ_1 h]
  · rw [appZ_2 h, appZ_2 h]
  · rw [appZ_3 h, appZ_3 h]
  · rw [appZ_4 h, appZ_4 h]
  · rw [appZ_5 h, appZ_5 h]
  · rw [appZ_6 h, appZ_6 h]
    simp only [Acv.mk.injEq, true_and, and_true]
    rw [List.map_map, List.map_map]
    exact List.map_congr_left fun s _ => by rw [Function.comp_apply, Function.comp_apply, raise_add, raise_add, Int.add_comm]
  · rw [appZ_7 h, appZ_7 h]
    simp only [Acv.mk.injEq, true_and, and_true]
    rw [List.map_map, List.map_map]
    exact List.map_congr_left fun s _ => raise_clear _ _ s
  · rw [appZ_8 h, appZ_8 h]
    obtain ⟨c1, c2, c3, c4⟩ := hc.2.2 h
    rw [cut_map (nice_raise n) c1 c3 c4, part_map (nice_raise n)]
  · rw [appZ_9 h, appZ_9 h]
    rw [level_raise]
  · rw [appZ_10 h, appZ_10 h]
    rw [fill_raise]
  · rw [appZ_11 h, appZ_11 h]
  · rw [appZ_12 h, appZ_12 h]
theorem com_clear (A : Acv) {x : Ed} (n : Int) (hk : chkE x = 0) (hc : can A x) :
    appZ { A with sm := A.sm.map (clearS n) } x = { appZ A x with sm := (appZ A x).sm.map (clearS n) } := by
  rcases kind_ways x hk with h | h | h | h | h | h | h | h | h | h | h | h
  · rw [appZ_1 h, appZ_1 h]
  · rw [appZ_2 h, appZ_2 h]
  · rw [appZ_3 h, appZ_3 h]
  · rw [appZ_4 h, appZ_4 h]
  · rw [appZ_5 h, appZ_5 h]
  · rw [appZ_6 h, appZ_6 h]
    simp only [Acv.mk.injEq, true_and, and_true]
    rw [List.map_map, List.map_map]
    exact List.map_congr_left fun s _ => (raise_clear _ _ s).symm
  · rw [appZ_7 h, appZ_7 h]
    simp only [Acv.mk.injEq, true_and, and_true]
    rw [List.map_map, List.map_map]
    exact List.map_congr_left fun s _ => clear_comm _ _ s
  · rw [appZ_8 h, appZ_8 h]
    obtain ⟨c1, c2, c3, c4⟩ := hc.2.2 h
    rw [cut_map (nice_clear n) c1 c3 c4, part_map (nice_clear n)]
  · rw [appZ_9 h, appZ_9 h]
    rw [level_clear]
  · rw [appZ_10 h, appZ_10 h]
    rw [fill_clear]
  · rw [appZ_11 h, appZ_11 h]
  · rw [appZ_12 h, appZ_12 h]
theorem appZ_tg {A : Acv} {x : Ed} (hk : chkE x = 0) (h3 : x.k ≠ 3) (h4 : x.k ≠ 4) : (appZ A x).tg = A.tg := by
  have := com_tags A A.tg hk h3 h4
  have e : ({ A with tg := A.tg } : Acv) = A := rfl
  rw [e] at this
  rw [this]
theorem srt_go {A : Acv} {x : Ed} (hk : chkE x = 0) (h : TSrt A) : TSrt (appZ A x) := by
  by_cases ht : x.k = 3 ∨ x.k = 4
  · rw [appZ_tag ht]
    exact tagF_srt h x
  · unfold TSrt
    rw [appZ_tg hk (fun e => ht (Or.inl e)) (fun e => ht (Or.inr e))]
    exact h
theorem rank_le (k : Int) : Tr.rank k ≤ 7 := by
  unfold Tr.rank
  repeat' split
  all_goals omega
theorem bef_ways {x y : Ed} (hx : chkE x = 0) (hy : chkE y = 0) (h : Tr.bef y x = true) :
    Tr.rank y.k < Tr.rank x.k ∨ (y.k = 7 ∧ x.k = 7) ∨ ((y.k = 3 ∨ y.k = 4) ∧ (x.k = 3 ∨ x.k = 4) ∧ x.s ≠ y.s) := by
  unfold Tr.bef at h
  by_cases hr : Tr.rank y.k = Tr.rank x.k
  · rw [if_pos hr] at h
    by_cases hty : y.k = 3 ∨ y.k = 4
    · have htx : x.k = 3 ∨ x.k = 4 := by
        have e : Tr.rank y.k = 3 := by rcases hty with e | e <;> rw [e] <;> rfl
        rw [e] at hr
        rcases kind_ways x hx with k | k | k | k | k | k | k | k | k | k | k | k <;> first | exact Or.inl k | exact Or.inr k | (rw [k] at hr; exact absurd hr (by decide))
      refine Or.inr (Or.inr ⟨hty, htx, fun e => ?_⟩)
      have n1 : Tr.numOf y = Tr.numOf x := by
        unfold Tr.numOf
        rw [if_neg (by omega), if_neg (by omega)]
      rw [if_pos n1] at h
      unfold Tr.txtOf at h
      rw [if_pos hty, if_pos htx, e] at h
      have := Tr.ltB_asymm _ _ h
      rw [h] at this
      cases this
    · by_cases h7 : y.k = 7
      · refine Or.inr (Or.inl ⟨h7, ?_⟩)
        rw [h7] at hr
        rcases kind_ways x hx with k | k | k | k | k | k | k | k | k | k | k | k <;> first | exact k | (rw [k] at hr; exact absurd hr (by decide))
      · exfalso
        have hx3 : ¬ (x.k = 3 ∨ x.k = 4) := fun e => by
          have e3 : Tr.rank x.k = 3 := by rcases e with e | e <;> rw [e] <;> rfl
          rw [e3] at hr
          rcases kind_ways y hy with k | k | k | k | k | k | k | k | k | k | k | k <;> first | exact hty (Or.inl k) | exact hty (Or.inr k) | (rw [k] at hr; exact absurd hr (by decide))
        have hx7 : x.k ≠ 7 := fun e => by
          rw [e] at hr
          rcases kind_ways y hy with k | k | k | k | k | k | k | k | k | k | k | k <;> first | exact h7 k | (rw [k] at hr; exact absurd hr (by decide))
        unfold Tr.numOf Tr.txtOf at h
        rw [if_neg h7, if_neg hx7, if_pos rfl, if_neg hty, if_neg hx3] at h
        cases h
  · rw [if_neg hr, decide_eq_true_eq] at h
    exact Or.inl h
theorem sm_ne {l : List Sm} {r : Sm → Sm} (h : l ≠ []) : l.map r ≠ [] := fun e => h (List.map_eq_nil_iff.1 e)
theorem can_of' {A B : Acv} {x : Ed} (h : can B x) (h1 : B.tg = A.tg) (h8 : x.k ≠ 8) : can A x := ⟨fun k => h1 ▸ h.1 k, fun k => h1 ▸ h.2.1 k, fun k => absurd k h8⟩
theorem swap_ok {A : Acv} {x y : Ed} (hx : chkE x = 0) (hy : chkE y = 0) (hs : TSrt A) (hb : Tr.bef y x = true) (c1 : can A x) (c2 : can (appZ A x) y) :
    can A y ∧ can (appZ A y) x ∧ appZ (appZ A y) x = appZ (appZ A x) y := by
  rcases bef_ways hx hy hb with hr | ⟨y7, x7⟩ | ⟨hty, htx, hne⟩
  · have no : ∀ {k j : Int}, y.k = k → ¬ Tr.rank k < Tr.rank j → x.k ≠ j := fun ek hn ej => hn (by rw [← ek, ← ej]; exact hr)
    rcases kind_ways y hy with h | h | h | h | h | h | h | h | h | h | h | h
    · refine ⟨can_else (by omega) (by omega) (by omega), ?_, ?_⟩
      · rw [appZ_1 h]
        exact can_of c1 rfl id rfl
      · rw [appZ_1 h, appZ_1 h]
        exact com_name A _ hx (no h (by decide))
    · refine ⟨can_else (by omega) (by omega) (by omega), ?_, ?_⟩
      · rw [appZ_2 h]
        exact can_of c1 rfl id rfl
      · rw [appZ_2 h, appZ_2 h]
        exact com_sport A _ hx (no h (by decide))
    · have n3 := no h (show ¬ Tr.rank 3 < Tr.rank 3 by decide)
      have n4 := no h (show ¬ Tr.rank 3 < Tr.rank 4 by decide)
      have ht := appZ_tg (A := A) hx n3 n4
      have hk : y.k = 3 ∨ y.k = 4 := by omega
      refine ⟨can_of' c2 ht (by omega), ?_, ?_⟩
      · rw [appZ_tag hk]
        exact ⟨fun e => absurd e n3, fun e => absurd e n4, c1.2.2⟩
      · rw [appZ_tag hk, appZ_tag hk, ht]
        exact com_tags A _ hx n3 n4
    · have n3 := no h (show ¬ Tr.rank 4 < Tr.rank 3 by decide)
      have n4 := no h (show ¬ Tr.rank 4 < Tr.rank 4 by decide)
      have ht := appZ_tg (A := A) hx n3 n4
      have hk : y.k = 3 ∨ y.k = 4 := by omega
      refine ⟨can_of' c2 ht (by omega), ?_, ?_⟩
      · rw [appZ_tag hk]
        exact ⟨fun e => absurd e n3, fun e => absurd e n4, c1.2.2⟩
      · rw [appZ_tag hk, appZ_tag hk, ht]
        exact com_tags A _ hx n3 n4
    · refine ⟨can_else (by omega) (by omega) (by omega), ?_, ?_⟩
      · rw [appZ_5 h]
        exact can_of c1 rfl id rfl
      · rw [appZ_5 h, appZ_5 h]
        exact com_start A _ hx
    · refine ⟨can_else (by omega) (by omega) (by omega), ?_, ?_⟩
      · rw [appZ_6 h]
        exact can_of c1 rfl sm_ne (span_map (nice_raise _) _).symm
      · rw [appZ_6 h, appZ_6 h]
        exact com_raise A _ hx c1
    · refine ⟨can_else (by omega) (by omega) (by omega), ?_, ?_⟩
      · rw [appZ_7 h]
        exact can_of c1 rfl sm_ne (span_map (nice_clear _) _).symm
      · rw [appZ_7 h, appZ_7 h]
        exact com_clear A _ hx c1
    · have := rank_le x.k
      rw [h] at hr
      exact absurd hr (by show ¬ (7 : Int) < _; omega)
    · have := rank_le x.k
      rw [h] at hr
      exact absurd hr (by show ¬ (7 : Int) < _; omega)
    · have := rank_le x.k
      rw [h] at hr
      exact absurd hr (by show ¬ (7 : Int) < _; omega)
    · have := rank_le x.k
      rw [h] at hr
      exact absurd hr (by show ¬ (7 : Int) < _; omega)
    · have := rank_le x.k
      rw [h] at hr
      exact absurd hr (by show ¬ (7 : Int) < _; omega)
  · refine ⟨can_else (by omega) (by omega) (by omega), can_else (by omega) (by omega) (by omega), ?_⟩
    rw [appZ_7 y7, appZ_7 y7]
    exact com_clear A _ hx c1
  · have hm : ∀ T, y.s ∈ tagF x T ↔ y.s ∈ T := fun T => tagF_mem x T y.s (fun e => hne e.symm)
    have hm2 : ∀ T, x.s ∈ tagF y T ↔ x.s ∈ T := fun T => tagF_mem y T x.s hne
    rw [appZ_tag htx] at c2
    refine ⟨⟨fun e => fun e2 => c2.1 e ((hm _).2 e2), fun e => (hm _).1 (c2.2.1 e), fun e => by omega⟩, ?_, ?_⟩
    · rw [appZ_tag hty]
      exact ⟨fun e => fun e2 => c1.1 e ((hm2 _).1 e2), fun e => (hm2 _).2 (c1.2.1 e), fun e => by omega⟩
    · rw [appZ_tag hty, appZ_tag htx, appZ_tag htx, appZ_tag hty]
      simp only [Acv.mk.injEq, true_and]
      exact (tagF_comm hs hne).symm
theorem zero_ok {A : Acv} {x : Ed} (h : Tr.isZero x = true) : appZ A x = A := by
  unfold Tr.isZero at h
  simp only [Bool.and_eq_true, Bool.or_eq_true, decide_eq_true_eq] at h
  obtain ⟨hn, hk⟩ := h
  rcases hk with (h | h) | h
  · rw [appZ_5 h, hn, Int.add_zero]
  · rw [appZ_6 h, hn, raise_zero]
  · rw [appZ_9 h, hn]
    show ({ A with sm := levelS A.sm 0 } : Acv) = A
    rw [level_zero]
theorem cans_one {A : Acv} {x : Ed} (h3 : x.k ≠ 3) (h4 : x.k ≠ 4) (h8 : x.k ≠ 8) (l : List Ed) : cans A (x :: l) ↔ cans (appZ A x) l := ⟨fun h => h.2, fun h => ⟨can_else h3 h4 h8, h⟩⟩
theorem united_keeps {A : Acv} {x y : Ed} {m : List Ed} (hs : TSrt A) (h : Tr.united x y = some m) (c1 : can A x) (_c2 : can (appZ A x) y) : (∀ l, cans (appZ (appZ A x) y) l → cans A (m ++ l)) ∧ raw A m = appZ (appZ A x) y := by
  unfold Tr.united at h
  split at h
  · rename_i ht
    injection h with h
    subst h
    obtain ⟨e, hk⟩ := ht
    have htx : x.k = 3 ∨ x.k = 4 := by omega
    have hty : y.k = 3 ∨ y.k = 4 := by omega
    have hb : appZ (appZ A x) y = A := by
      rw [appZ_tag htx, appZ_tag hty]
      have hw : x.k = 3 ∧ y.k = 4 ∧ x.s ∉ A.tg ∨ x.k = 4 ∧ y.k = 3 ∧ x.s ∈ A.tg := by
        rcases hk with ⟨k1, k2⟩ | ⟨k1, k2⟩
        · exact Or.inl ⟨k1, k2, c1.1 k1⟩
        · exact Or.inr ⟨k1, k2, c1.2.1 k1⟩
      have := tag_back hs e hw
      simp only
      rw [this]
    exact ⟨fun l hl => by rw [hb] at hl; exact hl, hb.symm⟩
  · split at h
    · cases h
    · rename_i hkk
      have hkk : x.k = y.k := by
        rcases Int.lt_trichotomy x.k y.k with g | g | g
        · exact absurd (by omega) hkk
        · exact g
        · exact absurd (by omega) hkk
      split at h
      · rename_i h12
        injection h with h
        subst h
        have hy : y.k = 1 ∨ y.k = 2 := by omega
        have he : appZ A y = appZ (appZ A x) y := by
          rcases hy with k | k
          · rw [appZ_1 k, appZ_1 k, appZ_1 (hkk.trans k)]
          · rw [appZ_2 k, appZ_2 k, appZ_2 (hkk.trans k)]
        exact ⟨fun l hl => (cans_one (by omega) (by omega) (by omega) l).2 (he ▸ hl), he⟩
      · split at h
        · rename_i h7
          split at h
          · rename_i hn
            injection h with h
            subst h
            have hy : y.k = 7 := by omega
            have he : appZ A y = appZ (appZ A x) y := by
              rw [appZ_7 hy, appZ_7 hy, appZ_7 h7, hn]
              simp only [Acv.mk.injEq, true_and, and_true]
              rw [List.map_map]
              exact (List.map_congr_left fun s _ => clear_twice _ s).symm
            exact ⟨fun l hl => (cans_one (by omega) (by omega) (by omega) l).2 (he ▸ hl), he⟩
          · cases h
        · split at h
          · rename_i h56
            split at h
            · injection h with h
              subst h
              have hy : y.k = 5 ∨ y.k = 6 := by omega
              have he : appZ A { y with n := y.n + x.n } = appZ (appZ A x) y := by
                rcases hy with k | k
                · rw [appZ_5 (x := { y with n := y.n + x.n }) k, appZ_5 k, appZ_5 (hkk.trans k)]
                  simp only [Acv.mk.injEq, true_and, and_true]
                  omega
                · rw [appZ_6 (x := { y with n := y.n + x.n }) k, appZ_6 k, appZ_6 (hkk.trans k)]
                  simp only [Acv.mk.injEq, true_and, and_true]
                  rw [List.map_map]
                  exact (List.map_congr_left fun s _ => raise_add _ _ s).symm
              exact ⟨fun l hl => (cans_one (x := { y with n := y.n + x.n }) (by show y.k ≠ 3; omega) (by show y.k ≠ 4; omega) (by show y.k ≠ 8; omega) l).2 (he ▸ hl), he⟩
            · cases h
          · cases h
/-! ### lists -/
theorem raw_append (A : Acv) (l m : List Ed) : raw A (l ++ m) = raw (raw A l) m := List.foldl_append
def Keeps (A : Acv) (l m : List Ed) : Prop := cans A m ∧ raw A m = raw A l
theorem rule1_keeps : ∀ (l m : List Ed) (A : Acv), Tr.rule1 l = some m → (∀ x, x ∈ l → chkE x = 0) → cans A l → Keeps A l m
  | [], m, A, h, _, _ => by cases h
  | x :: l, m, A, h, hk, hc => by
    rw [Tr.rule1] at h
    split at h
    · rename_i hz
      injection h with h
      subst h
      have e := zero_ok (A := A) hz
      have h2 := hc.2
      rw [e] at h2
      exact ⟨h2, by show _ = raw (appZ A x) l; rw [e]⟩
    · cases hm : Tr.rule1 l with
      | none => rw [hm] at h; cases h
      | some m' =>
        rw [hm] at h
        injection h with h
        subst h
        obtain ⟨h1, h2⟩ := rule1_keeps l m' (appZ A x) hm (fun y hy => hk y (List.mem_cons_of_mem _ hy)) hc.2
        exact ⟨⟨hc.1, h1⟩, h2⟩
theorem rule2_keeps : ∀ (l m : List Ed) (A : Acv), Tr.rule2 l = some m → (∀ x, x ∈ l → chkE x = 0) → TSrt A → cans A l → Keeps A l m
  | [], m, A, h, _, _, _ => by cases h
  | [_], m, A, h, _, _, _ => by cases h
  | x :: y :: l, m, A, h, hk, hs, hc => by
    rw [Tr.rule2] at h
    cases hu : Tr.united x y with
    | some u =>
      rw [hu] at h
      injection h with h
      subst h
      obtain ⟨h1, h2⟩ := united_keeps hs hu hc.1 hc.2.1
      exact ⟨h1 l hc.2.2, by rw [raw_append, h2]; rfl⟩
    | none =>
      rw [hu] at h
      simp only at h
      cases hm : Tr.rule2 (y :: l) with
      | none => rw [hm] at h; cases h
      | some m' =>
        rw [hm] at h
        injection h with h
        subst h
        obtain ⟨h1, h2⟩ := rule2_keeps (y :: l) m' (appZ A x) hm (fun y hy => hk y (List.mem_cons_of_mem _ hy)) (srt_go (hk x (List.mem_cons_self ..)) hs) hc.2
        exact ⟨⟨hc.1, h1⟩, h2⟩
theorem rule3_keeps : ∀ (l m : List Ed) (A : Acv), Tr.rule3 l = some m → (∀ x, x ∈ l → chkE x = 0) → TSrt A → cans A l → Keeps A l m
  | [], m, A, h, _, _, _ => by cases h
  | [_], m, A, h, _, _, _ => by cases h
  | x :: y :: l, m, A, h, hk, hs, hc => by
    rw [Tr.rule3] at h
    have hx := hk x (List.mem_cons_self ..)
    have hy := hk y (List.mem_cons_of_mem _ (List.mem_cons_self ..))
    split at h
    · rename_i hb
      injection h with h
      subst h
      obtain ⟨h1, h2, h3⟩ := swap_ok hx hy hs hb hc.1 hc.2.1
      exact ⟨⟨h1, h2, by rw [h3]; exact hc.2.2⟩, by show raw (appZ (appZ A y) x) l = raw (appZ (appZ A x) y) l; rw [h3]⟩
    · cases hm : Tr.rule3 (y :: l) with
      | none => rw [hm] at h; cases h
      | some m' =>
        rw [hm] at h
        injection h with h
        subst h
        obtain ⟨h1, h2⟩ := rule3_keeps (y :: l) m' (appZ A x) hm (fun y hy => hk y (List.mem_cons_of_mem _ hy)) (srt_go hx hs) hc.2
        exact ⟨⟨hc.1, h1⟩, h2⟩
theorem step_keeps {l m : List Ed} {A : Acv} (h : Tr.step l = some m) (hk : ∀ x, x ∈ l → chkE x = 0) (hs : TSrt A) (hc : cans A l) : Keeps A l m := by
  unfold Tr.step at h
  cases h1 : Tr.rule1 l with
  | some a =>
    rw [h1] at h
    injection h with h
    subst h
    exact rule1_keeps l a A h1 hk hc
  | none =>
    rw [h1] at h
    cases h2 : Tr.rule2 l with
    | some a =>
      rw [h2] at h
      injection h with h
      subst h
      exact rule2_keeps l a A h2 hk hs hc
    | none =>
      rw [h2] at h
      exact rule3_keeps l m A h hk hs hc
theorem tidy_keeps (hst : ∀ {l m : List Ed}, Tr.step l = some m → (∀ x, x ∈ l → chkE x = 0) → ∀ x, x ∈ m → chkE x = 0) : ∀ (f : Nat) (l : List Ed) (A : Acv), (∀ x, x ∈ l → chkE x = 0) → TSrt A → cans A l → Keeps A l (Tr.tidy f l)
  | 0, l, A, _, _, hc => ⟨hc, rfl⟩
  | f + 1, l, A, hk, hs, hc => by
    rw [Tr.tidy]
    cases h : Tr.step l with
    | none => exact ⟨hc, rfl⟩
    | some m =>
      obtain ⟨h1, h2⟩ := step_keeps h hk hs hc
      obtain ⟨h3, h4⟩ := tidy_keeps hst f m A (hst h hk) hs h1
      exact ⟨h3, h4.trans h2⟩
/-! ### what All makes -/
theorem apE_zero {A : Acv} {x : Ed} (h : apE A x = 0) : chkE x = 0 ∧ can A x ∧ apZ A x = appZ A x := by
  have h0 : apA A x = 0 := by
    rcases Int.lt_trichotomy (apA A x) 0 with g | g | g
    · have := (apE_bad (A := A) (x := x) (by omega)).1; omega
    · exact g
    · have := (apE_bad (A := A) (x := x) (by omega)).1; omega
  have hk := (apA_zero h0).2
  have he : appE A x = 0 := by
    rw [apE_ok h0] at h
    by_cases h1 : appE A x = 0
    · exact h1
    · rw [if_pos h1] at h
      exact absurd h h1
  refine ⟨hk, ⟨fun e => ?_, fun e => ?_, fun e => ?_⟩, by unfold apZ; rw [if_pos h]⟩
  · rw [appE_3 e] at he
    split at he
    · cases he
    · rename_i hn
      exact fun hm => hn (hasT_iff.2 hm)
  · rw [appE_4 e] at he
    split at he
    · rename_i hn
      exact hasT_iff.1 hn
    · cases he
  · rw [appE_8 e] at he
    unfold cutE at he
    split at he
    · cases he
    · rename_i h1
      split at he
      · cases he
      · rename_i h2
        exact ⟨fun e => h1 (by rw [e]; rfl), by omega, by omega, by omega⟩
theorem allR_keeps : ∀ (l : List Ed) (A : Acv) (i : Nat), (allR A l i).2.2 = 0 → cans A l ∧ raw A l = (allR A l i).1 ∧ ∀ x, x ∈ l → chkE x = 0
  | [], A, i, _ => ⟨trivial, rfl, fun x hx => (by cases hx)⟩
  | x :: l, A, i, h => by
    rw [allR] at h ⊢
    by_cases h0 : apE A x = 0
    · rw [if_pos h0] at h ⊢
      obtain ⟨e1, e2, e3⟩ := apE_zero h0
      rw [e3] at h ⊢
      obtain ⟨h1, h2, h3⟩ := allR_keeps l (appZ A x) (i + 1) h
      refine ⟨⟨e2, h1⟩, h2, fun y hy => ?_⟩
      rcases List.mem_cons.1 hy with rfl | hy
      · exact e1
      · exact h3 y hy
    · rw [if_neg h0] at h
      exact absurd h h0
theorem allQ_fine {A : Acv} {l : List Ed} (h : (allQ A l).2.2 = 0) : chkA A = 0 ∧ l.length ≤ 200 ∧ allQ A l = allR A l 0 := by
  unfold allQ at h ⊢
  split at h
  · cases h
  · rename_i hl
    split at h
    · rename_i h0
      exact ⟨h0, by omega, by rw [if_neg hl, if_pos h0]⟩
    · rename_i h0
      exact absurd h h0
theorem step_chk {l m : List Ed} (h : Tr.step l = some m) (hk : ∀ x, x ∈ l → chkE x = 0) : ∀ x, x ∈ m → chkE x = 0 := Tr.step_all united_ok h hk
/-- where both lists can be done, they make the same -/
theorem tidy_same {A : Acv} {l : List Ed} (h : (allQ A l).2.2 = 0) (h2 : (allQ A (Tr.tidyL l)).2.2 = 0) : (allQ A (Tr.tidyL l)).1 = (allQ A l).1 ∧ chkEL l = 0 := by
  obtain ⟨h0, hl, e⟩ := allQ_fine h
  obtain ⟨_, _, e2⟩ := allQ_fine h2
  rw [e] at h ⊢
  rw [e2] at h2 ⊢
  obtain ⟨a1, a2, a3⟩ := allR_keeps l A 0 h
  obtain ⟨b1, b2, b3⟩ := allR_keeps _ A 0 h2
  have hs : TSrt A := tg_sorted (chkA_zero.1 h0).tg
  obtain ⟨_, k2⟩ := tidy_keeps step_chk _ l A a3 hs a1
  refine ⟨?_, ?_⟩
  · rw [← b2, ← a2]
    exact k2
  · unfold chkEL
    rw [if_neg (by omega)]
    exact chkEs_zero.2 a3
end Go.Proofs.YtgdepcnfjmobjaaGreat

/- A text of this claim. -/
namespace Go.Proofs.YtgdepcnfjmobjaaGreat
open Go.RowKit Go.BigFrame
open Tr (inR Ed)
def NewRet (S : World → (Nat → Prop) → Nat → Acv → List Ed → List Ed → Prop) (A : Acv) (er : Int) (w : World) (e : Ending) (w' : World) : Prop :=
 Below w.heap.size w w' ∧ ((er ≠ 0 ∧ e = .returned (.tuple #[.pointer none, .int .i64 er])) ∨ (er = 0 ∧ ∃ s, e = .returned (.tuple #[.pointer (some ⟨s, 0, none⟩), .int .i64 0]) ∧ S w' (fun g => w.heap.size ≤ g ∧ g < w'.heap.size) s A [] []))
theorem alloc_st (w : World) (cs : Array Value) (T : TypeId) : ∃ W, w.alloc (.cells cs T) = W ∧ Below w.heap.size w W ∧ W.heap.size = w.heap.size + 1 ∧ W.heap[w.heap.size]? = some (.cells cs T (0, 0)) :=
 ⟨_, rfl, below_al _ _, by simp, heap_alloc_new w _⟩
set_option maxHeartbeats 8000000 in
set_option maxRecDepth 100000 in
theorem newP_any (A : Acv) (a b c : Option Addr) (ca cb cc : Nat) (w : World) (hA : ActIn w A a b c) :
 Calls Tryz.prog 4 #[actV A a b c ca cb cc] w fun e w' => NewRet StP A (chkA A) w e w' := by
 obtain ⟨eA, heA⟩ : ∃ e, chkA A = e := ⟨_, rfl⟩
 have HEA := Lib.hid heA
 rw [heA]
 have HTX := Lib.hid hA.text
 obtain ⟨V1, hV1, hb1, hs1, ha1⟩ := alloc_ac w A.name A.sport A.start (.slice a A.sm.length ca) (.slice b A.lp.length cb) (.slice c A.tg.length cc)
 have HB := Lib.hid hb1
 have HSZ := Lib.hid hs1
 have HIA := Lib.hid (hA.below hb1)
 have HA1 := Lib.hid ha1
 have DA := Lib.hid (show Calls Tryz.prog 14 #[.agg #[.string A.name, .int .i64 A.sport, .int .i64 A.start, .slice a A.sm.length ca, .slice b A.lp.length cb, .slice c A.tg.length cc]] V1 fun e w'' => e = .returned (.int .i64 eA) ∧ Below V1.heap.size V1 w'' from by
  have h := check_any A a b c ca cb cc V1 HIA.out
  unfold ChkG actV at h
  rw [heA] at h
  exact h)
 obtain ⟨z0, z1, z2, z3, z4, z5⟩ := ha1.cell
 clear hA hb1 hs1 ha1 heA
 unfold actV
 go_enter Tryz.func4, Tryz.ntmps4
 go_upto_region 1 with (fail)
 clear hV1
 go_wp2_with fail
 refine (DA.out).mono ?_
 rintro e w3 ⟨rfl, hb3⟩
 have HB3 := Lib.hid hb3
 have HBW := Lib.hid (below_step HB.out hb3)
 obtain ⟨y0, y1, y2, y3, y4, y5⟩ := (HA1.out.below hb3).cell
 clear z0 z1 z2 z3 z4 z5 hb3 DA
 by_cases hA : eA = 0
 case neg =>
  have u1 : (eA != 0) = true := by rw [bne_iff_ne]; exact hA
  have HNE := Lib.hid hA
  clear hA
  go_wp2_with fail
  go_ret2
  unfold NewRet
  exact ⟨HBW.out, Or.inl ⟨HNE.out, rfl⟩⟩
 subst hA
 have HOA := Lib.hid (chkA_zero.1 HEA.out)
 have DCL := Lib.hid (fun Z : Ext w3 => show Calls Tryz.prog 15 #[.agg #[.string A.name, .int .i64 A.sport, .int .i64 A.start, .slice a A.sm.length ca, .slice b A.lp.length cb, .slice c A.tg.length cc]] Z.1 fun e w'' => CloneRet A Z.1 e w'' from by
  have h := cloneA_any A a b c ca cb cc Z.1 ((HIA.out.below HB3.out).below Z.2) (by have := HOA.out.nsm; omega) (by have := HOA.out.nlp; omega) (by have := HOA.out.ntg; omega)
  unfold actV at h
  exact h)
 have Y0 := Ext.ex y0
 have Y1 := Ext.ex y1
 have Y2 := Ext.ex y2
 have Y3 := Ext.ex y3
 have Y4 := Ext.ex y4
 have Y5 := Ext.ex y5
 clear y0 y1 y2 y3 y4 y5
 go_upto_region 4 with (fail)
 refine held_start (C := fun w' => ∃ Z : Ext w3, w' = Z.1) (by kernel_rfl) ?_
 obtain ⟨Z0, hZ0⟩ : ∃ Z : Ext w3, ({ w3 with drawn := w3.drawn + 1 } : World) = Z.1 := ⟨⟨{ w3 with drawn := w3.drawn + 1 }, ⟨rfl, rfl, rfl, Nat.le_refl _, fun _ _ => rfl⟩⟩, rfl⟩
 rw [hZ0]
 clear hZ0
 refine held_quiet (by kernel_rfl) (fun _ _ d _ _ h => by cases d <;> exact h) ⟨Z0, rfl⟩ [0, 2] 6 _ _ (by kernel_rfl) ?_
 change wpQuiet _ _ _ _ (_ :: _ :: []) _
 repeat go_big_quiet_step (fail)
 refine wpQuiet_nil ?_
 refine held_do (i := 1) _ rfl (by kernel_rfl) rfl (fun K hK => ?_)
 go_simp
 refine (DCL.out Z0).mono ?_
 unfold CloneRet
 rintro e w4 ⟨⟨a1, b1, c1, ca1, cb1, cc1, rfl, ho4⟩, hb4⟩
 obtain ⟨Z1, rfl⟩ : ∃ Z : Ext w3, w4 = Z.1 := ⟨⟨w4, below_step Z0.2 hb4⟩, rfl⟩
 obtain ⟨hI4, _, _, _, hq4⟩ := ho4.actIn HTX.out HOA.out
 have HI4 := Lib.hid hI4
 have HQ4 := Lib.hid (fun q hq => Nat.le_trans Z0.2.size (hq4 q hq))
 unfold actV
 refine hK _ _ ⟨Z1, rfl⟩ ?_
 clear hK K ho4 hb4 hI4 hq4
 try simp only [Act.put, List.setIfInBounds_toArray, List.set_cons_zero, List.set_cons_succ]
 refine held_do (i := 3) _ rfl (by kernel_rfl) rfl (fun K hK => ?_)
 go_simp
 refine (DCL.out Z1).mono ?_
 unfold CloneRet
 rintro e w5 ⟨⟨a2, b2, c2, ca2, cb2, cc2, rfl, ho5⟩, hb5⟩
 have HI5 := Lib.hid (HI4.out.below hb5)
 obtain ⟨Z2, rfl⟩ : ∃ Z : Ext w3, w5 = Z.1 := ⟨⟨w5, below_step Z1.2 hb5⟩, rfl⟩
 obtain ⟨hI6, _, _, _, hq6⟩ := ho5.actIn HTX.out HOA.out
 have HI6 := Lib.hid hI6
 have HQ6 := Lib.hid (fun q hq => Nat.le_trans Z1.2.size (hq6 q hq))
 unfold actV
 refine hK _ _ ⟨Z2, rfl⟩ ?_
 clear hK K ho5 hb5 hI6 hq6 HI4
 try simp only [Act.put, List.setIfInBounds_toArray, List.set_cons_zero, List.set_cons_succ]
 refine held_quiet (by kernel_rfl) (fun _ _ d _ _ h => by cases d <;> exact h) ⟨Z2, rfl⟩ [4] 3 _ _ (by kernel_rfl) ?_
 change wpQuiet _ _ _ _ (_ :: []) _
 repeat go_big_quiet_step (fail)
 refine wpQuiet_nil ?_
 refine held_do (i := 5) _ rfl (by kernel_rfl) rfl (fun K hK => ?_)
 go_simp
 obtain ⟨Wb, hWb, hwb1, hwb2, hwq⟩ := alloc_st Z2.1 (spC A A a1 b1 c1 a2 b2 c2 ca1 cb1 cc1 ca2 cb2 cc2 (.slice none 0 0) (.slice none 0 0)) 46
 unfold spC at hWb
 rw [hWb]
 have HI7 := Lib.hid (And.intro (HI5.out.below hwb1) (HI6.out.below hwb1))
 obtain ⟨Z3, rfl⟩ : ∃ Z : Ext w3, Wb = Z.1 := ⟨⟨Wb, below_step Z2.2 hwb1⟩, rfl⟩
 have HST := Lib.hid hwq
 have HS2 := Lib.hid hwb2
 refine hK _ _ ⟨Z3, rfl⟩ ?_
 clear hK K hWb hwb1 hwb2 hwq
 try simp only [Act.put, List.setIfInBounds_toArray, List.set_cons_zero, List.set_cons_succ]
 refine held_quiet (by kernel_rfl) (fun _ _ d _ _ h => by cases d <;> exact h) ⟨Z3, rfl⟩ [6, 7] 0 _ _ (by kernel_rfl) ?_
 change wpQuiet _ _ _ _ (_ :: _ :: []) _
 repeat go_big_quiet_step (fail)
 refine wpQuiet_nil ?_
 refine wpAnyH_done (by kernel_rfl) ?_ _
 go_wp2_with fail
 go_ret2
 unfold NewRet
 have hlo := HBW.out.size
 have hZ2 := Z2.2.size
 have hS3 := HS2.out
 refine ⟨below_step HBW.out Z3.2, Or.inr ⟨rfl, _, rfl, StOk.start HEA.out, a1, b1, c1, a2, b2, c2, ca1, cb1, cc1, ca2, cb2, cc2, .slice none 0 0, .slice none 0 0, HST.out, HI7.out.1, HI7.out.2, EdOwn.nil _ _, EdOwn.nil _ _, ?_⟩⟩
 refine ⟨⟨by omega, by omega⟩, fun g e => (by cases e), fun g e => (by cases e), fun g hg => ?_⟩
 have hlt : g < Z2.1.heap.size := by
  rcases hg with hg | hg
  · exact HI5.out.ltN hg
  · exact HI6.out.ltN hg
 have hge : w3.heap.size ≤ g := by
  rcases hg with hg | hg
  · exact hg.of (O := fun k => w3.heap.size ≤ k) HQ4.out
  · exact hg.of (O := fun k => w3.heap.size ≤ k) HQ6.out
 exact ⟨⟨by omega, by omega⟩, by omega, fun e => (by cases e), fun e => (by cases e)⟩
end Go.Proofs.YtgdepcnfjmobjaaGreat

/- A text of this claim. -/
namespace Go.Proofs.YtgdepcnfjmobjaaGreat
open Go.RowKit Go.BigFrame
section
variable {P : Program} {ops : Array Oper} {Q : Exit → Act → World → Prop} {C : World → Prop} {s : Nat}
theorem wpAnyS_free {i : Nat} {oi : Oper} {v : Value} (hi : ops[i]? = some oi) (hsel : ∀ (j : Nat) (o : Oper) cs b, ops[j]? = some o → o.op ≠ .select cs b) (his : i ≠ s)
 (hQ : ∀ c a w, Q (.panic c) (a.put oi.dst v) w → Q (.panic c) a w) :
 ∀ (fuel : Nat) (listed : Array Bool) (a : Act) (w : World),
  (∀ j oj, ops[j]? = some oj → j ≠ i → listed.getD j true = false → (∀ e ∈ oj.after, Region.binds .any e = true → e.on ≠ i) → oi.apart ops oj = true) →
  i ∈ Region.ready .any ops listed → YieldsIf P ops (fun _ => True) oi v a → (listed.getD s true = false → C w) →
  wpAnyS P ops Q s C fuel (listed.setIfInBounds i true) (a.put oi.dst v) w → wpAnyS P ops Q s C (fuel + 1) listed a w := by
 intro fuel
 induction fuel with
 | zero =>
  intro listed a w _ hr hy hS H
  refine ⟨fun h => (by rw [h] at hr; cases hr), fun j hj => ?_⟩
  by_cases hji : j = i
  · subst hji
    exact hy.wpOp hi trivial ⟨fun h => hS (by rw [getD_set_ne true his] at h; exact h), H⟩
  · have := ready_mono hj hji
    rw [H.1] at this
    cases this
 | succ fuel ih =>
  intro listed a w hfree hr hy hS H
  refine ⟨fun h => (by rw [h] at hr; cases hr), fun j hj => ?_⟩
  by_cases hji : j = i
  · subst hji
    exact hy.wpOp hi trivial ⟨fun h => hS (by rw [getD_set_ne true his] at h; exact h), H⟩
  · have h1 := H.2 j (ready_mono hj hji)
    obtain ⟨hjun, oj, hoj, hall⟩ := mem_ready.1 hj
    have hnot : ∀ e ∈ oj.after, Region.binds .any e = true → e.on ≠ i := fun e he hb heq => by
     have h1 := hall e he hb
     have h0 := (mem_ready.1 hr).1
     rw [heq] at h1
     rcases Nat.lt_or_ge i listed.size with h' | h'
     · simp [h'] at h0 h1; rw [h0] at h1; cases h1
     · simp [Array.getElem?_eq_none h'] at h1
    have h2 := wpOp_putIf hoj (hfree j oj hoj hji hjun hnot) (fun cs b => hsel i oi cs b hi) (fun cs b => hsel j oj cs b hoj) hQ hy h1
    have hfree' : ∀ k ok, ops[k]? = some ok → k ≠ i → (listed.setIfInBounds j true).getD k true = false →
     (∀ e ∈ ok.after, Region.binds .any e = true → e.on ≠ i) → oi.apart ops ok = true := fun k ok hk hki hun hno => by
     refine hfree k ok hk hki ?_ hno
     by_cases hjk : j = k
     · subst hjk; exact hjun
     · rw [getD_set_ne true hjk] at hun; exact hun
    refine wpOp_mono (fun a' w' h3 => ?_) h2
    have hS' : (listed.setIfInBounds j true).getD s true = false → C w' := fun hs => h3.2.1 (by rw [Array.setIfInBounds_comm _ _ (Ne.symm hji), getD_set_ne true his]; exact hs)
    refine ⟨hS', ih (listed.setIfInBounds j true) a' w' hfree' (ready_mono hr (Ne.symm hji)) h3.1 hS' ?_⟩
    rw [Array.setIfInBounds_comm _ _ hji]
    exact h3.2.2
def calmF (ops : Array Oper) (s : Nat) : List Nat → Array Bool → Bool
 | [], _ => true
 | i :: is, listed => (((ops[i]?).map fun o => isCalm4 o.op).getD false && Region.free .any ops listed i && (Region.ready .any ops listed).contains i && (i != s)) && calmF ops s is (listed.setIfInBounds i true)
theorem held_calmF (hsel : Region.noSelect ops = true) (hQ : ∀ c a d v w, Q (.panic c) (Act.put a d v) w → Q (.panic c) a w) {w : World} : ∀ (is : List Nat) (fuel : Nat) (listed : Array Bool) (a : Act), (listed.getD s true = false → C w) →
 calmF ops s is listed = true → wpQuiet P ops (fun _ => True) (fun a' => wpAnyS P ops Q s C fuel (listAll is listed) a' w) (is.filterMap fun i => ops[i]?) a → wpAnyS P ops Q s C (fuel + is.length) listed a w
 | [], _, _, _, _, _, h => h
 | i :: is, fuel, listed, a, hS, hB, h => by
  simp only [calmF, Bool.and_eq_true] at hB
  obtain ⟨⟨⟨⟨h1, h2⟩, h3⟩, h5⟩, h4⟩ := hB
  have hr : i ∈ Region.ready .any ops listed := by simpa using h3
  have his : i ≠ s := by simpa using h5
  have hS' : (listed.setIfInBounds i true).getD s true = false → C w := fun hs => hS (by rw [getD_set_ne true his] at hs; exact hs)
  cases ho : ops[i]? with
  | none => rw [ho] at h1; simp at h1
  | some o =>
   rw [ho] at h1
   simp only [Option.map_some, Option.getD_some] at h1
   rw [List.filterMap_cons, ho] at h
   simp only [wpQuiet] at h
   have e : fuel + (i :: is).length = (fuel + is.length) + 1 := by simp; omega
   rw [e]
   by_cases hw : Region.wanted o (yielded ops a.tmps) = true
   · rw [if_pos hw] at h
     obtain ⟨v, hv, hn⟩ := h
     exact wpAnyS_free ho (Region.noSelect_spec hsel) his (fun c a w => hQ c a _ _ w) _ _ _ _ (Region.free_spec ho h2) hr (yieldsIf_of_quiet4 h1 hw hv) hS (held_calmF hsel hQ is fuel _ _ hS' h4 hn)
   · rw [if_neg hw] at h
     exact wpAnyS_free ho (Region.noSelect_spec hsel) his (fun c a w => hQ c a _ _ w) _ _ _ _ (Region.free_spec ho h2) hr (Or.inr ⟨by simpa using hw, rfl⟩) hS (held_calmF hsel hQ is fuel _ _ hS' h4 h)
theorem late_free {l : List Oper} (hsel : Region.noSelect l.toArray = true) (hQ : ∀ c a d v w, Q (.panic c) (Act.put a d v) w → Q (.panic c) a w) {w : World} {listed : Array Bool} (hS : listed.getD s true = true ∨ C w) (is : List Nat) (fuel : Nat) (a : Act)
 (_hcl : clB l.toArray s listed = true) (hB : calmF l.toArray s is listed = true) (h : wpQuiet P l.toArray (fun _ => True) (fun a' => wpAnyS P l.toArray Q s C fuel (listAll is listed) a' w) (is.filterMap (nth l)) a) : wpAnyS P l.toArray Q s C (fuel + is.length) listed a w :=
 held_calmF hsel hQ is fuel listed a (fun h => hS.elim (fun e => by rw [h] at e; cases e) id) hB (by rw [show (fun i => l.toArray[i]?) = nth l from funext fun i => (nth_eq l i).symm]; exact h)
def calmB5 (ops : Array Oper) : List Nat → Array Bool → Bool
 | [], _ => true
 | i :: is, listed => ((ops[i]?).map fun o => isCalm4 o.op).getD false && Region.free .any ops listed i && (Region.ready .any ops listed).contains i && calmB5 ops is (listed.setIfInBounds i true)
theorem held_calm5 (hsel : Region.noSelect ops = true) (hQ : ∀ c a d v w, Q (.panic c) (Act.put a d v) w → Q (.panic c) a w) {w : World} (hC : C w) : ∀ (is : List Nat) (fuel : Nat) (listed : Array Bool) (a : Act),
 calmB5 ops is listed = true → wpQuiet P ops C (fun a' => wpAnyH P .any ops Q C fuel (listAll is listed) a' w) (is.filterMap fun i => ops[i]?) a → wpAnyH P .any ops Q C (fuel + is.length) listed a w
 | [], _, _, _, _, h => h
 | i :: is, fuel, listed, a, hB, h => by
  simp only [calmB5, Bool.and_eq_true] at hB
  obtain ⟨⟨⟨h1, h2⟩, h3⟩, h4⟩ := hB
  cases ho : ops[i]? with
  | none => rw [ho] at h1; simp at h1
  | some o =>
   rw [ho] at h1
   simp only [Option.map_some, Option.getD_some] at h1
   rw [List.filterMap_cons, ho] at h
   simp only [wpQuiet] at h
   have e : fuel + (i :: is).length = (fuel + is.length) + 1 := by simp; omega
   rw [e]
   by_cases hw : Region.wanted o (yielded ops a.tmps) = true
   · rw [if_pos hw] at h
     obtain ⟨v, hv, hn⟩ := h
     exact wpAnyH_take ho hsel h2 h3 (fun c a w => hQ c a _ _ w) (yieldsIf_of_quiet4 h1 hw hv) hC (held_calm5 hsel hQ hC is fuel _ _ h4 hn)
   · rw [if_neg hw] at h
     exact wpAnyH_take ho hsel h2 h3 (fun c a w => hQ c a _ _ w) (Or.inr ⟨by simpa using hw, rfl⟩) hC (held_calm5 hsel hQ hC is fuel _ _ h4 h)
theorem held_quiet5 {l : List Oper} (hsel : Region.noSelect l.toArray = true) (hQ : ∀ c a d v w, Q (.panic c) (Act.put a d v) w → Q (.panic c) a w) {w : World} (hC : C w) (is : List Nat) (fuel : Nat) (listed : Array Bool) (a : Act)
 (hB : calmB5 l.toArray is listed = true) (h : wpQuiet P l.toArray C (fun a' => wpAnyH P .any l.toArray Q C fuel (listAll is listed) a' w) (is.filterMap (nth l)) a) : wpAnyH P .any l.toArray Q C (fuel + is.length) listed a w :=
 held_calm5 hsel hQ hC is fuel listed a hB (by rw [show (fun i => l.toArray[i]?) = nth l from funext fun i => (nth_eq l i).symm]; exact h)
end
end Go.Proofs.YtgdepcnfjmobjaaGreat

/- A text of this claim. -/
namespace Go.Proofs.YtgdepcnfjmobjaaGreat
open Go.RowKit Go.BigFrame
open Tr (inR Ed)
def doE (A : Acv) (L : List Ed) (x : Ed) : Int := if apE (nowA A L) x ≠ 0 then apE (nowA A L) x else if 200 ≤ L.length then 3 else 0
def DoRet (S : World → (Nat → Prop) → Nat → Acv → List Ed → List Ed → Prop) (P : Nat → Prop) (s : Nat) (A : Acv) (L U : List Ed) (x : Ed) (w : World) (e : Ending) (w' : World) : Prop :=
 Kept P w w' ∧ e = .returned (.int .i64 (doE A L x)) ∧ ((doE A L x ≠ 0 ∧ S w' P s A L U) ∨ (doE A L x = 0 ∧ S w' (Wider P w w') s A (L ++ [x]) []))
theorem doE_bad {A : Acv} {L : List Ed} {x : Ed} {er : Int} (h : apE (nowA A L) x = er) (h0 : er ≠ 0) : doE A L x = er := by unfold doE; rw [h, if_pos h0]
theorem doE_full {A : Acv} {L : List Ed} {x : Ed} (h : apE (nowA A L) x = 0) (hl : 200 ≤ L.length) : doE A L x = 3 := by unfold doE; rw [h, if_neg (by simp), if_pos hl]
theorem doE_ok {A : Acv} {L : List Ed} {x : Ed} (h : apE (nowA A L) x = 0) (hl : ¬ 200 ≤ L.length) : doE A L x = 0 := by unfold doE; rw [h, if_neg (by simp), if_neg hl]
theorem StOk.more {A : Acv} {L U : List Ed} {x : Ed} (h : StOk A L U) (hl : ¬ 200 ≤ L.length) (hx : x.s.size ≤ maxLen) : StOk A (L ++ [x]) [] :=
 ⟨h.chk, by rw [List.length_append]; show L.length + 1 + 0 ≤ _; omega, fun y hy => by
  rcases List.mem_append.1 hy with hy | hy
  · exact h.tl y hy
  · rw [List.mem_singleton.1 hy]; exact hx, fun y hy => by cases hy⟩
theorem ExtO.cell {O : Nat → Prop} {W : World} {p : Addr} {v : Value} (ho : ¬ O p.block) (h : W.cell? p = some v) (X : ExtO O W) : X.1.cell? p = some v := X.2.cell ho h
theorem st_cell {w : World} {s : Nat} {cs : Array Value} {T : TypeId} {f : Nat × Nat} (h : w.heap[s]? = some (.cells cs T f)) {i : Nat} {v : Value} (hv : cs[i]? = some v) : w.cell? ⟨s, i, none⟩ = some v := by
 simp [World.cell?, h, hv]
theorem st_free {w : World} {s : Nat} {cs : Array Value} {T : TypeId} (h : w.heap[s]? = some (.cells cs T (0, 0))) (i : Nat) : w.frozen? ⟨s, i, none⟩ = false := by
 simp [World.frozen?, h]
theorem keepS {s : Nat} (V : World) (i : Nat) (v : Value) : Kept (fun b => b = s) V (V.setCell ⟨s, i, none⟩ v) := keep_set (O := fun b => b = s) rfl
theorem st_now {w : World} {s : Nat} {A Z : Acv} {a b c a' b' c' : Option Addr} {ca cb cc ca' cb' cc' : Nat} {ve vu : Value} (h : w.heap[s]? = some (.cells (spC A Z a b c a' b' c' ca cb cc ca' cb' cc' ve vu) 46 (0, 0))) (Y : Acv) (ya yb yc : Option Addr) (yca ycb ycc : Nat) :
 ∃ W, (((((w.setCell ⟨s, 6, none⟩ (.string Y.name)).setCell ⟨s, 7, none⟩ (.int .i64 Y.sport)).setCell ⟨s, 8, none⟩ (.int .i64 Y.start)).setCell ⟨s, 9, none⟩ (.slice ya Y.sm.length yca)).setCell ⟨s, 10, none⟩ (.slice yb Y.lp.length ycb)).setCell ⟨s, 11, none⟩ (.slice yc Y.tg.length ycc) = W ∧
  W.heap[s]? = some (.cells (spC A Y a b c ya yb yc ca cb cc yca ycb ycc ve vu) 46 (0, 0)) ∧ Kept (fun b => b = s) w W := by
 unfold spC at h ⊢
 exact ⟨_, rfl, set_cells (set_cells (set_cells (set_cells (set_cells (set_cells h))))), (keepS _ _ _).trans ((keepS _ _ _).trans ((keepS _ _ _).trans ((keepS _ _ _).trans ((keepS _ _ _).trans (keepS _ _ _)))))⟩
theorem st_ve {w : World} {s : Nat} {A Z : Acv} {a b c a' b' c' : Option Addr} {ca cb cc ca' cb' cc' : Nat} {ve vu : Value} (h : w.heap[s]? = some (.cells (spC A Z a b c a' b' c' ca cb cc ca' cb' cc' ve vu) 46 (0, 0))) (v : Value) :
 ∃ W, w.setCell ⟨s, 12, none⟩ v = W ∧ W.heap[s]? = some (.cells (spC A Z a b c a' b' c' ca cb cc ca' cb' cc' v vu) 46 (0, 0)) ∧ Kept (fun b => b = s) w W := by
 unfold spC at h ⊢
 exact ⟨_, rfl, set_cells h, keepS _ _ _⟩
theorem st_vu {w : World} {s : Nat} {A Z : Acv} {a b c a' b' c' : Option Addr} {ca cb cc ca' cb' cc' : Nat} {ve vu : Value} (h : w.heap[s]? = some (.cells (spC A Z a b c a' b' c' ca cb cc ca' cb' cc' ve vu) 46 (0, 0))) (v : Value) :
 ∃ W, w.setCell ⟨s, 13, none⟩ v = W ∧ W.heap[s]? = some (.cells (spC A Z a b c a' b' c' ca cb cc ca' cb' cc' ve v) 46 (0, 0)) ∧ Kept (fun b => b = s) w W := by
 unfold spC at h ⊢
 exact ⟨_, rfl, set_cells h, keepS _ _ _⟩
set_option maxHeartbeats 8000000 in
set_option maxRecDepth 100000 in
theorem doP_any (P : Nat → Prop) (s : Nat) (A : Acv) (L U : List Ed) (x : Ed) (w : World) (h : StP w P s A L U) (hs : x.s.size ≤ maxLen) (hP : ∀ g, P g → g < w.heap.size) :
 Calls Tryz.prog 7 #[.pointer (some ⟨s, 0, none⟩), edV x] w fun e w' => DoRet StP P s A L U x w e w' := by
 unfold DoRet
 obtain ⟨hok, a, b, c, a', b', c', ca, cb, cc, ca', cb', cc', ve, vu, hst, hIA, hIZ, hOE, hOU, hS⟩ := id h
 have HST0 := Lib.hid h
 have HOK := Lib.hid hok
 have HP := Lib.hid hP
 obtain ⟨n1, hn1⟩ : ∃ n, L.length = n := ⟨_, rfl⟩
 have HN := Lib.hid hn1
 obtain ⟨av, cv, rfl, hcv, _, _⟩ := id hOE.row
 rw [hn1] at hst hOE hS
 obtain ⟨Z, hZ⟩ : ∃ Z, nowA A L = Z := ⟨_, rfl⟩
 have HZ := Lib.hid hZ
 rw [hZ] at hst hIZ hS
 obtain ⟨er, her⟩ : ∃ e, apE Z x = e := ⟨_, rfl⟩
 have HER := Lib.hid her
 obtain ⟨Y, hY⟩ : ∃ Y, apZ Z x = Y := ⟨_, rfl⟩
 have HNX := Lib.hid (show nowA A (L ++ [x]) = Y by rw [nowA_snoc, hZ, hY])
 have HDB := Lib.hid (fun h0 => doE_bad (show apE (nowA A L) x = er by rw [hZ]; exact her) h0)
 have HDF := Lib.hid (fun (h0 : er = 0) => And.intro (fun h => doE_full (L := L) (A := A) (x := x) (by rw [hZ, her]; exact h0) h) (fun h => doE_ok (L := L) (A := A) (x := x) (by rw [hZ, her]; exact h0) h))
 have HMO := Lib.hid (fun hl => hok.more (x := x) hl hs)
 obtain ⟨dE, hdE⟩ : ∃ d, doE A L x = d := ⟨_, rfl⟩
 rw [hdE] at HDB HDF ⊢
 have HAP := Lib.hid (fun (X : World) (hX : ActIn X Z a' b' c') => apply_f x Z a' b' c' ca' cb' cc' X hX hs)
 rw [hY, her] at HAP
 have HXC := Lib.hid (show edC x = edC x from rfl)
 obtain ⟨L1, hL1⟩ : ∃ M, L ++ [x] = M := ⟨_, rfl⟩
 have HL1 := Lib.hid hL1
 rw [hL1] at HNX HMO ⊢
 obtain ⟨k, n, f, t, sx⟩ := x
 clear hdE hZ her hY hok hP hs hn1 h hL1
 obtain ⟨V1, hV1, hb1, hs1, hl1⟩ := alloc_cells w #[.int .i64 k, .int .i64 n, .int .i64 f, .int .i64 t, .string sx] 36
 have HB1 := Lib.hid hb1
 have HS1 := Lib.hid hs1
 have x0 : V1.cell? ⟨w.heap.size, 0, none⟩ = some (.int .i64 k) := hl1 0 _ rfl
 have x1 : V1.cell? ⟨w.heap.size, 1, none⟩ = some (.int .i64 n) := hl1 1 _ rfl
 have x2 : V1.cell? ⟨w.heap.size, 2, none⟩ = some (.int .i64 f) := hl1 2 _ rfl
 have x3 : V1.cell? ⟨w.heap.size, 3, none⟩ = some (.int .i64 t) := hl1 3 _ rfl
 have x4 : V1.cell? ⟨w.heap.size, 4, none⟩ = some (.string sx) := hl1 4 _ rfl
 have HST := Lib.hid ((hb1.block s (lt_of_block hst)).trans hst)
 have HSL := Lib.hid (lt_of_block hst)
 have HIA := Lib.hid (hIA.below hb1)
 have HIZ := Lib.hid (hIZ.below hb1)
 have HIA0 := Lib.hid hIA
 have HOE := Lib.hid (hOE.below hb1)
 have HOE0 := Lib.hid hOE
 have HS := Lib.hid hS
 have HXA := Lib.hid (And.intro x0 (And.intro x1 (And.intro x2 (And.intro x3 x4))))
 have DAP := Lib.hid (fun X : Ext V1 => HAP.out X.1 (HIZ.out.below X.2))
 unfold actV edV at DAP
 have hst' := HST.out
 unfold spC at hst'
 have z6 := Ext.ex (st_cell hst' (i := 6) rfl)
 have z7 := Ext.ex (st_cell hst' (i := 7) rfl)
 have z8 := Ext.ex (st_cell hst' (i := 8) rfl)
 have z9 := Ext.ex (st_cell hst' (i := 9) rfl)
 have z10 := Ext.ex (st_cell hst' (i := 10) rfl)
 have z11 := Ext.ex (st_cell hst' (i := 11) rfl)
 have z12 := Ext.ex (st_cell hst' (i := 12) rfl)
 have X0 := Ext.ex x0
 have X1 := Ext.ex x1
 have X2 := Ext.ex x2
 have X3 := Ext.ex x3
 have X4 := Ext.ex x4
 clear hst hst' hIA hIZ hOE hOU hS hb1 hs1 hl1 x0 x1 x2 x3 x4 HAP
 unfold edV
 go_enter Tryz.func7, Tryz.ntmps7
 go_upto_region 1 with (fail)
 clear hV1
 go_cut [5, 6] (fun p q wx => ∃ T : Nat, p = .pointer (some ⟨T, 0, none⟩) ∧ q = .int .i64 er ∧ Hid (∃ ya yb yc yca ycb ycc, AcB wx T Y.name Y.sport Y.start (.slice ya Y.sm.length yca) (.slice yb Y.lp.length ycb) (.slice yc Y.tg.length ycc) ∧ ActIn wx Y ya yb yc ∧ (∀ g, RowOf Y ya yb yc g → V1.heap.size ≤ g ∧ g ≠ T) ∧ V1.heap.size ≤ T) ∧ ∃ X : Ext V1, wx = X.1)
 case first =>
  refine held_start (C := fun w' => ∃ Z : Ext V1, w' = Z.1) (by kernel_rfl) ?_
  obtain ⟨Z0, hZ0⟩ : ∃ Z : Ext V1, ({ V1 with drawn := V1.drawn + 1 } : World) = Z.1 := ⟨⟨{ V1 with drawn := V1.drawn + 1 }, ⟨rfl, rfl, rfl, Nat.le_refl _, fun _ _ => rfl⟩⟩, rfl⟩
  rw [hZ0]
  clear hZ0
  refine held_quiet5 (by kernel_rfl) (fun _ _ d _ _ h => by cases d <;> exact h) ⟨Z0, rfl⟩ [0, 4, 1, 2, 3] 7 _ _ (by kernel_rfl) ?_
  change wpQuiet _ _ _ _ (_ :: _ :: _ :: _ :: _ :: []) _
  repeat go_big_quiet_step (fail)
  refine wpQuiet_nil ?_
  refine held_two (i := 5) (j := 9) _ _ rfl rfl (by kernel_rfl) rfl rfl (fun K hK => ?_) (fun K hK => ?_)
  · go_simp
    refine (DAP.out Z0).mono ?_
    rintro e w2 ⟨hb2, ya, yb, yc, yca, ycb, ycc, rfl, hy2, hyq⟩
    obtain ⟨Z1, rfl⟩ : ∃ Z : Ext V1, w2 = Z.1 := ⟨⟨w2, below_step Z0.2 hb2⟩, rfl⟩
    have HY2 := Lib.hid hy2
    have HYQ := Lib.hid (fun q hq => Nat.le_trans Z0.2.size (hyq q hq))
    unfold actV
    refine hK _ _ ⟨Z1, rfl⟩ ?_
    clear hK K hb2 hy2 hyq
    try simp only [Act.put, List.setIfInBounds_toArray, List.set_cons_zero, List.set_cons_succ]
    refine held_quiet5 (by kernel_rfl) (fun _ _ d _ _ h => by cases d <;> exact h) ⟨Z1, rfl⟩ [6, 7, 8] 3 _ _ (by kernel_rfl) ?_
    change wpQuiet _ _ _ _ (_ :: _ :: _ :: []) _
    repeat go_big_quiet_step (fail)
    refine wpQuiet_nil ?_
    refine held_do (i := 9) _ rfl (by kernel_rfl) rfl (fun K hK => ?_)
    go_simp
    obtain ⟨W3, hW3, hwb3, hws3, hac3⟩ := alloc_ac Z1.1 ⟨#[]⟩ 0 0 (.slice none 0 0) (.slice none 0 0) (.slice none 0 0)
    rw [hW3]
    have HY3 := Lib.hid (HY2.out.below hwb3)
    have HLT := Lib.hid (fun g hg => HY2.out.ltN (g := g) hg)
    obtain ⟨Z2, rfl⟩ : ∃ Z : Ext V1, W3 = Z.1 := ⟨⟨W3, below_step Z1.2 hwb3⟩, rfl⟩
    obtain ⟨T, hT⟩ : ∃ T, Z1.1.heap.size = T := ⟨_, rfl⟩
    have HT := Lib.hid hT
    rw [hT] at hac3 HLT ⊢
    have HAC := Lib.hid hac3
    have hZ1 := Z1.2.size
    rw [hT] at hZ1
    have HZ1 := Lib.hid hZ1
    clear hW3 hwb3 hws3 hac3 hT hZ1
    refine hK _ _ ⟨Z2, rfl⟩ ?_
    clear hK K
    try simp only [Act.put, List.setIfInBounds_toArray, List.set_cons_zero, List.set_cons_succ]
    obtain ⟨r0, r1, r2, r3, r4, r5⟩ := HAC.out.cell
    have fr := HAC.out.free
    obtain ⟨WF, hWF, haF, hkF⟩ := HAC.out.store Y.name Y.sport Y.start (.slice ya Y.sm.length yca) (.slice yb Y.lp.length ycb) (.slice yc Y.tg.length ycc)
    have HAF := Lib.hid haF
    have hkF' := hkF (fun q => q = T) rfl
    have hbF : Below V1.heap.size V1 WF := Kept.below Z2.2 hkF' Z2.2.size (fun k hk e => by have := HZ1.out; omega)
    have HIF := Lib.hid (HY3.out.keptN hkF' (fun g hg e => by have := HLT.out g hg; omega))
    obtain ⟨Z3, rfl⟩ : ∃ Z : Ext V1, WF = Z.1 := ⟨⟨WF, hbF⟩, rfl⟩
    clear haF hkF hkF' hbF
    refine held_do (i := 10) _ rfl (by kernel_rfl) rfl (fun K hK => ?_)
    go_simp
    refine hK _ _ ⟨Z3, rfl⟩ ?_
    clear hK K
    try simp only [Act.put, List.setIfInBounds_toArray, List.set_cons_zero, List.set_cons_succ]
    clear hWF r0 r1 r2 r3 r4 r5 fr
    refine held_quiet5 (by kernel_rfl) (fun _ _ d _ _ h => by cases d <;> exact h) ⟨Z3, rfl⟩ [11] 0 _ _ (by kernel_rfl) ?_
    change wpQuiet _ _ _ _ (_ :: []) _
    repeat go_big_quiet_step (fail)
    refine wpQuiet_nil ?_
    refine wpAnyH_done (by kernel_rfl) ?_ _
    go_wp2_with fail
    go_meet
    exact ⟨_, rfl, rfl, Lib.hid ⟨ya, yb, yc, yca, ycb, ycc, HAF.out, HIF.out, fun g hg => ⟨hg.of (O := fun k => V1.heap.size ≤ k) HYQ.out, by have := HLT.out g hg; omega⟩, HZ1.out⟩, Z3, rfl⟩
  · go_simp
    obtain ⟨W3, hW3, hwb3, hws3, hac3⟩ := alloc_ac Z0.1 ⟨#[]⟩ 0 0 (.slice none 0 0) (.slice none 0 0) (.slice none 0 0)
    rw [hW3]
    obtain ⟨Z1, rfl⟩ : ∃ Z : Ext V1, W3 = Z.1 := ⟨⟨W3, below_step Z0.2 hwb3⟩, rfl⟩
    obtain ⟨T, hT⟩ : ∃ T, Z0.1.heap.size = T := ⟨_, rfl⟩
    rw [hT] at hac3 hws3 ⊢
    have HAC1 := Lib.hid hac3
    have HS3 := Lib.hid hws3
    have hZ1 := Z0.2.size
    rw [hT] at hZ1
    have HZ1 := Lib.hid hZ1
    refine hK _ _ ⟨Z1, rfl⟩ ?_
    clear hK K hW3 hwb3 hws3 hac3 hT hZ1
    try simp only [Act.put, List.setIfInBounds_toArray, List.set_cons_zero, List.set_cons_succ]
    refine held_do (i := 5) _ rfl (by kernel_rfl) rfl (fun K hK => ?_)
    go_simp
    refine (DAP.out Z1).mono ?_
    rintro e w2 ⟨hb2, ya, yb, yc, yca, ycb, ycc, rfl, hy2, hyq⟩
    have HAC := Lib.hid (HAC1.out.below hb2)
    obtain ⟨Z2, rfl⟩ : ∃ Z : Ext V1, w2 = Z.1 := ⟨⟨w2, below_step Z1.2 hb2⟩, rfl⟩
    have HY2 := Lib.hid hy2
    have HYQ := Lib.hid (fun q (hq : ya = some q ∨ yb = some q ∨ yc = some q) => show T + 1 ≤ q.block from by have := hyq q hq; have := HS3.out; omega)
    clear hb2 hy2 hyq
    unfold actV
    refine hK _ _ ⟨Z2, rfl⟩ ?_
    clear hK K
    try simp only [Act.put, List.setIfInBounds_toArray, List.set_cons_zero, List.set_cons_succ]
    refine held_quiet5 (by kernel_rfl) (fun _ _ d _ _ h => by cases d <;> exact h) ⟨Z2, rfl⟩ [6, 7, 8] 2 _ _ (by kernel_rfl) ?_
    change wpQuiet _ _ _ _ (_ :: _ :: _ :: []) _
    repeat go_big_quiet_step (fail)
    refine wpQuiet_nil ?_
    obtain ⟨r0, r1, r2, r3, r4, r5⟩ := HAC.out.cell
    have fr := HAC.out.free
    obtain ⟨WF, hWF, haF, hkF⟩ := HAC.out.store Y.name Y.sport Y.start (.slice ya Y.sm.length yca) (.slice yb Y.lp.length ycb) (.slice yc Y.tg.length ycc)
    have HAF := Lib.hid haF
    have hkF' := hkF (fun q => q = T) rfl
    have hbF : Below V1.heap.size V1 WF := Kept.below Z2.2 hkF' Z2.2.size (fun k hk e => by have := HZ1.out; omega)
    have HIF := Lib.hid (HY2.out.kept hkF' (fun q hq e => by have := HYQ.out q hq; omega))
    obtain ⟨Z3, rfl⟩ : ∃ Z : Ext V1, WF = Z.1 := ⟨⟨WF, hbF⟩, rfl⟩
    clear haF hkF hkF' hbF
    refine held_do (i := 10) _ rfl (by kernel_rfl) rfl (fun K hK => ?_)
    go_simp
    refine hK _ _ ⟨Z3, rfl⟩ ?_
    clear hK K
    try simp only [Act.put, List.setIfInBounds_toArray, List.set_cons_zero, List.set_cons_succ]
    clear hWF r0 r1 r2 r3 r4 r5 fr
    refine held_quiet5 (by kernel_rfl) (fun _ _ d _ _ h => by cases d <;> exact h) ⟨Z3, rfl⟩ [11] 0 _ _ (by kernel_rfl) ?_
    change wpQuiet _ _ _ _ (_ :: []) _
    repeat go_big_quiet_step (fail)
    refine wpQuiet_nil ?_
    refine wpAnyH_done (by kernel_rfl) ?_ _
    go_wp2_with fail
    go_meet
    exact ⟨_, rfl, rfl, Lib.hid ⟨ya, yb, yc, yca, ycb, ycc, HAF.out, HIF.out, fun g hg => by
     have h1 := hg.of (O := fun k => T + 1 ≤ k) HYQ.out
     have h2 := HZ1.out
     exact ⟨by omega, by omega⟩, HZ1.out⟩, Z3, rfl⟩
 case rest =>
  obtain ⟨T, rfl, rfl, HC, X, rfl⟩ := hcut
  obtain ⟨ya, yb, yc, yca, ycb, ycc, hac, hin, hrow, hT⟩ := HC.out
  clear DAP HC
  by_cases h0 : er = 0
  case neg =>
   have u1 : (er != 0) = true := by rw [bne_iff_ne]; exact h0
   have HNE := Lib.hid h0
   have HXX := Lib.hid (below_step HB1.out X.2)
   clear h0 hac hin hrow
   go_wp2_with fail
   go_ret
   exact ⟨Kept.of_below HXX.out, by rw [HDB.out HNE.out]; rfl, Or.inl ⟨by rw [HDB.out HNE.out]; exact HNE.out, HST0.out.kept (O := fun _ => False) (Kept.of_below HXX.out) (fun _ _ e => e)⟩⟩
  have HD2 := Lib.hid (HDF.out h0)
  subst h0
  clear HDF HDB
  have z12x := z12 X
  by_cases hl : 200 ≤ n1
  · have t1 : decide ((200 : Int) ≤ (n1 : Int)) = true := by rw [decide_eq_true_eq]; omega
    have t1' : decide (200 ≤ n1) = true := by simpa using hl
    have HD3 := Lib.hid (HD2.out.1 (by rw [HN.out]; exact hl))
    have HXX := Lib.hid (below_step HB1.out X.2)
    clear hl hac hin hrow HD2
    go_wp2_with fail
    go_ret
    exact ⟨Kept.of_below HXX.out, by rw [HD3.out]; rfl, Or.inl ⟨by rw [HD3.out]; decide, HST0.out.kept (O := fun _ => False) (Kept.of_below HXX.out) (fun _ _ e => e)⟩⟩
  have t1 : decide ((200 : Int) ≤ (n1 : Int)) = false := by rw [decide_eq_false_iff_not]; omega
  have t1' : decide (200 ≤ n1) = false := by simpa using hl
  have HL := Lib.hid (show n1 < 200 from by omega)
  have HD3 := Lib.hid (HD2.out.2 (by rw [HN.out]; exact hl))
  have HM2 := Lib.hid (HMO.out (by rw [HN.out]; exact hl))
  have HAC := Lib.hid hac
  have HIN := Lib.hid hin
  have HROW := Lib.hid hrow
  have HT := Lib.hid hT
  have hne : ∀ p : Nat, (Value.slice av n1 cv).ownBlock = some p → p < w.heap.size ∧ p ≠ s := fun p hp => ⟨(HOE0.out.lt p hp).2, (HS.out.eb p hp).2.1⟩
  have HNE := Lib.hid hne
  have hV1 := HS1.out
  have hSL := HSL.out
  obtain ⟨r0, r1, r2, r3, r4, r5⟩ := hac.cell
  have R0 := ExtO.cell (O := fun b => (Value.slice av n1 cv).ownBlock = some b) (fun e => by have := (hne _ e).1; have hh : V1.heap.size ≤ T := hT; simp only at this; omega) r0
  have R1 := ExtO.cell (O := fun b => (Value.slice av n1 cv).ownBlock = some b) (fun e => by have := (hne _ e).1; have hh : V1.heap.size ≤ T := hT; simp only at this; omega) r1
  have R2 := ExtO.cell (O := fun b => (Value.slice av n1 cv).ownBlock = some b) (fun e => by have := (hne _ e).1; have hh : V1.heap.size ≤ T := hT; simp only at this; omega) r2
  have R3 := ExtO.cell (O := fun b => (Value.slice av n1 cv).ownBlock = some b) (fun e => by have := (hne _ e).1; have hh : V1.heap.size ≤ T := hT; simp only at this; omega) r3
  have R4 := ExtO.cell (O := fun b => (Value.slice av n1 cv).ownBlock = some b) (fun e => by have := (hne _ e).1; have hh : V1.heap.size ≤ T := hT; simp only at this; omega) r4
  have R5 := ExtO.cell (O := fun b => (Value.slice av n1 cv).ownBlock = some b) (fun e => by have := (hne _ e).1; have hh : V1.heap.size ≤ T := hT; simp only at this; omega) r5
  have E0 := ExtO.cell (O := fun b => (Value.slice av n1 cv).ownBlock = some b) (fun e => by have := (hne _ e).1; simp only at this; omega) (X0 X)
  have E1 := ExtO.cell (O := fun b => (Value.slice av n1 cv).ownBlock = some b) (fun e => by have := (hne _ e).1; simp only at this; omega) (X1 X)
  have E2 := ExtO.cell (O := fun b => (Value.slice av n1 cv).ownBlock = some b) (fun e => by have := (hne _ e).1; simp only at this; omega) (X2 X)
  have E3 := ExtO.cell (O := fun b => (Value.slice av n1 cv).ownBlock = some b) (fun e => by have := (hne _ e).1; simp only at this; omega) (X3 X)
  have E4 := ExtO.cell (O := fun b => (Value.slice av n1 cv).ownBlock = some b) (fun e => by have := (hne _ e).1; simp only at this; omega) (X4 X)
  have E12 := ExtO.cell (O := fun b => (Value.slice av n1 cv).ownBlock = some b) (fun e => (hne _ e).2 rfl) z12x
  clear r0 r1 r2 r3 r4 r5 X0 X1 X2 X3 X4 z6 z7 z8 z9 z10 z11 z12 hac hin hrow hl hT hne hV1 hSL HD2 HMO
  go_upto_region 6 with (fail)
  clear z12x
  refine late_start (s := 13) (C := fun w' => ∃ Z : ExtO (fun b => (Value.slice av n1 cv).ownBlock = some b) X.1, w' = Z.1) (by kernel_rfl) ?_
  obtain ⟨Z0, hZ0⟩ : ∃ Z : ExtO (fun b => (Value.slice av n1 cv).ownBlock = some b) X.1, ({ X.1 with drawn := X.1.drawn + 1 } : World) = Z.1 := ⟨⟨{ X.1 with drawn := X.1.drawn + 1 }, ⟨rfl, rfl, rfl, Nat.le_refl _, fun _ _ _ => rfl⟩⟩, rfl⟩
  rw [hZ0]
  have HO0 := Lib.hid (show EdOwn Z0.1 0 (.slice av n1 cv) L from hZ0 ▸ (show EdOwn { X.1 with drawn := X.1.drawn + 1 } 0 (.slice av n1 cv) L from (show EdOwn X.1 0 (.slice av n1 cv) L from HOE.out.below X.2)))
  clear hZ0
  refine late_free (by kernel_rfl) (fun _ _ d _ _ h => by cases d <;> exact h) (Or.inr ⟨Z0, rfl⟩) [1, 2] 18 _ (by kernel_rfl) (by kernel_rfl) ?_
  change wpQuiet _ _ _ _ (_ :: _ :: []) _
  repeat go_big_quiet_step (fail)
  refine wpQuiet_nil ?_
  refine late_quiet (by kernel_rfl) (fun _ _ d _ _ h => by cases d <;> exact h) ⟨Z0, rfl⟩ [0, 3, 4, 5, 6, 7, 8] 11 _ _ (by kernel_rfl) (by kernel_rfl) ?_
  change wpQuiet _ _ _ _ (_ :: _ :: _ :: _ :: _ :: _ :: _ :: []) _
  repeat go_big_quiet_step (fail)
  refine wpQuiet_nil ?_
  refine late_do (i := 9) _ rfl (by kernel_rfl) rfl (fun K hK => ?_)
  go_simp
  obtain ⟨W9, hW9, hwb9, hws9, hwl9⟩ := alloc_cells Z0.1 #[.int .i64 k, .int .i64 n, .int .i64 f, .int .i64 t, .string sx] 36
  rw [hW9]
  have HO1 := Lib.hid (HO0.out.below hwb9)
  have HZ0 := Lib.hid Z0.2.size
  obtain ⟨Z1, rfl⟩ : ∃ Z : ExtO (fun b => (Value.slice av n1 cv).ownBlock = some b) X.1, W9 = Z.1 := ⟨⟨W9, Z0.2.trans (Kept.of_below hwb9)⟩, rfl⟩
  have HWL := Lib.hid (fun j u (hj : (edC ⟨k, n, f, t, sx⟩)[j]? = some u) => show Z1.1.cell? ⟨Z0.1.heap.size, j, none⟩ = some u from hwl9 j u (by rw [← hj]; unfold edC; simp))
  have HZS := Lib.hid hws9
  clear hW9 hwb9 hws9 hwl9
  refine hK _ _ (fun _ => ⟨Z1, rfl⟩) ?_
  clear hK K
  try simp only [Act.put, List.setIfInBounds_toArray, List.set_cons_zero, List.set_cons_succ]
  refine late_do (i := 10) _ rfl (by kernel_rfl) rfl (fun K hK => ?_)
  refine wp_append_ed (.tmp 34) (.tmp 36) rfl rfl HO1.out rfl HWL.out (by have := HL.out; rw [HN.out]; omega) (fun a3 n3 c3 w3 ho3 hn3 hg3 hb3 => ?_)
  obtain ⟨Z2, rfl⟩ : ∃ Z : ExtO (fun b => (Value.slice av n1 cv).ownBlock = some b) X.1, w3 = Z.1 := ⟨⟨w3, Z1.2.trans (Kept.of_grown hg3 (fun g e _ => e))⟩, rfl⟩
  rw [HL1.out] at ho3
  have HO3 := Lib.hid ho3
  have HB3 := Lib.hid hb3
  have HZ12 := Lib.hid hg3.size
  refine hK _ _ (fun _ => ⟨Z2, rfl⟩) ?_
  clear hK K ho3 hg3 hb3 hn3 HO0 HO1
  try simp only [Act.put, List.setIfInBounds_toArray, List.set_cons_zero, List.set_cons_succ]
  refine late_quiet (by kernel_rfl) (fun _ _ d _ _ h => by cases d <;> exact h) ⟨Z2, rfl⟩ [11, 12] 7 _ _ (by kernel_rfl) (by kernel_rfl) ?_
  change wpQuiet _ _ _ _ (_ :: _ :: []) _
  repeat go_big_quiet_step (fail)
  refine wpQuiet_nil ?_
  have hs2 : Z2.1.heap[s]? = some (.cells (spC A Z a b c a' b' c' ca cb cc ca' cb' cc' (.slice av n1 cv) vu) 46 (0, 0)) := (Z2.2.block s (by have := HSL.out; have := X.2.size; have := HS1.out; omega) (fun e => (HNE.out _ e).2 rfl)).trans ((X.2.block s (by have := HSL.out; have := HS1.out; omega)).trans HST.out)
  obtain ⟨W4, hW4, hs4, hk4⟩ := st_now hs2 Y ya yb yc yca ycb ycc
  have HS4 := Lib.hid hs4
  have HK4 := Lib.hid hk4
  have fr4 := st_free hs2
  have m6 := st_cell (i := 6) hs2 rfl
  have m7 := st_cell (i := 7) hs2 rfl
  have m8 := st_cell (i := 8) hs2 rfl
  have m9 := st_cell (i := 9) hs2 rfl
  have m10 := st_cell (i := 10) hs2 rfl
  have m11 := st_cell (i := 11) hs2 rfl
  clear hs2 hs4 hk4
  refine late_do (i := 13) _ rfl (by kernel_rfl) rfl (fun K hK => ?_)
  go_simp
  refine hK _ _ (fun h => nomatch (show true = false from h)) ?_
  clear hK K
  try simp only [Act.put, List.setIfInBounds_toArray, List.set_cons_zero, List.set_cons_succ]
  clear hW4 fr4 m6 m7 m8 m9 m10 m11
  refine late_free (by kernel_rfl) (fun _ _ d _ _ h => by cases d <;> exact h) (Or.inl (by kernel_rfl)) [14, 15] 4 _ (by kernel_rfl) (by kernel_rfl) ?_
  change wpQuiet _ _ _ _ (_ :: _ :: []) _
  repeat go_big_quiet_step (fail)
  refine wpQuiet_nil ?_
  obtain ⟨W5, hW5, hs5, hk5⟩ := st_ve HS4.out (.slice a3 n3 c3)
  have HS5 := Lib.hid hs5
  have HK5 := Lib.hid hk5
  have fr5 := st_free HS4.out
  have m12 := st_cell (i := 12) HS4.out rfl
  clear hs5 hk5
  refine late_do (i := 16) _ rfl (by kernel_rfl) rfl (fun K hK => ?_)
  go_simp
  refine hK _ _ (fun h => nomatch (show true = false from h)) ?_
  clear hK K
  try simp only [Act.put, List.setIfInBounds_toArray, List.set_cons_zero, List.set_cons_succ]
  clear hW5 fr5 m12
  refine late_free (by kernel_rfl) (fun _ _ d _ _ h => by cases d <;> exact h) (Or.inl (by kernel_rfl)) [17, 18] 1 _ (by kernel_rfl) (by kernel_rfl) ?_
  change wpQuiet _ _ _ _ (_ :: _ :: []) _
  repeat go_big_quiet_step (fail)
  refine wpQuiet_nil ?_
  obtain ⟨W6, hW6, hs6, hk6⟩ := st_vu HS5.out (.slice none 0 0)
  have HS6 := Lib.hid hs6
  have HK6 := Lib.hid hk6
  have fr6 := st_free HS5.out
  have m13 := st_cell (i := 13) HS5.out rfl
  clear hs6 hk6
  refine late_do (i := 19) _ rfl (by kernel_rfl) rfl (fun K hK => ?_)
  go_simp
  refine hK _ _ (fun h => nomatch (show true = false from h)) ?_
  clear hK K
  try simp only [Act.put, List.setIfInBounds_toArray, List.set_cons_zero, List.set_cons_succ]
  clear hW6 fr6 m13
  refine late_done (by kernel_rfl) ?_ _
  go_wp2_with fail
  go_ret
  have hsz1 := HS1.out
  have hxs := X.2.size
  have hz0 := HZ0.out
  have hz12 := HZ12.out
  have hzs := HZS.out
  have hsl := HSL.out
  have hK3 : Kept (fun b => b = s) Z2.1 W6 := HK4.out.trans (HK5.out.trans HK6.out)
  have hK2 : Kept (fun b => (Value.slice av n1 cv).ownBlock = some b) X.1 Z2.1 := Z2.2
  have hsz3 := hK3.size
  have hE : EdOwn W6 0 (.slice a3 n3 c3) L1 := HO3.out.keptO hK3 (fun g hg e => by
   rcases HB3.out g hg with h | h
   · exact (HNE.out g h).2 e
   · omega)
  have hlt3 := HO3.out.lt
  have hOld : ∀ g, g < w.heap.size → (Value.slice av n1 cv).ownBlock ≠ some g → (Value.slice a3 n3 c3).ownBlock ≠ some g := fun g hg hne e => by
   rcases HB3.out g e with h | h
   · exact hne h
   · omega
  have hIA : ActIn W6 A a b c := ((HIA.out.below X.2).keptN hK2 (fun g hg e => (HS.out.rows g (Or.inl hg)).2.2.1 e)).keptN hK3 (fun g hg e => (HS.out.rows g (Or.inl hg)).2.1 e)
  have hIY : ActIn W6 Y ya yb yc := (HIN.out.keptN hK2 (fun g hg e => by have := (HNE.out g e).1; have := (HROW.out g hg).1; omega)).keptN hK3 (fun g hg e => by have := (HROW.out g hg).1; omega)
  refine ⟨?_, by rw [HD3.out]; rfl, Or.inr ⟨HD3.out, HM2.out, a, b, c, ya, yb, yc, ca, cb, cc, yca, ycb, ycc, .slice a3 n3 c3, .slice none 0 0, by rw [HNX.out]; exact HS6.out, hIA, by rw [HNX.out]; exact hIY, hE, EdOwn.nil _ _, ?_⟩⟩
  · refine (Kept.of_below (below_step HB1.out X.2)).trans ((hK2.wide (fun g hg => (HS.out.eb g hg).1)).trans (hK3.wide (fun g hg => by subst hg; exact HS.out.st)))
  · rw [HNX.out]
    refine ⟨Or.inl HS.out.st, fun g hg => ?_, fun g hg => (by cases hg), fun g hg => ?_⟩
    · have hl := (hlt3 g hg).2
      rcases HB3.out g hg with h | h
      · exact ⟨Or.inl (HS.out.eb g h).1, (HNE.out g h).2, fun e => (by cases e)⟩
      · exact ⟨Or.inr ⟨by omega, by omega⟩, by omega, fun e => (by cases e)⟩
    · rcases hg with hg | hg
      · obtain ⟨q1, q2, q3, _⟩ := HS.out.rows g (Or.inl hg)
        exact ⟨Or.inl q1, q2, hOld g (HP.out g q1) q3, fun e => (by cases e)⟩
      · have h1 := (HROW.out g hg).1
        have h2 := HIN.out.ltN hg
        refine ⟨Or.inr ⟨by omega, by omega⟩, by omega, fun e => ?_, fun e => (by cases e)⟩
        rcases HB3.out g e with h | h
        · have := (HNE.out g h).1
          omega
        · omega
end Go.Proofs.YtgdepcnfjmobjaaGreat
