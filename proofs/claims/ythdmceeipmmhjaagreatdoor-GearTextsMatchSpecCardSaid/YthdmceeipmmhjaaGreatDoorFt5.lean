/- Several texts of this claim in one. -/
import Derived.Test.YthdmceeipmmhjaaGreatDoorFt4
import Derived.Test.YthdmceeipmmhjaaGreatDoorFt2
import Derived.Laws.AppendOwn
import Derived.Laws.StructEq
import Derived.Test.YthdmceeipmmhjaaGreatDoorFt3
import Derived.Lib.AtoiTie
/- Gear: the mounts of each slot, in a map: the walk (program; printed by wip/g/gen_had.py). -/
namespace Go.Proofs.YthdmceeipmmhjaaGreatDoor
open Go.RowKit Go.BigFrame

theorem mcell_one {m : Pcs.Mnt} {u : Value} (hu : u ∈ mcell m) : u.oneCell' = true := by
  simp only [mcell, List.mem_cons, List.not_mem_nil, or_false] at hu
  rcases hu with rfl | rfl | rfl | rfl <;> rfl
theorem own_hdr {w : World} {base e size n : Nat} {v : Value} {xs : List Value} (h : w.ownsRow base e size v n xs) (hn : 0 < n) : ∃ y : Hdr, v = hval y := by
  obtain ⟨g, cap, rfl, _⟩ := h.form hn
  exact ⟨some (g, n, cap), rfl⟩
theorem hdrR_of (y : Hdr) : hdrR (hval y) = some (hdat y, []) := by
  cases y <;> rfl
theorem Kept.weaken {O O' : Nat → Prop} {a b : World} (h : Kept O a b) (hO : ∀ q, O q → O' q) : Kept O' a b := ⟨h.os, h.tape, h.output, h.size, fun k hk ho => h.block k hk (fun e => ho (hO k e))⟩
theorem grown_of {w w' w'' : World} {r : Option Nat} (h : Below w.heap.size w w') (k : w'.grownBy w'' r) : w.grownBy w'' r :=
  ⟨k.os.trans h.os, k.tape.trans h.tape, k.output.trans h.output, Nat.le_trans h.size k.size, fun i hi hr => (k.block i (Nat.lt_of_lt_of_le hi h.size) hr).trans (h.block i hi)⟩
theorem mnt_len {g : Gar} {s : ByteArray} : ∀ k, (Gar.mountsK g s k).length ≤ k
  | 0 => by simp [Gar.mountsK]
  | k + 1 => by
    rw [Gar.mountsK]
    have := mnt_len (g := g) (s := s) k
    split <;> simp <;> omega
set_option maxHeartbeats 4000000 in
set_option maxRecDepth 100000 in
theorem had_any (g : Gar) (a0 a1 a2 a3 : Option Addr) (c0 c1 c2 c3 : Nat) (w : World) (h : GarIn w g a0 a1 a2 a3) (hnm : g.nm ≤ 2000) :
    Calls Tryz.prog 72 #[garV g a0 a1 a2 a3 c0 c1 c2 c3] w fun e w' => Below w.heap.size w w' ∧ ∃ B base hd, e = .returned (.map (some B)) ∧ w.heap.size ≤ B ∧ B < base ∧ StrMap w' Tryz.prog 9 hdrR B g.nm hdat .nil hd ∧ Had w' base g g.nm hd := by
  have HG := Lib.hid h
  have hl2 := h.l2
  clear h
  have HUS := Lib.hid (show Tryz.prog.underlying 9 = some .string by kernel_rfl)
  have HUH := Lib.hid (show Tryz.prog.underlying 109 = some (.map 9 24) by kernel_rfl)
  have HUM := Lib.hid (show Tryz.prog.underlying 24 = some (.slice 52) by kernel_rfl)
  have HzH := Lib.hid (show ∀ u : World, (zeroValue 24).run Tryz.prog u = .ok (.slice none 0 0) u from fun u => by kernel_rfl)
  obtain ⟨i0, hi0, hy0, hy1, hy2⟩ := info_parts (show (Tryz.prog.info? 52).map (fun i => (i.zero, i.size, i.bytes)) = some (some (.agg #[.string ⟨#[]⟩, .string ⟨#[]⟩, .int .i64 0, .int .i64 0]), 4, 48) by kernel_rfl)
  have HI0 := Lib.hid hi0
  have HY0 := Lib.hid hy0
  have HY1 := Lib.hid hy1
  have HY2 := Lib.hid hy2
  clear hi0 hy0 hy1 hy2
  unfold garV
  have hmm := @run_makeMap Tryz.prog
  obtain ⟨W0, hW0, hb0, hs0, hl0'⟩ := alloc_cells w #[.slice a0 g.np c0, .slice a1 g.ns c1, .slice a2 g.nm c2, .slice a3 g.nu c3] 27
  obtain ⟨W, hW⟩ : ∃ W, W0.alloc (.map #[] 0) = W := ⟨_, rfl⟩
  have hbw : Below W0.heap.size W0 W := hW ▸ below_al W0 _
  have hsw : W.heap.size = W0.heap.size + 1 := by rw [← hW, World.size_alloc]
  have e2 := below_cell hbw (hl0' 2 _ rfl)
  have hm0 : StrMap W Tryz.prog 9 hdrR W0.heap.size 0 hdat .nil (fun _ => none) := by
    rw [← hW]
    exact StrMap.made W0 _ _ _ (fun s => rfl)
  obtain ⟨B, hB⟩ : ∃ B, W0.heap.size = B := ⟨_, rfl⟩
  rw [hB] at hm0 hsw hs0
  obtain ⟨base, hbase⟩ : ∃ base, W.heap.size = base := ⟨_, rfl⟩
  have hBb : B < base := by omega
  have HBB := Lib.hid hBb
  have hwb : w.heap.size < B := by omega
  have HBW := Lib.hid (hb0.trans (hbw.mono (by omega)))
  have HM0 := Lib.hid hm0
  have HH0 : Hid (Had W base g 0 (fun _ => none)) := Lib.hid ⟨fun s => World.ownsRow_nil _ _ _ _, fun s _ => rfl⟩
  have HW : Hid ((w.alloc (.cells #[.slice a0 g.np c0, .slice a1 g.ns c1, .slice a2 g.nm c2, .slice a3 g.nu c3] 27)).alloc (.map #[] 0) = W) := Lib.hid (by rw [hW0, hW])
  have HBe : Hid (w.heap.size + 1 = B) := Lib.hid hs0.symm
  have HBASE0 := Lib.hid hbase
  clear hW0 hW hb0 hbw hsw hl0' hm0 hB hbase hs0
  go_enter Tryz.func72, Tryz.ntmps72
  go_upto_region 2 with (fail)
  rw [HW.out, HBe.out]
  go_wp2_with fail
  go_loopw [10] (fun iv wr => ∃ (k : Nat), iv = .int .i64 k ∧ k ≤ g.nm ∧ Hid (∃ hd, StrMap wr Tryz.prog 9 hdrR B k hdat .nil hd ∧ Had wr base g k hd) ∧ Hid (Kept (fun b => b = B ∨ base ≤ b) W wr)) (fun iv _ => g.nm - (intOf iv).toNat)
  case atStart => exact ⟨0, rfl, by omega, Lib.hid ⟨_, HM0.out, HH0.out⟩, Lib.hid (Kept.refl _ _)⟩
  case round =>
    obtain ⟨k, rfl, hk, HE, HK⟩ := hrel
    obtain ⟨hd, hm, hh⟩ := HE.out
    by_cases hlt : k < g.nm
    · have t1 : decide ((k : Int) < (g.nm : Int)) = true := by rw [decide_eq_true_eq]; omega
      have hgr := HG.out.r2.below HBW.out (Nat.le_refl _)
      obtain ⟨b, off, rfl, hbl0, _⟩ := HG.out.r2.here (by omega)
      obtain ⟨b', off', hbe, hbl, hc⟩ := (Kept.row hgr HK.out (fun b' off' e => by injection e with e; injection e with e _; omega)).here (by omega)
      obtain ⟨rfl, rfl⟩ : b = b' ∧ off = off' := by injection hbe with e; injection e with e1 e2; exact ⟨e1, e2⟩
      have e0 : wr.cell? ⟨b, off + k * 4, none⟩ = some (.string (g.ms k)) := hc k hlt 0 (by omega)
      have e1 : wr.cell? ⟨b, off + k * 4 + 1, none⟩ = some (.string (g.mp k)) := hc k hlt 1 (by omega)
      have e2 : wr.cell? ⟨b, off + k * 4 + 2, none⟩ = some (.int .i64 (g.mf k)) := hc k hlt 2 (by omega)
      have e3 : wr.cell? ⟨b, off + k * 4 + 3, none⟩ = some (.int .i64 (g.mt k)) := hc k hlt 3 (by omega)
      obtain ⟨V, hV, hvb, hvs, hvq⟩ := alloc_block wr #[.string (g.ms k), .string (g.mp k), .int .i64 (g.mf k), .int .i64 (g.mt k)] 52
      have HV' := Lib.hid hV
      have HVB := Lib.hid hvb
      have hszw : base ≤ wr.heap.size := by rw [← HBASE0.out]; exact HK.out.size
      have HHAD := Lib.hid (hh.kept (Kept.of_below (O := fun _ => False) hvb) (by simp))
      have HMV := Lib.hid (hm.keptO (Kept.of_below (O := fun _ => False) hvb) (by simp))
      have hv0 : ∃ v0, hval (hd (g.ms k)) = v0 := ⟨_, rfl⟩
      obtain ⟨v0, hv0⟩ := hv0
      have HV0 := Lib.hid hv0
      have hrw := hh.row (g.ms k)
      rw [hv0] at hrw
      have hno := not_own hrw (Or.inr (Nat.le_refl wr.heap.size))
      have hweak : ∀ q, (q = B ∨ v0.ownBlock = some q) → (q = B ∨ base ≤ q) := fun q hq => hq.elim Or.inl (fun h => Or.inr (hrw.lt q h).1)
      have HWEAK := Lib.hid hweak
      have hnl : ¬ (wr.heap.size = B ∨ v0.ownBlock = some wr.heap.size) := by
        rintro (h | h)
        · omega
        · exact hno h
      have L0 : ∀ Z : ExtO (fun b => b = B ∨ v0.ownBlock = some b) V, Z.1.cell? ⟨wr.heap.size, 0, none⟩ = some (.string (g.ms k)) := ExtO.ex hnl (block_cell hvq rfl)
      have L1 : ∀ Z : ExtO (fun b => b = B ∨ v0.ownBlock = some b) V, Z.1.cell? ⟨wr.heap.size, 1, none⟩ = some (.string (g.mp k)) := ExtO.ex hnl (block_cell hvq rfl)
      have L2 : ∀ Z : ExtO (fun b => b = B ∨ v0.ownBlock = some b) V, Z.1.cell? ⟨wr.heap.size, 2, none⟩ = some (.int .i64 (g.mf k)) := ExtO.ex hnl (block_cell hvq rfl)
      have L3 : ∀ Z : ExtO (fun b => b = B ∨ v0.ownBlock = some b) V, Z.1.cell? ⟨wr.heap.size, 3, none⟩ = some (.int .i64 (g.mt k)) := ExtO.ex hnl (block_cell hvq rfl)
      have hln := mnt_len (g := g) (s := g.ms k) k
      have HLEN : Hid ((Gar.mountsK g (g.ms k) k).length ≤ 2000) := Lib.hid (by omega)
      have HKM : Hid (k < maxLen) := Lib.hid (by unfold maxLen; omega)
      have HSZK := Lib.hid (HG.out.z2 k hlt).1
      have HSV : Hid (base ≤ V.heap.size) := Lib.hid (by omega)
      clear hh hm hrw hno hweak hnl hvb hvs hvq hV hv0 hc hgr hln HE hbe
      go_upto_region 5 with (fail)
      rw [HV'.out]
      refine held_start (C := fun w' => ∃ Z : ExtO (fun b => b = B ∨ v0.ownBlock = some b) V, w' = Z.1) (by kernel_rfl) ?_
      obtain ⟨Y0, hY0, hy0⟩ : ∃ Z : ExtO (fun b => b = B ∨ v0.ownBlock = some b) V, ({ V with drawn := V.drawn + 1 } : World) = Z.1 ∧ Below V.heap.size V Z.1 := ⟨⟨{ V with drawn := V.drawn + 1 }, ⟨rfl, rfl, rfl, Nat.le_refl _, fun _ _ _ => rfl⟩⟩, rfl, ⟨rfl, rfl, rfl, Nat.le_refl _, fun _ _ => rfl⟩⟩
      rw [hY0]
      have HVY := Lib.hid hy0
      have HMY := Lib.hid (HMV.out.keptO (Kept.of_below (O := fun _ => False) hy0) (by simp))
      clear hY0 hy0
      refine held_quiet (by kernel_rfl) (fun _ _ d _ _ h => by cases d <;> exact h) ⟨Y0, rfl⟩ [0, 1, 2, 3, 4, 5, 7] 4 _ _ (by kernel_rfl) ?_
      change wpQuiet _ _ _ _ (_ :: _ :: _ :: _ :: _ :: _ :: _ :: []) _
      repeat go_big_quiet_step (fail)
      refine wpQuiet_nil ?_
      refine held_two (i := 6) (j := 8) _ _ rfl rfl (by kernel_rfl) rfl rfl (fun K hK => ?_) (fun K hK => ?_)
      · refine wp_lookup_str (.tmp 17) (.tmp 19) rfl HUS.out HUH.out (HzH.out _) (zp := []) rfl hval hdrR_inv rfl HMY.out rfl HSZK.out ?_
        rw [HV0.out]
        refine hK _ _ ⟨Y0, rfl⟩ ?_
        clear hK K
        simp only [Act.put, List.setIfInBounds_toArray, List.set_cons_zero, List.set_cons_succ]
        refine held_do (i := 8) _ rfl (by kernel_rfl) rfl (fun K hK => ?_)
        go_simp
        obtain ⟨Wb, hWb, hwb1, hwb2, hwq⟩ := alloc_block Y0.1 #[.string (g.ms k), .string (g.mp k), .int .i64 (g.mf k), .int .i64 (g.mt k)] 52
        rw [hWb]
        have hvz := below_step HVY.out hwb1
        obtain ⟨Zb, rfl⟩ : ∃ Z : ExtO (fun b => b = B ∨ v0.ownBlock = some b) V, Wb = Z.1 := ⟨⟨Wb, Kept.of_below hvz⟩, rfl⟩
        have HVZ := Lib.hid hvz
        have HWQ := Lib.hid hwq
        have HMZB := Lib.hid (HMV.out.keptO (Kept.of_below (O := fun _ => False) hvz) (by simp))
        have HHZB := Lib.hid (HHAD.out.kept (Kept.of_below (O := fun _ => False) hvz) (by simp))
        refine hK _ _ ⟨Zb, rfl⟩ ?_
        clear hWb hwb1 hwb2 hwq hvz hK K
        refine held_do (i := 9) _ rfl (by kernel_rfl) rfl (fun K hK => ?_)
        have hrow := HHZB.out.row (g.ms k)
        rw [HV0.out] at hrow
        have HROW := Lib.hid hrow
        clear hrow
        refine wp_append_own Zb.1 (.tmp 20) (.tmp 22) 24 rfl base 52 i0 (.agg #[.string ⟨#[]⟩, .string ⟨#[]⟩, .int .i64 0, .int .i64 0]) 4 48 HUM.out HI0.out HY0.out HY1.out HY2.out rfl (by decide) v0 _ _ rfl HROW.out ⟨Y0.1.heap.size, 0, none⟩ 1 1 (mcell (g.mnt k)) rfl rfl (fun j u hu => by rw [addr_add0]; exact block_cell HWQ.out (by simpa [mcell, Gar.mnt] using hu)) (fun u hu => mcell_one hu) (by have := HLEN.out; unfold maxLen; omega) (by have := HLEN.out; omega) (Nat.le_trans HSV.out HVZ.out.size) (fun v5 w5 hown5 hg5 _ => ?_)
        obtain ⟨y, hy⟩ := own_hdr hown5 (by omega)
        subst hy
        have hmz := HMZB.out.kept hg5 (by
          intro e
          have := (HROW.out.lt B e.symm).1
          have := HBB.out
          omega)
        have HMZ := Lib.hid hmz
        have hgg := grown_of HVZ.out hg5
        rw [← HV0.out] at hgg
        have HGG := Lib.hid hgg
        have HOW := Lib.hid hown5
        obtain ⟨Z5, rfl⟩ : ∃ Z : ExtO (fun b => b = B ∨ v0.ownBlock = some b) V, w5 = Z.1 := ⟨⟨w5, Zb.2.grown hg5 (fun q hq _ => Or.inr hq)⟩, rfl⟩
        refine hK _ _ ⟨Z5, rfl⟩ ?_
        clear hmz hgg hg5 hown5 hK K
        simp only [Act.put, List.setIfInBounds_toArray, List.set_cons_zero, List.set_cons_succ]
        refine held_do (i := 10) _ rfl (by kernel_rfl) rfl (fun K hK => ?_)
        refine wp_update_str (.tmp 14) (.tmp 16) (.tmp 23) rfl HUS.out HUH.out rfl HMZ.out HKM.out rfl HSZK.out rfl (y := y) (hdrR_of y) (fun w6 hm6 hg6 => ?_)
        have HM6 := Lib.hid hm6
        have HHAD6 := Lib.hid (HHAD.out.step HBB.out HGG.out HOW.out hg6)
        obtain ⟨Z6, rfl⟩ : ∃ Z : ExtO (fun b => b = B ∨ v0.ownBlock = some b) V, w6 = Z.1 := ⟨⟨w6, Z5.2.grown hg6 (fun q hq _ => by injection hq with hq; exact Or.inl hq.symm)⟩, rfl⟩
        refine hK _ _ ⟨Z6, rfl⟩ ?_
        clear hg6 hm6 hK K
        simp only [Act.put]
        refine wpAnyH_done (by kernel_rfl) ?_ _
        go_wp2_with fail
        go_roundw
        case rel => exact ⟨k + 1, by go_num, by omega, Lib.hid ⟨_, HM6.out, HHAD6.out⟩, Lib.hid ((HK.out.trans (Kept.of_below HVB.out)).trans (Z6.2.weaken HWEAK.out))⟩
        case measure => simp [intOf]; omega
      · go_simp
        obtain ⟨Wb, hWb, hwb1, hwb2, hwq⟩ := alloc_block Y0.1 #[.string (g.ms k), .string (g.mp k), .int .i64 (g.mf k), .int .i64 (g.mt k)] 52
        rw [hWb]
        have hvz := below_step HVY.out hwb1
        obtain ⟨Zb, rfl⟩ : ∃ Z : ExtO (fun b => b = B ∨ v0.ownBlock = some b) V, Wb = Z.1 := ⟨⟨Wb, Kept.of_below hvz⟩, rfl⟩
        have HVZ := Lib.hid hvz
        have HWQ := Lib.hid hwq
        have HMZB := Lib.hid (HMV.out.keptO (Kept.of_below (O := fun _ => False) hvz) (by simp))
        have HHZB := Lib.hid (HHAD.out.kept (Kept.of_below (O := fun _ => False) hvz) (by simp))
        refine hK _ _ ⟨Zb, rfl⟩ ?_
        clear hWb hwb1 hwb2 hwq hvz hK K
        refine held_do (i := 6) _ rfl (by kernel_rfl) rfl (fun K hK => ?_)
        refine wp_lookup_str (.tmp 17) (.tmp 19) rfl HUS.out HUH.out (HzH.out _) (zp := []) rfl hval hdrR_inv rfl HMZB.out rfl HSZK.out ?_
        rw [HV0.out]
        refine hK _ _ ⟨Zb, rfl⟩ ?_
        clear hK K
        simp only [Act.put, List.setIfInBounds_toArray, List.set_cons_zero, List.set_cons_succ]
        refine held_do (i := 9) _ rfl (by kernel_rfl) rfl (fun K hK => ?_)
        have hrow := HHZB.out.row (g.ms k)
        rw [HV0.out] at hrow
        have HROW := Lib.hid hrow
        clear hrow
        refine wp_append_own Zb.1 (.tmp 20) (.tmp 22) 24 rfl base 52 i0 (.agg #[.string ⟨#[]⟩, .string ⟨#[]⟩, .int .i64 0, .int .i64 0]) 4 48 HUM.out HI0.out HY0.out HY1.out HY2.out rfl (by decide) v0 _ _ rfl HROW.out ⟨Y0.1.heap.size, 0, none⟩ 1 1 (mcell (g.mnt k)) rfl rfl (fun j u hu => by rw [addr_add0]; exact block_cell HWQ.out (by simpa [mcell, Gar.mnt] using hu)) (fun u hu => mcell_one hu) (by have := HLEN.out; unfold maxLen; omega) (by have := HLEN.out; omega) (Nat.le_trans HSV.out HVZ.out.size) (fun v5 w5 hown5 hg5 _ => ?_)
        obtain ⟨y, hy⟩ := own_hdr hown5 (by omega)
        subst hy
        have hmz := HMZB.out.kept hg5 (by
          intro e
          have := (HROW.out.lt B e.symm).1
          have := HBB.out
          omega)
        have HMZ := Lib.hid hmz
        have hgg := grown_of HVZ.out hg5
        rw [← HV0.out] at hgg
        have HGG := Lib.hid hgg
        have HOW := Lib.hid hown5
        obtain ⟨Z5, rfl⟩ : ∃ Z : ExtO (fun b => b = B ∨ v0.ownBlock = some b) V, w5 = Z.1 := ⟨⟨w5, Zb.2.grown hg5 (fun q hq _ => Or.inr hq)⟩, rfl⟩
        refine hK _ _ ⟨Z5, rfl⟩ ?_
        clear hmz hgg hg5 hown5 hK K
        simp only [Act.put, List.setIfInBounds_toArray, List.set_cons_zero, List.set_cons_succ]
        refine held_do (i := 10) _ rfl (by kernel_rfl) rfl (fun K hK => ?_)
        refine wp_update_str (.tmp 14) (.tmp 16) (.tmp 23) rfl HUS.out HUH.out rfl HMZ.out HKM.out rfl HSZK.out rfl (y := y) (hdrR_of y) (fun w6 hm6 hg6 => ?_)
        have HM6 := Lib.hid hm6
        have HHAD6 := Lib.hid (HHAD.out.step HBB.out HGG.out HOW.out hg6)
        obtain ⟨Z6, rfl⟩ : ∃ Z : ExtO (fun b => b = B ∨ v0.ownBlock = some b) V, w6 = Z.1 := ⟨⟨w6, Z5.2.grown hg6 (fun q hq _ => by injection hq with hq; exact Or.inl hq.symm)⟩, rfl⟩
        refine hK _ _ ⟨Z6, rfl⟩ ?_
        clear hg6 hm6 hK K
        simp only [Act.put]
        refine wpAnyH_done (by kernel_rfl) ?_ _
        go_wp2_with fail
        go_roundw
        case rel => exact ⟨k + 1, by go_num, by omega, Lib.hid ⟨_, HM6.out, HHAD6.out⟩, Lib.hid ((HK.out.trans (Kept.of_below HVB.out)).trans (Z6.2.weaken HWEAK.out))⟩
        case measure => simp [intOf]; omega
    · have t1 : decide ((k : Int) < (g.nm : Int)) = false := by rw [decide_eq_false_iff_not]; omega
      have t1' : decide (k < g.nm) = false := by simpa using hlt
      obtain rfl : k = g.nm := by omega
      have hbk := Kept.below HBW.out HK.out HBW.out.size (fun q hq => by have := HBB.out; omega)
      have HBK := Lib.hid hbk
      have HMM := Lib.hid hm
      have HHH := Lib.hid hh
      clear hlt HE hm hh hbk
      go_wp2_with fail
      go_ret
      exact ⟨HBK.out, B, base, hd, rfl, by omega, HBB.out, HMM.out, HHH.out⟩
end Go.Proofs.YthdmceeipmmhjaaGreatDoor

/- Gear: all pieces in their order, and the protocol of what is called for each. -/
namespace Go.Proofs.YthdmceeipmmhjaaGreatDoor
open Go.RowKit Go.BigFrame

/-- a piece that is told: its use, slot, part, seconds, way -/
structure Ev where
  i : Nat
  s : ByteArray
  p : ByteArray
  sec : Int
  way : Int
def pcsOf (g : Gar) (i j : Nat) : List Pcs.Pc := Pcs.pieces (g.uf i) (g.uf i + g.us i) (g.mounts (g.sn j))
def evP (g : Gar) (i j q : Nat) : Ev := ⟨i, g.sn j, (pget (pcsOf g i j) q).1, (pget (pcsOf g i j) q).2, wayG (g.uw i) (g.us i) (secW (pcsOf g i j)) (pcsOf g i j).length q⟩
def evQ (g : Gar) (i j : Nat) : Nat → List Ev
  | 0 => []
  | q + 1 => evQ g i j q ++ [evP g i j q]
def evS (g : Gar) (i : Nat) : Nat → List Ev
  | 0 => []
  | j + 1 => evS g i j ++ (if g.sr j = g.ur i then evQ g i j (pcsOf g i j).length else [])
def evG (g : Gar) : Nat → List Ev
  | 0 => []
  | i + 1 => evG g i ++ evS g i g.ns
def evV (g : Gar) (e : Ev) : Value := .agg #[.string (g.un e.i), .string e.s, .string e.p, .int .i64 e.sec, .int .i64 e.way]

/-- what is kept while pieces are told: 'Inv done S w': the called one has been told 'done'; it may write to the blocks S alone, and to new ones -/
structure Pr (Inv : List Ev → (Nat → Prop) → World → Prop) (done : List Ev) (S0 : Nat → Prop) (V wr : World) : Prop where
  ex : ∃ S : Nat → Prop, Inv done S wr ∧ (∀ b, S b → S0 b ∨ V.heap.size ≤ b) ∧ (∀ b, S b → b < wr.heap.size)
  kept : Kept S0 V wr
theorem Pr.start {Inv : List Ev → (Nat → Prop) → World → Prop} {done : List Ev} {S : Nat → Prop} {V : World} (h : Inv done S V) (hb : ∀ b, S b → b < V.heap.size) : Pr Inv done S V V :=
  ⟨⟨S, h, fun _ hb => Or.inl hb, hb⟩, Kept.refl _ _⟩
theorem Pr.below {Inv : List Ev → (Nat → Prop) → World → Prop} (hkeep : ∀ done S W W', Inv done S W → Below W.heap.size W W' → Inv done S W') {done : List Ev} {S0 : Nat → Prop} {V wr wr' : World} (h : Pr Inv done S0 V wr) (hb : Below wr.heap.size wr wr') : Pr Inv done S0 V wr' := by
  obtain ⟨S, h1, h2, h3⟩ := h.ex
  exact ⟨⟨S, hkeep _ _ _ _ h1 hb, h2, fun b hS => Nat.lt_of_lt_of_le (h3 b hS) hb.size⟩, h.kept.trans (Kept.of_below hb)⟩
/-- a later base: what lies there and may not be written is kept from now on -/
theorem Pr.rebase {Inv : List Ev → (Nat → Prop) → World → Prop} (hkeep : ∀ done S W W', Inv done S W → Below W.heap.size W W' → Inv done S W') {done : List Ev} {S0 : Nat → Prop} {V wr V' : World} (h : Pr Inv done S0 V wr) (hb : Below wr.heap.size wr V') :
    ∃ S : Nat → Prop, Pr Inv done S V' V' ∧ (∀ b, S b → b < wr.heap.size) ∧ (∀ b, b < V.heap.size → ¬ S0 b → ¬ S b) ∧ ∀ done' wr', Pr Inv done' S V' wr' → Pr Inv done' S0 V wr' := by
  obtain ⟨S, h1, h2, h3⟩ := h.ex
  refine ⟨S, Pr.start (hkeep _ _ _ _ h1 hb) (fun b hS => Nat.lt_of_lt_of_le (h3 b hS) hb.size), h3, fun b hb1 hb2 hS => (h2 b hS).elim hb2 (fun h => by omega), fun done' wr' h' => ?_⟩
  obtain ⟨S', g1, g2, g3⟩ := h'.ex
  have hVV' : V.heap.size ≤ V'.heap.size := Nat.le_trans h.kept.size hb.size
  refine ⟨⟨S', g1, fun b hb' => (g2 b hb').elim (h2 b) (fun h => Or.inr (by omega)), g3⟩, ?_⟩
  refine ⟨h'.kept.os.trans (hb.os.trans h.kept.os), h'.kept.tape.trans (hb.tape.trans h.kept.tape), h'.kept.output.trans (hb.output.trans h.kept.output), Nat.le_trans hVV' h'.kept.size, fun k hk ho => ?_⟩
  have hkS : ¬ S k := fun hS => (h2 k hS).elim ho (fun h => by omega)
  exact (h'.kept.block k (by omega) hkS).trans ((hb.block k (Nat.lt_of_lt_of_le hk h.kept.size)).trans (h.kept.block k hk ho))
/-- one piece is told -/
theorem Pr.told {Inv : List Ev → (Nat → Prop) → World → Prop} (hkeep : ∀ done S W W', Inv done S W → Below W.heap.size W W' → Inv done S W') {done : List Ev} {S0 : Nat → Prop} {V wr Wc : World} (h : Pr Inv done S0 V wr) (hb : Below wr.heap.size wr Wc) :
    ∃ S : Nat → Prop, Inv done S Wc ∧ (∀ b, S b → b < Wc.heap.size) ∧ ∀ done' S' W', Inv done' S' W' → (∀ b, S' b → S b ∨ Wc.heap.size ≤ b) → (∀ b, S' b → b < W'.heap.size) → Kept S Wc W' → Pr Inv done' S0 V W' := by
  obtain ⟨S, h1, h2, h3⟩ := h.ex
  have hV : V.heap.size ≤ Wc.heap.size := Nat.le_trans h.kept.size hb.size
  refine ⟨S, hkeep _ _ _ _ h1 hb, fun b hS => Nat.lt_of_lt_of_le (h3 b hS) hb.size, fun done' S' W' g1 g2 g3 gk => ⟨⟨S', g1, fun b hb' => (g2 b hb').elim (h2 b) (fun h => Or.inr (by omega)), g3⟩, ?_⟩⟩
  refine ⟨gk.os.trans (hb.os.trans h.kept.os), gk.tape.trans (hb.tape.trans h.kept.tape), gk.output.trans (hb.output.trans h.kept.output), Nat.le_trans hV gk.size, fun k hk ho => ?_⟩
  have hkS : ¬ S k := fun hS => (h2 k hS).elim ho (fun h => by omega)
  exact (gk.block k (by omega) hkS).trans ((hb.block k (Nat.lt_of_lt_of_le hk h.kept.size)).trans (h.kept.block k hk ho))
theorem flatN {β : Type} {f : β → List Value} {m : Nat} (d : β) (hf : ∀ q, (f q).length = m) : ∀ (l : List β) (k j : Nat), k < l.length → j < m → (l.flatMap f)[k * m + j]? = (f (l.getD k d))[j]?
  | [], k, j, h, _ => by simp at h
  | q :: l, 0, j, _, hj => by
    rw [List.flatMap_cons, Nat.zero_mul, Nat.zero_add, List.getElem?_append_left (by rw [hf]; exact hj)]
    rfl
  | q :: l, k + 1, j, h, hj => by
    rw [List.flatMap_cons, List.getElem?_append_right (by rw [hf, Nat.succ_mul]; omega), hf, show (k + 1) * m + j - m = k * m + j by rw [Nat.succ_mul]; omega]
    exact flatN d hf l k j (by simpa using h) hj
/-- the row of a slot, as a slice that piecesOf may read -/
theorem Had.rowK {w : World} {base : Nat} {g : Gar} {k : Nat} {hd : ByteArray → Hdr} (h : Had w base g k hd) (s : ByteArray) :
    ∃ (am : Option Addr) (cm : Nat), hval (hd s) = .slice am (Gar.mountsK g s k).length cm ∧ RowK w am (Gar.mountsK g s k).length 4 (fun i => mcell (mget (Gar.mountsK g s k) i)) := by
  have hr := h.row s
  rcases hr.2 with ⟨e, hn⟩ | ⟨q, cap, cur, e, _, h3, _⟩
  · exact ⟨none, 0, by rw [e, hn], ⟨fun h => by omega⟩⟩
  · refine ⟨some ⟨q, 0, none⟩, cap, e, ⟨fun hl => ⟨q, 0, rfl, lt_of_block h3, fun i hi j hj => ?_⟩⟩⟩
    have hc := flatN (f := mcell) (m := 4) ⟨⟨#[]⟩, ⟨#[]⟩, 0, 0⟩ (fun q => rfl) (Gar.mountsK g s k) i j hi hj
    have hv : ∃ v, (mcell (mget (Gar.mountsK g s k) i))[j]? = some v := ⟨_, List.getElem?_eq_getElem (by simpa [mcell] using hj)⟩
    obtain ⟨v, hv⟩ := hv
    have h6 := hr.cells (g := q) (by rw [e]; rfl) (i * 4 + j) v (hc.trans hv)
    rw [addr_add0] at h6
    rw [Nat.zero_add, hv]
    exact h6
end Go.Proofs.YthdmceeipmmhjaaGreatDoor

/- Gear: eachPiece of the program (printed by wip/g/gen_each.py). -/
namespace Go.Proofs.YthdmceeipmmhjaaGreatDoor
open Go.RowKit Go.BigFrame
open Gar (chk)

def useAt (g : Gar) (i : Nat) : Value := useV (g.un i) (g.ur i) (g.uf i) (g.us i) (g.uw i)
theorem evG_pre (g : Gar) (a : Nat) : ∀ b, a ≤ b → ∃ r, evG g b = evG g a ++ r
  | 0, h => ⟨[], by rw [Nat.le_zero.1 h]; simp⟩
  | b + 1, h => by
    by_cases e : a = b + 1
    · exact ⟨[], by rw [e]; simp⟩
    · obtain ⟨r, hr⟩ := evG_pre g a b (by omega)
      exact ⟨r ++ evS g b g.ns, by rw [evG, hr, List.append_assoc]⟩
theorem evS_pre (g : Gar) (i a : Nat) : ∀ b, a ≤ b → ∃ r, evS g i b = evS g i a ++ r
  | 0, h => ⟨[], by rw [Nat.le_zero.1 h]; simp⟩
  | b + 1, h => by
    by_cases e : a = b + 1
    · exact ⟨[], by rw [e]; simp⟩
    · obtain ⟨r, hr⟩ := evS_pre g i a b (by omega)
      exact ⟨r ++ (if g.sr b = g.ur i then evQ g i b (pcsOf g i b).length else []), by rw [evS, hr, List.append_assoc]⟩
theorem evQ_pre (g : Gar) (i j a : Nat) : ∀ b, a ≤ b → ∃ r, evQ g i j b = evQ g i j a ++ r
  | 0, h => ⟨[], by rw [Nat.le_zero.1 h]; simp⟩
  | b + 1, h => by
    by_cases e : a = b + 1
    · exact ⟨[], by rw [e]; simp⟩
    · obtain ⟨r, hr⟩ := evQ_pre g i j a b (by omega)
      exact ⟨r ++ [evP g i j b], by rw [evQ, hr, List.append_assoc]⟩
theorem ev_pre {g : Gar} {i j q : Nat} (hi : i < g.nu) (hj : j < g.ns) (hev : evS g i (j + 1) = evS g i j ++ evQ g i j (pcsOf g i j).length) (hq : q < (pcsOf g i j).length) : ∃ rest, evG g g.nu = (evG g i ++ evS g i j ++ evQ g i j q) ++ evP g i j q :: rest := by
  obtain ⟨r1, h1⟩ := evG_pre g (i + 1) g.nu (by omega)
  obtain ⟨r2, h2⟩ := evS_pre g i (j + 1) g.ns (by omega)
  obtain ⟨r3, h3⟩ := evQ_pre g i j (q + 1) (pcsOf g i j).length (by omega)
  rw [evQ] at h3
  rw [h3] at hev
  rw [hev] at h2
  rw [evG, h2] at h1
  exact ⟨r3 ++ r2 ++ r1, by rw [h1]; simp [List.append_assoc]⟩
theorem Had.to {w w' : World} {base B0 : Nat} {g : Gar} {k : Nat} {hd : ByteArray → Hdr} (h : Had w base g k hd) (hb : ∀ q, B0 ≤ q → q < w.heap.size → w'.heap[q]? = w.heap[q]?) (hB : B0 ≤ base) : Had w' base g k hd := by
  refine ⟨fun s => ?_, h.nil⟩
  obtain ⟨h1, h2⟩ := h.row s
  refine ⟨h1, ?_⟩
  rcases h2 with h7 | ⟨q, cap, cur, e1, e2, e3, e4⟩
  · exact Or.inl h7
  · exact Or.inr ⟨q, cap, cur, e1, e2, (hb q (by omega) (lt_of_block e3)).trans e3, e4⟩
theorem StrMap.to {α : Type} {w w' : World} {P : Program} {k : TypeId} {R : Value → Option (DataW Unit × List MemPlace)} {b n : Nat} {dat : α → DataW Unit} {zd : DataW Unit} {f : ByteArray → α} (h : StrMap w P k R b n dat zd f) (hb : w'.heap[b]? = w.heap[b]?) : StrMap w' P k R b n dat zd f := by
  obtain ⟨D, ⟨es, clock, h1, h2⟩, h3⟩ := h.ex
  exact ⟨D, ⟨es, clock, hb.trans h1, h2⟩, h3⟩
theorem pcsOf_of (g : Gar) (i j : Nat) : Pcs.pieces (g.uf i) (g.uf i + g.us i) (Gar.mountsK g (g.sn j) g.nm) = pcsOf g i j := rfl
set_option maxHeartbeats 8000000 in
set_option maxRecDepth 100000 in
theorem eachPiece_any (g : Gar) (a0 a1 a2 a3 : Option Addr) (c0 c1 c2 c3 : Nat) (w : World) (h : GarIn w g a0 a1 a2 a3) (hchk : chk g = 0) (fid : FuncId) (caps : Array Value) (hcf : ∀ args w, Sem.run Tryz.prog (callFunc fid args) w = .ok (.enter fid args) w)
    (Inv : List Ev → (Nat → Prop) → World → Prop) (hkeep : ∀ done S W W', Inv done S W → Below W.heap.size W W' → Inv done S W')
    (hcall : ∀ (done : List Ev) (S : Nat → Prop) (W : World) (ev : Ev), Inv done S W → (∀ b, S b → b < W.heap.size) → ev.i < g.nu → (∃ rest, evG g g.nu = done ++ ev :: rest) →
      Calls Tryz.prog fid (#[useAt g ev.i, evV g ev] ++ caps) W fun e W' => e = .returned (.tuple #[]) ∧ ∃ S' : Nat → Prop, Inv (done ++ [ev]) S' W' ∧ (∀ b, S' b → S b ∨ W.heap.size ≤ b) ∧ (∀ b, S' b → b < W'.heap.size) ∧ Kept S W W')
    (S0 : Nat → Prop) (hinv : Inv [] S0 w) (hS0 : ∀ b, S0 b → b < w.heap.size) (hg1 : ∀ b off, a1 = some ⟨b, off, none⟩ → 0 < g.ns → ¬ S0 b) (hg3 : ∀ b off, a3 = some ⟨b, off, none⟩ → 0 < g.nu → ¬ S0 b) :
    Calls Tryz.prog 46 #[garV g a0 a1 a2 a3 c0 c1 c2 c3, .func (.func fid) #[] caps] w fun e w' => e = .returned (.tuple #[]) ∧ Pr Inv (evG g g.nu) S0 w w' := by
  have HG := Lib.hid h
  have HCF := Lib.hid hcf
  have HKEEP := Lib.hid hkeep
  have HCALL := Lib.hid hcall
  have HG1 := Lib.hid hg1
  have HG3 := Lib.hid hg3
  have hl1 := h.l1
  have hl3 := h.l3
  have HCK := Lib.hid (Gar.chk_parts hchk)
  have hnm := HCK.out.2.2.1
  have HPR := Lib.hid (Pr.start hinv hS0)
  have HUS := Lib.hid (show Tryz.prog.underlying 9 = some .string by kernel_rfl)
  have HUH := Lib.hid (show Tryz.prog.underlying 109 = some (.map 9 24) by kernel_rfl)
  have HzH := Lib.hid (show ∀ u : World, (zeroValue 24).run Tryz.prog u = .ok (.slice none 0 0) u from fun u => by kernel_rfl)
  have DH := Lib.hid (fun (W : World) (hb : Below w.heap.size w W) => had_any g a0 a1 a2 a3 c0 c1 c2 c3 W (HG.out.below hb) hnm)
  clear h hcf hkeep hcall hg1 hg3 hchk hinv hnm
  unfold garV at DH ⊢
  obtain ⟨W0, hW0, hb0, hs0, hl0'⟩ := alloc_cells w #[.slice a0 g.np c0, .slice a1 g.ns c1, .slice a2 g.nm c2, .slice a3 g.nu c3] 27
  have e0 := hl0' 0 _ rfl
  have e1 := hl0' 1 _ rfl
  have e2 := hl0' 2 _ rfl
  have e3 := hl0' 3 _ rfl
  have HB0 := Lib.hid hb0
  have HW0 := Lib.hid hW0
  have hs0' : w.heap.size < W0.heap.size := by omega
  clear hl0' hW0 hb0 hs0
  go_enter Tryz.func46, Tryz.ntmps46
  go_upto_region 1 with (fail)
  rw [HW0.out]
  go_wp2_with fail
  refine (DH.out _ HB0.out).mono ?_
  rintro e W ⟨hbW, B, base, hd, rfl, hB0, hBb, hmW, hhW⟩
  have hbw := HB0.out.trans (hbW.mono (Nat.le_of_lt hs0'))
  have HBW := Lib.hid hbw
  have HMW := Lib.hid hmW
  have HHW := Lib.hid hhW
  have hnot : ∀ b, w.heap.size ≤ b → ¬ S0 b := fun b hb hS => by have := hS0 b hS; omega
  have HNOT := Lib.hid hnot
  obtain ⟨S1, hp1, hs1a, hs1b, hs1c⟩ := Pr.rebase HKEEP.out HPR.out HBW.out
  have hn1 : ∀ b, w.heap.size ≤ b → ¬ S1 b := fun b hb hS => by have := hs1a b hS; omega
  have HN1 := Lib.hid hn1
  have hr3 : ∀ b off, a3 = some ⟨b, off, none⟩ → 0 < g.nu → ¬ S1 b := fun b off ha hn => by
    obtain ⟨b', off', h1, h2, _⟩ := HG.out.r3.here hn
    rw [ha] at h1
    injection h1 with h1
    injection h1 with h1 _
    exact hs1b b (by omega) (HG3.out b off ha hn)
  have hr1 : ∀ b off, a1 = some ⟨b, off, none⟩ → 0 < g.ns → b < w.heap.size ∧ ¬ S1 b := fun b off ha hn => by
    obtain ⟨b', off', h1, h2, _⟩ := HG.out.r1.here hn
    rw [ha] at h1
    injection h1 with h1
    injection h1 with h1 _
    exact ⟨by omega, hs1b b (by omega) (HG1.out b off ha hn)⟩
  have HR3 := Lib.hid hr3
  have HR1 := Lib.hid hr1
  have HP1 := Lib.hid hp1
  have HS1C := Lib.hid hs1c
  have f1 := below_cell hbW e1
  have f3 := below_cell hbW e3
  have hwW : w.heap.size < W.heap.size := Nat.lt_of_lt_of_le hs0' hbW.size
  clear hp1 hs1a hs1b hs1c hr3 hr1 hbW hbw hmW hhW hnot HPR e0 e1 e2 e3
  go_wp2_with fail
  go_loopw [16] (fun iv wr => ∃ (i : Nat), iv = .int .i64 i ∧ i ≤ g.nu ∧ Hid (Pr Inv (evG g i) S1 W wr)) (fun iv _ => g.nu - (intOf iv).toNat)
  case atStart => exact ⟨0, rfl, by omega, HP1⟩
  case round =>
    obtain ⟨i, rfl, hi, HP⟩ := hrel
    by_cases hlt : i < g.nu
    · have t1 : decide ((i : Int) < (g.nu : Int)) = true := by rw [decide_eq_true_eq]; omega
      have hk1 := HP.out.kept
      obtain ⟨b, off, rfl, hbl, hc⟩ := (Kept.row (HG.out.r3.below HBW.out (Nat.le_refl _)) hk1 (fun b off e => HR3.out b off e (by omega))).here (by omega)
      have e0 : wr.cell? ⟨b, off + i * 5, none⟩ = some (.string (g.un i)) := hc i hlt 0 (by omega)
      have e1 : wr.cell? ⟨b, off + i * 5 + 1, none⟩ = some (.string (g.ur i)) := hc i hlt 1 (by omega)
      have e2 : wr.cell? ⟨b, off + i * 5 + 2, none⟩ = some (.int .i64 (g.uf i)) := hc i hlt 2 (by omega)
      have e3 : wr.cell? ⟨b, off + i * 5 + 3, none⟩ = some (.int .i64 (g.us i)) := hc i hlt 3 (by omega)
      have e4 : wr.cell? ⟨b, off + i * 5 + 4, none⟩ = some (.int .i64 (g.uw i)) := hc i hlt 4 (by omega)
      obtain ⟨V1, hV1, hvb, hvs, hvq⟩ := alloc_block wr #[.string (g.un i), .string (g.ur i), .int .i64 (g.uf i), .int .i64 (g.us i), .int .i64 (g.uw i)] 54
      obtain ⟨S2, hp2, hs2a, hs2b, hs2c⟩ := Pr.rebase HKEEP.out HP.out hvb
      have hn2 : ∀ b, b < W.heap.size → ¬ S1 b → ¬ S2 b := hs2b
      have g1 : V1.cell? ⟨w.heap.size, 1, none⟩ = some (.slice a1 g.ns c1) := below_cell hvb (hk1.cell (HN1.out _ (Nat.le_refl _)) f1)
      have HV1 := Lib.hid hV1
      have HP2 := Lib.hid hp2
      have HS2C := Lib.hid hs2c
      have HKW : Hid (Kept S1 W V1) := Lib.hid (hk1.trans (Kept.of_below hvb))
      have HN2 := Lib.hid hn2
      have hloc : ¬ S2 wr.heap.size := fun hS => by have := hs2a _ hS; omega
      have HLOC := Lib.hid hloc
      have hvl : wr.heap.size < V1.heap.size := by omega
      have HVQ := Lib.hid hvq
      have hwl : W.heap.size ≤ wr.heap.size := hk1.size
      obtain ⟨p6, hp6⟩ : ∃ p6, wr.heap.size = p6 := ⟨_, rfl⟩
      rw [hp6] at HLOC HVQ hwl hvl
      have HP6E := Lib.hid hp6
      have hur := Gar.use_right HCK.out.2.2.2.2.2.2.2.2 hlt
      have HUR := Lib.hid hur
      clear hc hk1 hV1 hvb hvs hvq hp2 hs2a hs2b hs2c hn2 hloc hur hp6
      go_upto_region 5 with (fail)
      rw [HV1.out, HP6E.out]
      go_wp2_with fail
      clear g1
      go_loopw [23] (fun iv wr => ∃ (j : Nat), iv = .int .i64 j ∧ j ≤ g.ns ∧ Hid (Pr Inv (evG g i ++ evS g i j) S2 V1 wr)) (fun iv _ => g.ns - (intOf iv).toNat)
      case atStart => exact ⟨0, rfl, by omega, Lib.hid (by rw [evS, List.append_nil]; exact HP2.out)⟩
      case round =>
        obtain ⟨j, rfl, hj, HPJ⟩ := hrel
        by_cases hltj : j < g.ns
        · have t2 : decide ((j : Int) < (g.ns : Int)) = true := by rw [decide_eq_true_eq]; omega
          have hkj := HPJ.out.kept
          have hkv : ∀ b, b < W.heap.size → ¬ S1 b → ∀ o, W.heap[b]? = some o → wr.heap[b]? = some o := fun b hb h1 o ho => (hkj.block b (Nat.lt_of_lt_of_le hb HKW.out.size) (HN2.out b hb h1)).trans ((HKW.out.block b hb h1).trans ho)
          obtain ⟨b1, off1, rfl, hbl1, hc1⟩ := HG.out.r1.here (by omega)
          have hbs := HR1.out b1 off1 rfl (by omega)
          have hr1w : ∀ q, q < g.ns → ∀ z, z < 2 → wr.cell? ⟨b1, off1 + q * 2 + z, none⟩ = ([.string (g.sn q), .string (g.sr q)] : List Value)[z]? := fun q hq z hz => by
            have h1 := (HBW.out.block b1 hbl1)
            have h2 := (HKW.out.block b1 (by omega) hbs.2)
            have h3 := (hkj.block b1 (Nat.lt_of_lt_of_le (by omega : b1 < W.heap.size) HKW.out.size) (HN2.out b1 (by omega) hbs.2))
            exact (World.cell?_of_block (h3.trans (h2.trans h1))).trans (hc1 q hq z hz)
          have s0 : wr.cell? ⟨b1, off1 + j * 2, none⟩ = some (.string (g.sn j)) := hr1w j hltj 0 (by omega)
          have s1 : wr.cell? ⟨b1, off1 + j * 2 + 1, none⟩ = some (.string (g.sr j)) := hr1w j hltj 1 (by omega)
          have hbw1 : b1 < wr.heap.size := by
            have h1 := hkj.size
            have h2 := HKW.out.size
            omega
          obtain ⟨V2, hV2, hvb2, hvs2, hvq2⟩ := alloc_block wr #[.string (g.sn j), .string (g.sr j)] 50
          have u0 : ∀ z v, (#[.string (g.un i), .string (g.ur i), .int .i64 (g.uf i), .int .i64 (g.us i), .int .i64 (g.uw i)] : Array Value)[z]? = some v → V2.cell? ⟨p6, z, none⟩ = some v := fun z v hv =>
            below_cell hvb2 (hkj.cell HLOC.out (block_cell HVQ.out hv))
          have x0 := u0 0 _ rfl
          have x1 := u0 1 _ rfl
          have x2 := u0 2 _ rfl
          have x3 := u0 3 _ rfl
          have x4 := u0 4 _ rfl
          have y0 : V2.cell? ⟨wr.heap.size, 0, none⟩ = some (.string (g.sn j)) := block_cell hvq2 rfl
          have y1 : V2.cell? ⟨wr.heap.size, 1, none⟩ = some (.string (g.sr j)) := block_cell hvq2 rfl
          have hse := str_eq (g.sr j) (g.ur i)
          have HV2 := Lib.hid hV2
          have HVB2 := Lib.hid hvb2
          have HKJ := Lib.hid hkj
          clear hV2 hvb2 hvq2 hkv hc1 hr1w u0 hkj
          by_cases hrig : g.sr j = g.ur i
          · rw [show decide (g.sr j = g.ur i) = true by simpa using hrig] at hse
            have hne : ((g.sr j).toList != (g.ur i).toList) = false := by rw [bne, hse]; rfl
            have hev : evS g i (j + 1) = evS g i j ++ evQ g i j (pcsOf g i j).length := by rw [evS, if_pos hrig]
            have HEV := Lib.hid hev
            clear hev hrig
            have hVW : ∀ q, w.heap.size ≤ q → q < W.heap.size → V2.heap[q]? = W.heap[q]? := fun q h1 h2 => by
              have k1 := HKW.out.block q h2 (HN1.out q h1)
              have k2 := HKJ.out.block q (Nat.lt_of_lt_of_le h2 HKW.out.size) (HN2.out q h2 (HN1.out q h1))
              have k3 := HVB2.out.block q (Nat.lt_of_lt_of_le h2 (Nat.le_trans HKW.out.size HKJ.out.size))
              exact k3.trans (k2.trans k1)
            have hhv := HHW.out.to hVW (by omega)
            have hmv := HMW.out.to (hVW B (by omega) HMW.out.lt)
            obtain ⟨am, cm, hval1, hrowk⟩ := hhv.rowK (g.sn j)
            have kS : (Instr.lookup 109 (.map (some B)) (.string (g.sn j)) false).run Tryz.prog V2 = .ok (hval (hd (g.sn j))) V2 :=
              StrMap.look (val := hval) hmv HUS.out HUH.out (HzH.out _) (zp := []) rfl hdrR_inv (HG.out.z1 j hltj).1
            rw [hval1] at kS
            have hur := HUR.out
            have hln := mnt_len (g := g) (s := g.sn j) g.nm
            have DP := Lib.hid (piecesOf_any (g.un i) (g.ur i) (g.uf i) (g.us i) (g.uw i) (g.sn j) am cm (Gar.mountsK g (g.sn j) g.nm) V2 hrowk (by omega) (by omega) (by omega) (by omega) (by omega) (by omega) (by have := HCK.out.2.2.1; omega) (Gar.ord_mounts HCK.out.2.2.2.2.2.2.1 HCK.out.2.2.2.2.2.2.2.1 (g.sn j) g.nm (Nat.le_refl _)))
            rw [pcsOf_of] at DP
            have hgood : Good (pcsOf g i j) (g.us i) := good_pieces (Gar.ord_mounts HCK.out.2.2.2.2.2.2.1 HCK.out.2.2.2.2.2.2.2.1 (g.sn j) g.nm (Nat.le_refl _)) (by omega)
            have hnl := hgood.len
            have hnl2 : ((pcsOf g i j).length : Int) ≤ 1000000 := by omega
            unfold useV at DP
            clear hhv hmv hval1 hrowk hur hln hVW hgood hnl hne
            go_upto_region 8 with (fail)
            rw [HV2.out]
            go_wp2_with fail
            refine DP.out.mono ?_
            rintro e w3 ⟨gq, capq, rfl, hgq, hrow, hbp⟩
            have hb23 := below_step HVB2.out hbp
            obtain ⟨S4, hp4, hs4a, hs4b, hs4c⟩ := Pr.rebase HKEEP.out HPJ.out hb23
            have v0 := below_cell hbp x0
            have v1 := below_cell hbp x1
            have v2 := below_cell hbp x2
            have v3 := below_cell hbp x3
            have v4 := below_cell hbp x4
            have hl6 : ¬ S4 p6 := hs4b p6 hvl HLOC.out
            have hlq : ¬ S4 gq := fun hS => by have := hs4a gq hS; omega
            have HL6 := Lib.hid hl6
            have HLQ := Lib.hid hlq
            have HP4 := Lib.hid hp4
            have HS4C := Lib.hid hs4c
            have HROW := Lib.hid hrow
            clear hb23 hp4 hs4a hs4b hs4c hl6 hlq hrow hbp kS x0 x1 x2 x3 x4 y0 y1 s0 s1 hse DP
            go_wp2_with fail
            go_loopw [41] (fun iv wr => ∃ (q : Nat), iv = .int .i64 q ∧ q ≤ (pcsOf g i j).length ∧ Hid (Pr Inv (evG g i ++ evS g i j ++ evQ g i j q) S4 w3 wr)) (fun iv _ => (pcsOf g i j).length - (intOf iv).toNat)
            case atStart => exact ⟨0, rfl, by omega, Lib.hid (by rw [evQ, List.append_nil]; exact HP4.out)⟩
            case round =>
              obtain ⟨q, rfl, hq, HPQ⟩ := hrel
              by_cases hltq : q < (pcsOf g i j).length
              · have t3 : decide ((q : Int) < ((pcsOf g i j).length : Int)) = true := by rw [decide_eq_true_eq]; omega
                have t3' : decide (q < (pcsOf g i j).length) = true := by simpa using hltq
                have hk3 := HPQ.out.kept
                have hrq := Kept.row HROW.out hk3 (fun b off e => by injection e with e; injection e with e _; subst e; exact HLQ.out)
                have hz : ∀ z v, z < 5 → (pcellW (g.un i) (g.sn j) (pget (pcsOf g i j) q) (wayG (g.uw i) (g.us i) (secW (pcsOf g i j)) (pcsOf g i j).length q))[z]? = some v → wr.cell? ⟨gq, q * 5 + z, none⟩ = some v := fun z v hz hv => by
                  have h6 := hrq.at hltq hz
                  rw [Nat.zero_add] at h6
                  rw [h6, hv]
                have z0 : wr.cell? ⟨gq, q * 5, none⟩ = some (.string (g.un i)) := hz 0 _ (by omega) rfl
                have z1 : wr.cell? ⟨gq, q * 5 + 1, none⟩ = some (.string (g.sn j)) := hz 1 _ (by omega) rfl
                have z2 : wr.cell? ⟨gq, q * 5 + 2, none⟩ = some (.string (pget (pcsOf g i j) q).1) := hz 2 _ (by omega) rfl
                have z3 : wr.cell? ⟨gq, q * 5 + 3, none⟩ = some (.int .i64 (pget (pcsOf g i j) q).2) := hz 3 _ (by omega) rfl
                have z4 : wr.cell? ⟨gq, q * 5 + 4, none⟩ = some (.int .i64 (wayG (g.uw i) (g.us i) (secW (pcsOf g i j)) (pcsOf g i j).length q)) := hz 4 _ (by omega) rfl
                have hevq : evG g i ++ evS g i j ++ evQ g i j (q + 1) = (evG g i ++ evS g i j ++ evQ g i j q) ++ [evP g i j q] := by rw [evQ, ← List.append_assoc]
                have HEVQ := Lib.hid hevq
                obtain ⟨Wc, hWc, hwb, hws, hwq⟩ := alloc_block wr #[.string (g.un i), .string (g.sn j), .string (pget (pcsOf g i j) q).1, .int .i64 (pget (pcsOf g i j) q).2, .int .i64 (wayG (g.uw i) (g.us i) (secW (pcsOf g i j)) (pcsOf g i j).length q)] 75
                obtain ⟨S5, hi5, hs5, hc5⟩ := Pr.told HKEEP.out HPQ.out hwb
                have DC := Lib.hid (HCALL.out _ S5 Wc (evP g i j q) hi5 hs5 hlt (ev_pre hlt hltj HEV.out hltq))
                unfold useAt useV evV evP at DC
                have HC5 := Lib.hid hc5
                have HWC := Lib.hid hWc
                have m0 := below_cell hwb (hk3.cell HL6.out v0)
                have m1 := below_cell hwb (hk3.cell HL6.out v1)
                have m2 := below_cell hwb (hk3.cell HL6.out v2)
                have m3 := below_cell hwb (hk3.cell HL6.out v3)
                have m4 := below_cell hwb (hk3.cell HL6.out v4)
                have n0 : Wc.cell? ⟨wr.heap.size, 0, none⟩ = some (.string (g.un i)) := block_cell hwq rfl
                have n1 : Wc.cell? ⟨wr.heap.size, 1, none⟩ = some (.string (g.sn j)) := block_cell hwq rfl
                have n2 : Wc.cell? ⟨wr.heap.size, 2, none⟩ = some (.string (pget (pcsOf g i j) q).1) := block_cell hwq rfl
                have n3 : Wc.cell? ⟨wr.heap.size, 3, none⟩ = some (.int .i64 (pget (pcsOf g i j) q).2) := block_cell hwq rfl
                have n4 : Wc.cell? ⟨wr.heap.size, 4, none⟩ = some (.int .i64 (wayG (g.uw i) (g.us i) (secW (pcsOf g i j)) (pcsOf g i j).length q)) := block_cell hwq rfl
                have hbgq : gq < wr.heap.size := (hrq.here (by omega)).elim fun b h => h.elim fun off h => by obtain ⟨h1, h2, _⟩ := h; injection h1 with h1; injection h1 with h1 _; omega
                have hcf := HCF.out
                clear hk3 hrq hz hevq hWc hwb hwq hi5 hs5 hc5
                go_upto_region 12 with (fail)
                rw [HWC.out]
                go_wp2_with fail
                refine DC.out.mono ?_
                rintro e w5 ⟨rfl, S6, g1, g2, g3, gk⟩
                have HPN := Lib.hid (HC5.out _ S6 w5 g1 g2 g3 gk)
                clear g1 g2 g3 gk hcf
                go_wp2_with fail
                go_roundw
                case rel => exact ⟨q + 1, by go_num, by omega, Lib.hid (by rw [HEVQ.out]; exact HPN.out)⟩
                case measure => simp [intOf]; omega
              · have t3 : decide ((q : Int) < ((pcsOf g i j).length : Int)) = false := by rw [decide_eq_false_iff_not]; omega
                have t3' : decide (q < (pcsOf g i j).length) = false := by simpa using hltq
                obtain rfl : q = (pcsOf g i j).length := by omega
                clear hltq
                go_wp2_with fail
                go_roundw
                case rel => exact ⟨j + 1, by go_num, by omega, Lib.hid (by rw [HEV.out, ← List.append_assoc]; exact HS4C.out _ _ HPQ.out)⟩
                case measure => simp [intOf]; omega
          · rw [show decide (g.sr j = g.ur i) = false by simpa using hrig] at hse
            have hne : ((g.sr j).toList != (g.ur i).toList) = true := by rw [bne, hse]; rfl
            have hev : evS g i (j + 1) = evS g i j := by rw [evS, if_neg hrig, List.append_nil]
            have HEV := Lib.hid hev
            clear hev hrig
            go_upto_region 8 with (fail)
            rw [HV2.out]
            go_wp2_with fail
            go_roundw
            case rel => exact ⟨j + 1, by go_num, by omega, Lib.hid (by rw [HEV.out]; exact Pr.below HKEEP.out HPJ.out HVB2.out)⟩
            case measure => simp [intOf]; omega
        · have t2 : decide ((j : Int) < (g.ns : Int)) = false := by rw [decide_eq_false_iff_not]; omega
          have t2' : decide (j < g.ns) = false := by simpa using hltj
          obtain rfl : j = g.ns := by omega
          clear hltj
          go_wp2_with fail
          go_roundw
          case rel => exact ⟨i + 1, by go_num, by omega, Lib.hid (by rw [evG]; exact HS2C.out _ _ HPJ.out)⟩
          case measure => simp [intOf]; omega
    · have t1 : decide ((i : Int) < (g.nu : Int)) = false := by rw [decide_eq_false_iff_not]; omega
      have t1' : decide (i < g.nu) = false := by simpa using hlt
      obtain rfl : i = g.nu := by omega
      clear hlt
      go_wp2_with fail
      go_end0
      exact ⟨rfl, HS1C.out _ _ HP.out⟩
end Go.Proofs.YthdmceeipmmhjaaGreatDoor

/- An append to a row of the call's own: where the new row lies (the old block, or a new one). -/
namespace Go.Proofs.YthdmceeipmmhjaaGreatDoor
open Go.RowKit

theorem append_where {P : Program} (w : World) (base : Nat) (t ty e : TypeId) (i : TypeInfo) (z : Value) (size bytes : Nat) (ht : P.underlying t = some (.slice e)) (hi : P.info? e = some i) (hz : i.zero = some z)
    (hsize : i.size = size) (hby : i.bytes = bytes) (hsz : 0 < size) (v : Value) (n : Nat) (xs : List Value) (hown : w.ownsRow base e size v n xs)
    (a : Addr) (m c : Nat) (news : List Value) (hl : news.length = m * size) (hnews : ∀ j u, news[j]? = some u → w.cell? (a.add j) = some u) (h1 : ∀ u ∈ news, u.oneCell' = true) (hm : 0 < m)
    (h63 : n + m ≤ maxLen) (hbytes : (n + m) * bytes ≤ 140737488355328) :
    ∃ v' w', (Builtin.append_ #[t, t] ty #[v, .slice (some a) m c]).run P w = .ok v' w' ∧ (v'.ownBlock = v.ownBlock ∨ v'.ownBlock = some w.heap.size) := by
  subst hsize
  subst hby
  have hsmall : n + m ≤ 9223372036854775807 := by simp only [maxLen] at h63; omega
  rcases hown.2 with ⟨rfl, rfl⟩ | ⟨g, cap, cur, rfl, _, hg, hnc, _, hcs, _⟩
  · exact ⟨_, _, run_append_nil w t ty e i z ht hi hz a m c news hl hnews hm (by omega) (by have hb := hbytes; simp only [Nat.zero_add] at hb; omega), Or.inr rfl⟩
  · by_cases hroom : n + m ≤ cap
    · have hfit : n * i.size + news.length ≤ cur.size := by rw [hl, hcs, ← Nat.add_mul]; exact Nat.mul_le_mul_right _ hroom
      exact ⟨_, _, run_append_room w t ty e i ht hi g n cap cur hg a m c news hl hnews h1 hroom hfit, Or.inl rfl⟩
    · have holds : ∀ j u, xs[j]? = some u → w.cell? ((⟨g, 0, none⟩ : Addr).add j) = some u := hown.cells (g := g) rfl
      exact ⟨_, _, run_append_grow w t ty e i z ht hi hz ⟨g, 0, none⟩ n cap xs hown.1 holds a m c news hl hnews (by omega) (by omega) (growslice_fits (by omega) hbytes), Or.inr rfl⟩
theorem wpList_append_where {P : Program} (w : World) {ops : Array Oper} {rest : List Oper} {o : Oper} {a : Act} {Q : Exit → Act → World → Prop} (hgd : o.guard = none) (s x : Operand) (t : TypeId)
    (ho : o.op = .call { callee := .builtin .append, args := #[s, x], argTypes := #[t, t] })
    (base : Nat) (e : TypeId) (i : TypeInfo) (z : Value) (size bytes : Nat) (ht : P.underlying t = some (.slice e)) (hi : P.info? e = some i) (hz : i.zero = some z)
    (hsize : i.size = size) (hby : i.bytes = bytes) (hzs : z.cells.size = size) (hsz : 0 < size)
    (v : Value) (n : Nat) (xs : List Value) (hs : a.eval s = v) (hown : w.ownsRow base e size v n xs)
    (ad : Addr) (m c : Nat) (news : List Value) (hx : a.eval x = .slice (some ad) m c) (hm : 0 < m) (hl : news.length = m * size) (hnews : ∀ j u, news[j]? = some u → w.cell? (ad.add j) = some u) (h1 : ∀ u ∈ news, u.oneCell' = true)
    (h63 : n + m ≤ maxLen) (hbytes : (n + m) * bytes ≤ 140737488355328) (hbase : base ≤ w.heap.size)
    (h : ∀ v' w', w'.ownsRow base e size v' (n + m) (xs ++ news) → w.grownBy w' v.ownBlock → (v'.ownBlock = v.ownBlock ∨ v'.ownBlock = some w.heap.size) → wpList P ops Q rest (a.put o.dst v') w') : wpList P ops Q (o :: rest) a w := by
  refine wpList_plain hgd fun K hK => ?_
  obtain ⟨v', w', hr, h2, h3, _⟩ := run_append_own (P := P) w base t o.type e i z size bytes ht hi hz hsize hby hzs hsz v n xs hown ad m c news hl hnews h1 h63 hbytes hbase
  obtain ⟨v2, w2, hr2, h4⟩ := append_where (P := P) w base t o.type e i z size bytes ht hi hz hsize hby hsz v n xs hown ad m c news hl hnews h1 hm h63 hbytes
  rw [hr] at hr2
  injection hr2 with e1 e2
  subst e1
  unfold Oper.wp execOp
  simp only [ho, resolve, invoke, builtin, Sem.run_bind, Sem.run_pure, Result.andThen_ok, List.map_toArray, List.map_cons, List.map_nil, hs, hx, hr]
  exact hK _ _ (h v' w' h2 h3 h4)
end Go.Proofs.YthdmceeipmmhjaaGreatDoor

/- Gear: Pieces of the program. -/
namespace Go.Proofs.YthdmceeipmmhjaaGreatDoor
open Go.RowKit Go.BigFrame
open Gar (chk)

/-- the cells of a piece that was told -/
def evC (g : Gar) (e : Ev) : List Value := [.string (g.un e.i), .string e.s, .string e.p, .int .i64 e.sec, .int .i64 e.way]
def evCs (g : Gar) (l : List Ev) : List Value := l.flatMap (evC g)
theorem evQ_len (g : Gar) (i j : Nat) : ∀ n, (evQ g i j n).length = n
  | 0 => rfl
  | n + 1 => by rw [evQ, List.length_append, evQ_len g i j n]; rfl
theorem evS_len {g : Gar} (h : chk g = 0) {i : Nat} (hi : i < g.nu) (j : Nat) : (evS g i j).length ≤ j * 1000000 := by
  induction j with
  | zero => exact Nat.zero_le _
  | succ j ih =>
    obtain ⟨_, _, _, _, _, _, hm, ho, hu⟩ := Gar.chk_parts h
    have hur := Gar.use_right hu hi
    have hg : Good (pcsOf g i j) (g.us i) := good_pieces (Gar.ord_mounts hm ho (g.sn j) g.nm (Nat.le_refl _)) (by omega)
    have hl := hg.len
    rw [evS, List.length_append]
    split
    · rw [evQ_len]; omega
    · rw [List.length_nil, Nat.add_zero]
      exact Nat.le_trans ih (Nat.mul_le_mul_right _ (Nat.le_succ j))
theorem evG_le {g : Gar} {M : Nat} (hM : ∀ i, i < g.nu → (evS g i g.ns).length ≤ M) : ∀ i, i ≤ g.nu → (evG g i).length ≤ i * M
  | 0, _ => Nat.zero_le _
  | i + 1, hi => by
    have ih := evG_le hM i (by omega)
    have h1 := hM i (by omega)
    rw [evG, List.length_append, Nat.succ_mul]
    omega
theorem evG_len {g : Gar} (h : chk g = 0) (i : Nat) (hi : i ≤ g.nu) : (evG g i).length ≤ i * 100000000 :=
  evG_le (fun i hi => by
    have h1 := evS_len h hi g.ns
    have h2 := (Gar.chk_parts h).2.1
    omega) i hi
/-- what Pieces' closure keeps: the row that it appends to -/
def PInv (g : Gar) (base c : Nat) (done : List Ev) (S : Nat → Prop) (W : World) : Prop :=
  ∃ v, W.heap[c]? = some (.cells #[v] 69 (0, 0)) ∧ W.ownsRow base 75 5 v done.length (evCs g done) ∧ (∀ b, S b ↔ (b = c ∨ v.ownBlock = some b)) ∧ c < base ∧ base ≤ W.heap.size
theorem PInv.keep {g : Gar} {base c : Nat} (done : List Ev) (S : Nat → Prop) (W W' : World) (h : PInv g base c done S W) (hb : Below W.heap.size W W') : PInv g base c done S W' := by
  obtain ⟨v, h1, h2, h3, h4, h5⟩ := h
  exact ⟨v, below_block hb h1, h2.kept (row := none) ⟨hb.os, hb.tape, hb.output, hb.size, fun k hk _ => hb.block k hk⟩ (by cases v.ownBlock <;> simp), h3, h4, Nat.le_trans h5 hb.size⟩
set_option maxHeartbeats 2000000 in
set_option maxRecDepth 100000 in
theorem piecesCl_any (g : Gar) (base c : Nat) (done : List Ev) (S : Nat → Prop) (W : World) (ev : Ev) (h : PInv g base c done S W) (hn : done.length ≤ 1000000000000) :
    Calls Tryz.prog 47 (#[useAt g ev.i, evV g ev] ++ #[.pointer (some ⟨c, 0, none⟩)]) W fun e W' => e = .returned (.tuple #[]) ∧ ∃ S' : Nat → Prop, PInv g base c (done ++ [ev]) S' W' ∧ (∀ b, S' b → S b ∨ W.heap.size ≤ b) ∧ (∀ b, S' b → b < W'.heap.size) ∧ Kept S W W' := by
  obtain ⟨v, hv, ho, hS, hcb, hbW⟩ := h
  unfold useAt useV evV
  obtain ⟨W1, hW1, hb1, hs1, _⟩ := alloc_block W #[.string (g.un ev.i), .string (g.ur ev.i), .int .i64 (g.uf ev.i), .int .i64 (g.us ev.i), .int .i64 (g.uw ev.i)] 54
  obtain ⟨W2, hW2, hb2, hs2, hq2⟩ := alloc_block W1 #[.string (g.un ev.i), .string ev.s, .string ev.p, .int .i64 ev.sec, .int .i64 ev.way] 75
  have hb12 := below_step hb1 hb2
  have hv2 := below_block hb12 hv
  have ho2 : W2.ownsRow base 75 5 v done.length (evCs g done) := ho.kept (row := none) ⟨hb12.os, hb12.tape, hb12.output, hb12.size, fun k hk _ => hb12.block k hk⟩ (by cases v.ownBlock <;> simp)
  have k0 := cell_of_one hv2
  have l0 : W2.cell? ⟨W1.heap.size, 0, none⟩ = some (.string (g.un ev.i)) := block_cell hq2 rfl
  have l1 : W2.cell? ⟨W1.heap.size, 1, none⟩ = some (.string ev.s) := block_cell hq2 rfl
  have l2 : W2.cell? ⟨W1.heap.size, 2, none⟩ = some (.string ev.p) := block_cell hq2 rfl
  have l3 : W2.cell? ⟨W1.heap.size, 3, none⟩ = some (.int .i64 ev.sec) := block_cell hq2 rfl
  have l4 : W2.cell? ⟨W1.heap.size, 4, none⟩ = some (.int .i64 ev.way) := block_cell hq2 rfl
  obtain ⟨i0, hi0, hz0, hz1, hz2⟩ := info_parts (show (Tryz.prog.info? 75).map (fun i => (i.zero, i.size, i.bytes)) = some (some (.agg #[.string ⟨#[]⟩, .string ⟨#[]⟩, .string ⟨#[]⟩, .int .i64 0, .int .i64 0]), 5, 64) by kernel_rfl)
  have HI0 := Lib.hid hi0
  have HZ0 := Lib.hid hz0
  have HZ1 := Lib.hid hz1
  have HZ2 := Lib.hid hz2
  have HU := Lib.hid (show Tryz.prog.underlying 69 = some (.slice 75) by kernel_rfl)
  have HO2 := Lib.hid ho2
  have HV2 := Lib.hid hv2
  have HB12 := Lib.hid hb12
  have HS := Lib.hid hS
  have HO := Lib.hid ho
  have HE12 : Hid (((W.alloc (.cells #[.string (g.un ev.i), .string (g.ur ev.i), .int .i64 (g.uf ev.i), .int .i64 (g.us ev.i), .int .i64 (g.uw ev.i)] 54)).alloc (.cells #[.string (g.un ev.i), .string ev.s, .string ev.p, .int .i64 ev.sec, .int .i64 ev.way] 75)) = W2) := Lib.hid (by rw [hW1, hW2])
  have HE1 : Hid (W.heap.size + 1 = W1.heap.size) := Lib.hid hs1.symm
  have hbW2 : base ≤ W2.heap.size := Nat.le_trans hbW hb12.size
  have hcW : c < W.heap.size := lt_of_block hv
  clear hi0 hz0 hz1 hz2 ho2 hv2 hb12 hS ho hv hW1 hW2 hb1 hb2 hq2 hs2 hs1
  go_enter Tryz.func47, Tryz.ntmps47
  go_upto_region 1 with (fail)
  rw [HE12.out, HE1.out]
  go_wp2_with (at_builtin; refine wpList_append_where _ rfl (.tmp 5) (.tmp 7) 69 rfl base 75 i0 (.agg #[.string ⟨#[]⟩, .string ⟨#[]⟩, .string ⟨#[]⟩, .int .i64 0, .int .i64 0]) 5 64 HU.out HI0.out HZ0.out HZ1.out HZ2.out rfl (by decide) v done.length (evCs g done) rfl (HO2.out.alloc _) ⟨W2.heap.size, 0, none⟩ 1 1 (evC g ev) rfl (by decide) rfl ?c1 ?c2 ?c3 ?c4 ?c5 ?_)
  case c1 =>
    intro j u hu
    rw [addr_add0, World.cell?_alloc_at _ _ _ _ rfl]
    simpa [evC] using hu
  case c2 =>
    intro u hu
    simp only [evC, List.mem_cons, List.not_mem_nil, or_false] at hu
    rcases hu with rfl | rfl | rfl | rfl | rfl <;> rfl
  case c3 => unfold maxLen; omega
  case c4 => omega
  case c5 => simp; omega
  intro v' w1 hown1 hg1 hwhere
  obtain ⟨g', cap', rfl, _, hgl⟩ := hown1.form (by omega)
  have hnc : ¬ some c = v.ownBlock := fun e => by have := (HO.out.lt c e.symm).1; omega
  have hk1 : Kept S W w1 := (Kept.of_below (HB12.out.trans ((below_al W2 _).mono HB12.out.size))).grown hg1 (fun q hq _ => (HS.out q).2 (Or.inr hq))
  have b0 : w1.heap[c]? = some (.cells #[v] 69 (0, 0)) := (hg1.block c (by simp; have := lt_of_block HV2.out; omega) hnc).trans (below_block (below_al W2 _) HV2.out)
  have k0' := cell_of_one b0
  have f0 := free_of_one b0
  have HOWN := Lib.hid hown1
  have HK1 := Lib.hid hk1
  have HB0 := Lib.hid b0
  have HWH := Lib.hid hwhere
  clear hown1 hg1 hk1 b0 k0 l0 l1 l2 l3 l4 hwhere hnc
  go_wp2_with fail
  go_end0
  refine ⟨rfl, fun b => b = c ∨ g' = b, ⟨_, one_setCell HB0.out, ?_, fun b => by simp [Value.ownBlock], hcb, ?_⟩, ?_, ?_, kept_set HK1.out ((HS.out c).2 (Or.inl rfl)) _⟩
  · rw [List.length_append, show evCs g (done ++ [ev]) = evCs g done ++ evC g ev by simp [evCs]]
    exact ownsRow_setCell_other HOWN.out (by simp [Value.ownBlock]; intro e; have := (HOWN.out.lt g' rfl).1; omega) _
  · exact Nat.le_trans (Nat.le_trans hbW HK1.out.size) (by simp [World.setCell])
  · intro b hb
    rcases hb with rfl | rfl
    · exact Or.inl ((HS.out b).2 (Or.inl rfl))
    · rcases HWH.out with e | e
      · exact Or.inl ((HS.out _).2 (Or.inr (by rw [← e]; rfl)))
      · simp [Value.ownBlock] at e
        have := HB12.out.size
        exact Or.inr (by omega)
  · intro b hb
    have : (w1.setCell ⟨c, 0, none⟩ (.slice (some ⟨g', 0, none⟩) (done.length + 1) cap')).heap.size = w1.heap.size := by simp [World.setCell]
    rw [this]
    rcases hb with rfl | rfl
    · exact lt_of_block HB0.out
    · exact hgl
set_option maxHeartbeats 2000000 in
set_option maxRecDepth 100000 in
/-- Pieces: of a garage that is not right nothing; else all pieces, in a row of its own -/
theorem gPieces_any (g : Gar) (a0 a1 a2 a3 : Option Addr) (c0 c1 c2 c3 : Nat) (w : World) (h : GarIn w g a0 a1 a2 a3) :
    Calls Tryz.prog 26 #[garV g a0 a1 a2 a3 c0 c1 c2 c3] w fun e w' => Below w.heap.size w w' ∧
      ((chk g ≠ 0 ∧ e = .returned (.tuple #[.slice none 0 0, .int .i64 (chk g)])) ∨ (chk g = 0 ∧ ∃ v base, w.heap.size ≤ base ∧ e = .returned (.tuple #[v, .int .i64 0]) ∧ w'.ownsRow base 75 5 v (evG g g.nu).length (evCs g (evG g g.nu)))) := by
  have HG := Lib.hid h
  have DC0 := Lib.hid (fun (W : World) (hb : Below w.heap.size w W) => gCheck_any g a0 a1 a2 a3 c0 c1 c2 c3 W (HG.out.below hb))
  unfold garV at DC0 ⊢
  have hmf : ∀ fn first cap w, (Instr.makeFunc fn first cap).run Tryz.prog w = .ok (.func fn first cap) w := fun _ _ _ _ => rfl
  obtain ⟨W0, hW0, hb0, hs0, hl0'⟩ := alloc_cells w #[.slice a0 g.np c0, .slice a1 g.ns c1, .slice a2 g.nm c2, .slice a3 g.nu c3] 27
  have G0 := Ext.ex (hl0' 0 _ rfl)
  have G1 := Ext.ex (hl0' 1 _ rfl)
  have G2 := Ext.ex (hl0' 2 _ rfl)
  have G3 := Ext.ex (hl0' 3 _ rfl)
  have HW0 := Lib.hid hW0
  have HB0 := Lib.hid hb0
  have hs0' : w.heap.size ≤ W0.heap.size := by omega
  have DC := Lib.hid (fun (Y : Ext W0) => DC0.out Y.1 (Y.down HB0.out hs0'))
  clear hl0' hW0 hb0 hs0 DC0 h
  by_cases hc : chk g = 0
  · have HC := Lib.hid hc
    rw [hc] at DC
    clear hc
    go_enter Tryz.func26, Tryz.ntmps26
    go_upto_region 1 with (fail)
    rw [HW0.out]
    refine ext_wp fun X => ?_
    go_wp2_with fail
    refine (Ext.calls _ (DC.out _)).mono ?_
    rintro e w2 ⟨rfl, Y, rfl⟩
    have g0 := G0 Y
    have g1 := G1 Y
    have g2 := G2 Y
    have g3 := G3 Y
    have hy := Y.down HB0.out hs0'
    obtain ⟨y, hyy⟩ : ∃ y, Y.1 = y := ⟨_, rfl⟩
    rw [hyy] at g0 g1 g2 g3 hy ⊢
    clear hyy Y G0 G1 G2 G3 DC
    obtain ⟨W1, hW1, hb1, hs1, hq1⟩ := alloc_block y #[.slice none 0 0] 69
    have hyw : w.heap.size ≤ y.heap.size := hy.size
    have k0 := below_cell hb1 g0
    have k1 := below_cell hb1 g1
    have k2 := below_cell hb1 g2
    have k3 := below_cell hb1 g3
    have hw1 : Below w.heap.size w W1 := hy.trans (hb1.mono hyw)
    have HLE := Lib.hid (evG_len HC.out g.nu (Nat.le_refl _))
    have hnu := (Gar.chk_parts HC.out).2.2.2.1
    have hblk : ∀ (a : Option Addr) (b off : Nat) {len kk : Nat} {V : Nat → List Value}, RowK w a len kk V → a = some ⟨b, off, none⟩ → 0 < len → ¬ b = y.heap.size := fun a b off {len kk V} hr ha hl => by
      obtain ⟨b', off', h1, h2, _⟩ := hr.here hl
      rw [ha] at h1
      injection h1 with h1
      injection h1 with h1 _
      omega
    have DE := eachPiece_any g a0 a1 a2 a3 c0 c1 c2 c3 W1 (HG.out.below hw1) HC.out 47 #[.pointer (some ⟨y.heap.size, 0, none⟩)] (fun _ _ => rfl) (PInv g W1.heap.size y.heap.size) (fun done S W W' => PInv.keep done S W W')
      (fun done S W ev hi _ _ hp => piecesCl_any g W1.heap.size y.heap.size done S W ev hi (by
        obtain ⟨rest, hr⟩ := hp
        have := congrArg List.length hr
        rw [List.length_append] at this
        have := HLE.out
        omega)) (fun b => b = y.heap.size)
      ⟨.slice none 0 0, hq1, World.ownsRow_nil _ _ _ _, fun b => by simp [Value.ownBlock], by omega, Nat.le_refl _⟩ (fun b hb => by omega) (fun b off ha hl => hblk a1 b off HG.out.r1 ha hl) (fun b off ha hl => hblk a3 b off HG.out.r3 ha hl)
    unfold garV at DE
    have HDE := Lib.hid DE
    have HW1 := Lib.hid hW1
    have HWW := Lib.hid hw1
    have hc0 : y.heap.size < W1.heap.size := by omega
    clear DE hW1 hb1 hs1 hq1 g0 g1 g2 g3 hy hw1 hblk
    go_upto_region 5 with (fail)
    rw [HW1.out]
    go_wp2_with fail
    refine HDE.out.mono ?_
    rintro e w3 ⟨rfl, hpr⟩
    obtain ⟨S, ⟨v, h1, h2, h3, h4, h5⟩, _, _⟩ := hpr.ex
    have hk3 := cell_of_one h1
    have HF := Lib.hid (Kept.below HWW.out hpr.kept HWW.out.size (fun k hk => by omega))
    have H2 := Lib.hid h2
    clear hpr h1 h2 h3 h4 h5
    go_wp2_with fail
    go_ret2
    exact ⟨HF.out, Or.inr ⟨HC.out, v, W1.heap.size, HWW.out.size, rfl, H2.out⟩⟩
  · have HC := Lib.hid hc
    have n1 : (chk g != 0) = true := by rw [bne_iff_ne]; exact hc
    clear hc
    go_enter Tryz.func26, Tryz.ntmps26
    go_upto_region 1 with (fail)
    rw [HW0.out]
    refine ext_wp fun X => ?_
    go_wp2_with fail
    refine (Ext.calls _ (DC.out _)).mono ?_
    rintro e w2 ⟨rfl, Y, rfl⟩
    go_wp2_with fail
    go_ret2
    exact ⟨Y.down HB0.out hs0', Or.inl ⟨HC.out, rfl⟩⟩
end Go.Proofs.YthdmceeipmmhjaaGreatDoor

/- Gear: the small garage of the laws. -/
namespace Go.Proofs.YthdmceeipmmhjaaGreatDoor
open Go.RowKit Go.BigFrame
open Gar (chk)

def bs (l : List UInt8) : ByteArray := ⟨l.toArray⟩
/-- the small garage -/
def smallG : Gar where
  np := 2
  ns := 1
  nm := 2
  nu := 1
  pn i := if i = 0 then bs [99, 49] else bs [99, 50]
  pc i := if i = 0 then 100 else 0
  sn _ := bs [99, 104, 97, 105, 110]
  sr _ := bs [98, 105, 107, 101]
  ms _ := bs [99, 104, 97, 105, 110]
  mp i := if i = 0 then bs [99, 49] else bs [99, 50]
  mf i := if i = 0 then 0 else 1000
  mt i := if i = 0 then 1000 else -1
  un _ := bs [117]
  ur _ := bs [98, 105, 107, 101]
  uf _ := 900
  us _ := 200
  uw _ := 1001
set_option maxHeartbeats 2000000 in
set_option maxRecDepth 100000 in
theorem small_any (w : World) : Calls Tryz.prog 27 #[] w fun e w' => ∃ a0 a1 a2 a3 c0 c1 c2 c3, e = .returned (garV smallG a0 a1 a2 a3 c0 c1 c2 c3) ∧ GarIn w' smallG a0 a1 a2 a3 ∧ Below w.heap.size w w' := by
  obtain ⟨V0, h0, b0, s0, q0⟩ := alloc_block w #[.slice (some ⟨w.heap.size + 1, 0, none⟩) 2 2, .slice (some ⟨w.heap.size + 1 + 1, 0, none⟩) 1 1, .slice (some ⟨w.heap.size + 1 + 1 + 1, 0, none⟩) 2 2, .slice (some ⟨w.heap.size + 1 + 1 + 1 + 1, 0, none⟩) 1 1] 27
  obtain ⟨V1, h1, b1, s1, q1⟩ := alloc_block V0 #[.string ⟨#[99, 49]⟩, .int .i64 100, .string ⟨#[99, 50]⟩, .int .i64 0] 43
  obtain ⟨V2, h2, b2, s2, q2⟩ := alloc_block V1 #[.string ⟨#[99, 104, 97, 105, 110]⟩, .string ⟨#[98, 105, 107, 101]⟩] 50
  obtain ⟨V3, h3, b3, s3, q3⟩ := alloc_block V2 #[.string ⟨#[99, 104, 97, 105, 110]⟩, .string ⟨#[99, 49]⟩, .int .i64 0, .int .i64 1000, .string ⟨#[99, 104, 97, 105, 110]⟩, .string ⟨#[99, 50]⟩, .int .i64 1000, .int .i64 (-1)] 52
  obtain ⟨V4, h4, b4, s4, q4⟩ := alloc_block V3 #[.string ⟨#[117]⟩, .string ⟨#[98, 105, 107, 101]⟩, .int .i64 900, .int .i64 200, .int .i64 1001] 54
  have HE : Hid (((((w.alloc (.cells #[.slice (some ⟨w.heap.size + 1, 0, none⟩) 2 2, .slice (some ⟨w.heap.size + 1 + 1, 0, none⟩) 1 1, .slice (some ⟨w.heap.size + 1 + 1 + 1, 0, none⟩) 2 2, .slice (some ⟨w.heap.size + 1 + 1 + 1 + 1, 0, none⟩) 1 1] 27)).alloc (.cells #[.string ⟨#[99, 49]⟩, .int .i64 100, .string ⟨#[99, 50]⟩, .int .i64 0] 43)).alloc (.cells #[.string ⟨#[99, 104, 97, 105, 110]⟩, .string ⟨#[98, 105, 107, 101]⟩] 50)).alloc (.cells #[.string ⟨#[99, 104, 97, 105, 110]⟩, .string ⟨#[99, 49]⟩, .int .i64 0, .int .i64 1000, .string ⟨#[99, 104, 97, 105, 110]⟩, .string ⟨#[99, 50]⟩, .int .i64 1000, .int .i64 (-1)] 52)).alloc (.cells #[.string ⟨#[117]⟩, .string ⟨#[98, 105, 107, 101]⟩, .int .i64 900, .int .i64 200, .int .i64 1001] 54) = V4) := Lib.hid (by rw [h0, h1, h2, h3, h4])
  have r0 := below_block b4 (below_block b3 (below_block b2 (below_block b1 q0)))
  have r1 := below_block b4 (below_block b3 (below_block b2 q1))
  have r2 := below_block b4 (below_block b3 q2)
  have r3 := below_block b4 q3
  rw [s0] at r1 s1
  rw [s1] at r2 s2
  rw [s2] at r3 s3
  rw [s3] at q4 s4
  have hb : Below w.heap.size w V4 := b0.trans ((b1.mono (by omega)).trans ((b2.mono (by omega)).trans ((b3.mono (by omega)).trans (b4.mono (by omega)))))
  have g0 : V4.cell? ⟨w.heap.size, 0, none⟩ = some (.slice (some ⟨w.heap.size + 1, 0, none⟩) 2 2) := block_cell r0 rfl
  have g1 : V4.cell? ⟨w.heap.size, 1, none⟩ = some (.slice (some ⟨w.heap.size + 1 + 1, 0, none⟩) 1 1) := block_cell r0 rfl
  have g2 : V4.cell? ⟨w.heap.size, 2, none⟩ = some (.slice (some ⟨w.heap.size + 1 + 1 + 1, 0, none⟩) 2 2) := block_cell r0 rfl
  have g3 : V4.cell? ⟨w.heap.size, 3, none⟩ = some (.slice (some ⟨w.heap.size + 1 + 1 + 1 + 1, 0, none⟩) 1 1) := block_cell r0 rfl
  have HGI : Hid (GarIn V4 smallG (some ⟨w.heap.size + 1, 0, none⟩) (some ⟨w.heap.size + 1 + 1, 0, none⟩) (some ⟨w.heap.size + 1 + 1 + 1, 0, none⟩) (some ⟨w.heap.size + 1 + 1 + 1 + 1, 0, none⟩)) := Lib.hid
    ⟨⟨fun _ => ⟨_, 0, rfl, lt_of_block r1, fun i hi j hj => by
        have hi : i < 2 := hi
        match i, hi, j, hj with
        | 0, _, 0, _ => exact block_cell r1 rfl
        | 0, _, 1, _ => exact block_cell r1 rfl
        | 1, _, 0, _ => exact block_cell r1 rfl
        | 1, _, 1, _ => exact block_cell r1 rfl⟩⟩,
     ⟨fun _ => ⟨_, 0, rfl, lt_of_block r2, fun i hi j hj => by
        have hi : i < 1 := hi
        match i, hi, j, hj with
        | 0, _, 0, _ => exact block_cell r2 rfl
        | 0, _, 1, _ => exact block_cell r2 rfl⟩⟩,
     ⟨fun _ => ⟨_, 0, rfl, lt_of_block r3, fun i hi j hj => by
        have hi : i < 2 := hi
        match i, hi, j, hj with
        | 0, _, 0, _ => exact block_cell r3 rfl
        | 0, _, 1, _ => exact block_cell r3 rfl
        | 0, _, 2, _ => exact block_cell r3 rfl
        | 0, _, 3, _ => exact block_cell r3 rfl
        | 1, _, 0, _ => exact block_cell r3 rfl
        | 1, _, 1, _ => exact block_cell r3 rfl
        | 1, _, 2, _ => exact block_cell r3 rfl
        | 1, _, 3, _ => exact block_cell r3 rfl⟩⟩,
     ⟨fun _ => ⟨_, 0, rfl, lt_of_block q4, fun i hi j hj => by
        have hi : i < 1 := hi
        match i, hi, j, hj with
        | 0, _, 0, _ => exact block_cell q4 rfl
        | 0, _, 1, _ => exact block_cell q4 rfl
        | 0, _, 2, _ => exact block_cell q4 rfl
        | 0, _, 3, _ => exact block_cell q4 rfl
        | 0, _, 4, _ => exact block_cell q4 rfl⟩⟩,
     fun i _ => by show (if i = 0 then bs [99, 49] else bs [99, 50]).size ≤ maxLen; split <;> decide, fun _ _ => by show (bs [99, 104, 97, 105, 110]).size ≤ maxLen ∧ (bs [98, 105, 107, 101]).size ≤ maxLen; decide, fun i _ => ⟨by show (bs [99, 104, 97, 105, 110]).size ≤ maxLen; decide, by show (if i = 0 then bs [99, 49] else bs [99, 50]).size ≤ maxLen; split <;> decide⟩, fun _ _ => by show (bs [117]).size ≤ maxLen ∧ (bs [98, 105, 107, 101]).size ≤ maxLen; decide, by decide, by decide, by decide, by decide⟩
  have HB := Lib.hid hb
  clear hb h0 h1 h2 h3 h4 b0 b1 b2 b3 b4 s0 s1 s2 s3 s4 q0 q1 q2 q3 q4 r0 r1 r2 r3
  go_enter Tryz.func27, Tryz.ntmps27
  go_wp2_with fail
  rw [HE.out]
  exact bodyPost_ret (v := .agg #[.slice (some ⟨w.heap.size + 1, 0, none⟩) 2 2, .slice (some ⟨w.heap.size + 1 + 1, 0, none⟩) 1 1, .slice (some ⟨w.heap.size + 1 + 1 + 1, 0, none⟩) 2 2, .slice (some ⟨w.heap.size + 1 + 1 + 1 + 1, 0, none⟩) 1 1]) (by simp [results, Tryz.results27, go_sem, g0, g1, g2, g3]) rfl ⟨_, _, _, _, 2, 1, 2, 1, rfl, HGI.out, HB.out⟩
end Go.Proofs.YthdmceeipmmhjaaGreatDoor

/- Gear: two rows of pieces are equal (the library's Equal at pieces). -/
namespace Go.Proofs.YthdmceeipmmhjaaGreatDoor
open Go.RowKit Go.BigFrame

/-- a row of pieces, as functions -/
structure PRow where
  n : Nat
  u : Nat → ByteArray
  s : Nat → ByteArray
  p : Nat → ByteArray
  c : Nat → Int
  y : Nat → Int
def PRow.cells (r : PRow) (i : Nat) : List Value := [.string (r.u i), .string (r.s i), .string (r.p i), .int .i64 (r.c i), .int .i64 (r.y i)]
def PRow.eqAt (r q : PRow) (i : Nat) : Bool := decide (r.u i = q.u i) && decide (r.s i = q.s i) && decide (r.p i = q.p i) && decide (r.c i = q.c i) && decide (r.y i = q.y i)
def PRow.eq (r q : PRow) : Bool := decide (r.n = q.n) && (List.range r.n).all fun i => r.eqAt q i
set_option maxHeartbeats 2000000 in
theorem eqPiece (a b c a' b' c' : ByteArray) (d e d' e' : Int) (w : World) :
    (Op.equalIn 10000 75 (.agg #[.string a, .string b, .string c, .int .i64 d, .int .i64 e]) (.agg #[.string a', .string b', .string c', .int .i64 d', .int .i64 e'])).run Tryz.prog w = .ok (decide (a = a') && decide (b = b') && decide (c = c') && decide (d = d') && decide (e = e')) w := by
  have u3 := Tryz.underlying3
  have a3 := Tryz.isAgg3
  have z3 := Tryz.sizeOf3
  have u9 := Tryz.underlying9
  have a9 := Tryz.isAgg9
  have z9 := Tryz.sizeOf9
  have hS : Tryz.prog.underlying 75 = some (.struct (Tryz.prog.fieldsOf 75)) := by kernel_rfl
  have hp : Tryz.prog.stoodInHeld 75 = false := by kernel_rfl
  have h1 := str_eq a a'
  have h2 := str_eq b b'
  have h3 := str_eq c c'
  rw [show (10000 : Nat) = 9999 + 1 from rfl, run_equalIn_agg w 9999 75 _ _ hS hp]
  simp only [Program.fieldsOf, Tryz.underlying75]
  generalize decide (a = a') = b1 at h1 ⊢
  generalize decide (b = b') = b2 at h2 ⊢
  generalize decide (c = c') = b3 at h3 ⊢
  have h4 : (d == d') = decide (d = d') := rfl
  have h5 : (e == e') = decide (e = e') := rfl
  generalize decide (d = d') = b4 at h4 ⊢
  generalize decide (e = e') = b5 at h5 ⊢
  cases b1 <;> cases b2 <;> cases b3 <;> cases b4 <;> cases b5 <;> go_simp
set_option maxHeartbeats 2000000 in
set_option maxRecDepth 100000 in
theorem equalP_any (r q : PRow) (a b : Option Addr) (c d : Nat) (w : World) (hr : RowK w a r.n 5 r.cells) (hq : RowK w b q.n 5 q.cells) (hl : (r.n : Int) ≤ 9223372036854775807) (hl' : (q.n : Int) ≤ 9223372036854775807) :
    Calls Tryz.prog 28 #[.slice a r.n c, .slice b q.n d] w fun e w' => e = .returned (.bool (r.eq q)) ∧ ∃ m, w' = w.drewN m := by
  by_cases hn : r.n = q.n
  · have hneq : ((r.n : Int) != (q.n : Int)) = false := by rw [hn]; simp
    have HR := Lib.hid hr
    have HQ := Lib.hid hq
    have HN := Lib.hid hn
    clear hr hq hn
    go_enter Tryz.func28, Tryz.ntmps28
    go_wp2_with fail
    go_loopw [13] (fun iv wr => ∃ (k : Nat), iv = .int .i64 k ∧ k ≤ r.n ∧ (∃ m, wr = w.drewN m) ∧ Hid (∀ i, i < k → r.eqAt q i = true)) (fun iv _ => r.n - (intOf iv).toNat)
    case atStart => exact ⟨0, rfl, by omega, ⟨0, rfl⟩, Lib.hid (fun i hi => by omega)⟩
    case round =>
      obtain ⟨k, rfl, hk, ⟨m, rfl⟩, HE⟩ := hrel
      by_cases hlt : k < r.n
      · have t1 : decide ((k : Int) < (r.n : Int)) = true := by rw [decide_eq_true_eq]; omega
        have t1' : decide (k < r.n) = true := by simpa using hlt
        have hkq : k < q.n := by have := HN.out; omega
        have t2 : (k : Int) < (q.n : Int) := by omega
        obtain ⟨b1, o1, rfl, hb1, hc1⟩ := HR.out.here (by omega)
        obtain ⟨b2, o2, rfl, hb2, hc2⟩ := HQ.out.here (by omega)
        have e0 : w.cell? ⟨b1, o1 + k * 5, none⟩ = some (.string (r.u k)) := hc1 k hlt 0 (by omega)
        have e1 : w.cell? ⟨b1, o1 + k * 5 + 1, none⟩ = some (.string (r.s k)) := hc1 k hlt 1 (by omega)
        have e2 : w.cell? ⟨b1, o1 + k * 5 + 2, none⟩ = some (.string (r.p k)) := hc1 k hlt 2 (by omega)
        have e3 : w.cell? ⟨b1, o1 + k * 5 + 3, none⟩ = some (.int .i64 (r.c k)) := hc1 k hlt 3 (by omega)
        have e4 : w.cell? ⟨b1, o1 + k * 5 + 4, none⟩ = some (.int .i64 (r.y k)) := hc1 k hlt 4 (by omega)
        have f0 : w.cell? ⟨b2, o2 + k * 5, none⟩ = some (.string (q.u k)) := hc2 k hkq 0 (by omega)
        have f1 : w.cell? ⟨b2, o2 + k * 5 + 1, none⟩ = some (.string (q.s k)) := hc2 k hkq 1 (by omega)
        have f2 : w.cell? ⟨b2, o2 + k * 5 + 2, none⟩ = some (.string (q.p k)) := hc2 k hkq 2 (by omega)
        have f3 : w.cell? ⟨b2, o2 + k * 5 + 3, none⟩ = some (.int .i64 (q.c k)) := hc2 k hkq 3 (by omega)
        have f4 : w.cell? ⟨b2, o2 + k * 5 + 4, none⟩ = some (.int .i64 (q.y k)) := hc2 k hkq 4 (by omega)
        clear hc1 hc2
        have hgd : Tryz.prog.eqGuardType Tryz.prog.depth 75 = false := by kernel_rfl
        have hq : ∀ W, (Op.equalIn 10000 75 (.agg #[.string (r.u k), .string (r.s k), .string (r.p k), .int .i64 (r.c k), .int .i64 (r.y k)]) (.agg #[.string (q.u k), .string (q.s k), .string (q.p k), .int .i64 (q.c k), .int .i64 (q.y k)])).run Tryz.prog W = .ok (r.eqAt q k) W := fun W => eqPiece _ _ _ _ _ _ _ _ _ _ W
        cases hb : r.eqAt q k
        · rw [hb] at hq
          have HF : Hid (r.eq q = false) := Lib.hid (by
            unfold PRow.eq
            rw [Bool.and_eq_false_iff]
            exact Or.inr (by rw [List.all_eq_false]; exact ⟨k, List.mem_range.2 hlt, by rw [hb]; simp⟩))
          clear hb
          go_wp2_with fail
          go_quiet (fail)
          go_wp2_with fail
          go_ret
          exact ⟨ret_bool HF.out.symm, m + nq, by rw [World.drewN_drewN]⟩
        · rw [hb] at hq
          have HE2 : Hid (∀ i, i < k + 1 → r.eqAt q i = true) := Lib.hid (fun i hi => by
            by_cases e : i = k
            · subst e; exact hb
            · exact HE.out i (by omega))
          clear hb
          go_wp2_with fail
          go_quiet (fail)
          go_wp2_with fail
          go_roundw
          case rel => exact ⟨k + 1, by go_num, by omega, ⟨_, rfl⟩, HE2⟩
          case measure => simp [intOf]; omega
      · have t1 : decide ((k : Int) < (r.n : Int)) = false := by rw [decide_eq_false_iff_not]; omega
        have t1' : decide (k < r.n) = false := by simpa using hlt
        have HF : Hid (r.eq q = true) := Lib.hid (by
          unfold PRow.eq
          rw [Bool.and_eq_true, decide_eq_true_eq, List.all_eq_true]
          exact ⟨HN.out, fun i hi => HE.out i (by have := List.mem_range.1 hi; omega)⟩)
        clear hlt
        go_wp2_with fail
        go_ret
        exact ⟨ret_bool HF.out.symm, _, rfl⟩
  · have hneq : ((r.n : Int) != (q.n : Int)) = true := by rw [bne_iff_ne]; omega
    go_enter Tryz.func28, Tryz.ntmps28
    go_wp2_with fail
    go_ret
    exact ⟨ret_bool (by unfold PRow.eq; simp [hn]), 0, rfl⟩
end Go.Proofs.YthdmceeipmmhjaaGreatDoor

/- Gear: the small garage has the pieces that are told. -/
namespace Go.Proofs.YthdmceeipmmhjaaGreatDoor
open Go.RowKit Go.BigFrame
open Gar (chk)

theorem small_chk : chk smallG = 0 := by kernel_rfl
def smallL : List Pcs.Pc := [(bs [99, 49], 100), (bs [99, 50], 100)]
theorem small_pcs : pcsOf smallG 0 0 = smallL := by kernel_rfl
theorem small_ord : ordL (Shr.rst 1001 200 (secW smallL)) 2 = [0, 1] := by
  refine Shr.IsOrd.unique (ordL_ord _ _) ⟨List.Perm.refl _, ?_⟩
  refine List.Pairwise.cons (fun b hb => ?_) (List.Pairwise.cons (fun b hb => by simp at hb) List.Pairwise.nil)
  simp only [List.mem_singleton] at hb
  subst hb
  exact Or.inr ⟨by kernel_rfl, by decide⟩
theorem small_way (i : Nat) (h : i = 0 ∨ i = 1) : wayG 1001 200 (secW smallL) 2 i = if i = 0 then 501 else 500 := by
  unfold wayG
  rw [small_ord]
  rcases h with rfl | rfl
  · kernel_rfl
  · kernel_rfl
theorem small_evs : evG smallG smallG.nu = [⟨0, bs [99, 104, 97, 105, 110], bs [99, 49], 100, 501⟩, ⟨0, bs [99, 104, 97, 105, 110], bs [99, 50], 100, 500⟩] := by
  show evG smallG 1 = _
  rw [evG, evG, List.nil_append]
  show evS smallG 0 1 = _
  rw [evS, evS, List.nil_append, if_pos (by rfl), small_pcs]
  show evQ smallG 0 0 2 = _
  rw [evQ, evQ, evQ]
  simp only [List.nil_append, List.singleton_append, evP, small_pcs]
  have h0 := small_way 0 (Or.inl rfl)
  have h1 := small_way 1 (Or.inr rfl)
  rw [show wayG (smallG.uw 0) (smallG.us 0) (secW smallL) smallL.length 0 = 501 from h0, show wayG (smallG.uw 0) (smallG.us 0) (secW smallL) smallL.length 1 = 500 from h1]
  rfl
def smallR : PRow where
  n := 2
  u _ := bs [117]
  s _ := bs [99, 104, 97, 105, 110]
  p i := if i = 0 then bs [99, 49] else bs [99, 50]
  c _ := 100
  y i := if i = 0 then 501 else 500
theorem small_cells : evCs smallG (evG smallG smallG.nu) = [.string (bs [117]), .string (bs [99, 104, 97, 105, 110]), .string (bs [99, 49]), .int .i64 100, .int .i64 501, .string (bs [117]), .string (bs [99, 104, 97, 105, 110]), .string (bs [99, 50]), .int .i64 100, .int .i64 500] := by
  rw [small_evs]
  rfl
theorem smallR_row {w : World} {g : Nat} (h : ∀ j u, ([.string (bs [117]), .string (bs [99, 104, 97, 105, 110]), .string (bs [99, 49]), .int .i64 100, .int .i64 501, .string (bs [117]), .string (bs [99, 104, 97, 105, 110]), .string (bs [99, 50]), .int .i64 100, .int .i64 500] : List Value)[j]? = some u → w.cell? ⟨g, j, none⟩ = some u) (hl : g < w.heap.size) : RowK w (some ⟨g, 0, none⟩) smallR.n 5 smallR.cells :=
  ⟨fun _ => ⟨g, 0, rfl, hl, fun i hi j hj => by
    have hi : i < 2 := hi
    match i, hi, j, hj with
    | 0, _, 0, _ => exact h 0 _ rfl
    | 0, _, 1, _ => exact h 1 _ rfl
    | 0, _, 2, _ => exact h 2 _ rfl
    | 0, _, 3, _ => exact h 3 _ rfl
    | 0, _, 4, _ => exact h 4 _ rfl
    | 1, _, 0, _ => exact h 5 _ rfl
    | 1, _, 1, _ => exact h 6 _ rfl
    | 1, _, 2, _ => exact h 7 _ rfl
    | 1, _, 3, _ => exact h 8 _ rfl
    | 1, _, 4, _ => exact h 9 _ rfl⟩⟩
theorem smallR_eq : smallR.eq smallR = true := by kernel_rfl
set_option maxHeartbeats 2000000 in
set_option maxRecDepth 100000 in
theorem told_any (w : World) : Calls Tryz.prog 9 #[] w fun e w' => e = .returned (.bool true) ∧ Below w.heap.size w w' := by
  have HS := Lib.hid (small_any w)
  go_enter Tryz.func9, Tryz.ntmps9
  go_wp2_with fail
  refine HS.out.mono ?_
  rintro e w1 ⟨a0, a1, a2, a3, c0, c1, c2, c3, rfl, hg, hb⟩
  have HP := Lib.hid (gPieces_any smallG a0 a1 a2 a3 c0 c1 c2 c3 w1 hg)
  have HB := Lib.hid hb
  clear hg hb HS
  unfold garV at HP ⊢
  go_wp2_with fail
  refine HP.out.mono ?_
  rintro e w2 ⟨hb2, hcase⟩
  have HB2 := Lib.hid (HB.out.trans (hb2.mono HB.out.size))
  clear hb2
  rcases hcase with ⟨hne, _⟩ | ⟨_, v, base, hbase, rfl, hown⟩
  · exact absurd small_chk hne
  rw [small_cells, show (evG smallG smallG.nu).length = 2 by rw [small_evs]; rfl] at hown
  obtain ⟨g, cap, rfl, hg1, hg2⟩ := hown.form (by omega)
  have HR : Hid (RowK w2 (some ⟨g, 0, none⟩) smallR.n 5 smallR.cells) := Lib.hid (smallR_row (fun j u hu => by
    have := hown.cells (g := g) rfl j u hu
    rwa [addr_add0] at this) hg2)
  clear hown
  obtain ⟨W, hW, hbW, hsW, hqW⟩ := alloc_block w2 #[.string ⟨#[117]⟩, .string ⟨#[99, 104, 97, 105, 110]⟩, .string ⟨#[99, 49]⟩, .int .i64 100, .int .i64 501, .string ⟨#[117]⟩, .string ⟨#[99, 104, 97, 105, 110]⟩, .string ⟨#[99, 50]⟩, .int .i64 100, .int .i64 500] 75
  have HE := Lib.hid (equalP_any smallR smallR (some ⟨g, 0, none⟩) (some ⟨w2.heap.size, 0, none⟩) cap 2 W (HR.out.below hbW (Nat.le_refl _)) (smallR_row (fun j u hu => block_cell hqW (by rw [← Array.getElem?_toList]; exact hu)) (by omega)) (by decide) (by decide))
  rw [smallR_eq] at HE
  have HW := Lib.hid hW
  have HBW := Lib.hid (HB2.out.trans (hbW.mono HB2.out.size))
  clear hW hbW hsW hqW
  go_wp2_with fail
  rw [HW.out]
  refine HE.out.mono ?_
  rintro e w3 ⟨rfl, m, rfl⟩
  go_wp2_with fail
  go_ret
  exact ⟨rfl, below_drewN HBW.out m⟩
end Go.Proofs.YthdmceeipmmhjaaGreatDoor

/- Gear: Print of the program. (printed by gen_print.py) -/
namespace Go.Proofs.YthdmceeipmmhjaaGreatDoor
open Go.RowKit Go.BigFrame
open Txt
open Gar (chk)

def tP (g : Gar) (n : Nat) : List UInt8 := ((List.range n).map fun i => Ln.part (g.pn i) (g.pc i)).flatMap Ln.text
def tS (g : Gar) (n : Nat) : List UInt8 := ((List.range n).map fun i => Ln.slot (g.sn i) (g.sr i)).flatMap Ln.text
def tM (g : Gar) (n : Nat) : List UInt8 := ((List.range n).map fun i => Ln.mnt (g.ms i) (g.mp i) (g.mf i) (g.mt i)).flatMap Ln.text
def tU (g : Gar) (n : Nat) : List UInt8 := ((List.range n).map fun i => Ln.use (g.un i) (g.ur i) (g.uf i) (g.us i) (g.uw i)).flatMap Ln.text
theorem flat_snoc (f : Nat → Ln) (n : Nat) : ((List.range (n + 1)).map f).flatMap Ln.text = ((List.range n).map f).flatMap Ln.text ++ (f n).text := by
  rw [List.range_succ, List.map_append, List.flatMap_append]
  simp
theorem textG_eq (g : Gar) : textG g = tP g g.np ++ (tS g g.ns ++ (tM g g.nm ++ tU g g.nu)) := by
  unfold textG lnsG tP tS tM tU
  simp only [List.flatMap_append]
theorem flat_len (f : Nat → Ln) (n : Nat) (h : ∀ i, i < n → (f i).ok) : (((List.range n).map f).flatMap Ln.text).length ≤ 400 * n := by
  have := texts_len ((List.range n).map f) (fun l hl => by
    obtain ⟨i, hi, rfl⟩ := List.mem_map.1 hl
    exact h i (List.mem_range.1 hi))
  simpa using this
/-- each line of a right garage -/
theorem lines_ok {g : Gar} (h : chk g = 0) : (∀ i, i < g.np → (Ln.part (g.pn i) (g.pc i)).ok) ∧ (∀ i, i < g.ns → (Ln.slot (g.sn i) (g.sr i)).ok) ∧ (∀ i, i < g.nm → (Ln.mnt (g.ms i) (g.mp i) (g.mf i) (g.mt i)).ok) ∧ (∀ i, i < g.nu → (Ln.use (g.un i) (g.ur i) (g.uf i) (g.us i) (g.uw i)).ok) := by
  have h := lns_ok h
  unfold lnsG at h
  refine ⟨fun i hi => h _ ?_, fun i hi => h _ ?_, fun i hi => h _ ?_, fun i hi => h _ ?_⟩
  · exact List.mem_append_left _ (List.mem_map.2 ⟨i, List.mem_range.2 hi, rfl⟩)
  · exact List.mem_append_right _ (List.mem_append_left _ (List.mem_map.2 ⟨i, List.mem_range.2 hi, rfl⟩))
  · exact List.mem_append_right _ (List.mem_append_right _ (List.mem_append_left _ (List.mem_map.2 ⟨i, List.mem_range.2 hi, rfl⟩)))
  · exact List.mem_append_right _ (List.mem_append_right _ (List.mem_append_right _ (List.mem_map.2 ⟨i, List.mem_range.2 hi, rfl⟩)))
def printE (g : Gar) : Int := if chk g ≠ 0 then chk g else if 1000000 < (textG g).length then 3 else 0
def printS (g : Gar) : ByteArray := if printE g = 0 then bt (textG g) else ⟨#[]⟩
/-- the Builder while the text is written -/
structure Bld (W1 wr : World) (l : List UInt8) : Prop where
  b : Lib.IsBuilder 41 5 W1.heap.size W1.heap.size (Lib.byteCells l) wr
  d : Below W1.heap.size W1 wr
theorem bat_below {T e : TypeId} {B b : Nat} {p : Value} {bt : List Value} {w w' : World} (h : Lib.BuilderAt T e B b p bt w) (hb : Below w.heap.size w w') : Lib.BuilderAt T e B b p bt w' := by
  obtain ⟨hB, v, hbk, hown, hne⟩ := h
  exact ⟨hB, v, (hb.block b (Lib.BuilderAt.lt ⟨hB, v, hbk, hown, hne⟩)).trans hbk, hown.kept (row := none) ⟨hb.os, hb.tape, hb.output, hb.size, fun k hk _ => hb.block k hk⟩ (by cases v.ownBlock <;> simp), hne⟩
theorem ib_below {T e : TypeId} {B b : Nat} {bt : List Value} {w w' : World} (h : Lib.IsBuilder T e B b bt w) (hb : Below w.heap.size w w') : Lib.IsBuilder T e B b bt w' := by
  rcases h with h | h
  · exact Or.inl (bat_below h hb)
  · exact Or.inr (bat_below h hb)
theorem Bld.below {W1 wr w' : World} {l : List UInt8} (h : Bld W1 wr l) (hb : Below wr.heap.size wr w') : Bld W1 w' l := ⟨ib_below h.b hb, h.d.trans (hb.mono h.d.size)⟩
/-- a line more is written, beside a block that stays -/
theorem Bld.write {W1 w : World} {l : List UInt8} (h : Bld W1 w l) (s : List UInt8) (hl : l.length ≤ 100000000) (hs : s.length ≤ 1000000) :
    Calls Tryz.prog 12 #[.pointer (some ⟨W1.heap.size, 0, none⟩), .string (bt s)] w fun e w' => e = .returned (.tuple #[.int .i64 s.length, .nilIface]) ∧ Bld W1 w' (l ++ s) ∧
      ∀ V e cs T fz, Kept (fun k => W1.heap.size ≤ k ∧ k ≠ e) V w → V.heap[e]? = some (.cells cs T fz) → T ≠ 5 → e ≠ W1.heap.size → W1.heap.size ≤ V.heap.size → w.heap[e]? = V.heap[e]? → Kept (fun k => W1.heap.size ≤ k ∧ k ≠ e) V w' := by
  have hlen : (Lib.byteCells l).length = l.length := by simp [Lib.byteCells]
  refine (writeString_any W1.heap.size W1.heap.size (Lib.byteCells l) (bt s) w h.b (by rw [hlen]; show l.length + s.length ≤ _; omega) h.d.size).mono ?_
  rintro e w' ⟨rfl, hb, hbl, hk⟩
  refine ⟨rfl, ⟨Or.inr (by rw [Lib.byteCells_append]; exact hb), h.d.trans hbl⟩, fun V e cs T fz hkv hve hT hne hVs hwe => ?_⟩
  refine ⟨hk.os.trans hkv.os, hk.tape.trans hkv.tape, hk.output.trans hkv.output, Nat.le_trans hkv.size hk.size, fun k hk1 hno => ?_⟩
  by_cases hke : k = e
  · subst hke
    rw [← hwe]
    refine hk.block k (Nat.lt_of_lt_of_le hk1 hkv.size) ?_
    rintro (h1 | ⟨cs', fz', h1⟩)
    · exact hne h1
    · rw [hwe, hve] at h1
      injection h1 with h1
      injection h1 with _ h1
      exact hT h1
  · have hkB : k < W1.heap.size := by
      apply Classical.byContradiction
      intro hge
      exact hno ⟨by omega, hke⟩
    rw [hbl.block k hkB]
    exact hkv.block k hk1 hno
set_option maxHeartbeats 8000000 in
set_option maxRecDepth 100000 in
theorem gPrint_any (g : Gar) (a0 a1 a2 a3 : Option Addr) (c0 c1 c2 c3 : Nat) (w : World) (h : GarIn w g a0 a1 a2 a3) (hgl : Glo w) :
    Calls Tryz.prog 4 #[garV g a0 a1 a2 a3 c0 c1 c2 c3] w fun e w' => e = .returned (.tuple #[.string (printS g), .int .i64 (printE g)]) ∧ Below w.heap.size w w' := by
  have HG := Lib.hid h
  have HGL := Lib.hid hgl
  obtain ⟨V, hV, hb, hs, hq⟩ := alloc_block w #[.slice a0 g.np c0, .slice a1 g.ns c1, .slice a2 g.nm c2, .slice a3 g.nu c3] 27
  have HV := Lib.hid hV
  have HB := Lib.hid hb
  have hsV : w.heap.size ≤ V.heap.size := hb.size
  have G0 := Ext.ex (block_cell (i := 0) hq rfl)
  have G1 := Ext.ex (block_cell (i := 1) hq rfl)
  have G2 := Ext.ex (block_cell (i := 2) hq rfl)
  have G3 := Ext.ex (block_cell (i := 3) hq rfl)
  have hl0 := h.l0
  have hl1 := h.l1
  have hl2 := h.l2
  have hl3 := h.l3
  have DC := Lib.hid (fun (Y : Ext V) => Y.calls (gCheck_any g a0 a1 a2 a3 c0 c1 c2 c3 Y.1 (HG.out.below (Y.down HB.out hsV))))
  unfold garV at DC ⊢
  clear h hgl hV hb hq
  by_cases k0 : chk g = 0
  case neg =>
    have x0 : (chk g != 0) = true := by simpa using k0
    have HX1 := Lib.hid (show printE g = chk g by unfold printE; rw [if_pos k0])
    have HX2 := Lib.hid (show printS g = ⟨#[]⟩ by unfold printS; rw [if_neg (by rw [HX1.out]; exact k0)])
    rw [HX1.out, HX2.out]
    go_enter Tryz.func4, Tryz.ntmps4
    go_upto_region 1 with (fail)
    rw [HV.out]
    refine ext_wp fun Y => ?_
    go_wp2_with (go_at_call 10; refine ((DC.out _).mono ?_); rintro e w3 ⟨rfl, Y3, rfl⟩)
    go_ret2
    exact ⟨rfl, Y3.down HB.out hsV⟩
  have x0 : (chk g != 0) = false := by simpa using k0
  rw [k0] at DC
  have hpt := Gar.chk_parts k0
  have HOK := Lib.hid (lines_ok k0)
  have b0 := hpt.1
  have b1 := hpt.2.1
  have b2 := hpt.2.2.1
  have b3 := hpt.2.2.2.1
  have HLP := Lib.hid (fun n (hn : n ≤ g.np) => (show (tP g n).length ≤ 400 * n from flat_len _ n (fun i hi => HOK.out.1 i (by omega))))
  have HLS := Lib.hid (fun n (hn : n ≤ g.ns) => (show (tS g n).length ≤ 400 * n from flat_len _ n (fun i hi => HOK.out.2.1 i (by omega))))
  have HLM := Lib.hid (fun n (hn : n ≤ g.nm) => (show (tM g n).length ≤ 400 * n from flat_len _ n (fun i hi => HOK.out.2.2.1 i (by omega))))
  have HLU := Lib.hid (fun n (hn : n ≤ g.nu) => (show (tU g n).length ≤ 400 * n from flat_len _ n (fun i hi => HOK.out.2.2.2 i (by omega))))
  have HPE := Lib.hid (show printE g = if 1000000 < (textG g).length then 3 else 0 by unfold printE; rw [if_neg (by simpa using k0)])
  have HPS := Lib.hid (show printS g = if printE g = 0 then bt (textG g) else ⟨#[]⟩ from rfl)
  have HTX := Lib.hid (textG_eq g)
  clear hpt
  go_enter Tryz.func4, Tryz.ntmps4
  go_upto_region 1 with (fail)
  rw [HV.out]
  refine ext_wp fun Y => ?_
  go_upto_region 5 with (go_at_call 10; refine ((DC.out _).mono ?_); rintro e w3 ⟨rfl, Y3, rfl⟩)
  have HB1 := Lib.hid (Y3.down HB.out hsV)
  have q0 := G0 Y3
  have q1 := G1 Y3
  have q2 := G2 Y3
  have q3 := G3 Y3
  have hy3 : w.heap.size < Y3.1.heap.size := by have := Y3.2.size; omega
  obtain ⟨W1, hW1⟩ : ∃ W, Y3.1 = W := ⟨_, rfl⟩
  rw [hW1] at HB1 q0 q1 q2 q3 hy3 ⊢
  have hw1 := HB1.out.size
  obtain ⟨W2, hW2, hb2, hs2, hq2⟩ := alloc_block W1 #[.pointer none, .slice none 0 0] 41
  have HW2 := Lib.hid hW2
  have HST : Hid (Bld W1 W2 (tP g 0)) := Lib.hid ⟨by rw [← hW2]; exact Lib.fresh_isBuilder _ _ _, hb2⟩
  have Q0 := Lib.hid (fun (W : World) (hd : Below W1.heap.size W1 W) => below_cell hd q0)
  have Q1 := Lib.hid (fun (W : World) (hd : Below W1.heap.size W1 W) => below_cell hd q1)
  have Q2 := Lib.hid (fun (W : World) (hd : Below W1.heap.size W1 W) => below_cell hd q2)
  have Q3 := Lib.hid (fun (W : World) (hd : Below W1.heap.size W1 W) => below_cell hd q3)
  clear hW1 Y3 Y G0 G1 G2 G3 DC HB HV hb2 hq2 hs hW2
  have z0 := Q0.out W2 HST.out.d
  go_upto_region 6 with (fail)
  rw [HW2.out]
  go_wp2_with fail
  go_loopw [24] (fun iv wr => ∃ (i : Nat), iv = .int .i64 i ∧ i ≤ g.np ∧ Hid (Bld W1 wr (tP g i))) (fun iv _ => g.np - (intOf iv).toNat)
  case atStart => exact ⟨0, rfl, by omega, HST⟩
  case round =>
    obtain ⟨i, rfl, hi, HL⟩ := hrel
    have HD := Lib.hid (HB1.out.trans (HL.out.d.mono hw1))
    have hdz := HD.out.size
    have hdw := HL.out.d.size
    have hbw : W1.heap.size < wr.heap.size := by
      rcases HL.out.b with hh | hh
      · exact hh.lt
      · exact hh.lt
    by_cases hlt : i < g.np
    · have t1 : decide ((i : Int) < (g.np : Int)) = true := by rw [decide_eq_true_eq]; omega
      have t1' : decide (i < g.np) = true := by simpa using hlt
      have hii : (i : Int) < (g.np : Int) := by omega
      obtain ⟨b, off, rfl, hbl, hcc⟩ := (HG.out.r0.below HD.out (Nat.le_refl _)).here (by omega)
      have e0 : wr.cell? ⟨b, off + i * 2, none⟩ = some (.string (g.pn i)) := hcc i hlt 0 (by omega)
      have e1 : wr.cell? ⟨b, off + i * 2 + 1, none⟩ = some (.int .i64 (g.pc i)) := hcc i hlt 1 (by omega)
      obtain ⟨V1, hV1, hvb, hvs, hvq⟩ := alloc_block wr #[.string (g.pn i), .int .i64 (g.pc i)] 43
      have HV1 := Lib.hid hV1
      have HL1 := Lib.hid (HL.out.below hvb)
      have HD1 := Lib.hid (HD.out.trans (hvb.mono hdz))
      have HVQ := Lib.hid hvq
      have hok := HOK.out.1 i hlt
      have HLN := Lib.hid (show joinL 32 ([kPart, g.pn i, itoaB (g.pc i)].map sB) ++ [10] = (Ln.part (g.pn i) (g.pc i)).text from rfl)
      have htl := okW_len hok
      have HT : Hid ((tP g (i + 1)) = (tP g i) ++ (Ln.part (g.pn i) (g.pc i)).text) := Lib.hid (by
        rw [show tP g (i + 1) = tP g i ++ (Ln.part (g.pn i) (g.pc i)).text from flat_snoc (fun i => Ln.part (g.pn i) (g.pc i)) i]
        try simp only [List.append_assoc])
      have htn : ((tP g i)).length ≤ 3040000 := by
        try simp only [List.length_append]
        have lP := HLP.out i (by omega)
        omega
      have hn0 : okN (g.pc i) := hok.2
      have hn0 : 0 ≤ g.pc i ∧ g.pc i < 1000000000000 := hn0
      have HZV := Lib.hid (Below.refl V1.heap.size V1)
      clear hcc hV1 hvb hvs hvq
      have F0 : ∀ Z : ExtO (fun k => W1.heap.size ≤ k ∧ k ≠ wr.heap.size) V1, Z.1.cell? ⟨wr.heap.size, 0, none⟩ = some (.string (g.pn i)) := ExtO.ex (fun e => e.2 rfl) (block_cell HVQ.out rfl)
      have F1 : ∀ Z : ExtO (fun k => W1.heap.size ≤ k ∧ k ≠ wr.heap.size) V1, Z.1.cell? ⟨wr.heap.size, 1, none⟩ = some (.int .i64 (g.pc i)) := ExtO.ex (fun e => e.2 rfl) (block_cell HVQ.out rfl)
      go_upto_region 9 with (fail)
      rw [HV1.out]
      refine held_start (C := fun w' => ∃ Z : ExtO (fun k => W1.heap.size ≤ k ∧ k ≠ wr.heap.size) V1, w' = Z.1) (by kernel_rfl) ?_
      obtain ⟨Z0, hZ0, hz0⟩ : ∃ Z : ExtO (fun k => W1.heap.size ≤ k ∧ k ≠ wr.heap.size) V1, ({ V1 with drawn := (V1).drawn + 1 } : World) = Z.1 ∧ Below (V1).heap.size (V1) Z.1 := ⟨⟨{ V1 with drawn := (V1).drawn + 1 }, (Kept.of_below HZV.out).trans ⟨rfl, rfl, rfl, Nat.le_refl _, fun _ _ _ => rfl⟩⟩, rfl, ⟨rfl, rfl, rfl, Nat.le_refl _, fun _ _ => rfl⟩⟩
      rw [hZ0]
      have HZ0 := Lib.hid (below_step HZV.out hz0)
      clear hZ0 hz0
      refine held_quiet (by kernel_rfl) (fun _ _ d _ _ h => by cases d <;> exact h) ⟨Z0, rfl⟩ [0, 1, 2, 3, 4] 4 _ _ (by kernel_rfl) ?_
      change wpQuiet _ _ _ _ (_ :: _ :: _ :: _ :: _ :: []) _
      repeat go_big_quiet_step (fail)
      refine wpQuiet_nil ?_
      refine held_do (i := 5) _ rfl (by kernel_rfl) rfl (fun K hK => ?_)
      go_simp
      refine (itoa_any (g.pc i) (by omega) (by omega) Z0.1 (HGL.out.below (HD1.out.trans (HZ0.out.mono HD1.out.size)))).mono ?_
      rintro e w1 ⟨rfl, hbz⟩
      obtain ⟨Z1, rfl⟩ : ∃ Z : ExtO (fun k => W1.heap.size ≤ k ∧ k ≠ wr.heap.size) V1, w1 = Z.1 := ⟨⟨w1, Z0.2.trans (Kept.of_below hbz)⟩, rfl⟩
      have HZ1 := Lib.hid (below_step HZ0.out hbz)
      refine hK _ _ ⟨Z1, rfl⟩ ?_
      clear hbz hK K
      try simp only [Act.put, List.setIfInBounds_toArray, List.set_cons_zero, List.set_cons_succ]
      refine held_do (i := 6) _ rfl (by kernel_rfl) rfl (fun K hK => ?_)
      go_simp
      obtain ⟨Wb, hWb, hwb1, hwb2, hwq⟩ := alloc_block Z1.1 #[.string (kPart), .string (g.pn i), .string (itoaB (g.pc i))] 9
      try rw [show (ByteArray.mk #[112, 97, 114, 116]) = kPart from rfl]
      rw [hWb]
      have HZb := Lib.hid (below_step HZ1.out hwb1)
      have DL := Lib.hid (line_any Z1.1.heap.size 0 3 [kPart, g.pn i, itoaB (g.pc i)] Wb (fun j x hx => by
        rw [Nat.zero_add]
        exact block_cell hwq (by rw [show (#[Value.string (kPart), Value.string (g.pn i), Value.string (itoaB (g.pc i))] : Array Value) = (([kPart, g.pn i, itoaB (g.pc i)] : List ByteArray).map Value.string).toArray from rfl, List.getElem?_toArray, List.getElem?_map, hx]; rfl)) (lt_of_block hwq) (by simp) (by simp) (by
          have h1 := congrArg List.length HLN.out
          rw [List.length_append] at h1
          omega))
      rw [HLN.out] at DL
      obtain ⟨Zb, rfl⟩ : ∃ Z : ExtO (fun k => W1.heap.size ≤ k ∧ k ≠ wr.heap.size) V1, Wb = Z.1 := ⟨⟨Wb, Z1.2.trans (Kept.of_below hwb1)⟩, rfl⟩
      refine hK _ _ ⟨Zb, rfl⟩ ?_
      clear hWb hwb1 hwb2 hwq hK K
      try simp only [Act.put, List.setIfInBounds_toArray, List.set_cons_zero, List.set_cons_succ]
      refine held_do (i := 7) _ rfl (by kernel_rfl) rfl (fun K hK => ?_)
      go_simp
      refine DL.out.mono ?_
      rintro e w5 ⟨rfl, hb5⟩
      obtain ⟨Z5, rfl⟩ : ∃ Z : ExtO (fun k => W1.heap.size ≤ k ∧ k ≠ wr.heap.size) V1, w5 = Z.1 := ⟨⟨w5, Zb.2.trans (Kept.of_below hb5)⟩, rfl⟩
      have HZ5 := Lib.hid (below_step HZb.out hb5)
      refine hK _ _ ⟨Z5, rfl⟩ ?_
      clear hb5 hK K DL
      try simp only [Act.put, List.setIfInBounds_toArray, List.set_cons_zero, List.set_cons_succ]
      refine held_do (i := 8) _ rfl (by kernel_rfl) rfl (fun K hK => ?_)
      go_simp
      refine ((HL1.out.below HZ5.out).write (Ln.part (g.pn i) (g.pc i)).text (by omega) (by omega)).mono ?_
      rintro e w6 ⟨rfl, hb6, hk6⟩
      obtain ⟨Z6, hZ6⟩ : ∃ Z : ExtO (fun k => W1.heap.size ≤ k ∧ k ≠ wr.heap.size) V1, w6 = Z.1 := ⟨⟨w6, hk6 V1 wr.heap.size _ _ _ Z5.2 HVQ.out (by decide) (by omega) (by have := HL1.out.d.size; omega) (HZ5.out.block _ (lt_of_block HVQ.out))⟩, rfl⟩
      have HN : Hid (Bld W1 w6 (tP g (i + 1))) := Lib.hid (by rw [HT.out]; exact hb6)
      refine hK _ _ ⟨Z6, hZ6⟩ ?_
      clear hb6 hk6 hK K hZ6
      try simp only [Act.put, List.setIfInBounds_toArray, List.set_cons_zero, List.set_cons_succ]
      refine wpAnyH_done (by kernel_rfl) ?_ _
      go_wp2_with fail
      go_roundw
      case rel => exact ⟨i + 1, by go_num, by omega, HN⟩
      case measure => simp [intOf]; omega
    · have t1 : decide ((i : Int) < (g.np : Int)) = false := by rw [decide_eq_false_iff_not]; omega
      have t1' : decide (i < g.np) = false := by simpa using hlt
      obtain rfl : i = g.np := by omega
      have HST : Hid (Bld W1 wr (tP g g.np ++ tS g 0)) := Lib.hid (by
        have h0 := HL.out
        rw [show tS g 0 = [] from rfl, List.append_nil]; exact h0)
      have z0 := Q1.out wr HL.out.d
      clear hlt HL HD hdz hdw hbw
      go_wp2_with fail
      go_loopw [41] (fun iv wr => ∃ (i : Nat), iv = .int .i64 i ∧ i ≤ g.ns ∧ Hid (Bld W1 wr (tP g g.np ++ tS g i))) (fun iv _ => g.ns - (intOf iv).toNat)
      case atStart => exact ⟨0, rfl, by omega, HST⟩
      case round =>
        obtain ⟨i, rfl, hi, HL⟩ := hrel
        have HD := Lib.hid (HB1.out.trans (HL.out.d.mono hw1))
        have hdz := HD.out.size
        have hdw := HL.out.d.size
        have hbw : W1.heap.size < wr.heap.size := by
          rcases HL.out.b with hh | hh
          · exact hh.lt
          · exact hh.lt
        by_cases hlt : i < g.ns
        · have t1 : decide ((i : Int) < (g.ns : Int)) = true := by rw [decide_eq_true_eq]; omega
          have t1' : decide (i < g.ns) = true := by simpa using hlt
          have hii : (i : Int) < (g.ns : Int) := by omega
          obtain ⟨b, off, rfl, hbl, hcc⟩ := (HG.out.r1.below HD.out (Nat.le_refl _)).here (by omega)
          have e0 : wr.cell? ⟨b, off + i * 2, none⟩ = some (.string (g.sn i)) := hcc i hlt 0 (by omega)
          have e1 : wr.cell? ⟨b, off + i * 2 + 1, none⟩ = some (.string (g.sr i)) := hcc i hlt 1 (by omega)
          obtain ⟨V1, hV1, hvb, hvs, hvq⟩ := alloc_block wr #[.string (g.sn i), .string (g.sr i)] 50
          have HV1 := Lib.hid hV1
          have HL1 := Lib.hid (HL.out.below hvb)
          have HD1 := Lib.hid (HD.out.trans (hvb.mono hdz))
          have HVQ := Lib.hid hvq
          have hok := HOK.out.2.1 i hlt
          have HLN := Lib.hid (show joinL 32 ([kSlot, g.sn i, g.sr i].map sB) ++ [10] = (Ln.slot (g.sn i) (g.sr i)).text from rfl)
          have htl := okW_len hok
          have HT : Hid ((tP g g.np ++ tS g (i + 1)) = (tP g g.np ++ tS g i) ++ (Ln.slot (g.sn i) (g.sr i)).text) := Lib.hid (by
            rw [show tS g (i + 1) = tS g i ++ (Ln.slot (g.sn i) (g.sr i)).text from flat_snoc (fun i => Ln.slot (g.sn i) (g.sr i)) i]
            try simp only [List.append_assoc])
          have htn : ((tP g g.np ++ tS g i)).length ≤ 3040000 := by
            try simp only [List.length_append]
            have lP := HLP.out g.np (by omega)
            have lS := HLS.out i (by omega)
            omega
          have HZV := Lib.hid (Below.refl V1.heap.size V1)
          clear hcc hV1 hvb hvs hvq
          have F0 : ∀ Z : ExtO (fun k => W1.heap.size ≤ k ∧ k ≠ wr.heap.size) V1, Z.1.cell? ⟨wr.heap.size, 0, none⟩ = some (.string (g.sn i)) := ExtO.ex (fun e => e.2 rfl) (block_cell HVQ.out rfl)
          have F1 : ∀ Z : ExtO (fun k => W1.heap.size ≤ k ∧ k ≠ wr.heap.size) V1, Z.1.cell? ⟨wr.heap.size, 1, none⟩ = some (.string (g.sr i)) := ExtO.ex (fun e => e.2 rfl) (block_cell HVQ.out rfl)
          have X0 : ∀ Z : Ext V1, Z.1.cell? ⟨wr.heap.size, 0, none⟩ = some (.string (g.sn i)) := Ext.ex (block_cell HVQ.out rfl)
          have X1 : ∀ Z : Ext V1, Z.1.cell? ⟨wr.heap.size, 1, none⟩ = some (.string (g.sr i)) := Ext.ex (block_cell HVQ.out rfl)
          obtain ⟨Wb, hWb, hwb1, hwb2, hwq⟩ := alloc_block V1 #[.string (kSlot), .string (g.sn i), .string (g.sr i)] 9
          have HWB := Lib.hid (show V1.alloc (.cells #[.string ⟨#[115, 108, 111, 116]⟩, .string (g.sn i), .string (g.sr i)] 9) = Wb from hWb)
          have HZb := Lib.hid hwb1
          have DL := Lib.hid (line_any V1.heap.size 0 3 [kSlot, g.sn i, g.sr i] Wb (fun j x hx => by
            rw [Nat.zero_add]
            exact block_cell hwq (by rw [show (#[Value.string (kSlot), Value.string (g.sn i), Value.string (g.sr i)] : Array Value) = (([kSlot, g.sn i, g.sr i] : List ByteArray).map Value.string).toArray from rfl, List.getElem?_toArray, List.getElem?_map, hx]; rfl)) (lt_of_block hwq) (by simp) (by simp) (by
              have h1 := congrArg List.length HLN.out
              rw [List.length_append] at h1
              omega))
          rw [HLN.out] at DL
          have F0' := X0 ⟨V1, Below.refl _ _⟩
          have F1' := X1 ⟨V1, Below.refl _ _⟩
          clear hWb hwb1 hwb2 hwq F0 F1
          go_upto_region 14 with (fail)
          rw [HV1.out]
          go_wp2_with (go_at_call 13; rw [HWB.out]; refine DL.out.mono ?_; rintro e w5 ⟨rfl, hb5⟩; refine Hid.out ?_)
          refine Lib.hid ?_
          have HZ5 := Lib.hid (below_step HZb.out hb5)
          clear hb5 DL
          go_wp2_with (go_at_call 12; refine ((HL1.out.below HZ5.out).write (Ln.slot (g.sn i) (g.sr i)).text (by omega) (by omega)).mono ?_; rintro e w6 ⟨rfl, hb6, _⟩; refine Hid.out ?_)
          refine Lib.hid ?_
          have HN : Hid (Bld W1 w6 (tP g g.np ++ tS g (i + 1))) := Lib.hid (by rw [HT.out]; exact hb6)
          clear hb6
          go_wp2_with fail
          go_roundw
          case rel => exact ⟨i + 1, by go_num, by omega, HN⟩
          case measure => simp [intOf]; omega
        · have t1 : decide ((i : Int) < (g.ns : Int)) = false := by rw [decide_eq_false_iff_not]; omega
          have t1' : decide (i < g.ns) = false := by simpa using hlt
          obtain rfl : i = g.ns := by omega
          have HST : Hid (Bld W1 wr ((tP g g.np ++ tS g g.ns) ++ tM g 0)) := Lib.hid (by
            have h0 := HL.out
            rw [show tM g 0 = [] from rfl]; simpa using h0)
          have z0 := Q2.out wr HL.out.d
          clear hlt HL HD hdz hdw hbw
          go_wp2_with fail
          go_loopw [56] (fun iv wr => ∃ (i : Nat), iv = .int .i64 i ∧ i ≤ g.nm ∧ Hid (Bld W1 wr ((tP g g.np ++ tS g g.ns) ++ tM g i))) (fun iv _ => g.nm - (intOf iv).toNat)
          case atStart => exact ⟨0, rfl, by omega, HST⟩
          case round =>
            obtain ⟨i, rfl, hi, HL⟩ := hrel
            have HD := Lib.hid (HB1.out.trans (HL.out.d.mono hw1))
            have hdz := HD.out.size
            have hdw := HL.out.d.size
            have hbw : W1.heap.size < wr.heap.size := by
              rcases HL.out.b with hh | hh
              · exact hh.lt
              · exact hh.lt
            by_cases hlt : i < g.nm
            · have t1 : decide ((i : Int) < (g.nm : Int)) = true := by rw [decide_eq_true_eq]; omega
              have t1' : decide (i < g.nm) = true := by simpa using hlt
              have hii : (i : Int) < (g.nm : Int) := by omega
              obtain ⟨b, off, rfl, hbl, hcc⟩ := (HG.out.r2.below HD.out (Nat.le_refl _)).here (by omega)
              have e0 : wr.cell? ⟨b, off + i * 4, none⟩ = some (.string (g.ms i)) := hcc i hlt 0 (by omega)
              have e1 : wr.cell? ⟨b, off + i * 4 + 1, none⟩ = some (.string (g.mp i)) := hcc i hlt 1 (by omega)
              have e2 : wr.cell? ⟨b, off + i * 4 + 2, none⟩ = some (.int .i64 (g.mf i)) := hcc i hlt 2 (by omega)
              have e3 : wr.cell? ⟨b, off + i * 4 + 3, none⟩ = some (.int .i64 (g.mt i)) := hcc i hlt 3 (by omega)
              obtain ⟨V1, hV1, hvb, hvs, hvq⟩ := alloc_block wr #[.string (g.ms i), .string (g.mp i), .int .i64 (g.mf i), .int .i64 (g.mt i)] 52
              have HV1 := Lib.hid hV1
              have HL1 := Lib.hid (HL.out.below hvb)
              have HD1 := Lib.hid (HD.out.trans (hvb.mono hdz))
              have HVQ := Lib.hid hvq
              have hok := HOK.out.2.2.1 i hlt
              have HLN := Lib.hid (show joinL 32 ([kMount, g.ms i, g.mp i, itoaB (g.mf i), toB (g.mt i)].map sB) ++ [10] = (Ln.mnt (g.ms i) (g.mp i) (g.mf i) (g.mt i)).text from rfl)
              have htl := okW_len hok
              have HT : Hid (((tP g g.np ++ tS g g.ns) ++ tM g (i + 1)) = ((tP g g.np ++ tS g g.ns) ++ tM g i) ++ (Ln.mnt (g.ms i) (g.mp i) (g.mf i) (g.mt i)).text) := Lib.hid (by
                rw [show tM g (i + 1) = tM g i ++ (Ln.mnt (g.ms i) (g.mp i) (g.mf i) (g.mt i)).text from flat_snoc (fun i => Ln.mnt (g.ms i) (g.mp i) (g.mf i) (g.mt i)) i]
                try simp only [List.append_assoc])
              have htn : (((tP g g.np ++ tS g g.ns) ++ tM g i)).length ≤ 3040000 := by
                try simp only [List.length_append]
                have lP := HLP.out g.np (by omega)
                have lS := HLS.out g.ns (by omega)
                have lM := HLM.out i (by omega)
                omega
              have hn0 : okN (g.mf i) := hok.2.2.1
              have hn0 : 0 ≤ g.mf i ∧ g.mf i < 1000000000000 := hn0
              have HZV := Lib.hid (Below.refl V1.heap.size V1)
              clear hcc hV1 hvb hvs hvq
              have F0 : ∀ Z : ExtO (fun k => W1.heap.size ≤ k ∧ k ≠ wr.heap.size) V1, Z.1.cell? ⟨wr.heap.size, 0, none⟩ = some (.string (g.ms i)) := ExtO.ex (fun e => e.2 rfl) (block_cell HVQ.out rfl)
              have F1 : ∀ Z : ExtO (fun k => W1.heap.size ≤ k ∧ k ≠ wr.heap.size) V1, Z.1.cell? ⟨wr.heap.size, 1, none⟩ = some (.string (g.mp i)) := ExtO.ex (fun e => e.2 rfl) (block_cell HVQ.out rfl)
              have F2 : ∀ Z : ExtO (fun k => W1.heap.size ≤ k ∧ k ≠ wr.heap.size) V1, Z.1.cell? ⟨wr.heap.size, 2, none⟩ = some (.int .i64 (g.mf i)) := ExtO.ex (fun e => e.2 rfl) (block_cell HVQ.out rfl)
              have F3 : ∀ Z : ExtO (fun k => W1.heap.size ≤ k ∧ k ≠ wr.heap.size) V1, Z.1.cell? ⟨wr.heap.size, 3, none⟩ = some (.int .i64 (g.mt i)) := ExtO.ex (fun e => e.2 rfl) (block_cell HVQ.out rfl)
              have hmt : g.mt i = -1 ∨ okN (g.mt i) := hok.2.2.2
              have hmt : g.mt i = -1 ∨ (0 ≤ g.mt i ∧ g.mt i < 1000000000000) := hmt
              have F3' := F3 ⟨V1, Kept.refl _ _⟩
              have DI := Lib.hid (fun (h : 0 ≤ g.mt i) => itoa_any (g.mt i) (by omega) (by omega) V1 (HGL.out.below HD1.out))
              by_cases ht : 0 ≤ g.mt i
              · have y1 : decide (g.mt i ≥ 0) = true := by simpa using ht
                have y2 : decide (0 ≤ g.mt i) = true := by simpa using ht
                have HTB := Lib.hid (show itoaB (g.mt i) = toB (g.mt i) by unfold toB; rw [if_pos ht])
                have DI := Lib.hid (DI.out ht)
                rw [HTB.out] at DI
                go_upto_region 20 with (fail)
                rw [HV1.out]
                go_upto_region 22 with (go_at_call 11; refine DI.out.mono ?_; rintro e w2 ⟨rfl, hb2⟩)
                have HV2 := Lib.hid hb2
                clear hb2
                refine held_start (C := fun w' => ∃ Z : ExtO (fun k => W1.heap.size ≤ k ∧ k ≠ wr.heap.size) V1, w' = Z.1) (by kernel_rfl) ?_
                obtain ⟨Z0, hZ0, hz0⟩ : ∃ Z : ExtO (fun k => W1.heap.size ≤ k ∧ k ≠ wr.heap.size) V1, ({ w2 with drawn := (w2).drawn + 1 } : World) = Z.1 ∧ Below (w2).heap.size (w2) Z.1 := ⟨⟨{ w2 with drawn := (w2).drawn + 1 }, (Kept.of_below HV2.out).trans ⟨rfl, rfl, rfl, Nat.le_refl _, fun _ _ _ => rfl⟩⟩, rfl, ⟨rfl, rfl, rfl, Nat.le_refl _, fun _ _ => rfl⟩⟩
                rw [hZ0]
                have HZ0 := Lib.hid (below_step HV2.out hz0)
                clear hZ0 hz0
                refine held_quiet (by kernel_rfl) (fun _ _ d _ _ h => by cases d <;> exact h) ⟨Z0, rfl⟩ [0, 1, 2, 3, 4, 5, 6, 8] 4 _ _ (by kernel_rfl) ?_
                change wpQuiet _ _ _ _ (_ :: _ :: _ :: _ :: _ :: _ :: _ :: _ :: []) _
                repeat go_big_quiet_step (fail)
                refine wpQuiet_nil ?_
                refine held_do (i := 7) _ rfl (by kernel_rfl) rfl (fun K hK => ?_)
                go_simp
                refine (itoa_any (g.mf i) (by omega) (by omega) Z0.1 (HGL.out.below (HD1.out.trans (HZ0.out.mono HD1.out.size)))).mono ?_
                rintro e w1 ⟨rfl, hbz⟩
                obtain ⟨Z1, rfl⟩ : ∃ Z : ExtO (fun k => W1.heap.size ≤ k ∧ k ≠ wr.heap.size) V1, w1 = Z.1 := ⟨⟨w1, Z0.2.trans (Kept.of_below hbz)⟩, rfl⟩
                have HZ1 := Lib.hid (below_step HZ0.out hbz)
                refine hK _ _ ⟨Z1, rfl⟩ ?_
                clear hbz hK K
                try simp only [Act.put, List.setIfInBounds_toArray, List.set_cons_zero, List.set_cons_succ]
                refine held_do (i := 9) _ rfl (by kernel_rfl) rfl (fun K hK => ?_)
                go_simp
                obtain ⟨Wb, hWb, hwb1, hwb2, hwq⟩ := alloc_block Z1.1 #[.string (kMount), .string (g.ms i), .string (g.mp i), .string (itoaB (g.mf i)), .string (toB (g.mt i))] 9
                try rw [show (ByteArray.mk #[109, 111, 117, 110, 116]) = kMount from rfl]
                rw [hWb]
                have HZb := Lib.hid (below_step HZ1.out hwb1)
                have DL := Lib.hid (line_any Z1.1.heap.size 0 5 [kMount, g.ms i, g.mp i, itoaB (g.mf i), toB (g.mt i)] Wb (fun j x hx => by
                  rw [Nat.zero_add]
                  exact block_cell hwq (by rw [show (#[Value.string (kMount), Value.string (g.ms i), Value.string (g.mp i), Value.string (itoaB (g.mf i)), Value.string (toB (g.mt i))] : Array Value) = (([kMount, g.ms i, g.mp i, itoaB (g.mf i), toB (g.mt i)] : List ByteArray).map Value.string).toArray from rfl, List.getElem?_toArray, List.getElem?_map, hx]; rfl)) (lt_of_block hwq) (by simp) (by simp) (by
                    have h1 := congrArg List.length HLN.out
                    rw [List.length_append] at h1
                    omega))
                rw [HLN.out] at DL
                obtain ⟨Zb, rfl⟩ : ∃ Z : ExtO (fun k => W1.heap.size ≤ k ∧ k ≠ wr.heap.size) V1, Wb = Z.1 := ⟨⟨Wb, Z1.2.trans (Kept.of_below hwb1)⟩, rfl⟩
                refine hK _ _ ⟨Zb, rfl⟩ ?_
                clear hWb hwb1 hwb2 hwq hK K
                try simp only [Act.put, List.setIfInBounds_toArray, List.set_cons_zero, List.set_cons_succ]
                refine held_do (i := 10) _ rfl (by kernel_rfl) rfl (fun K hK => ?_)
                go_simp
                refine DL.out.mono ?_
                rintro e w5 ⟨rfl, hb5⟩
                obtain ⟨Z5, rfl⟩ : ∃ Z : ExtO (fun k => W1.heap.size ≤ k ∧ k ≠ wr.heap.size) V1, w5 = Z.1 := ⟨⟨w5, Zb.2.trans (Kept.of_below hb5)⟩, rfl⟩
                have HZ5 := Lib.hid (below_step HZb.out hb5)
                refine hK _ _ ⟨Z5, rfl⟩ ?_
                clear hb5 hK K DL
                try simp only [Act.put, List.setIfInBounds_toArray, List.set_cons_zero, List.set_cons_succ]
                refine held_do (i := 11) _ rfl (by kernel_rfl) rfl (fun K hK => ?_)
                go_simp
                refine ((HL1.out.below HZ5.out).write (Ln.mnt (g.ms i) (g.mp i) (g.mf i) (g.mt i)).text (by omega) (by omega)).mono ?_
                rintro e w6 ⟨rfl, hb6, hk6⟩
                obtain ⟨Z6, hZ6⟩ : ∃ Z : ExtO (fun k => W1.heap.size ≤ k ∧ k ≠ wr.heap.size) V1, w6 = Z.1 := ⟨⟨w6, hk6 V1 wr.heap.size _ _ _ Z5.2 HVQ.out (by decide) (by omega) (by have := HL1.out.d.size; omega) (HZ5.out.block _ (lt_of_block HVQ.out))⟩, rfl⟩
                have HN : Hid (Bld W1 w6 ((tP g g.np ++ tS g g.ns) ++ tM g (i + 1))) := Lib.hid (by rw [HT.out]; exact hb6)
                refine hK _ _ ⟨Z6, hZ6⟩ ?_
                clear hb6 hk6 hK K hZ6
                try simp only [Act.put, List.setIfInBounds_toArray, List.set_cons_zero, List.set_cons_succ]
                refine wpAnyH_done (by kernel_rfl) ?_ _
                go_wp2_with fail
                go_roundw
                case rel => exact ⟨i + 1, by go_num, by omega, HN⟩
                case measure => simp [intOf]; omega
              · have y1 : decide (g.mt i ≥ 0) = false := by simpa using ht
                have y2 : decide (0 ≤ g.mt i) = false := by simpa using ht
                have HTB := Lib.hid (show (⟨#[45]⟩ : ByteArray) = toB (g.mt i) by unfold toB; rw [if_neg ht]; rfl)
                go_upto_region 20 with (fail)
                rw [HV1.out]
                go_upto_region 22 with (fail)
                rw [HTB.out]
                refine held_start (C := fun w' => ∃ Z : ExtO (fun k => W1.heap.size ≤ k ∧ k ≠ wr.heap.size) V1, w' = Z.1) (by kernel_rfl) ?_
                obtain ⟨Z0, hZ0, hz0⟩ : ∃ Z : ExtO (fun k => W1.heap.size ≤ k ∧ k ≠ wr.heap.size) V1, ({ V1 with drawn := (V1).drawn + 1 } : World) = Z.1 ∧ Below (V1).heap.size (V1) Z.1 := ⟨⟨{ V1 with drawn := (V1).drawn + 1 }, (Kept.of_below HZV.out).trans ⟨rfl, rfl, rfl, Nat.le_refl _, fun _ _ _ => rfl⟩⟩, rfl, ⟨rfl, rfl, rfl, Nat.le_refl _, fun _ _ => rfl⟩⟩
                rw [hZ0]
                have HZ0 := Lib.hid (below_step HZV.out hz0)
                clear hZ0 hz0
                refine held_quiet (by kernel_rfl) (fun _ _ d _ _ h => by cases d <;> exact h) ⟨Z0, rfl⟩ [0, 1, 2, 3, 4, 5, 6, 8] 4 _ _ (by kernel_rfl) ?_
                change wpQuiet _ _ _ _ (_ :: _ :: _ :: _ :: _ :: _ :: _ :: _ :: []) _
                repeat go_big_quiet_step (fail)
                refine wpQuiet_nil ?_
                refine held_do (i := 7) _ rfl (by kernel_rfl) rfl (fun K hK => ?_)
                go_simp
                refine (itoa_any (g.mf i) (by omega) (by omega) Z0.1 (HGL.out.below (HD1.out.trans (HZ0.out.mono HD1.out.size)))).mono ?_
                rintro e w1 ⟨rfl, hbz⟩
                obtain ⟨Z1, rfl⟩ : ∃ Z : ExtO (fun k => W1.heap.size ≤ k ∧ k ≠ wr.heap.size) V1, w1 = Z.1 := ⟨⟨w1, Z0.2.trans (Kept.of_below hbz)⟩, rfl⟩
                have HZ1 := Lib.hid (below_step HZ0.out hbz)
                refine hK _ _ ⟨Z1, rfl⟩ ?_
                clear hbz hK K
                try simp only [Act.put, List.setIfInBounds_toArray, List.set_cons_zero, List.set_cons_succ]
                refine held_do (i := 9) _ rfl (by kernel_rfl) rfl (fun K hK => ?_)
                go_simp
                obtain ⟨Wb, hWb, hwb1, hwb2, hwq⟩ := alloc_block Z1.1 #[.string (kMount), .string (g.ms i), .string (g.mp i), .string (itoaB (g.mf i)), .string (toB (g.mt i))] 9
                try rw [show (ByteArray.mk #[109, 111, 117, 110, 116]) = kMount from rfl]
                rw [hWb]
                have HZb := Lib.hid (below_step HZ1.out hwb1)
                have DL := Lib.hid (line_any Z1.1.heap.size 0 5 [kMount, g.ms i, g.mp i, itoaB (g.mf i), toB (g.mt i)] Wb (fun j x hx => by
                  rw [Nat.zero_add]
                  exact block_cell hwq (by rw [show (#[Value.string (kMount), Value.string (g.ms i), Value.string (g.mp i), Value.string (itoaB (g.mf i)), Value.string (toB (g.mt i))] : Array Value) = (([kMount, g.ms i, g.mp i, itoaB (g.mf i), toB (g.mt i)] : List ByteArray).map Value.string).toArray from rfl, List.getElem?_toArray, List.getElem?_map, hx]; rfl)) (lt_of_block hwq) (by simp) (by simp) (by
                    have h1 := congrArg List.length HLN.out
                    rw [List.length_append] at h1
                    omega))
                rw [HLN.out] at DL
                obtain ⟨Zb, rfl⟩ : ∃ Z : ExtO (fun k => W1.heap.size ≤ k ∧ k ≠ wr.heap.size) V1, Wb = Z.1 := ⟨⟨Wb, Z1.2.trans (Kept.of_below hwb1)⟩, rfl⟩
                refine hK _ _ ⟨Zb, rfl⟩ ?_
                clear hWb hwb1 hwb2 hwq hK K
                try simp only [Act.put, List.setIfInBounds_toArray, List.set_cons_zero, List.set_cons_succ]
                refine held_do (i := 10) _ rfl (by kernel_rfl) rfl (fun K hK => ?_)
                go_simp
                refine DL.out.mono ?_
                rintro e w5 ⟨rfl, hb5⟩
                obtain ⟨Z5, rfl⟩ : ∃ Z : ExtO (fun k => W1.heap.size ≤ k ∧ k ≠ wr.heap.size) V1, w5 = Z.1 := ⟨⟨w5, Zb.2.trans (Kept.of_below hb5)⟩, rfl⟩
                have HZ5 := Lib.hid (below_step HZb.out hb5)
                refine hK _ _ ⟨Z5, rfl⟩ ?_
                clear hb5 hK K DL
                try simp only [Act.put, List.setIfInBounds_toArray, List.set_cons_zero, List.set_cons_succ]
                refine held_do (i := 11) _ rfl (by kernel_rfl) rfl (fun K hK => ?_)
                go_simp
                refine ((HL1.out.below HZ5.out).write (Ln.mnt (g.ms i) (g.mp i) (g.mf i) (g.mt i)).text (by omega) (by omega)).mono ?_
                rintro e w6 ⟨rfl, hb6, hk6⟩
                obtain ⟨Z6, hZ6⟩ : ∃ Z : ExtO (fun k => W1.heap.size ≤ k ∧ k ≠ wr.heap.size) V1, w6 = Z.1 := ⟨⟨w6, hk6 V1 wr.heap.size _ _ _ Z5.2 HVQ.out (by decide) (by omega) (by have := HL1.out.d.size; omega) (HZ5.out.block _ (lt_of_block HVQ.out))⟩, rfl⟩
                have HN : Hid (Bld W1 w6 ((tP g g.np ++ tS g g.ns) ++ tM g (i + 1))) := Lib.hid (by rw [HT.out]; exact hb6)
                refine hK _ _ ⟨Z6, hZ6⟩ ?_
                clear hb6 hk6 hK K hZ6
                try simp only [Act.put, List.setIfInBounds_toArray, List.set_cons_zero, List.set_cons_succ]
                refine wpAnyH_done (by kernel_rfl) ?_ _
                go_wp2_with fail
                go_roundw
                case rel => exact ⟨i + 1, by go_num, by omega, HN⟩
                case measure => simp [intOf]; omega
            · have t1 : decide ((i : Int) < (g.nm : Int)) = false := by rw [decide_eq_false_iff_not]; omega
              have t1' : decide (i < g.nm) = false := by simpa using hlt
              obtain rfl : i = g.nm := by omega
              have HST : Hid (Bld W1 wr (((tP g g.np ++ tS g g.ns) ++ tM g g.nm) ++ tU g 0)) := Lib.hid (by
                have h0 := HL.out
                rw [show tU g 0 = [] from rfl]; simpa using h0)
              have z0 := Q3.out wr HL.out.d
              clear hlt HL HD hdz hdw hbw
              go_wp2_with fail
              go_loopw [83] (fun iv wr => ∃ (i : Nat), iv = .int .i64 i ∧ i ≤ g.nu ∧ Hid (Bld W1 wr (((tP g g.np ++ tS g g.ns) ++ tM g g.nm) ++ tU g i))) (fun iv _ => g.nu - (intOf iv).toNat)
              case atStart => exact ⟨0, rfl, by omega, HST⟩
              case round =>
                obtain ⟨i, rfl, hi, HL⟩ := hrel
                have HD := Lib.hid (HB1.out.trans (HL.out.d.mono hw1))
                have hdz := HD.out.size
                have hdw := HL.out.d.size
                have hbw : W1.heap.size < wr.heap.size := by
                  rcases HL.out.b with hh | hh
                  · exact hh.lt
                  · exact hh.lt
                by_cases hlt : i < g.nu
                · have t1 : decide ((i : Int) < (g.nu : Int)) = true := by rw [decide_eq_true_eq]; omega
                  have t1' : decide (i < g.nu) = true := by simpa using hlt
                  have hii : (i : Int) < (g.nu : Int) := by omega
                  obtain ⟨b, off, rfl, hbl, hcc⟩ := (HG.out.r3.below HD.out (Nat.le_refl _)).here (by omega)
                  have e0 : wr.cell? ⟨b, off + i * 5, none⟩ = some (.string (g.un i)) := hcc i hlt 0 (by omega)
                  have e1 : wr.cell? ⟨b, off + i * 5 + 1, none⟩ = some (.string (g.ur i)) := hcc i hlt 1 (by omega)
                  have e2 : wr.cell? ⟨b, off + i * 5 + 2, none⟩ = some (.int .i64 (g.uf i)) := hcc i hlt 2 (by omega)
                  have e3 : wr.cell? ⟨b, off + i * 5 + 3, none⟩ = some (.int .i64 (g.us i)) := hcc i hlt 3 (by omega)
                  have e4 : wr.cell? ⟨b, off + i * 5 + 4, none⟩ = some (.int .i64 (g.uw i)) := hcc i hlt 4 (by omega)
                  obtain ⟨V1, hV1, hvb, hvs, hvq⟩ := alloc_block wr #[.string (g.un i), .string (g.ur i), .int .i64 (g.uf i), .int .i64 (g.us i), .int .i64 (g.uw i)] 54
                  have HV1 := Lib.hid hV1
                  have HL1 := Lib.hid (HL.out.below hvb)
                  have HD1 := Lib.hid (HD.out.trans (hvb.mono hdz))
                  have HVQ := Lib.hid hvq
                  have hok := HOK.out.2.2.2 i hlt
                  have HLN := Lib.hid (show joinL 32 ([kUse, g.un i, g.ur i, itoaB (g.uf i), itoaB (g.us i), itoaB (g.uw i)].map sB) ++ [10] = (Ln.use (g.un i) (g.ur i) (g.uf i) (g.us i) (g.uw i)).text from rfl)
                  have htl := okW_len hok
                  have HT : Hid ((((tP g g.np ++ tS g g.ns) ++ tM g g.nm) ++ tU g (i + 1)) = (((tP g g.np ++ tS g g.ns) ++ tM g g.nm) ++ tU g i) ++ (Ln.use (g.un i) (g.ur i) (g.uf i) (g.us i) (g.uw i)).text) := Lib.hid (by
                    rw [show tU g (i + 1) = tU g i ++ (Ln.use (g.un i) (g.ur i) (g.uf i) (g.us i) (g.uw i)).text from flat_snoc (fun i => Ln.use (g.un i) (g.ur i) (g.uf i) (g.us i) (g.uw i)) i]
                    try simp only [List.append_assoc])
                  have htn : ((((tP g g.np ++ tS g g.ns) ++ tM g g.nm) ++ tU g i)).length ≤ 3040000 := by
                    try simp only [List.length_append]
                    have lP := HLP.out g.np (by omega)
                    have lS := HLS.out g.ns (by omega)
                    have lM := HLM.out g.nm (by omega)
                    have lU := HLU.out i (by omega)
                    omega
                  have hn0 : okN (g.uf i) := hok.2.2.1
                  have hn0 : 0 ≤ g.uf i ∧ g.uf i < 1000000000000 := hn0
                  have hn1 : okN (g.us i) := hok.2.2.2.1
                  have hn1 : 0 ≤ g.us i ∧ g.us i < 1000000000000 := hn1
                  have hn2 : okN (g.uw i) := hok.2.2.2.2
                  have hn2 : 0 ≤ g.uw i ∧ g.uw i < 1000000000000 := hn2
                  have HZV := Lib.hid (Below.refl V1.heap.size V1)
                  clear hcc hV1 hvb hvs hvq
                  have F0 : ∀ Z : ExtO (fun k => W1.heap.size ≤ k ∧ k ≠ wr.heap.size) V1, Z.1.cell? ⟨wr.heap.size, 0, none⟩ = some (.string (g.un i)) := ExtO.ex (fun e => e.2 rfl) (block_cell HVQ.out rfl)
                  have F1 : ∀ Z : ExtO (fun k => W1.heap.size ≤ k ∧ k ≠ wr.heap.size) V1, Z.1.cell? ⟨wr.heap.size, 1, none⟩ = some (.string (g.ur i)) := ExtO.ex (fun e => e.2 rfl) (block_cell HVQ.out rfl)
                  have F2 : ∀ Z : ExtO (fun k => W1.heap.size ≤ k ∧ k ≠ wr.heap.size) V1, Z.1.cell? ⟨wr.heap.size, 2, none⟩ = some (.int .i64 (g.uf i)) := ExtO.ex (fun e => e.2 rfl) (block_cell HVQ.out rfl)
                  have F3 : ∀ Z : ExtO (fun k => W1.heap.size ≤ k ∧ k ≠ wr.heap.size) V1, Z.1.cell? ⟨wr.heap.size, 3, none⟩ = some (.int .i64 (g.us i)) := ExtO.ex (fun e => e.2 rfl) (block_cell HVQ.out rfl)
                  have F4 : ∀ Z : ExtO (fun k => W1.heap.size ≤ k ∧ k ≠ wr.heap.size) V1, Z.1.cell? ⟨wr.heap.size, 4, none⟩ = some (.int .i64 (g.uw i)) := ExtO.ex (fun e => e.2 rfl) (block_cell HVQ.out rfl)
                  go_upto_region 27 with (fail)
                  rw [HV1.out]
                  refine held_start (C := fun w' => ∃ Z : ExtO (fun k => W1.heap.size ≤ k ∧ k ≠ wr.heap.size) V1, w' = Z.1) (by kernel_rfl) ?_
                  obtain ⟨Z0, hZ0, hz0⟩ : ∃ Z : ExtO (fun k => W1.heap.size ≤ k ∧ k ≠ wr.heap.size) V1, ({ V1 with drawn := (V1).drawn + 1 } : World) = Z.1 ∧ Below (V1).heap.size (V1) Z.1 := ⟨⟨{ V1 with drawn := (V1).drawn + 1 }, (Kept.of_below HZV.out).trans ⟨rfl, rfl, rfl, Nat.le_refl _, fun _ _ _ => rfl⟩⟩, rfl, ⟨rfl, rfl, rfl, Nat.le_refl _, fun _ _ => rfl⟩⟩
                  rw [hZ0]
                  have HZ0 := Lib.hid (below_step HZV.out hz0)
                  clear hZ0 hz0
                  refine held_quiet (by kernel_rfl) (fun _ _ d _ _ h => by cases d <;> exact h) ⟨Z0, rfl⟩ [0, 1, 2, 3, 4, 5, 6, 8, 9, 10, 12, 13, 14] 6 _ _ (by kernel_rfl) ?_
                  change wpQuiet _ _ _ _ (_ :: _ :: _ :: _ :: _ :: _ :: _ :: _ :: _ :: _ :: _ :: _ :: _ :: []) _
                  repeat go_big_quiet_step (fail)
                  refine wpQuiet_nil ?_
                  refine held_do (i := 7) _ rfl (by kernel_rfl) rfl (fun K hK => ?_)
                  go_simp
                  refine (itoa_any (g.uf i) (by omega) (by omega) Z0.1 (HGL.out.below (HD1.out.trans (HZ0.out.mono HD1.out.size)))).mono ?_
                  rintro e w1 ⟨rfl, hbz⟩
                  obtain ⟨Z1, rfl⟩ : ∃ Z : ExtO (fun k => W1.heap.size ≤ k ∧ k ≠ wr.heap.size) V1, w1 = Z.1 := ⟨⟨w1, Z0.2.trans (Kept.of_below hbz)⟩, rfl⟩
                  have HZ1 := Lib.hid (below_step HZ0.out hbz)
                  refine hK _ _ ⟨Z1, rfl⟩ ?_
                  clear hbz hK K
                  try simp only [Act.put, List.setIfInBounds_toArray, List.set_cons_zero, List.set_cons_succ]
                  refine held_do (i := 11) _ rfl (by kernel_rfl) rfl (fun K hK => ?_)
                  go_simp
                  refine (itoa_any (g.us i) (by omega) (by omega) Z1.1 (HGL.out.below (HD1.out.trans (HZ1.out.mono HD1.out.size)))).mono ?_
                  rintro e w2 ⟨rfl, hbz⟩
                  obtain ⟨Z2, rfl⟩ : ∃ Z : ExtO (fun k => W1.heap.size ≤ k ∧ k ≠ wr.heap.size) V1, w2 = Z.1 := ⟨⟨w2, Z1.2.trans (Kept.of_below hbz)⟩, rfl⟩
                  have HZ2 := Lib.hid (below_step HZ1.out hbz)
                  refine hK _ _ ⟨Z2, rfl⟩ ?_
                  clear hbz hK K
                  try simp only [Act.put, List.setIfInBounds_toArray, List.set_cons_zero, List.set_cons_succ]
                  refine held_do (i := 15) _ rfl (by kernel_rfl) rfl (fun K hK => ?_)
                  go_simp
                  refine (itoa_any (g.uw i) (by omega) (by omega) Z2.1 (HGL.out.below (HD1.out.trans (HZ2.out.mono HD1.out.size)))).mono ?_
                  rintro e w3 ⟨rfl, hbz⟩
                  obtain ⟨Z3, rfl⟩ : ∃ Z : ExtO (fun k => W1.heap.size ≤ k ∧ k ≠ wr.heap.size) V1, w3 = Z.1 := ⟨⟨w3, Z2.2.trans (Kept.of_below hbz)⟩, rfl⟩
                  have HZ3 := Lib.hid (below_step HZ2.out hbz)
                  refine hK _ _ ⟨Z3, rfl⟩ ?_
                  clear hbz hK K
                  try simp only [Act.put, List.setIfInBounds_toArray, List.set_cons_zero, List.set_cons_succ]
                  refine held_do (i := 16) _ rfl (by kernel_rfl) rfl (fun K hK => ?_)
                  go_simp
                  obtain ⟨Wb, hWb, hwb1, hwb2, hwq⟩ := alloc_block Z3.1 #[.string (kUse), .string (g.un i), .string (g.ur i), .string (itoaB (g.uf i)), .string (itoaB (g.us i)), .string (itoaB (g.uw i))] 9
                  try rw [show (ByteArray.mk #[117, 115, 101]) = kUse from rfl]
                  rw [hWb]
                  have HZb := Lib.hid (below_step HZ3.out hwb1)
                  have DL := Lib.hid (line_any Z3.1.heap.size 0 6 [kUse, g.un i, g.ur i, itoaB (g.uf i), itoaB (g.us i), itoaB (g.uw i)] Wb (fun j x hx => by
                    rw [Nat.zero_add]
                    exact block_cell hwq (by rw [show (#[Value.string (kUse), Value.string (g.un i), Value.string (g.ur i), Value.string (itoaB (g.uf i)), Value.string (itoaB (g.us i)), Value.string (itoaB (g.uw i))] : Array Value) = (([kUse, g.un i, g.ur i, itoaB (g.uf i), itoaB (g.us i), itoaB (g.uw i)] : List ByteArray).map Value.string).toArray from rfl, List.getElem?_toArray, List.getElem?_map, hx]; rfl)) (lt_of_block hwq) (by simp) (by simp) (by
                      have h1 := congrArg List.length HLN.out
                      rw [List.length_append] at h1
                      omega))
                  rw [HLN.out] at DL
                  obtain ⟨Zb, rfl⟩ : ∃ Z : ExtO (fun k => W1.heap.size ≤ k ∧ k ≠ wr.heap.size) V1, Wb = Z.1 := ⟨⟨Wb, Z3.2.trans (Kept.of_below hwb1)⟩, rfl⟩
                  refine hK _ _ ⟨Zb, rfl⟩ ?_
                  clear hWb hwb1 hwb2 hwq hK K
                  try simp only [Act.put, List.setIfInBounds_toArray, List.set_cons_zero, List.set_cons_succ]
                  refine held_do (i := 17) _ rfl (by kernel_rfl) rfl (fun K hK => ?_)
                  go_simp
                  refine DL.out.mono ?_
                  rintro e w5 ⟨rfl, hb5⟩
                  obtain ⟨Z5, rfl⟩ : ∃ Z : ExtO (fun k => W1.heap.size ≤ k ∧ k ≠ wr.heap.size) V1, w5 = Z.1 := ⟨⟨w5, Zb.2.trans (Kept.of_below hb5)⟩, rfl⟩
                  have HZ5 := Lib.hid (below_step HZb.out hb5)
                  refine hK _ _ ⟨Z5, rfl⟩ ?_
                  clear hb5 hK K DL
                  try simp only [Act.put, List.setIfInBounds_toArray, List.set_cons_zero, List.set_cons_succ]
                  refine held_do (i := 18) _ rfl (by kernel_rfl) rfl (fun K hK => ?_)
                  go_simp
                  refine ((HL1.out.below HZ5.out).write (Ln.use (g.un i) (g.ur i) (g.uf i) (g.us i) (g.uw i)).text (by omega) (by omega)).mono ?_
                  rintro e w6 ⟨rfl, hb6, hk6⟩
                  obtain ⟨Z6, hZ6⟩ : ∃ Z : ExtO (fun k => W1.heap.size ≤ k ∧ k ≠ wr.heap.size) V1, w6 = Z.1 := ⟨⟨w6, hk6 V1 wr.heap.size _ _ _ Z5.2 HVQ.out (by decide) (by omega) (by have := HL1.out.d.size; omega) (HZ5.out.block _ (lt_of_block HVQ.out))⟩, rfl⟩
                  have HN : Hid (Bld W1 w6 (((tP g g.np ++ tS g g.ns) ++ tM g g.nm) ++ tU g (i + 1))) := Lib.hid (by rw [HT.out]; exact hb6)
                  refine hK _ _ ⟨Z6, hZ6⟩ ?_
                  clear hb6 hk6 hK K hZ6
                  try simp only [Act.put, List.setIfInBounds_toArray, List.set_cons_zero, List.set_cons_succ]
                  refine wpAnyH_done (by kernel_rfl) ?_ _
                  go_wp2_with fail
                  go_roundw
                  case rel => exact ⟨i + 1, by go_num, by omega, HN⟩
                  case measure => simp [intOf]; omega
                · have t1 : decide ((i : Int) < (g.nu : Int)) = false := by rw [decide_eq_false_iff_not]; omega
                  have t1' : decide (i < g.nu) = false := by simpa using hlt
                  obtain rfl : i = g.nu := by omega
                  have HBT : Hid (Bld W1 wr (textG g)) := Lib.hid (by
                    have h0 := HL.out
                    rw [HTX.out]
                    simpa only [List.append_assoc] using h0)
                  obtain ⟨tx, htx⟩ : ∃ t, textG g = t := ⟨_, rfl⟩
                  rw [htx] at HBT HPE HPS
                  have DL := Lib.hid (Tryz.Builder_Len W1.heap.size W1.heap.size (Lib.byteCells tx) wr HBT.out.b)
                  rw [show (Lib.byteCells tx).length = tx.length by simp [Lib.byteCells]] at DL
                  have DS := Lib.hid (Tryz.Builder_String_any W1.heap.size W1.heap.size tx wr HBT.out.b hdw)
                  clear hlt HL htx
                  by_cases hbig : 1000000 < tx.length
                  · have y1 : decide ((1000000 : Int) < (tx.length : Int)) = true := by rw [decide_eq_true_eq]; omega
                    have y1' : decide (1000000 < tx.length) = true := by simpa using hbig
                    have HE3 : Hid (printE g = 3) := Lib.hid (by rw [HPE.out, if_pos hbig])
                    have HS3 : Hid (printS g = ⟨#[]⟩) := Lib.hid (by rw [HPS.out, if_neg (by rw [HE3.out]; decide)])
                    clear hbig
                    go_wp2_with (go_at_call 14; refine DL.out.mono ?_; rintro e w2 ⟨rfl, rfl⟩)
                    go_ret2
                    exact ⟨by rw [HE3.out, HS3.out]; rfl, HD.out⟩
                  · have y1 : decide ((1000000 : Int) < (tx.length : Int)) = false := by rw [decide_eq_false_iff_not]; omega
                    have y1' : decide (1000000 < tx.length) = false := by simpa using hbig
                    have HE3 : Hid (printE g = 0) := Lib.hid (by rw [HPE.out, if_neg hbig])
                    have HS3 : Hid (printS g = bt tx) := Lib.hid (by rw [HPS.out, if_pos HE3.out])
                    clear hbig
                    go_wp2_with (first | (go_at_call 14; refine DL.out.mono ?_; rintro e w2 ⟨rfl, rfl⟩) | (go_at_call 15; refine DS.out.mono ?_; rintro e w3 ⟨rfl, hb3⟩))
                    go_ret2
                    exact ⟨by rw [HE3.out, HS3.out]; rfl, HB1.out.trans ((HBT.out.d.trans hb3).mono hw1)⟩
end Go.Proofs.YthdmceeipmmhjaaGreatDoor

/- Gear: a number of a text (program). -/
namespace Go.Proofs.YthdmceeipmmhjaaGreatDoor
open Go.RowKit Go.BigFrame
open Txt

/-- Atoi at every text that is not too long -/
theorem atoi_every (s : ByteArray) (hs : s.size ≤ 1000000) (w : World) (hg : Glo w) :
    Calls Tryz.prog 68 #[.string s] w fun e w' => ∃ (n : Int) (ev : Value), e = .returned (.tuple #[.int .i64 n, ev]) ∧ Below w.heap.size w w' ∧ -9223372036854775808 ≤ n ∧ n ≤ 9223372036854775807 ∧
      ((ev = .nilIface ∧ Lib.atoiAll (sB s) = .ok n) ∨ ((∃ T N, ev = .iface T (.pointer (some ⟨N, 0, none⟩))) ∧ ∀ v, Lib.atoiAll (sB s) ≠ .ok v)) := by
  cases h : Lib.atoiAll s.data.toList
  case ok v =>
    have hb := Lib.atoiAll_bounds h
    refine (Tryz.strconv_Atoi_ok s (by omega) v h w).mono ?_
    rintro e w' ⟨rfl, hw⟩
    refine ⟨v, _, rfl, ?_, by omega, by omega, Or.inl ⟨rfl, h⟩⟩
    rcases hw with rfl | ⟨t, rfl⟩
    · exact Below.refl _ _
    · exact Lib.bytesWorld_below _ _ _
  case range =>
    obtain ⟨tp, p, hv⟩ := hg.r
    refine (Tryz.strconv_Atoi_range_var s (by omega) h tp p w hv).mono ?_
    rintro e w' ⟨N, rfl, _, _, hb⟩
    refine ⟨_, _, rfl, hb, ?_, ?_, Or.inr ⟨⟨_, N, rfl⟩, fun v e => by rw [show sB s = s.data.toList from rfl, h] at e; cases e⟩⟩
    · unfold Lib.atoiSat
      split <;> omega
    · unfold Lib.atoiSat
      split <;> omega
  · obtain ⟨tp, p, hv⟩ := hg.s
    refine (Tryz.strconv_Atoi_syntax_var s (by omega) h tp p w hv).mono ?_
    rintro e w' ⟨N, rfl, _, _, hb⟩
    exact ⟨0, _, rfl, hb, by omega, by omega, Or.inr ⟨⟨_, N, rfl⟩, fun v e => by rw [show sB s = s.data.toList from rfl, h] at e; cases e⟩⟩
theorem numG_len {s : ByteArray} {v : Int} (h : numG s = some v) : s.size ≤ 12 ∧ Lib.atoi (sB s) = some v := by
  unfold numG numL at h
  split at h
  · rename_i h1
    rw [Bool.and_eq_true, decide_eq_true_eq] at h1
    exact ⟨h1.1, h⟩
  · cases h
theorem numG_all {s : ByteArray} {v : Int} (h : numG s = some v) : Lib.atoiAll (sB s) = .ok v := by
  obtain ⟨h1, h2⟩ := numG_len h
  rw [Lib.atoiAll_short _ (show (sB s).length ≤ 18 from by have : (sB s).length = s.size := rfl; omega), h2]
  rfl
theorem numG_ok {s : ByteArray} {n : Int} (h : Lib.atoiAll (sB s) = .ok n) (hl : s.size ≤ 12) : numG s = if 0 ≤ n ∧ itoaB n = s then some n else none := by
  have hl' : (sB s).length ≤ 12 := hl
  rw [Lib.atoiAll_short _ (by omega)] at h
  have h2 : Lib.atoi (sB s) = some n := by
    cases ha : Lib.atoi (sB s) with
    | none => rw [ha] at h; cases h
    | some v => rw [ha] at h; injection h with h; rw [h]
  unfold numG
  rw [numL_prog _ hl', h2]
  by_cases e : 0 ≤ n ∧ itoaB n = s
  · rw [if_pos e]
    exact if_pos ⟨e.1, congrArg sB e.2⟩
  · rw [if_neg e]
    exact if_neg fun x => e ⟨x.1, sB_inj x.2⟩
set_option maxHeartbeats 4000000 in
set_option maxRecDepth 100000 in
theorem number_any (s : ByteArray) (p : Nat) (b : Bool) (w : World) (hp : w.heap[p]? = some (.cells #[.bool b] 4 (0, 0))) (hg : Glo w) (hs : s.size ≤ 1000000) :
    Calls Tryz.prog 43 #[.string s, .pointer (some ⟨p, 0, none⟩)] w fun e w' => ∃ n : Int, e = .returned (.int .i64 n) ∧ (∀ v, numG s = some v → n = v) ∧ w'.heap[p]? = some (.cells #[.bool (b && (numG s).isSome)] 4 (0, 0)) ∧ Kept (fun k => k = p) w w' := by
  have DA := Lib.hid (atoi_every s hs w hg)
  have HG := Lib.hid hg
  have HP := Lib.hid hp
  have hpl := lt_of_block hp
  have C := Ext.ex (block_cell (i := 0) hp rfl)
  have F : ∀ X : Ext w, X.1.frozen? ⟨p, 0, none⟩ = false := fun X => Lib.frozen_of_heap (below_block X.2 hp) 0
  have FIN := Lib.hid (fun (r : Bool) (X : Ext w) => (show (X.1.setCell ⟨p, 0, none⟩ (.bool r)).heap[p]? = some (.cells #[.bool r] 4 (0, 0)) ∧ Kept (fun k => k = p) w (X.1.setCell ⟨p, 0, none⟩ (.bool r)) from
    ⟨one_setCell (below_block X.2 hp), (Kept.of_below X.2).trans kept_set1⟩))
  clear hp hg
  go_enter Tryz.func43, Tryz.ntmps43
  go_upto_region 2 with (go_at_call 68; refine DA.out.mono ?_; rintro e w2 ⟨n, ev, rfl, hb2, hn0, hn1, hcase⟩)
  obtain ⟨Y, rfl⟩ : ∃ Y : Ext w, w2 = Y.1 := ⟨⟨w2, hb2⟩, rfl⟩
  have c0 := C Y
  have f0 := F Y
  have HY := Lib.hid hb2
  clear hb2 DA
  have HV : Hid (∀ v, numG s = some v → n = v) := Lib.hid (fun v hv => by
    have h1 := numG_all hv
    rcases hcase with ⟨_, h2⟩ | ⟨_, h2⟩
    · rw [h1] at h2
      injection h2 with h2
      exact h2.symm
    · exact absurd h1 (h2 v))
  cases b
  case false =>
    have FX := Lib.hid (FIN.out false Y)
    clear hcase C F
    go_wp2_with fail
    go_ret
    exact ⟨n, rfl, HV.out, FX.out.1, FX.out.2⟩
  case true =>
  rcases hcase with ⟨rfl, hok⟩ | ⟨⟨T, N, rfl⟩, hne⟩
  case inr =>
    have HR : Hid ((numG s).isSome = false) := Lib.hid (by
      cases hg : numG s with
      | none => rfl
      | some v => exact absurd (numG_all hg) (hne v))
    have FX := Lib.hid (FIN.out false Y)
    clear hne C F
    go_wp2_with fail
    go_ret
    exact ⟨n, rfl, HV.out, by rw [HR.out]; exact FX.out.1, FX.out.2⟩
  case inl =>
  by_cases hl : s.size ≤ 12
  case neg =>
    have t1 : decide ((s.size : Int) ≤ 12) = false := by rw [decide_eq_false_iff_not]; omega
    have t1' : decide (s.size ≤ 12) = false := by simpa using hl
    have HR : Hid ((numG s).isSome = false) := Lib.hid (by
      cases hg : numG s with
      | none => rfl
      | some v => exact absurd (numG_len hg).1 hl)
    have FX := Lib.hid (FIN.out false Y)
    clear hok C F hl
    go_wp2_with fail
    go_ret
    exact ⟨n, rfl, HV.out, by rw [HR.out]; exact FX.out.1, FX.out.2⟩
  case pos =>
  have t1 : decide ((s.size : Int) ≤ 12) = true := by rw [decide_eq_true_eq]; omega
  have t1' : decide (s.size ≤ 12) = true := by simpa using hl
  have HNG := Lib.hid (numG_ok hok hl)
  by_cases h0 : 0 ≤ n
  case neg =>
    have y1 : decide (n ≥ 0) = false := by simpa using h0
    have y2 : decide (0 ≤ n) = false := by simpa using h0
    have HR : Hid ((numG s).isSome = false) := Lib.hid (by rw [HNG.out, if_neg (fun e => h0 e.1)]; rfl)
    have FX := Lib.hid (FIN.out false Y)
    clear hok C F hl h0
    go_wp2_with fail
    go_ret
    exact ⟨n, rfl, HV.out, by rw [HR.out]; exact FX.out.1, FX.out.2⟩
  case pos =>
    have y1 : decide (n ≥ 0) = true := by simpa using h0
    have y2 : decide (0 ≤ n) = true := by simpa using h0
    have DI := Lib.hid (itoa_any n hn0 hn1 Y.1 (HG.out.below HY.out))
    have hse := str_eq (itoaB n) s
    have HR : Hid ((numG s).isSome = decide (itoaB n = s)) := Lib.hid (by
      rw [HNG.out]
      by_cases e : itoaB n = s
      · rw [if_pos ⟨h0, e⟩]; simp [e]
      · rw [if_neg (fun x => e x.2)]; simp [e])
    obtain ⟨st, hst⟩ : ∃ x, itoaB n = x := ⟨_, rfl⟩
    rw [hst] at DI hse HR
    obtain ⟨r, hr⟩ : ∃ x, decide (st = s) = x := ⟨_, rfl⟩
    rw [hr] at hse HR
    clear hok hl h0 hst hr
    go_wp2_with (go_at_call 11; refine DI.out.mono ?_; rintro e w3 ⟨rfl, hb3⟩; refine Hid.out ?_)
    refine Lib.hid ?_
    obtain ⟨Z, rfl⟩ : ∃ Z : Ext w, w3 = Z.1 := ⟨⟨w3, below_step Y.2 hb3⟩, rfl⟩
    have c1 := C Z
    have f1 := F Z
    have FX := Lib.hid (FIN.out r Z)
    clear hb3 C F c0 f0
    go_wp2_with fail
    go_ret
    exact ⟨n, rfl, HV.out, by rw [HR.out]; exact FX.out.1, FX.out.2⟩
end Go.Proofs.YthdmceeipmmhjaaGreatDoor

/- A row of a call's own in a loop that appends to it: what is kept (tools). -/
namespace Go.Proofs.YthdmceeipmmhjaaGreatDoor
open Go.RowKit Go.BigFrame

theorem ownsRow_below {W W' : World} {base e k n : Nat} {v : Value} {xs : List Value} (h : W.ownsRow base e k v n xs) (hb : Below W.heap.size W W') : W'.ownsRow base e k v n xs :=
  h.kept (row := none) ⟨hb.os, hb.tape, hb.output, hb.size, fun k hk _ => hb.block k hk⟩ (by cases v.ownBlock <;> simp)
/-- the row v, which began as v0 in the world V: whatever else was there is kept -/
structure OwnR (V wr : World) (base e k : Nat) (v0 v : Value) (n : Nat) (xs : List Value) : Prop where
  own : wr.ownsRow base e k v n xs
  kept : Kept (fun b => v0.ownBlock = some b) V wr
  lies : ∀ b, v.ownBlock = some b → v0.ownBlock = some b ∨ V.heap.size ≤ b
section
variable {V wr wr' : World} {base e k n : Nat} {v0 v : Value} {xs : List Value}
theorem OwnR.start (h : V.ownsRow base e k v n xs) : OwnR V V base e k v v n xs := ⟨h, Kept.refl _ _, fun _ h => Or.inl h⟩
theorem OwnR.below (h : OwnR V wr base e k v0 v n xs) (hb : Below wr.heap.size wr wr') : OwnR V wr' base e k v0 v n xs := ⟨ownsRow_below h.own hb, h.kept.trans (Kept.of_below hb), h.lies⟩
theorem OwnR.back {V' : World} {n' : Nat} {v' : Value} {xs' : List Value} (h : OwnR V wr base e k v0 v n xs) (hb : Below wr.heap.size wr V') (h' : OwnR V' wr' base e k v v' n' xs') : OwnR V wr' base e k v0 v' n' xs' := by
  have hs : V.heap.size ≤ V'.heap.size := Nat.le_trans h.kept.size hb.size
  refine ⟨h'.own, ⟨h'.kept.os.trans (hb.os.trans h.kept.os), h'.kept.tape.trans (hb.tape.trans h.kept.tape), h'.kept.output.trans (hb.output.trans h.kept.output), Nat.le_trans hs h'.kept.size, fun b hb1 ho => ?_⟩, fun b hb' => ?_⟩
  · have hn : ¬ v.ownBlock = some b := fun e => (h.lies b e).elim ho (fun h => by omega)
    exact (h'.kept.block b (by omega) hn).trans ((hb.block b (Nat.lt_of_lt_of_le hb1 h.kept.size)).trans (h.kept.block b hb1 ho))
  · rcases h'.lies b hb' with e | e
    · exact h.lies b e
    · exact Or.inr (by omega)
theorem OwnR.append {W2 w' : World} {v' : Value} {n' : Nat} {xs' : List Value} (h : OwnR V wr base e k v0 v n xs) (hb : Below wr.heap.size wr W2) (ho : w'.ownsRow base e k v' n' xs') (hg : W2.grownBy w' v.ownBlock) (hw : v'.ownBlock = v.ownBlock ∨ v'.ownBlock = some W2.heap.size) :
    OwnR V w' base e k v0 v' n' xs' := by
  refine ⟨ho, (h.kept.trans (Kept.of_below hb)).grown hg (fun q hq hl => (h.lies q hq).elim id (fun h => by omega)), fun b hb' => ?_⟩
  rcases hw with e | e
  · exact h.lies b (by rw [← e]; exact hb')
  · rw [e] at hb'
    injection hb' with hb'
    exact Or.inr (by have := h.kept.size; have := hb.size; omega)
theorem OwnR.down {n0 B : Nat} {xs0 : List Value} (h : OwnR V wr base e k v0 v n xs) {w : World} (hb : Below B w V) (hB : B ≤ V.heap.size) (hBb : B ≤ base) (ho : V.ownsRow base e k v0 n0 xs0) : Below B w wr :=
  Kept.below hb h.kept hB (fun b hb1 e => by have := (ho.lt b e).1; omega)
theorem OwnR.row (h : OwnR V wr base e k v0 v n xs) {a : Option Addr} {len kk : Nat} {R : Nat → List Value} (hr : RowK V a len kk R) (hn : ∀ b off, a = some ⟨b, off, none⟩ → ¬ v0.ownBlock = some b) : RowK wr a len kk R := Kept.row hr h.kept hn
theorem OwnR.cell (h : OwnR V wr base e k v0 v n xs) {p : Addr} {u : Value} (hn : ¬ v0.ownBlock = some p.block) (hc : V.cell? p = some u) : wr.cell? p = some u := h.kept.cell hn hc
end
end Go.Proofs.YthdmceeipmmhjaaGreatDoor

/- Gear: a garage behind a pointer while it is read: what lies where. (printed by gen_gst.py) -/
namespace Go.Proofs.YthdmceeipmmhjaaGreatDoor
open Go.RowKit Go.BigFrame
open Txt

def cP (acc : List Ln) : List Value := (acc.filterMap Ln.part?).flatMap fun x => [.string x.1, .int .i64 x.2]
def nP (acc : List Ln) : Nat := (acc.filterMap Ln.part?).length
def cS (acc : List Ln) : List Value := (acc.filterMap Ln.slot?).flatMap fun x => [.string x.1, .string x.2]
def nS (acc : List Ln) : Nat := (acc.filterMap Ln.slot?).length
def cM (acc : List Ln) : List Value := (acc.filterMap Ln.mnt?).flatMap fun x => [.string x.1, .string x.2.1, .int .i64 x.2.2.1, .int .i64 x.2.2.2]
def nM (acc : List Ln) : Nat := (acc.filterMap Ln.mnt?).length
def cU (acc : List Ln) : List Value := (acc.filterMap Ln.use?).flatMap fun x => [.string x.1, .string x.2.1, .int .i64 x.2.2.1, .int .i64 x.2.2.2.1, .int .i64 x.2.2.2.2]
def nU (acc : List Ln) : Nat := (acc.filterMap Ln.use?).length
/-- where a row of the call's own lies: a block of its type -/
theorem own_type {w : World} {base n m : Nat} {T : TypeId} {v : Value} {xs : List Value} (h : w.ownsRow base T m v n xs) {g : Nat} (hg : v.ownBlock = some g) : base ≤ g ∧ ∃ cs, w.heap[g]? = some (.cells cs T (0, 0)) := by
  rcases h.2 with ⟨rfl, _⟩ | ⟨g', cap, cur, rfl, hb, hh, _⟩
  · simp [Value.ownBlock] at hg
  · simp only [Value.ownBlock, Option.some.injEq] at hg
    subst hg
    exact ⟨hb, cur, hh⟩
theorem own_apart {w : World} {base n m b : Nat} {T T' : TypeId} {v : Value} {xs : List Value} {cs : Array Value} {fz : Nat × Nat} (h : w.ownsRow base T m v n xs) (hb : w.heap[b]? = some (.cells cs T' fz)) (hT : T ≠ T') : ¬ v.ownBlock = some b := fun e => by
  obtain ⟨_, cs', h'⟩ := own_type h e
  rw [hb] at h'
  injection h' with h'
  injection h' with _ h'
  exact hT h'.symm
theorem own_kept {O : Nat → Prop} {w w' : World} {base n m : Nat} {T : TypeId} {v : Value} {xs : List Value} (h : w.ownsRow base T m v n xs) (hk : Kept O w w') (ho : ∀ g, v.ownBlock = some g → ¬ O g) : w'.ownsRow base T m v n xs := by
  refine ⟨h.1, ?_⟩
  rcases h.2 with e | ⟨g, cap, cur, e, hb, hh, rest⟩
  · exact Or.inl e
  · have hl : g < w.heap.size := lt_of_block hh
    exact Or.inr ⟨g, cap, cur, e, hb, (hk.block g hl (ho g (by rw [e]; rfl))).trans hh, rest⟩
/-- the garage in block gb, read so far -/
structure GSt (gb : Nat) (w : World) (acc : List Ln) (vP vS vM vU : Value) : Prop where
  b : w.heap[gb]? = some (.cells #[vP, vS, vM, vU] 27 (0, 0))
  oP : w.ownsRow gb 43 2 vP (nP acc) (cP acc)
  oS : w.ownsRow gb 50 2 vS (nS acc) (cS acc)
  oM : w.ownsRow gb 52 4 vM (nM acc) (cM acc)
  oU : w.ownsRow gb 54 5 vU (nU acc) (cU acc)
theorem GSt.below {gb : Nat} {w w' : World} {acc : List Ln} {vP vS vM vU : Value} (h : GSt gb w acc vP vS vM vU) (hb : Below w.heap.size w w') : GSt gb w' acc vP vS vM vU :=
  ⟨below_block hb h.b, ownsRow_below h.oP hb, ownsRow_below h.oS hb, ownsRow_below h.oM hb, ownsRow_below h.oU hb⟩
theorem GSt.lt {gb : Nat} {w : World} {acc : List Ln} {vP vS vM vU : Value} (h : GSt gb w acc vP vS vM vU) : gb < w.heap.size := lt_of_block h.b
/-- what changes while one row is appended to -/
def Oth (gb okb : Nat) (v : Value) (k : Nat) : Prop := k = gb ∨ k = okb ∨ v.ownBlock = some k
theorem nP_snoc (acc : List Ln) (a : ByteArray) (c : Int) : nP (acc ++ [.part a c]) = nP acc + 1 ∧ cP (acc ++ [.part a c]) = cP acc ++ [.string a, .int .i64 c] := by
  simp [nP, cP, Ln.part?]
theorem GSt.addP {gb okb : Nat} {w w' : World} {acc : List Ln} {vP vS vM vU v' : Value} (h : GSt gb w acc vP vS vM vU) (hk : Kept (Oth gb okb vP) w w') {co : Array Value} {fz : Nat × Nat} (hok : w.heap[okb]? = some (.cells co 4 fz))
    (hb : w'.heap[gb]? = some (.cells #[v', vS, vM, vU] 27 (0, 0))) (a : ByteArray) (c : Int) (ho : w'.ownsRow gb 43 2 v' (nP acc + 1) (cP acc ++ [.string a, .int .i64 c])) : GSt gb w' (acc ++ [.part a c]) v' vS vM vU := by
  obtain ⟨e1, e2⟩ := nP_snoc acc a c
  have far : ∀ {n m : Nat} {T : TypeId} {v : Value} {xs : List Value}, w.ownsRow gb T m v n xs → T ≠ 27 → T ≠ 4 → T ≠ 43 → w'.ownsRow gb T m v n xs := fun h0 t1 t2 t3 => by
    refine own_kept h0 hk fun g hg => ?_
    rintro (e | e | e)
    · subst e
      exact own_apart h0 h.b t1 hg
    · subst e
      exact own_apart h0 hok t2 hg
    · obtain ⟨_, cs, hc⟩ := own_type h.oP e
      exact own_apart h0 hc t3 hg
  refine ⟨hb, ?_, ?_, ?_, ?_⟩
  · rw [e1, e2]
    exact ho
  · rw [show nS (acc ++ [.part a c]) = nS acc by simp [nS, Ln.slot?], show cS (acc ++ [.part a c]) = cS acc by simp [cS, Ln.slot?]]
    exact far h.oS (by decide) (by decide) (by decide)
  · rw [show nM (acc ++ [.part a c]) = nM acc by simp [nM, Ln.mnt?], show cM (acc ++ [.part a c]) = cM acc by simp [cM, Ln.mnt?]]
    exact far h.oM (by decide) (by decide) (by decide)
  · rw [show nU (acc ++ [.part a c]) = nU acc by simp [nU, Ln.use?], show cU (acc ++ [.part a c]) = cU acc by simp [cU, Ln.use?]]
    exact far h.oU (by decide) (by decide) (by decide)
theorem nS_snoc (acc : List Ln) (a b : ByteArray) : nS (acc ++ [.slot a b]) = nS acc + 1 ∧ cS (acc ++ [.slot a b]) = cS acc ++ [.string a, .string b] := by
  simp [nS, cS, Ln.slot?]
theorem GSt.addS {gb okb : Nat} {w w' : World} {acc : List Ln} {vP vS vM vU v' : Value} (h : GSt gb w acc vP vS vM vU) (hk : Kept (Oth gb okb vS) w w') {co : Array Value} {fz : Nat × Nat} (hok : w.heap[okb]? = some (.cells co 4 fz))
    (hb : w'.heap[gb]? = some (.cells #[vP, v', vM, vU] 27 (0, 0))) (a b : ByteArray) (ho : w'.ownsRow gb 50 2 v' (nS acc + 1) (cS acc ++ [.string a, .string b])) : GSt gb w' (acc ++ [.slot a b]) vP v' vM vU := by
  obtain ⟨e1, e2⟩ := nS_snoc acc a b
  have far : ∀ {n m : Nat} {T : TypeId} {v : Value} {xs : List Value}, w.ownsRow gb T m v n xs → T ≠ 27 → T ≠ 4 → T ≠ 50 → w'.ownsRow gb T m v n xs := fun h0 t1 t2 t3 => by
    refine own_kept h0 hk fun g hg => ?_
    rintro (e | e | e)
    · subst e
      exact own_apart h0 h.b t1 hg
    · subst e
      exact own_apart h0 hok t2 hg
    · obtain ⟨_, cs, hc⟩ := own_type h.oS e
      exact own_apart h0 hc t3 hg
  refine ⟨hb, ?_, ?_, ?_, ?_⟩
  · rw [show nP (acc ++ [.slot a b]) = nP acc by simp [nP, Ln.part?], show cP (acc ++ [.slot a b]) = cP acc by simp [cP, Ln.part?]]
    exact far h.oP (by decide) (by decide) (by decide)
  · rw [e1, e2]
    exact ho
  · rw [show nM (acc ++ [.slot a b]) = nM acc by simp [nM, Ln.mnt?], show cM (acc ++ [.slot a b]) = cM acc by simp [cM, Ln.mnt?]]
    exact far h.oM (by decide) (by decide) (by decide)
  · rw [show nU (acc ++ [.slot a b]) = nU acc by simp [nU, Ln.use?], show cU (acc ++ [.slot a b]) = cU acc by simp [cU, Ln.use?]]
    exact far h.oU (by decide) (by decide) (by decide)
theorem nM_snoc (acc : List Ln) (a b : ByteArray) (f t : Int) : nM (acc ++ [.mnt a b f t]) = nM acc + 1 ∧ cM (acc ++ [.mnt a b f t]) = cM acc ++ [.string a, .string b, .int .i64 f, .int .i64 t] := by
  simp [nM, cM, Ln.mnt?]
theorem GSt.addM {gb okb : Nat} {w w' : World} {acc : List Ln} {vP vS vM vU v' : Value} (h : GSt gb w acc vP vS vM vU) (hk : Kept (Oth gb okb vM) w w') {co : Array Value} {fz : Nat × Nat} (hok : w.heap[okb]? = some (.cells co 4 fz))
    (hb : w'.heap[gb]? = some (.cells #[vP, vS, v', vU] 27 (0, 0))) (a b : ByteArray) (f t : Int) (ho : w'.ownsRow gb 52 4 v' (nM acc + 1) (cM acc ++ [.string a, .string b, .int .i64 f, .int .i64 t])) : GSt gb w' (acc ++ [.mnt a b f t]) vP vS v' vU := by
  obtain ⟨e1, e2⟩ := nM_snoc acc a b f t
  have far : ∀ {n m : Nat} {T : TypeId} {v : Value} {xs : List Value}, w.ownsRow gb T m v n xs → T ≠ 27 → T ≠ 4 → T ≠ 52 → w'.ownsRow gb T m v n xs := fun h0 t1 t2 t3 => by
    refine own_kept h0 hk fun g hg => ?_
    rintro (e | e | e)
    · subst e
      exact own_apart h0 h.b t1 hg
    · subst e
      exact own_apart h0 hok t2 hg
    · obtain ⟨_, cs, hc⟩ := own_type h.oM e
      exact own_apart h0 hc t3 hg
  refine ⟨hb, ?_, ?_, ?_, ?_⟩
  · rw [show nP (acc ++ [.mnt a b f t]) = nP acc by simp [nP, Ln.part?], show cP (acc ++ [.mnt a b f t]) = cP acc by simp [cP, Ln.part?]]
    exact far h.oP (by decide) (by decide) (by decide)
  · rw [show nS (acc ++ [.mnt a b f t]) = nS acc by simp [nS, Ln.slot?], show cS (acc ++ [.mnt a b f t]) = cS acc by simp [cS, Ln.slot?]]
    exact far h.oS (by decide) (by decide) (by decide)
  · rw [e1, e2]
    exact ho
  · rw [show nU (acc ++ [.mnt a b f t]) = nU acc by simp [nU, Ln.use?], show cU (acc ++ [.mnt a b f t]) = cU acc by simp [cU, Ln.use?]]
    exact far h.oU (by decide) (by decide) (by decide)
theorem nU_snoc (acc : List Ln) (a b : ByteArray) (f s x : Int) : nU (acc ++ [.use a b f s x]) = nU acc + 1 ∧ cU (acc ++ [.use a b f s x]) = cU acc ++ [.string a, .string b, .int .i64 f, .int .i64 s, .int .i64 x] := by
  simp [nU, cU, Ln.use?]
theorem GSt.addU {gb okb : Nat} {w w' : World} {acc : List Ln} {vP vS vM vU v' : Value} (h : GSt gb w acc vP vS vM vU) (hk : Kept (Oth gb okb vU) w w') {co : Array Value} {fz : Nat × Nat} (hok : w.heap[okb]? = some (.cells co 4 fz))
    (hb : w'.heap[gb]? = some (.cells #[vP, vS, vM, v'] 27 (0, 0))) (a b : ByteArray) (f s x : Int) (ho : w'.ownsRow gb 54 5 v' (nU acc + 1) (cU acc ++ [.string a, .string b, .int .i64 f, .int .i64 s, .int .i64 x])) : GSt gb w' (acc ++ [.use a b f s x]) vP vS vM v' := by
  obtain ⟨e1, e2⟩ := nU_snoc acc a b f s x
  have far : ∀ {n m : Nat} {T : TypeId} {v : Value} {xs : List Value}, w.ownsRow gb T m v n xs → T ≠ 27 → T ≠ 4 → T ≠ 54 → w'.ownsRow gb T m v n xs := fun h0 t1 t2 t3 => by
    refine own_kept h0 hk fun g hg => ?_
    rintro (e | e | e)
    · subst e
      exact own_apart h0 h.b t1 hg
    · subst e
      exact own_apart h0 hok t2 hg
    · obtain ⟨_, cs, hc⟩ := own_type h.oU e
      exact own_apart h0 hc t3 hg
  refine ⟨hb, ?_, ?_, ?_, ?_⟩
  · rw [show nP (acc ++ [.use a b f s x]) = nP acc by simp [nP, Ln.part?], show cP (acc ++ [.use a b f s x]) = cP acc by simp [cP, Ln.part?]]
    exact far h.oP (by decide) (by decide) (by decide)
  · rw [show nS (acc ++ [.use a b f s x]) = nS acc by simp [nS, Ln.slot?], show cS (acc ++ [.use a b f s x]) = cS acc by simp [cS, Ln.slot?]]
    exact far h.oS (by decide) (by decide) (by decide)
  · rw [show nM (acc ++ [.use a b f s x]) = nM acc by simp [nM, Ln.mnt?], show cM (acc ++ [.use a b f s x]) = cM acc by simp [cM, Ln.mnt?]]
    exact far h.oM (by decide) (by decide) (by decide)
  · rw [e1, e2]
    exact ho
theorem n_le (acc : List Ln) : nP acc ≤ acc.length ∧ nS acc ≤ acc.length ∧ nM acc ≤ acc.length ∧ nU acc ≤ acc.length :=
  ⟨List.length_filterMap_le _ _, List.length_filterMap_le _ _, List.length_filterMap_le _ _, List.length_filterMap_le _ _⟩
/-- the words of a line are not longer than it -/
theorem splitB_le (sep : ByteArray) : ∀ (k : Nat) (s w : ByteArray), w ∈ Lib.splitB sep 0 k s → w.size ≤ s.size
  | 0, s, w, h => by
    simp only [Lib.splitB, List.mem_singleton] at h
    subst h
    exact Nat.le_refl _
  | k + 1, s, w, h => by
    unfold Lib.splitB at h
    split at h
    · simp only [List.mem_singleton] at h
      subst h
      exact Nat.le_refl _
    · rcases List.mem_cons.1 h with e | h
      · subst e
        simp only [ByteArray.size_extract]
        omega
      · have := splitB_le sep k _ w h
        simp only [ByteArray.size_extract] at this
        omega
theorem words_len (s : ByteArray) : (wordsB s).length = Lib.countB s ⟨#[32]⟩ + 1 := Lib.splitB_all ⟨#[32]⟩ (by decide) 0 _ s rfl
theorem words_le {s w : ByteArray} (h : w ∈ wordsB s) : w.size ≤ s.size := splitB_le _ _ _ _ h
end Go.Proofs.YthdmceeipmmhjaaGreatDoor

/- A drawn region's operations one by one: as in Kp, a nil check among the calm ones. (Kp's own lines, turned by a program.) -/
namespace Go.Proofs.YthdmceeipmmhjaaGreatDoor
open Go.RowKit Go.BigFrame
/-- operations that yield a value and do nothing else -/
def isCalm2 : Op → Bool
  | .move _ | .assign _ | .pick .. | .build .. | .load .. | .binOp .. | .unOp .. | .fieldAddr .. | .field .. | .indexAddr .. | .index .. | .lookup .. | .extract .. | .slice .. | .nilCheck .. => true
  | _ => false
theorem calm_value2 {P : Program} {o : Oper} {ρ : Operand → Value} {w w' : World} {n : Next} (hc : isCalm2 o.op = true) (h : (execOp ρ o).run P w = .ok n w') : ∃ x, n = .value x := by
  obtain ⟨dst, op, type, pos, after, guard⟩ := o
  cases op
  case nilCheck x =>
    simp only [execOp] at h
    split at h
    · simp [runtimePanic] at h
    · simp [runtimePanic] at h
    · simp [runtimePanic] at h
    · split at h
      · simp [runtimePanic] at h
      · simp only [Sem.run_bind, run_program, Result.andThen_ok] at h
        generalize (nilAhead _ _ _ _).run P w = r at h
        cases r with
        | ok a w1 =>
          simp only [Result.andThen_ok] at h
          split at h
          · simp [unsupported] at h
          · simp at h
            exact ⟨_, h.1.symm⟩
        | halt e w1 => simp at h
      · simp at h
        exact ⟨_, h.1.symm⟩
    · simp at h
      exact ⟨_, h.1.symm⟩
  all_goals first | (simp [isCalm2] at hc; done) | (simp only [execOp] at h; first | exact run_val (fun x => x) h | exact run_val (fun b : Bool => if b then _ else _) h | (simp at h; exact ⟨_, h.1.symm⟩))
section
variable {P : Program} {ops : Array Oper} {Q : Exit → Act → World → Prop} {C : World → Prop}
theorem yieldsIf_of_quiet2 {o : Oper} {a : Act} {v : Value} (hc : isCalm2 o.op = true) (hw : Region.wanted o (yielded ops a.tmps) = true) (h : ∀ w, C w → o.quietAt P a C w v) : YieldsIf P ops C o v a := by
  refine Or.inl ⟨hw, fun w hC => ?_⟩
  have h1 := h w hC
  unfold Oper.quietAt at h1
  cases hr : (execOp a.eval o).run P w with
  | ok n w' =>
    rw [hr] at h1
    obtain ⟨x, rfl⟩ := calm_value2 hc hr
    simp only [Oper.quietUpon] at h1
    rw [h1.1, h1.2]
  | halt e w' => rw [hr] at h1; simp [Oper.quietUpon] at h1
/-- may these come up now, one behind the other, and is each apart from all that could come before it? -/
def calmB2 (ops : Array Oper) : List Nat → Array Bool → Bool
  | [], _ => true
  | i :: is, listed => ((ops[i]?).map fun o => isCalm2 o.op).getD false && Region.free .any ops listed i && (Region.ready .any ops listed).contains i && calmB2 ops is (listed.setIfInBounds i true)
theorem held_calm2 (hsel : Region.noSelect ops = true) (hQ : ∀ c a d v w, Q (.panic c) (Act.put a d v) w → Q (.panic c) a w) {w : World} (hC : C w) : ∀ (is : List Nat) (fuel : Nat) (listed : Array Bool) (a : Act),
    calmB2 ops is listed = true → wpQuiet P ops C (fun a' => wpAnyH P .any ops Q C fuel (listAll is listed) a' w) (is.filterMap fun i => ops[i]?) a → wpAnyH P .any ops Q C (fuel + is.length) listed a w
  | [], _, _, _, _, h => h
  | i :: is, fuel, listed, a, hB, h => by
    simp only [calmB2, Bool.and_eq_true] at hB
    obtain ⟨⟨⟨h1, h2⟩, h3⟩, h4⟩ := hB
    cases ho : ops[i]? with
    | none => rw [ho] at h1; simp at h1
    | some o =>
      rw [ho] at h1
      simp only [Option.map_some, Option.getD_some] at h1
      rw [List.filterMap_cons, ho] at h
      simp only [wpQuiet] at h
      have e : fuel + (i :: is).length = (fuel + is.length) + 1 := by simp; omega
      rw [e]
      by_cases hw : Region.wanted o (yielded ops a.tmps) = true
      · rw [if_pos hw] at h
        obtain ⟨v, hv, hn⟩ := h
        exact wpAnyH_take ho hsel h2 h3 (fun c a w => hQ c a _ _ w) (yieldsIf_of_quiet2 h1 hw hv) hC (held_calm2 hsel hQ hC is fuel _ _ h4 hn)
      · rw [if_neg hw] at h
        exact wpAnyH_take ho hsel h2 h3 (fun c a w => hQ c a _ _ w) (Or.inr ⟨by simpa using hw, rfl⟩) hC (held_calm2 hsel hQ hC is fuel _ _ h4 h)
theorem held_quiet2 {l : List Oper} (hsel : Region.noSelect l.toArray = true) (hQ : ∀ c a d v w, Q (.panic c) (Act.put a d v) w → Q (.panic c) a w) {w : World} (hC : C w) (is : List Nat) (fuel : Nat) (listed : Array Bool) (a : Act)
    (hB : calmB2 l.toArray is listed = true) (h : wpQuiet P l.toArray C (fun a' => wpAnyH P .any l.toArray Q C fuel (listAll is listed) a' w) (is.filterMap (nth l)) a) : wpAnyH P .any l.toArray Q C (fuel + is.length) listed a w :=
  held_calm2 hsel hQ hC is fuel listed a hB (by rw [show (fun i => l.toArray[i]?) = nth l from funext fun i => (nth_eq l i).symm]; exact h)
end
end Go.Proofs.YthdmceeipmmhjaaGreatDoor
