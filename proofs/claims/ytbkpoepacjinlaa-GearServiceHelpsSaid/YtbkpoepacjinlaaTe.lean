/- Gear: the mounts of each slot, in a map: the walk (program; printed by wip/g/gen_had.py). -/
import Derived.Test.YtbkpoepacjinlaaTd
namespace Go.Proofs.Ytbkpoepacjinlaa
open Go.RowKit Go.BigFrame

theorem mcell_one {m : Pcs.Mnt} {u : Value} (hu : u ∈ mcell m) : u.oneCell' = true := by
  simp only [mcell, List.mem_cons, List.not_mem_nil, or_false] at hu
  rcases hu with rfl | rfl | rfl | rfl <;> rfl
theorem own_hdr {w : World} {base e size n : Nat} {v : Value} {xs : List Value} (h : w.ownsRow base e size v n xs) (hn : 0 < n) : ∃ y : Hdr, v = hval y := by
  obtain ⟨g, cap, rfl, _⟩ := h.form hn
  exact ⟨some (g, n, cap), rfl⟩
theorem hdrR_of (y : Hdr) : hdrR (hval y) = some (hdat y, []) := by
  cases y <;> rfl
theorem Kept.weaken {O O' : Nat → Prop} {a b : World} (h : Kept O a b) (hO : ∀ q, O q → O' q) : Kept O' a b := ⟨h.os, h.tape, h.output, h.size, fun k hk ho => h.block k hk (fun e => ho (hO k e))⟩
theorem grown_of {w w' w'' : World} {r : Option Nat} (h : Below w.heap.size w w') (k : w'.grownBy w'' r) : w.grownBy w'' r :=
  ⟨k.os.trans h.os, k.tape.trans h.tape, k.output.trans h.output, Nat.le_trans h.size k.size, fun i hi hr => (k.block i (Nat.lt_of_lt_of_le hi h.size) hr).trans (h.block i hi)⟩
theorem mnt_len {g : Gar} {s : ByteArray} : ∀ k, (Gar.mountsK g s k).length ≤ k
  | 0 => by simp [Gar.mountsK]
  | k + 1 => by
    rw [Gar.mountsK]
    have := mnt_len (g := g) (s := s) k
    split <;> simp <;> omega
set_option maxHeartbeats 4000000 in
set_option maxRecDepth 100000 in
theorem had_any (g : Gar) (a0 a1 a2 a3 : Option Addr) (c0 c1 c2 c3 : Nat) (w : World) (h : GarIn w g a0 a1 a2 a3) (hnm : g.nm ≤ 2000) :
    Calls Try.prog 109 #[garV g a0 a1 a2 a3 c0 c1 c2 c3] w fun e w' => Below w.heap.size w w' ∧ ∃ B base hd, e = .returned (.map (some B)) ∧ w.heap.size ≤ B ∧ B < base ∧ StrMap w' Try.prog 9 hdrR B g.nm hdat .nil hd ∧ Had w' base g g.nm hd := by
  have HG := Lib.hid h
  have hl2 := h.l2
  clear h
  have HUS := Lib.hid (show Try.prog.underlying 9 = some .string by kernel_rfl)
  have HUH := Lib.hid (show Try.prog.underlying 141 = some (.map 9 24) by kernel_rfl)
  have HUM := Lib.hid (show Try.prog.underlying 24 = some (.slice 54) by kernel_rfl)
  have HzH := Lib.hid (show ∀ u : World, (zeroValue 24).run Try.prog u = .ok (.slice none 0 0) u from fun u => by kernel_rfl)
  obtain ⟨i0, hi0, hy0, hy1, hy2⟩ := info_parts (show (Try.prog.info? 54).map (fun i => (i.zero, i.size, i.bytes)) = some (some (.agg #[.string ⟨#[]⟩, .string ⟨#[]⟩, .int .i64 0, .int .i64 0]), 4, 48) by kernel_rfl)
  have HI0 := Lib.hid hi0
  have HY0 := Lib.hid hy0
  have HY1 := Lib.hid hy1
  have HY2 := Lib.hid hy2
  clear hi0 hy0 hy1 hy2
  unfold garV
  have hmm := @run_makeMap Try.prog
  obtain ⟨W0, hW0, hb0, hs0, hl0'⟩ := alloc_cells w #[.slice a0 g.np c0, .slice a1 g.ns c1, .slice a2 g.nm c2, .slice a3 g.nu c3] 27
  obtain ⟨W, hW⟩ : ∃ W, W0.alloc (.map #[] 0) = W := ⟨_, rfl⟩
  have hbw : Below W0.heap.size W0 W := hW ▸ below_al W0 _
  have hsw : W.heap.size = W0.heap.size + 1 := by rw [← hW, World.size_alloc]
  have e2 := below_cell hbw (hl0' 2 _ rfl)
  have hm0 : StrMap W Try.prog 9 hdrR W0.heap.size 0 hdat .nil (fun _ => none) := by
    rw [← hW]
    exact StrMap.made W0 _ _ _ (fun s => rfl)
  obtain ⟨B, hB⟩ : ∃ B, W0.heap.size = B := ⟨_, rfl⟩
  rw [hB] at hm0 hsw hs0
  obtain ⟨base, hbase⟩ : ∃ base, W.heap.size = base := ⟨_, rfl⟩
  have hBb : B < base := by omega
  have HBB := Lib.hid hBb
  have hwb : w.heap.size < B := by omega
  have HBW := Lib.hid (hb0.trans (hbw.mono (by omega)))
  have HM0 := Lib.hid hm0
  have HH0 : Hid (Had W base g 0 (fun _ => none)) := Lib.hid ⟨fun s => World.ownsRow_nil _ _ _ _, fun s _ => rfl⟩
  have HW : Hid ((w.alloc (.cells #[.slice a0 g.np c0, .slice a1 g.ns c1, .slice a2 g.nm c2, .slice a3 g.nu c3] 27)).alloc (.map #[] 0) = W) := Lib.hid (by rw [hW0, hW])
  have HBe : Hid (w.heap.size + 1 = B) := Lib.hid hs0.symm
  have HBASE0 := Lib.hid hbase
  clear hW0 hW hb0 hbw hsw hl0' hm0 hB hbase hs0
  go_enter Try.func109, Try.ntmps109
  go_upto_region 2 with (fail)
  rw [HW.out, HBe.out]
  go_wp2_with fail
  go_loopw [10] (fun iv wr => ∃ (k : Nat), iv = .int .i64 k ∧ k ≤ g.nm ∧ Hid (∃ hd, StrMap wr Try.prog 9 hdrR B k hdat .nil hd ∧ Had wr base g k hd) ∧ Hid (Kept (fun b => b = B ∨ base ≤ b) W wr)) (fun iv _ => g.nm - (intOf iv).toNat)
  case atStart => exact ⟨0, rfl, by omega, Lib.hid ⟨_, HM0.out, HH0.out⟩, Lib.hid (Kept.refl _ _)⟩
  case round =>
    obtain ⟨k, rfl, hk, HE, HK⟩ := hrel
    obtain ⟨hd, hm, hh⟩ := HE.out
    by_cases hlt : k < g.nm
    · have t1 : decide ((k : Int) < (g.nm : Int)) = true := by rw [decide_eq_true_eq]; omega
      have hgr := HG.out.r2.below HBW.out (Nat.le_refl _)
      obtain ⟨b, off, rfl, hbl0, _⟩ := HG.out.r2.here (by omega)
      obtain ⟨b', off', hbe, hbl, hc⟩ := (Kept.row hgr HK.out (fun b' off' e => by injection e with e; injection e with e _; omega)).here (by omega)
      obtain ⟨rfl, rfl⟩ : b = b' ∧ off = off' := by injection hbe with e; injection e with e1 e2; exact ⟨e1, e2⟩
      have e0 : wr.cell? ⟨b, off + k * 4, none⟩ = some (.string (g.ms k)) := hc k hlt 0 (by omega)
      have e1 : wr.cell? ⟨b, off + k * 4 + 1, none⟩ = some (.string (g.mp k)) := hc k hlt 1 (by omega)
      have e2 : wr.cell? ⟨b, off + k * 4 + 2, none⟩ = some (.int .i64 (g.mf k)) := hc k hlt 2 (by omega)
      have e3 : wr.cell? ⟨b, off + k * 4 + 3, none⟩ = some (.int .i64 (g.mt k)) := hc k hlt 3 (by omega)
      obtain ⟨V, hV, hvb, hvs, hvq⟩ := alloc_block wr #[.string (g.ms k), .string (g.mp k), .int .i64 (g.mf k), .int .i64 (g.mt k)] 54
      have HV' := Lib.hid hV
      have HVB := Lib.hid hvb
      have hszw : base ≤ wr.heap.size := by rw [← HBASE0.out]; exact HK.out.size
      have HHAD := Lib.hid (hh.kept (Kept.of_below (O := fun _ => False) hvb) (by simp))
      have HMV := Lib.hid (hm.keptO (Kept.of_below (O := fun _ => False) hvb) (by simp))
      have hv0 : ∃ v0, hval (hd (g.ms k)) = v0 := ⟨_, rfl⟩
      obtain ⟨v0, hv0⟩ := hv0
      have HV0 := Lib.hid hv0
      have hrw := hh.row (g.ms k)
      rw [hv0] at hrw
      have hno := not_own hrw (Or.inr (Nat.le_refl wr.heap.size))
      have hweak : ∀ q, (q = B ∨ v0.ownBlock = some q) → (q = B ∨ base ≤ q) := fun q hq => hq.elim Or.inl (fun h => Or.inr (hrw.lt q h).1)
      have HWEAK := Lib.hid hweak
      have hnl : ¬ (wr.heap.size = B ∨ v0.ownBlock = some wr.heap.size) := by
        rintro (h | h)
        · omega
        · exact hno h
      have L0 : ∀ Z : ExtO (fun b => b = B ∨ v0.ownBlock = some b) V, Z.1.cell? ⟨wr.heap.size, 0, none⟩ = some (.string (g.ms k)) := ExtO.ex hnl (block_cell hvq rfl)
      have L1 : ∀ Z : ExtO (fun b => b = B ∨ v0.ownBlock = some b) V, Z.1.cell? ⟨wr.heap.size, 1, none⟩ = some (.string (g.mp k)) := ExtO.ex hnl (block_cell hvq rfl)
      have L2 : ∀ Z : ExtO (fun b => b = B ∨ v0.ownBlock = some b) V, Z.1.cell? ⟨wr.heap.size, 2, none⟩ = some (.int .i64 (g.mf k)) := ExtO.ex hnl (block_cell hvq rfl)
      have L3 : ∀ Z : ExtO (fun b => b = B ∨ v0.ownBlock = some b) V, Z.1.cell? ⟨wr.heap.size, 3, none⟩ = some (.int .i64 (g.mt k)) := ExtO.ex hnl (block_cell hvq rfl)
      have hln := mnt_len (g := g) (s := g.ms k) k
      have HLEN : Hid ((Gar.mountsK g (g.ms k) k).length ≤ 2000) := Lib.hid (by omega)
      have HKM : Hid (k < maxLen) := Lib.hid (by unfold maxLen; omega)
      have HSZK := Lib.hid (HG.out.z2 k hlt).1
      have HSV : Hid (base ≤ V.heap.size) := Lib.hid (by omega)
      clear hh hm hrw hno hweak hnl hvb hvs hvq hV hv0 hc hgr hln HE hbe
      go_upto_region 5 with (fail)
      rw [HV'.out]
      refine held_start (C := fun w' => ∃ Z : ExtO (fun b => b = B ∨ v0.ownBlock = some b) V, w' = Z.1) (by kernel_rfl) ?_
      obtain ⟨Y0, hY0, hy0⟩ : ∃ Z : ExtO (fun b => b = B ∨ v0.ownBlock = some b) V, ({ V with drawn := V.drawn + 1 } : World) = Z.1 ∧ Below V.heap.size V Z.1 := ⟨⟨{ V with drawn := V.drawn + 1 }, ⟨rfl, rfl, rfl, Nat.le_refl _, fun _ _ _ => rfl⟩⟩, rfl, ⟨rfl, rfl, rfl, Nat.le_refl _, fun _ _ => rfl⟩⟩
      rw [hY0]
      have HVY := Lib.hid hy0
      have HMY := Lib.hid (HMV.out.keptO (Kept.of_below (O := fun _ => False) hy0) (by simp))
      clear hY0 hy0
      refine held_quiet (by kernel_rfl) (fun _ _ d _ _ h => by cases d <;> exact h) ⟨Y0, rfl⟩ [0, 1, 2, 3, 4, 5, 7] 4 _ _ (by kernel_rfl) ?_
      change wpQuiet _ _ _ _ (_ :: _ :: _ :: _ :: _ :: _ :: _ :: []) _
      repeat go_big_quiet_step (fail)
      refine wpQuiet_nil ?_
      refine held_two (i := 6) (j := 8) _ _ rfl rfl (by kernel_rfl) rfl rfl (fun K hK => ?_) (fun K hK => ?_)
      · refine wp_lookup_str (.tmp 17) (.tmp 19) rfl HUS.out HUH.out (HzH.out _) (zp := []) rfl hval hdrR_inv rfl HMY.out rfl HSZK.out ?_
        rw [HV0.out]
        refine hK _ _ ⟨Y0, rfl⟩ ?_
        clear hK K
        simp only [Act.put, List.setIfInBounds_toArray, List.set_cons_zero, List.set_cons_succ]
        refine held_do (i := 8) _ rfl (by kernel_rfl) rfl (fun K hK => ?_)
        go_simp
        obtain ⟨Wb, hWb, hwb1, hwb2, hwq⟩ := alloc_block Y0.1 #[.string (g.ms k), .string (g.mp k), .int .i64 (g.mf k), .int .i64 (g.mt k)] 54
        rw [hWb]
        have hvz := below_step HVY.out hwb1
        obtain ⟨Zb, rfl⟩ : ∃ Z : ExtO (fun b => b = B ∨ v0.ownBlock = some b) V, Wb = Z.1 := ⟨⟨Wb, Kept.of_below hvz⟩, rfl⟩
        have HVZ := Lib.hid hvz
        have HWQ := Lib.hid hwq
        have HMZB := Lib.hid (HMV.out.keptO (Kept.of_below (O := fun _ => False) hvz) (by simp))
        have HHZB := Lib.hid (HHAD.out.kept (Kept.of_below (O := fun _ => False) hvz) (by simp))
        refine hK _ _ ⟨Zb, rfl⟩ ?_
        clear hWb hwb1 hwb2 hwq hvz hK K
        refine held_do (i := 9) _ rfl (by kernel_rfl) rfl (fun K hK => ?_)
        have hrow := HHZB.out.row (g.ms k)
        rw [HV0.out] at hrow
        have HROW := Lib.hid hrow
        clear hrow
        refine wp_append_own Zb.1 (.tmp 20) (.tmp 22) 24 rfl base 54 i0 (.agg #[.string ⟨#[]⟩, .string ⟨#[]⟩, .int .i64 0, .int .i64 0]) 4 48 HUM.out HI0.out HY0.out HY1.out HY2.out rfl (by decide) v0 _ _ rfl HROW.out ⟨Y0.1.heap.size, 0, none⟩ 1 1 (mcell (g.mnt k)) rfl rfl (fun j u hu => by rw [addr_add0]; exact block_cell HWQ.out (by simpa [mcell, Gar.mnt] using hu)) (fun u hu => mcell_one hu) (by have := HLEN.out; unfold maxLen; omega) (by have := HLEN.out; omega) (Nat.le_trans HSV.out HVZ.out.size) (fun v5 w5 hown5 hg5 _ => ?_)
        obtain ⟨y, hy⟩ := own_hdr hown5 (by omega)
        subst hy
        have hmz := HMZB.out.kept hg5 (by
          intro e
          have := (HROW.out.lt B e.symm).1
          have := HBB.out
          omega)
        have HMZ := Lib.hid hmz
        have hgg := grown_of HVZ.out hg5
        rw [← HV0.out] at hgg
        have HGG := Lib.hid hgg
        have HOW := Lib.hid hown5
        obtain ⟨Z5, rfl⟩ : ∃ Z : ExtO (fun b => b = B ∨ v0.ownBlock = some b) V, w5 = Z.1 := ⟨⟨w5, Zb.2.grown hg5 (fun q hq _ => Or.inr hq)⟩, rfl⟩
        refine hK _ _ ⟨Z5, rfl⟩ ?_
        clear hmz hgg hg5 hown5 hK K
        simp only [Act.put, List.setIfInBounds_toArray, List.set_cons_zero, List.set_cons_succ]
        refine held_do (i := 10) _ rfl (by kernel_rfl) rfl (fun K hK => ?_)
        refine wp_update_str (.tmp 14) (.tmp 16) (.tmp 23) rfl HUS.out HUH.out rfl HMZ.out HKM.out rfl HSZK.out rfl (y := y) (hdrR_of y) (fun w6 hm6 hg6 => ?_)
        have HM6 := Lib.hid hm6
        have HHAD6 := Lib.hid (HHAD.out.step HBB.out HGG.out HOW.out hg6)
        obtain ⟨Z6, rfl⟩ : ∃ Z : ExtO (fun b => b = B ∨ v0.ownBlock = some b) V, w6 = Z.1 := ⟨⟨w6, Z5.2.grown hg6 (fun q hq _ => by injection hq with hq; exact Or.inl hq.symm)⟩, rfl⟩
        refine hK _ _ ⟨Z6, rfl⟩ ?_
        clear hg6 hm6 hK K
        simp only [Act.put]
        refine wpAnyH_done (by kernel_rfl) ?_ _
        go_wp2_with fail
        go_roundw
        case rel => exact ⟨k + 1, by go_num, by omega, Lib.hid ⟨_, HM6.out, HHAD6.out⟩, Lib.hid ((HK.out.trans (Kept.of_below HVB.out)).trans (Z6.2.weaken HWEAK.out))⟩
        case measure => simp [intOf]; omega
      · go_simp
        obtain ⟨Wb, hWb, hwb1, hwb2, hwq⟩ := alloc_block Y0.1 #[.string (g.ms k), .string (g.mp k), .int .i64 (g.mf k), .int .i64 (g.mt k)] 54
        rw [hWb]
        have hvz := below_step HVY.out hwb1
        obtain ⟨Zb, rfl⟩ : ∃ Z : ExtO (fun b => b = B ∨ v0.ownBlock = some b) V, Wb = Z.1 := ⟨⟨Wb, Kept.of_below hvz⟩, rfl⟩
        have HVZ := Lib.hid hvz
        have HWQ := Lib.hid hwq
        have HMZB := Lib.hid (HMV.out.keptO (Kept.of_below (O := fun _ => False) hvz) (by simp))
        have HHZB := Lib.hid (HHAD.out.kept (Kept.of_below (O := fun _ => False) hvz) (by simp))
        refine hK _ _ ⟨Zb, rfl⟩ ?_
        clear hWb hwb1 hwb2 hwq hvz hK K
        refine held_do (i := 6) _ rfl (by kernel_rfl) rfl (fun K hK => ?_)
        refine wp_lookup_str (.tmp 17) (.tmp 19) rfl HUS.out HUH.out (HzH.out _) (zp := []) rfl hval hdrR_inv rfl HMZB.out rfl HSZK.out ?_
        rw [HV0.out]
        refine hK _ _ ⟨Zb, rfl⟩ ?_
        clear hK K
        simp only [Act.put, List.setIfInBounds_toArray, List.set_cons_zero, List.set_cons_succ]
        refine held_do (i := 9) _ rfl (by kernel_rfl) rfl (fun K hK => ?_)
        have hrow := HHZB.out.row (g.ms k)
        rw [HV0.out] at hrow
        have HROW := Lib.hid hrow
        clear hrow
        refine wp_append_own Zb.1 (.tmp 20) (.tmp 22) 24 rfl base 54 i0 (.agg #[.string ⟨#[]⟩, .string ⟨#[]⟩, .int .i64 0, .int .i64 0]) 4 48 HUM.out HI0.out HY0.out HY1.out HY2.out rfl (by decide) v0 _ _ rfl HROW.out ⟨Y0.1.heap.size, 0, none⟩ 1 1 (mcell (g.mnt k)) rfl rfl (fun j u hu => by rw [addr_add0]; exact block_cell HWQ.out (by simpa [mcell, Gar.mnt] using hu)) (fun u hu => mcell_one hu) (by have := HLEN.out; unfold maxLen; omega) (by have := HLEN.out; omega) (Nat.le_trans HSV.out HVZ.out.size) (fun v5 w5 hown5 hg5 _ => ?_)
        obtain ⟨y, hy⟩ := own_hdr hown5 (by omega)
        subst hy
        have hmz := HMZB.out.kept hg5 (by
          intro e
          have := (HROW.out.lt B e.symm).1
          have := HBB.out
          omega)
        have HMZ := Lib.hid hmz
        have hgg := grown_of HVZ.out hg5
        rw [← HV0.out] at hgg
        have HGG := Lib.hid hgg
        have HOW := Lib.hid hown5
        obtain ⟨Z5, rfl⟩ : ∃ Z : ExtO (fun b => b = B ∨ v0.ownBlock = some b) V, w5 = Z.1 := ⟨⟨w5, Zb.2.grown hg5 (fun q hq _ => Or.inr hq)⟩, rfl⟩
        refine hK _ _ ⟨Z5, rfl⟩ ?_
        clear hmz hgg hg5 hown5 hK K
        simp only [Act.put, List.setIfInBounds_toArray, List.set_cons_zero, List.set_cons_succ]
        refine held_do (i := 10) _ rfl (by kernel_rfl) rfl (fun K hK => ?_)
        refine wp_update_str (.tmp 14) (.tmp 16) (.tmp 23) rfl HUS.out HUH.out rfl HMZ.out HKM.out rfl HSZK.out rfl (y := y) (hdrR_of y) (fun w6 hm6 hg6 => ?_)
        have HM6 := Lib.hid hm6
        have HHAD6 := Lib.hid (HHAD.out.step HBB.out HGG.out HOW.out hg6)
        obtain ⟨Z6, rfl⟩ : ∃ Z : ExtO (fun b => b = B ∨ v0.ownBlock = some b) V, w6 = Z.1 := ⟨⟨w6, Z5.2.grown hg6 (fun q hq _ => by injection hq with hq; exact Or.inl hq.symm)⟩, rfl⟩
        refine hK _ _ ⟨Z6, rfl⟩ ?_
        clear hg6 hm6 hK K
        simp only [Act.put]
        refine wpAnyH_done (by kernel_rfl) ?_ _
        go_wp2_with fail
        go_roundw
        case rel => exact ⟨k + 1, by go_num, by omega, Lib.hid ⟨_, HM6.out, HHAD6.out⟩, Lib.hid ((HK.out.trans (Kept.of_below HVB.out)).trans (Z6.2.weaken HWEAK.out))⟩
        case measure => simp [intOf]; omega
    · have t1 : decide ((k : Int) < (g.nm : Int)) = false := by rw [decide_eq_false_iff_not]; omega
      have t1' : decide (k < g.nm) = false := by simpa using hlt
      obtain rfl : k = g.nm := by omega
      have hbk := Kept.below HBW.out HK.out HBW.out.size (fun q hq => by have := HBB.out; omega)
      have HBK := Lib.hid hbk
      have HMM := Lib.hid hm
      have HHH := Lib.hid hh
      clear hlt HE hm hh hbk
      go_wp2_with fail
      go_ret
      exact ⟨HBK.out, B, base, hd, rfl, by omega, HBB.out, HMM.out, HHH.out⟩
end Go.Proofs.Ytbkpoepacjinlaa
