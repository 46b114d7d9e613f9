/- Gear: eachPiece of the program (printed by wip/g/gen_each.py). -/
import Derived.Test.YtbkpoepacjinlaaTf
namespace Go.Proofs.Ytbkpoepacjinlaa
open Go.RowKit Go.BigFrame
open Gar (chk)

def useAt (g : Gar) (i : Nat) : Value := useV (g.un i) (g.ur i) (g.uf i) (g.us i) (g.uw i)
theorem evG_pre (g : Gar) (a : Nat) : ∀ b, a ≤ b → ∃ r, evG g b = evG g a ++ r
  | 0, h => ⟨[], by rw [Nat.le_zero.1 h]; simp⟩
  | b + 1, h => by
    by_cases e : a = b + 1
    · exact ⟨[], by rw [e]; simp⟩
    · obtain ⟨r, hr⟩ := evG_pre g a b (by omega)
      exact ⟨r ++ evS g b g.ns, by rw [evG, hr, List.append_assoc]⟩
theorem evS_pre (g : Gar) (i a : Nat) : ∀ b, a ≤ b → ∃ r, evS g i b = evS g i a ++ r
  | 0, h => ⟨[], by rw [Nat.le_zero.1 h]; simp⟩
  | b + 1, h => by
    by_cases e : a = b + 1
    · exact ⟨[], by rw [e]; simp⟩
    · obtain ⟨r, hr⟩ := evS_pre g i a b (by omega)
      exact ⟨r ++ (if g.sr b = g.ur i then evQ g i b (pcsOf g i b).length else []), by rw [evS, hr, List.append_assoc]⟩
theorem evQ_pre (g : Gar) (i j a : Nat) : ∀ b, a ≤ b → ∃ r, evQ g i j b = evQ g i j a ++ r
  | 0, h => ⟨[], by rw [Nat.le_zero.1 h]; simp⟩
  | b + 1, h => by
    by_cases e : a = b + 1
    · exact ⟨[], by rw [e]; simp⟩
    · obtain ⟨r, hr⟩ := evQ_pre g i j a b (by omega)
      exact ⟨r ++ [evP g i j b], by rw [evQ, hr, List.append_assoc]⟩
theorem ev_pre {g : Gar} {i j q : Nat} (hi : i < g.nu) (hj : j < g.ns) (hev : evS g i (j + 1) = evS g i j ++ evQ g i j (pcsOf g i j).length) (hq : q < (pcsOf g i j).length) : ∃ rest, evG g g.nu = (evG g i ++ evS g i j ++ evQ g i j q) ++ evP g i j q :: rest := by
  obtain ⟨r1, h1⟩ := evG_pre g (i + 1) g.nu (by omega)
  obtain ⟨r2, h2⟩ := evS_pre g i (j + 1) g.ns (by omega)
  obtain ⟨r3, h3⟩ := evQ_pre g i j (q + 1) (pcsOf g i j).length (by omega)
  rw [evQ] at h3
  rw [h3] at hev
  rw [hev] at h2
  rw [evG, h2] at h1
  exact ⟨r3 ++ r2 ++ r1, by rw [h1]; simp [List.append_assoc]⟩
theorem Had.to {w w' : World} {base B0 : Nat} {g : Gar} {k : Nat} {hd : ByteArray → Hdr} (h : Had w base g k hd) (hb : ∀ q, B0 ≤ q → q < w.heap.size → w'.heap[q]? = w.heap[q]?) (hB : B0 ≤ base) : Had w' base g k hd := by
  refine ⟨fun s => ?_, h.nil⟩
  obtain ⟨h1, h2⟩ := h.row s
  refine ⟨h1, ?_⟩
  rcases h2 with h7 | ⟨q, cap, cur, e1, e2, e3, e4⟩
  · exact Or.inl h7
  · exact Or.inr ⟨q, cap, cur, e1, e2, (hb q (by omega) (lt_of_block e3)).trans e3, e4⟩
theorem StrMap.to {α : Type} {w w' : World} {P : Program} {k : TypeId} {R : Value → Option (DataW Unit × List MemPlace)} {b n : Nat} {dat : α → DataW Unit} {zd : DataW Unit} {f : ByteArray → α} (h : StrMap w P k R b n dat zd f) (hb : w'.heap[b]? = w.heap[b]?) : StrMap w' P k R b n dat zd f := by
  obtain ⟨D, ⟨es, clock, h1, h2⟩, h3⟩ := h.ex
  exact ⟨D, ⟨es, clock, hb.trans h1, h2⟩, h3⟩
theorem pcsOf_of (g : Gar) (i j : Nat) : Pcs.pieces (g.uf i) (g.uf i + g.us i) (Gar.mountsK g (g.sn j) g.nm) = pcsOf g i j := rfl
set_option maxHeartbeats 8000000 in
set_option maxRecDepth 100000 in
theorem eachPiece_any (g : Gar) (a0 a1 a2 a3 : Option Addr) (c0 c1 c2 c3 : Nat) (w : World) (h : GarIn w g a0 a1 a2 a3) (hchk : chk g = 0) (fid : FuncId) (caps : Array Value) (hcf : ∀ args w, Sem.run Try.prog (callFunc fid args) w = .ok (.enter fid args) w)
    (Inv : List Ev → (Nat → Prop) → World → Prop) (hkeep : ∀ done S W W', Inv done S W → Below W.heap.size W W' → Inv done S W')
    (hcall : ∀ (done : List Ev) (S : Nat → Prop) (W : World) (ev : Ev), Inv done S W → (∀ b, S b → b < W.heap.size) → ev.i < g.nu → (∃ rest, evG g g.nu = done ++ ev :: rest) →
      Calls Try.prog fid (#[useAt g ev.i, evV g ev] ++ caps) W fun e W' => e = .returned (.tuple #[]) ∧ ∃ S' : Nat → Prop, Inv (done ++ [ev]) S' W' ∧ (∀ b, S' b → S b ∨ W.heap.size ≤ b) ∧ (∀ b, S' b → b < W'.heap.size) ∧ Kept S W W')
    (S0 : Nat → Prop) (hinv : Inv [] S0 w) (hS0 : ∀ b, S0 b → b < w.heap.size) (hg1 : ∀ b off, a1 = some ⟨b, off, none⟩ → 0 < g.ns → ¬ S0 b) (hg3 : ∀ b off, a3 = some ⟨b, off, none⟩ → 0 < g.nu → ¬ S0 b) :
    Calls Try.prog 59 #[garV g a0 a1 a2 a3 c0 c1 c2 c3, .func (.func fid) #[] caps] w fun e w' => e = .returned (.tuple #[]) ∧ Pr Inv (evG g g.nu) S0 w w' := by
  have HG := Lib.hid h
  have HCF := Lib.hid hcf
  have HKEEP := Lib.hid hkeep
  have HCALL := Lib.hid hcall
  have HG1 := Lib.hid hg1
  have HG3 := Lib.hid hg3
  have hl1 := h.l1
  have hl3 := h.l3
  have HCK := Lib.hid (Gar.chk_parts hchk)
  have hnm := HCK.out.2.2.1
  have HPR := Lib.hid (Pr.start hinv hS0)
  have HUS := Lib.hid (show Try.prog.underlying 9 = some .string by kernel_rfl)
  have HUH := Lib.hid (show Try.prog.underlying 141 = some (.map 9 24) by kernel_rfl)
  have HzH := Lib.hid (show ∀ u : World, (zeroValue 24).run Try.prog u = .ok (.slice none 0 0) u from fun u => by kernel_rfl)
  have DH := Lib.hid (fun (W : World) (hb : Below w.heap.size w W) => had_any g a0 a1 a2 a3 c0 c1 c2 c3 W (HG.out.below hb) hnm)
  clear h hcf hkeep hcall hg1 hg3 hchk hinv hnm
  unfold garV at DH ⊢
  obtain ⟨W0, hW0, hb0, hs0, hl0'⟩ := alloc_cells w #[.slice a0 g.np c0, .slice a1 g.ns c1, .slice a2 g.nm c2, .slice a3 g.nu c3] 27
  have e0 := hl0' 0 _ rfl
  have e1 := hl0' 1 _ rfl
  have e2 := hl0' 2 _ rfl
  have e3 := hl0' 3 _ rfl
  have HB0 := Lib.hid hb0
  have HW0 := Lib.hid hW0
  have hs0' : w.heap.size < W0.heap.size := by omega
  clear hl0' hW0 hb0 hs0
  go_enter Try.func59, Try.ntmps59
  go_upto_region 1 with (fail)
  rw [HW0.out]
  go_wp2_with fail
  refine (DH.out _ HB0.out).mono ?_
  rintro e W ⟨hbW, B, base, hd, rfl, hB0, hBb, hmW, hhW⟩
  have hbw := HB0.out.trans (hbW.mono (Nat.le_of_lt hs0'))
  have HBW := Lib.hid hbw
  have HMW := Lib.hid hmW
  have HHW := Lib.hid hhW
  have hnot : ∀ b, w.heap.size ≤ b → ¬ S0 b := fun b hb hS => by have := hS0 b hS; omega
  have HNOT := Lib.hid hnot
  obtain ⟨S1, hp1, hs1a, hs1b, hs1c⟩ := Pr.rebase HKEEP.out HPR.out HBW.out
  have hn1 : ∀ b, w.heap.size ≤ b → ¬ S1 b := fun b hb hS => by have := hs1a b hS; omega
  have HN1 := Lib.hid hn1
  have hr3 : ∀ b off, a3 = some ⟨b, off, none⟩ → 0 < g.nu → ¬ S1 b := fun b off ha hn => by
    obtain ⟨b', off', h1, h2, _⟩ := HG.out.r3.here hn
    rw [ha] at h1
    injection h1 with h1
    injection h1 with h1 _
    exact hs1b b (by omega) (HG3.out b off ha hn)
  have hr1 : ∀ b off, a1 = some ⟨b, off, none⟩ → 0 < g.ns → b < w.heap.size ∧ ¬ S1 b := fun b off ha hn => by
    obtain ⟨b', off', h1, h2, _⟩ := HG.out.r1.here hn
    rw [ha] at h1
    injection h1 with h1
    injection h1 with h1 _
    exact ⟨by omega, hs1b b (by omega) (HG1.out b off ha hn)⟩
  have HR3 := Lib.hid hr3
  have HR1 := Lib.hid hr1
  have HP1 := Lib.hid hp1
  have HS1C := Lib.hid hs1c
  have f1 := below_cell hbW e1
  have f3 := below_cell hbW e3
  have hwW : w.heap.size < W.heap.size := Nat.lt_of_lt_of_le hs0' hbW.size
  clear hp1 hs1a hs1b hs1c hr3 hr1 hbW hbw hmW hhW hnot HPR e0 e1 e2 e3
  go_wp2_with fail
  go_loopw [16] (fun iv wr => ∃ (i : Nat), iv = .int .i64 i ∧ i ≤ g.nu ∧ Hid (Pr Inv (evG g i) S1 W wr)) (fun iv _ => g.nu - (intOf iv).toNat)
  case atStart => exact ⟨0, rfl, by omega, HP1⟩
  case round =>
    obtain ⟨i, rfl, hi, HP⟩ := hrel
    by_cases hlt : i < g.nu
    · have t1 : decide ((i : Int) < (g.nu : Int)) = true := by rw [decide_eq_true_eq]; omega
      have hk1 := HP.out.kept
      obtain ⟨b, off, rfl, hbl, hc⟩ := (Kept.row (HG.out.r3.below HBW.out (Nat.le_refl _)) hk1 (fun b off e => HR3.out b off e (by omega))).here (by omega)
      have e0 : wr.cell? ⟨b, off + i * 5, none⟩ = some (.string (g.un i)) := hc i hlt 0 (by omega)
      have e1 : wr.cell? ⟨b, off + i * 5 + 1, none⟩ = some (.string (g.ur i)) := hc i hlt 1 (by omega)
      have e2 : wr.cell? ⟨b, off + i * 5 + 2, none⟩ = some (.int .i64 (g.uf i)) := hc i hlt 2 (by omega)
      have e3 : wr.cell? ⟨b, off + i * 5 + 3, none⟩ = some (.int .i64 (g.us i)) := hc i hlt 3 (by omega)
      have e4 : wr.cell? ⟨b, off + i * 5 + 4, none⟩ = some (.int .i64 (g.uw i)) := hc i hlt 4 (by omega)
      obtain ⟨V1, hV1, hvb, hvs, hvq⟩ := alloc_block wr #[.string (g.un i), .string (g.ur i), .int .i64 (g.uf i), .int .i64 (g.us i), .int .i64 (g.uw i)] 38
      obtain ⟨S2, hp2, hs2a, hs2b, hs2c⟩ := Pr.rebase HKEEP.out HP.out hvb
      have hn2 : ∀ b, b < W.heap.size → ¬ S1 b → ¬ S2 b := hs2b
      have g1 : V1.cell? ⟨w.heap.size, 1, none⟩ = some (.slice a1 g.ns c1) := below_cell hvb (hk1.cell (HN1.out _ (Nat.le_refl _)) f1)
      have HV1 := Lib.hid hV1
      have HP2 := Lib.hid hp2
      have HS2C := Lib.hid hs2c
      have HKW : Hid (Kept S1 W V1) := Lib.hid (hk1.trans (Kept.of_below hvb))
      have HN2 := Lib.hid hn2
      have hloc : ¬ S2 wr.heap.size := fun hS => by have := hs2a _ hS; omega
      have HLOC := Lib.hid hloc
      have hvl : wr.heap.size < V1.heap.size := by omega
      have HVQ := Lib.hid hvq
      have hwl : W.heap.size ≤ wr.heap.size := hk1.size
      obtain ⟨p6, hp6⟩ : ∃ p6, wr.heap.size = p6 := ⟨_, rfl⟩
      rw [hp6] at HLOC HVQ hwl hvl
      have HP6E := Lib.hid hp6
      have hur := Gar.use_right HCK.out.2.2.2.2.2.2.2.2 hlt
      have HUR := Lib.hid hur
      clear hc hk1 hV1 hvb hvs hvq hp2 hs2a hs2b hs2c hn2 hloc hur hp6
      go_upto_region 5 with (fail)
      rw [HV1.out, HP6E.out]
      go_wp2_with fail
      clear g1
      go_loopw [23] (fun iv wr => ∃ (j : Nat), iv = .int .i64 j ∧ j ≤ g.ns ∧ Hid (Pr Inv (evG g i ++ evS g i j) S2 V1 wr)) (fun iv _ => g.ns - (intOf iv).toNat)
      case atStart => exact ⟨0, rfl, by omega, Lib.hid (by rw [evS, List.append_nil]; exact HP2.out)⟩
      case round =>
        obtain ⟨j, rfl, hj, HPJ⟩ := hrel
        by_cases hltj : j < g.ns
        · have t2 : decide ((j : Int) < (g.ns : Int)) = true := by rw [decide_eq_true_eq]; omega
          have hkj := HPJ.out.kept
          have hkv : ∀ b, b < W.heap.size → ¬ S1 b → ∀ o, W.heap[b]? = some o → wr.heap[b]? = some o := fun b hb h1 o ho => (hkj.block b (Nat.lt_of_lt_of_le hb HKW.out.size) (HN2.out b hb h1)).trans ((HKW.out.block b hb h1).trans ho)
          obtain ⟨b1, off1, rfl, hbl1, hc1⟩ := HG.out.r1.here (by omega)
          have hbs := HR1.out b1 off1 rfl (by omega)
          have hr1w : ∀ q, q < g.ns → ∀ z, z < 2 → wr.cell? ⟨b1, off1 + q * 2 + z, none⟩ = ([.string (g.sn q), .string (g.sr q)] : List Value)[z]? := fun q hq z hz => by
            have h1 := (HBW.out.block b1 hbl1)
            have h2 := (HKW.out.block b1 (by omega) hbs.2)
            have h3 := (hkj.block b1 (Nat.lt_of_lt_of_le (by omega : b1 < W.heap.size) HKW.out.size) (HN2.out b1 (by omega) hbs.2))
            exact (World.cell?_of_block (h3.trans (h2.trans h1))).trans (hc1 q hq z hz)
          have s0 : wr.cell? ⟨b1, off1 + j * 2, none⟩ = some (.string (g.sn j)) := hr1w j hltj 0 (by omega)
          have s1 : wr.cell? ⟨b1, off1 + j * 2 + 1, none⟩ = some (.string (g.sr j)) := hr1w j hltj 1 (by omega)
          have hbw1 : b1 < wr.heap.size := by
            have h1 := hkj.size
            have h2 := HKW.out.size
            omega
          obtain ⟨V2, hV2, hvb2, hvs2, hvq2⟩ := alloc_block wr #[.string (g.sn j), .string (g.sr j)] 40
          have u0 : ∀ z v, (#[.string (g.un i), .string (g.ur i), .int .i64 (g.uf i), .int .i64 (g.us i), .int .i64 (g.uw i)] : Array Value)[z]? = some v → V2.cell? ⟨p6, z, none⟩ = some v := fun z v hv =>
            below_cell hvb2 (hkj.cell HLOC.out (block_cell HVQ.out hv))
          have x0 := u0 0 _ rfl
          have x1 := u0 1 _ rfl
          have x2 := u0 2 _ rfl
          have x3 := u0 3 _ rfl
          have x4 := u0 4 _ rfl
          have y0 : V2.cell? ⟨wr.heap.size, 0, none⟩ = some (.string (g.sn j)) := block_cell hvq2 rfl
          have y1 : V2.cell? ⟨wr.heap.size, 1, none⟩ = some (.string (g.sr j)) := block_cell hvq2 rfl
          have hse := str_eq (g.sr j) (g.ur i)
          have HV2 := Lib.hid hV2
          have HVB2 := Lib.hid hvb2
          have HKJ := Lib.hid hkj
          clear hV2 hvb2 hvq2 hkv hc1 hr1w u0 hkj
          by_cases hrig : g.sr j = g.ur i
          · rw [show decide (g.sr j = g.ur i) = true by simpa using hrig] at hse
            have hne : ((g.sr j).toList != (g.ur i).toList) = false := by rw [bne, hse]; rfl
            have hev : evS g i (j + 1) = evS g i j ++ evQ g i j (pcsOf g i j).length := by rw [evS, if_pos hrig]
            have HEV := Lib.hid hev
            clear hev hrig
            have hVW : ∀ q, w.heap.size ≤ q → q < W.heap.size → V2.heap[q]? = W.heap[q]? := fun q h1 h2 => by
              have k1 := HKW.out.block q h2 (HN1.out q h1)
              have k2 := HKJ.out.block q (Nat.lt_of_lt_of_le h2 HKW.out.size) (HN2.out q h2 (HN1.out q h1))
              have k3 := HVB2.out.block q (Nat.lt_of_lt_of_le h2 (Nat.le_trans HKW.out.size HKJ.out.size))
              exact k3.trans (k2.trans k1)
            have hhv := HHW.out.to hVW (by omega)
            have hmv := HMW.out.to (hVW B (by omega) HMW.out.lt)
            obtain ⟨am, cm, hval1, hrowk⟩ := hhv.rowK (g.sn j)
            have kS : (Instr.lookup 141 (.map (some B)) (.string (g.sn j)) false).run Try.prog V2 = .ok (hval (hd (g.sn j))) V2 :=
              StrMap.look (val := hval) hmv HUS.out HUH.out (HzH.out _) (zp := []) rfl hdrR_inv (HG.out.z1 j hltj).1
            rw [hval1] at kS
            have hur := HUR.out
            have hln := mnt_len (g := g) (s := g.sn j) g.nm
            have DP := Lib.hid (piecesOf_any (g.un i) (g.ur i) (g.uf i) (g.us i) (g.uw i) (g.sn j) am cm (Gar.mountsK g (g.sn j) g.nm) V2 hrowk (by omega) (by omega) (by omega) (by omega) (by omega) (by omega) (by have := HCK.out.2.2.1; omega) (Gar.ord_mounts HCK.out.2.2.2.2.2.2.1 HCK.out.2.2.2.2.2.2.2.1 (g.sn j) g.nm (Nat.le_refl _)))
            rw [pcsOf_of] at DP
            have hgood : Good (pcsOf g i j) (g.us i) := good_pieces (Gar.ord_mounts HCK.out.2.2.2.2.2.2.1 HCK.out.2.2.2.2.2.2.2.1 (g.sn j) g.nm (Nat.le_refl _)) (by omega)
            have hnl := hgood.len
            have hnl2 : ((pcsOf g i j).length : Int) ≤ 1000000 := by omega
            unfold useV at DP
            clear hhv hmv hval1 hrowk hur hln hVW hgood hnl hne
            go_upto_region 8 with (fail)
            rw [HV2.out]
            go_wp2_with fail
            refine DP.out.mono ?_
            rintro e w3 ⟨gq, capq, rfl, hgq, hrow, hbp⟩
            have hb23 := below_step HVB2.out hbp
            obtain ⟨S4, hp4, hs4a, hs4b, hs4c⟩ := Pr.rebase HKEEP.out HPJ.out hb23
            have v0 := below_cell hbp x0
            have v1 := below_cell hbp x1
            have v2 := below_cell hbp x2
            have v3 := below_cell hbp x3
            have v4 := below_cell hbp x4
            have hl6 : ¬ S4 p6 := hs4b p6 hvl HLOC.out
            have hlq : ¬ S4 gq := fun hS => by have := hs4a gq hS; omega
            have HL6 := Lib.hid hl6
            have HLQ := Lib.hid hlq
            have HP4 := Lib.hid hp4
            have HS4C := Lib.hid hs4c
            have HROW := Lib.hid hrow
            clear hb23 hp4 hs4a hs4b hs4c hl6 hlq hrow hbp kS x0 x1 x2 x3 x4 y0 y1 s0 s1 hse DP
            go_wp2_with fail
            go_loopw [41] (fun iv wr => ∃ (q : Nat), iv = .int .i64 q ∧ q ≤ (pcsOf g i j).length ∧ Hid (Pr Inv (evG g i ++ evS g i j ++ evQ g i j q) S4 w3 wr)) (fun iv _ => (pcsOf g i j).length - (intOf iv).toNat)
            case atStart => exact ⟨0, rfl, by omega, Lib.hid (by rw [evQ, List.append_nil]; exact HP4.out)⟩
            case round =>
              obtain ⟨q, rfl, hq, HPQ⟩ := hrel
              by_cases hltq : q < (pcsOf g i j).length
              · have t3 : decide ((q : Int) < ((pcsOf g i j).length : Int)) = true := by rw [decide_eq_true_eq]; omega
                have t3' : decide (q < (pcsOf g i j).length) = true := by simpa using hltq
                have hk3 := HPQ.out.kept
                have hrq := Kept.row HROW.out hk3 (fun b off e => by injection e with e; injection e with e _; subst e; exact HLQ.out)
                have hz : ∀ z v, z < 5 → (pcellW (g.un i) (g.sn j) (pget (pcsOf g i j) q) (wayG (g.uw i) (g.us i) (secW (pcsOf g i j)) (pcsOf g i j).length q))[z]? = some v → wr.cell? ⟨gq, q * 5 + z, none⟩ = some v := fun z v hz hv => by
                  have h6 := hrq.at hltq hz
                  rw [Nat.zero_add] at h6
                  rw [h6, hv]
                have z0 : wr.cell? ⟨gq, q * 5, none⟩ = some (.string (g.un i)) := hz 0 _ (by omega) rfl
                have z1 : wr.cell? ⟨gq, q * 5 + 1, none⟩ = some (.string (g.sn j)) := hz 1 _ (by omega) rfl
                have z2 : wr.cell? ⟨gq, q * 5 + 2, none⟩ = some (.string (pget (pcsOf g i j) q).1) := hz 2 _ (by omega) rfl
                have z3 : wr.cell? ⟨gq, q * 5 + 3, none⟩ = some (.int .i64 (pget (pcsOf g i j) q).2) := hz 3 _ (by omega) rfl
                have z4 : wr.cell? ⟨gq, q * 5 + 4, none⟩ = some (.int .i64 (wayG (g.uw i) (g.us i) (secW (pcsOf g i j)) (pcsOf g i j).length q)) := hz 4 _ (by omega) rfl
                have hevq : evG g i ++ evS g i j ++ evQ g i j (q + 1) = (evG g i ++ evS g i j ++ evQ g i j q) ++ [evP g i j q] := by rw [evQ, ← List.append_assoc]
                have HEVQ := Lib.hid hevq
                obtain ⟨Wc, hWc, hwb, hws, hwq⟩ := alloc_block wr #[.string (g.un i), .string (g.sn j), .string (pget (pcsOf g i j) q).1, .int .i64 (pget (pcsOf g i j) q).2, .int .i64 (wayG (g.uw i) (g.us i) (secW (pcsOf g i j)) (pcsOf g i j).length q)] 42
                obtain ⟨S5, hi5, hs5, hc5⟩ := Pr.told HKEEP.out HPQ.out hwb
                have DC := Lib.hid (HCALL.out _ S5 Wc (evP g i j q) hi5 hs5 hlt (ev_pre hlt hltj HEV.out hltq))
                unfold useAt useV evV evP at DC
                have HC5 := Lib.hid hc5
                have HWC := Lib.hid hWc
                have m0 := below_cell hwb (hk3.cell HL6.out v0)
                have m1 := below_cell hwb (hk3.cell HL6.out v1)
                have m2 := below_cell hwb (hk3.cell HL6.out v2)
                have m3 := below_cell hwb (hk3.cell HL6.out v3)
                have m4 := below_cell hwb (hk3.cell HL6.out v4)
                have n0 : Wc.cell? ⟨wr.heap.size, 0, none⟩ = some (.string (g.un i)) := block_cell hwq rfl
                have n1 : Wc.cell? ⟨wr.heap.size, 1, none⟩ = some (.string (g.sn j)) := block_cell hwq rfl
                have n2 : Wc.cell? ⟨wr.heap.size, 2, none⟩ = some (.string (pget (pcsOf g i j) q).1) := block_cell hwq rfl
                have n3 : Wc.cell? ⟨wr.heap.size, 3, none⟩ = some (.int .i64 (pget (pcsOf g i j) q).2) := block_cell hwq rfl
                have n4 : Wc.cell? ⟨wr.heap.size, 4, none⟩ = some (.int .i64 (wayG (g.uw i) (g.us i) (secW (pcsOf g i j)) (pcsOf g i j).length q)) := block_cell hwq rfl
                have hbgq : gq < wr.heap.size := (hrq.here (by omega)).elim fun b h => h.elim fun off h => by obtain ⟨h1, h2, _⟩ := h; injection h1 with h1; injection h1 with h1 _; omega
                have hcf := HCF.out
                clear hk3 hrq hz hevq hWc hwb hwq hi5 hs5 hc5
                go_upto_region 12 with (fail)
                rw [HWC.out]
                go_wp2_with fail
                refine DC.out.mono ?_
                rintro e w5 ⟨rfl, S6, g1, g2, g3, gk⟩
                have HPN := Lib.hid (HC5.out _ S6 w5 g1 g2 g3 gk)
                clear g1 g2 g3 gk hcf
                go_wp2_with fail
                go_roundw
                case rel => exact ⟨q + 1, by go_num, by omega, Lib.hid (by rw [HEVQ.out]; exact HPN.out)⟩
                case measure => simp [intOf]; omega
              · have t3 : decide ((q : Int) < ((pcsOf g i j).length : Int)) = false := by rw [decide_eq_false_iff_not]; omega
                have t3' : decide (q < (pcsOf g i j).length) = false := by simpa using hltq
                obtain rfl : q = (pcsOf g i j).length := by omega
                clear hltq
                go_wp2_with fail
                go_roundw
                case rel => exact ⟨j + 1, by go_num, by omega, Lib.hid (by rw [HEV.out, ← List.append_assoc]; exact HS4C.out _ _ HPQ.out)⟩
                case measure => simp [intOf]; omega
          · rw [show decide (g.sr j = g.ur i) = false by simpa using hrig] at hse
            have hne : ((g.sr j).toList != (g.ur i).toList) = true := by rw [bne, hse]; rfl
            have hev : evS g i (j + 1) = evS g i j := by rw [evS, if_neg hrig, List.append_nil]
            have HEV := Lib.hid hev
            clear hev hrig
            go_upto_region 8 with (fail)
            rw [HV2.out]
            go_wp2_with fail
            go_roundw
            case rel => exact ⟨j + 1, by go_num, by omega, Lib.hid (by rw [HEV.out]; exact Pr.below HKEEP.out HPJ.out HVB2.out)⟩
            case measure => simp [intOf]; omega
        · have t2 : decide ((j : Int) < (g.ns : Int)) = false := by rw [decide_eq_false_iff_not]; omega
          have t2' : decide (j < g.ns) = false := by simpa using hltj
          obtain rfl : j = g.ns := by omega
          clear hltj
          go_wp2_with fail
          go_roundw
          case rel => exact ⟨i + 1, by go_num, by omega, Lib.hid (by rw [evG]; exact HS2C.out _ _ HPJ.out)⟩
          case measure => simp [intOf]; omega
    · have t1 : decide ((i : Int) < (g.nu : Int)) = false := by rw [decide_eq_false_iff_not]; omega
      have t1' : decide (i < g.nu) = false := by simpa using hlt
      obtain rfl : i = g.nu := by omega
      clear hlt
      go_wp2_with fail
      go_end0
      exact ⟨rfl, HS1C.out _ _ HP.out⟩
end Go.Proofs.Ytbkpoepacjinlaa
