/- Several texts of this claim in one. -/
import Derived.Test.YtbkpoepacjinlaaLu
import Derived.Laws.OwnMore
import Derived.Test.YtbkpoepacjinlaaGu
import Derived.Test.YtbkpoepacjinlaaGr
import Derived.Laws.StructEq
import Derived.Test.YtbkpoepacjinlaaRows
import Derived.ProofKit
import Derived.OpenShut
import Derived.Lib.SmallJoins
import Derived.Carry
import Derived.ChangeMaps5
import Derived.WalkKit
/- Gear: piecesOf of the reference. -/
namespace Go.Proofs.Ytbkpoepacjinlaa
open Go.RowKit Go.BigFrame
open Gar (mountsK)

def lookS (a : Int) (st : ByteArray × Int) (m : Pcs.Mnt) : ByteArray × Int := if m.f ≤ a ∧ a < Pcs.en m then (m.p, min st.2 (Pcs.en m)) else if a < m.f then (st.1, min st.2 m.f) else st
theorem look_snoc (a : Int) (m : Pcs.Mnt) : ∀ (ms : List Pcs.Mnt) (st : ByteArray × Int), Pcs.look a (ms ++ [m]) st = lookS a (Pcs.look a ms st) m
  | [], _ => rfl
  | x :: ms, st => by
    rw [List.cons_append, Pcs.look, Pcs.look, look_snoc a m ms]
theorem look_step (g : Gar) (slot : ByteArray) (a : Int) (st : ByteArray × Int) (k : Nat) : Pcs.look a (mountsK g slot (k + 1)) st = if g.ms k = slot then lookS a (Pcs.look a (mountsK g slot k) st) (g.mnt k) else Pcs.look a (mountsK g slot k) st := by
  rw [mountsK]
  split
  · exact look_snoc a _ _ _
  · rfl
theorem rp_next {last a : Int} {ms : List Pcs.Mnt} (h : a < last) : Pcs.rpieces last ms (last - a).toNat a = ((Pcs.look a ms (Pcs.em, last)).1, (Pcs.look a ms (Pcs.em, last)).2 - a) :: Pcs.rpieces last ms (last - (Pcs.look a ms (Pcs.em, last)).2).toNat (Pcs.look a ms (Pcs.em, last)).2 := by
  obtain ⟨n, hn⟩ : ∃ n, (last - a).toNat = n + 1 := ⟨(last - a).toNat - 1, by omega⟩
  have hg := Pcs.look_gt a ms (Pcs.em, last) h
  rw [hn, Pcs.rpieces, if_pos h]
  congr 1
  exact Pcs.rp_fuel _ _ _ (by omega) (by omega)
theorem isG_iff (g : Gar) (k : Nat) (a : Int) : isG (g.mf k) (g.mt k) a = true ↔ ((g.mnt k).f ≤ a ∧ a < Pcs.en (g.mnt k)) := by
  unfold isG
  rw [Bool.and_eq_true, decide_eq_true_eq, decide_eq_true_eq]
  rfl
set_option maxHeartbeats 8000000 in
set_option maxRecDepth 100000 in
theorem rpiecesOf_any (g : Gar) (a0 a1 a2 a3 : Option Addr) (c0 c1 c2 c3 : Nat) (un ur : ByteArray) (uf us uw : Int) (slot : ByteArray) (w : World) (h : GarIn w g a0 a1 a2 a3)
    (h0 : 0 ≤ uf) (h1 : uf ≤ 86399999999) (h2 : 1 ≤ us) (h3 : us ≤ 1000000) (h4 : 0 ≤ uw) (h5 : uw ≤ 1000000000) (hmf : ∀ k, k < g.nm → 0 ≤ g.mf k ∧ g.mf k ≤ 86399999999) (hmt : ∀ k, k < g.nm → g.mt k ≤ 86399999999) (ho : Pcs.Ord (g.mounts slot)) :
    Calls Try.prog 113 #[garV g a0 a1 a2 a3 c0 c1 c2 c3, useV un ur uf us uw, .string slot] w (PcsRet un slot (Pcs.pieces uf (uf + us) (g.mounts slot)) us uw w) := by
  have HG := Lib.hid h
  have HO := Lib.hid ho
  have HMF := Lib.hid hmf
  have HMT := Lib.hid hmt
  have hl2 := h.l2
  unfold garV useV
  obtain ⟨W0, hW0, hb0, hs0, hq0⟩ := allocs w [.cells #[.slice a0 g.np c0, .slice a1 g.ns c1, .slice a2 g.nm c2, .slice a3 g.nu c3] 27, .cells #[.string un, .string ur, .int .i64 uf, .int .i64 us, .int .i64 uw] 38]
  have hs0 : W0.heap.size = w.heap.size + 2 := hs0
  have f2 : W0.cell? ⟨w.heap.size, 2, none⟩ = some (.slice a2 g.nm c2) := block_cell (hq0 0 _ rfl) rfl
  have v0 : W0.cell? ⟨w.heap.size + 1, 0, none⟩ = some (.string un) := block_cell (hq0 1 _ rfl) rfl
  have v2 : W0.cell? ⟨w.heap.size + 1, 2, none⟩ = some (.int .i64 uf) := block_cell (hq0 1 _ rfl) rfl
  have v3 : W0.cell? ⟨w.heap.size + 1, 3, none⟩ = some (.int .i64 us) := block_cell (hq0 1 _ rfl) rfl
  have v4 : W0.cell? ⟨w.heap.size + 1, 4, none⟩ = some (.int .i64 uw) := block_cell (hq0 1 _ rfl) rfl
  have HW0 := Lib.hid (show (w.alloc (.cells #[.slice a0 g.np c0, .slice a1 g.ns c1, .slice a2 g.nm c2, .slice a3 g.nu c3] 27)).alloc (.cells #[.string un, .string ur, .int .i64 uf, .int .i64 us, .int .i64 uw] 38) = W0 from hW0)
  have HB := Lib.hid hb0
  obtain ⟨B0, hB0⟩ : ∃ B, W0.heap.size = B := ⟨_, rfl⟩
  have hbs : w.heap.size ≤ B0 := by omega
  have hws : w.heap.size ≤ W0.heap.size := by omega
  have HBE := Lib.hid hB0
  obtain ⟨ms, hms⟩ : ∃ ms, g.mounts slot = ms := ⟨_, rfl⟩
  have HMS : Hid (mountsK g slot g.nm = ms) := Lib.hid hms
  rw [hms] at HO ⊢
  obtain ⟨i0, hi0, hz0, hz1, hz2⟩ := info_parts (show (Try.prog.info? 42).map (fun i => (i.zero, i.size, i.bytes)) = some (some (.agg #[.string ⟨#[]⟩, .string ⟨#[]⟩, .string ⟨#[]⟩, .int .i64 0, .int .i64 0]), 5, 64) by kernel_rfl)
  have HI0 := Lib.hid hi0
  have HZ0 := Lib.hid hz0
  have HZ1 := Lib.hid hz1
  have HZ2 := Lib.hid hz2
  have HU := Lib.hid (show Try.prog.underlying 34 = some (.slice 42) by kernel_rfl)
  have nnil : ∀ b : Nat, ¬ (Value.slice none 0 0).ownBlock = some b := fun b => by simp [Value.ownBlock]
  have hst : OwnR W0 W0 B0 42 5 (.slice none 0 0) (.slice none 0 0) ([] : List Pcs.Pc).length (pcells un slot []) := OwnR.start (World.ownsRow_nil _ _ _ _)
  have HST := Lib.hid hst
  clear h ho hmf hmt hW0 hb0 hq0 hms hi0 hz0 hz1 hz2 hst hB0
  go_enter Try.func113, Try.ntmps113
  go_upto_region 1 with (fail)
  rw [HW0.out]
  go_wp2_with fail
  go_loopw [7, 8] (fun lv av wr => ∃ (a : Int) (done : List Pcs.Pc), av = .int .i64 a ∧ uf ≤ a ∧ a ≤ uf + us ∧ (done.length : Int) ≤ a - uf ∧ Hid (OwnR W0 wr B0 42 5 (.slice none 0 0) lv done.length (pcells un slot done)) ∧ Hid (Pcs.rpieces (uf + us) ms us.toNat uf = done ++ Pcs.rpieces (uf + us) ms (uf + us - a).toNat a)) (fun _ av _ => (uf + us - intOf av).toNat)
  case atStart => exact ⟨uf, [], rfl, by omega, by omega, by simp, HST, Lib.hid (by rw [show uf + us - uf = us by omega]; rfl)⟩
  case round =>
    obtain ⟨a, done, rfl, ha0, ha1, hdl, HR, HE⟩ := hrel
    have HDN := Lib.hid (HR.out.down HB.out hws hbs (World.ownsRow_nil _ _ _ _))
    have g2 := HR.out.cell (nnil _) f2
    have u0 := HR.out.cell (nnil _) v0
    have u2 := HR.out.cell (nnil _) v2
    have u3 := HR.out.cell (nnil _) v3
    have u4 := HR.out.cell (nnil _) v4
    by_cases hlt : a < uf + us
    · have t1 : decide (a < uf + us) = true := by simpa using hlt
      have hgt := Pcs.look_gt a ms (Pcs.em, uf + us) hlt
      have hle := Pcs.look_mono a ms (Pcs.em, uf + us)
      have he := HE.out
      rw [rp_next hlt] at he
      have HE2 := Lib.hid he
      have G2 := Ext.ex g2
      have U0 := Ext.ex u0
      have U2 := Ext.ex u2
      have U3 := Ext.ex u3
      have DC := Lib.hid (fun (k : Nat) (W : World) => covers_any (g.ms k) (g.mp k) (g.mf k) (g.mt k) a W)
      have DE := Lib.hid (fun (k : Nat) (W : World) => rend_any (g.ms k) (g.mp k) (g.mf k) (g.mt k) W)
      unfold mountV at DC DE
      clear he HE
      go_upto_region 4 with (fail)
      refine ext_wp fun Y0 => ?_
      refine wp_region_ext (W := wr) _ (by kernel_rfl) (by kernel_rfl) ?_
      repeat go_big_quiet_step (fail)
      refine wpQuiet_nil ?_
      intro _ hw'
      obtain ⟨Y, rfl⟩ := hw'
      go_wp2_with fail
      have hlen2 : done.length ≤ 1000000 := by omega
      go_loopw [9, 10, 35] (fun pv nv iv wr2 => ∃ (k : Nat), pv = .string (Pcs.look a (mountsK g slot k) (Pcs.em, uf + us)).1 ∧ nv = .int .i64 (Pcs.look a (mountsK g slot k) (Pcs.em, uf + us)).2 ∧ iv = .int .i64 k ∧ k ≤ g.nm ∧ ∃ X : Ext wr, wr2 = X.1) (fun _ _ iv _ => g.nm - (intOf iv).toNat)
      case atStart => exact ⟨0, rfl, rfl, rfl, by omega, Y, rfl⟩
      case round =>
        obtain ⟨k, rfl, rfl, rfl, hk, X, rfl⟩ := hrel
        by_cases hltk : k < g.nm
        · have t2 : decide ((k : Int) < (g.nm : Int)) = true := by rw [decide_eq_true_eq]; omega
          obtain ⟨b, off, rfl, hbl, hcc⟩ := (HG.out.r2.below (X.down HDN.out HDN.out.size) (Nat.le_refl _)).here (by omega)
          have e0 : X.1.cell? ⟨b, off + k * 4, none⟩ = some (.string (g.ms k)) := hcc k hltk 0 (by omega)
          have e1 : X.1.cell? ⟨b, off + k * 4 + 1, none⟩ = some (.string (g.mp k)) := hcc k hltk 1 (by omega)
          have e2 : X.1.cell? ⟨b, off + k * 4 + 2, none⟩ = some (.int .i64 (g.mf k)) := hcc k hltk 2 (by omega)
          have e3 : X.1.cell? ⟨b, off + k * 4 + 3, none⟩ = some (.int .i64 (g.mt k)) := hcc k hltk 3 (by omega)
          obtain ⟨V1, hV1, hvb, hvs, hvl⟩ := alloc_cells X.1 #[.string (g.ms k), .string (g.mp k), .int .i64 (g.mf k), .int .i64 (g.mt k)] 54
          have M0 := Ext.ex (hvl 0 _ rfl)
          have M1 := Ext.ex (hvl 1 _ rfl)
          have M2 := Ext.ex (hvl 2 _ rfl)
          have M3 := Ext.ex (hvl 3 _ rfl)
          have HWV := Lib.hid (X.2.trans (hvb.mono X.2.size))
          have HV1 := Lib.hid hV1
          have HL := Lib.hid (look_step g slot a (Pcs.em, uf + us) k)
          have hmf := HMF.out k hltk
          have hmt := HMT.out k hltk
          have hse := str_eq (g.ms k) slot
          have hlm := Pcs.look_mono a (mountsK g slot k) (Pcs.em, uf + us)
          have hlg := Pcs.look_gt a (mountsK g slot k) (Pcs.em, uf + us) hlt
          have DC1 := Lib.hid (DC.out k)
          have DE1 := Lib.hid (DE.out k)
          have hgi := isG_iff g k a
          have hen : Pcs.en (g.mnt k) = Gar.endG (g.mt k) := rfl
          have hfe : (g.mnt k).f = g.mf k := rfl
          have hpe : (g.mnt k).p = g.mp k := rfl
          have hege : -9223372036854775808 ≤ Gar.endG (g.mt k) ∧ Gar.endG (g.mt k) ≤ 9223372036854775807 := by unfold Gar.endG; split <;> omega
          unfold lookS at HL
          rw [hen, hfe, hpe] at HL
          rw [hen, hfe] at hgi
          obtain ⟨st, hstt⟩ : ∃ st, Pcs.look a (mountsK g slot k) (Pcs.em, uf + us) = st := ⟨_, rfl⟩
          rw [hstt] at HL hlm hlg ⊢
          obtain ⟨pp, nn⟩ := st
          generalize Gar.endG (g.mt k) = en at HL DE1 hege hgi
          have hnn : a < nn ∧ nn ≤ uf + us := ⟨hlg, hlm⟩
          obtain ⟨p6, hp6⟩ : ∃ p6, X.1.heap.size = p6 := ⟨_, rfl⟩
          rw [hp6] at M0 M1 M2 M3
          have HP6 := Lib.hid hp6
          clear hcc hV1 hvb hvs hvl hp6 hstt hen hfe hpe hlm hlg
          by_cases hss : g.ms k = slot
          · rw [if_pos hss] at HL
            rw [show decide (g.ms k = slot) = true by simpa using hss] at hse
            have hne : ((g.ms k).toList != slot.toList) = false := by rw [bne, hse]; rfl
            clear hss
            cases hcv : isG (g.mf k) (g.mt k) a
            · rw [hcv] at DC1
              rw [if_neg (fun h => by have := hgi.2 h; rw [hcv] at this; cases this)] at HL
              clear hcv hgi
              by_cases hfa : a < g.mf k
              · rw [if_pos hfa] at HL
                have t5 : decide (a < g.mf k) = true := by simpa using hfa
                go_upto_region 8 with (fail)
                rw [HV1.out, HP6.out]
                refine ext_wp fun X1 => ?_
                clear e0 e1 e2 e3 hbl HP6 HV1 X
                go_wp2_with fail
                refine (Ext.calls _ (DC1.out _)).mono ?_
                rintro e w2 ⟨rfl, Y1, rfl⟩
                go_wp2_with fail
                go_roundw
                case rel => exact ⟨k + 1, by rw [HL.out], by rw [HL.out], by go_num, by omega, Ext.rise HWV.out Y1⟩
                case measure => simp [intOf]; omega
              · rw [if_neg hfa] at HL
                have t5 : decide (a < g.mf k) = false := by simpa using hfa
                go_upto_region 8 with (fail)
                rw [HV1.out, HP6.out]
                refine ext_wp fun X1 => ?_
                clear e0 e1 e2 e3 hbl HP6 HV1 X
                go_wp2_with fail
                refine (Ext.calls _ (DC1.out _)).mono ?_
                rintro e w2 ⟨rfl, Y1, rfl⟩
                go_wp2_with fail
                go_roundw
                case rel => exact ⟨k + 1, by rw [HL.out], by rw [HL.out], by go_num, by omega, Ext.rise HWV.out Y1⟩
                case measure => simp [intOf]; omega
            · rw [hcv] at DC1
              rw [if_pos (hgi.1 hcv)] at HL
              clear hcv hgi
              go_upto_region 8 with (fail)
              rw [HV1.out, HP6.out]
              refine ext_wp fun X1 => ?_
              clear e0 e1 e2 e3 hbl HP6 HV1 X
              go_wp2_with fail
              refine (Ext.calls _ (DC1.out _)).mono ?_
              rintro e w2 ⟨rfl, Y1, rfl⟩
              go_wp2_with fail
              refine (Ext.calls _ (DE1.out _)).mono ?_
              rintro e w2 ⟨rfl, Y2, rfl⟩
              go_wp2_with fail
              go_roundw
              case rel => exact ⟨k + 1, by rw [HL.out], by rw [HL.out], by go_num, by omega, Ext.rise HWV.out Y2⟩
              case measure => simp [intOf]; omega
          · rw [if_neg hss] at HL
            rw [show decide (g.ms k = slot) = false by simpa using hss] at hse
            have hne : ((g.ms k).toList != slot.toList) = true := by rw [bne, hse]; rfl
            clear hss hgi
            go_upto_region 8 with (fail)
            rw [HV1.out, HP6.out]
            refine ext_wp fun X1 => ?_
            clear e0 e1 e2 e3 hbl HP6 HV1 X
            go_wp2_with fail
            go_roundw
            case rel => exact ⟨k + 1, by rw [HL.out], by rw [HL.out], by go_num, by omega, Ext.rise HWV.out X1⟩
            case measure => simp [intOf]; omega
        · have t2 : decide ((k : Int) < (g.nm : Int)) = false := by rw [decide_eq_false_iff_not]; omega
          have t2' : decide (k < g.nm) = false := by simpa using hltk
          obtain rfl : k = g.nm := by omega
          clear hltk
          rw [HMS.out]
          obtain ⟨st, hstt⟩ : ∃ st, Pcs.look a ms (Pcs.em, uf + us) = st := ⟨_, rfl⟩
          rw [hstt] at HE2 hgt hle ⊢
          obtain ⟨pp, nn⟩ := st
          have hnn : a < nn ∧ nn ≤ uf + us := ⟨hgt, hle⟩
          have HOW := Lib.hid (ownsRow_below HR.out.own X.2)
          have hxs : B0 ≤ X.1.heap.size := by have h1 := X.2.size; have h2 := HR.out.kept.size; have h3 := HBE.out; omega
          clear hstt hgt hle
          go_wp2_with (at_builtin; refine wpList_append_where _ rfl (.tmp 61) (.tmp 70) 34 rfl B0 42 i0 (.agg #[.string ⟨#[]⟩, .string ⟨#[]⟩, .string ⟨#[]⟩, .int .i64 0, .int .i64 0]) 5 64 HU.out HI0.out HZ0.out HZ1.out HZ2.out rfl (by decide) _ _ _ rfl (HOW.out.alloc _) ⟨X.1.heap.size, 0, none⟩ 1 1 (pcell un slot (pp, nn - a)) rfl (by decide) rfl ?c1 ?c2 ?c3 ?c4 ?c5 ?_)
          case c1 =>
            intro jj u hu
            first
              | (rw [addr_add0, World.cell?_alloc_at _ _ _ _ rfl]; simpa [pcell] using hu)
              | simpa [pcell] using hu
          case c2 =>
            intro u hu
            simp only [pcell, List.mem_cons, List.not_mem_nil, or_false] at hu
            rcases hu with rfl | rfl | rfl | rfl | rfl <;> rfl
          case c3 => unfold maxLen; omega
          case c4 => omega
          case c5 => first | (simp; omega) | omega
          intro v5 w5 hown5 hg5 hwh5
          have HN := Lib.hid (HR.out.append (X.2.trans ((below_al X.1 _).mono X.2.size)) hown5 hg5 (by rcases hwh5 with h | h; exact Or.inl h; exact Or.inr (by rw [h]; simp)))
          clear hown5 hg5 hwh5
          go_wp2_with fail
          go_roundw
          case rel =>
            refine ⟨nn, done ++ [(pp, nn - a)], rfl, by omega, by omega, by rw [List.length_append]; simp; omega, Lib.hid ?_, Lib.hid ?_⟩
            · rw [List.length_append, pcells_snoc]
              exact HN.out
            · rw [HE2.out, List.append_assoc]
              rfl
          case measure => simp [intOf]; omega
    · have t1 : decide (a < uf + us) = false := by simpa using hlt
      obtain rfl : a = uf + us := by omega
      have he := HE.out
      rw [show (uf + us - (uf + us)).toNat = 0 by omega, Pcs.rpieces, List.append_nil, Pcs.pieces_eq HO.out (n := us.toNat) (by omega)] at he
      have HPC := Lib.hid he
      have hgd : Good done us := by rw [← he]; exact good_pieces HO.out h2
      have hn0 := hgd.ne h2
      have hn1 := hgd.len
      have HFI := Lib.hid (hgd.fine h2 h3 h4 h5)
      obtain ⟨gq, cap, hvv, hg1, hg2⟩ := HR.out.own.form hn0
      have HOW := Lib.hid HR.out.own
      subst hvv
      obtain ⟨B2, hBB⟩ : ∃ B2, wr.heap.size = B2 := ⟨_, rfl⟩
      have hB2 : B0 ≤ B2 := by rw [← hBB]; have h1 := HR.out.kept.size; have h3 := HBE.out; omega
      rw [hBB] at hg2
      have HBB := Lib.hid hBB
      have O4 : ∀ Z : ExtO (fun b => B2 ≤ b) wr, Z.1.cell? ⟨w.heap.size + 1, 4, none⟩ = some (.int .i64 uw) := ExtO.ex (by show ¬ B2 ≤ w.heap.size + 1; have h3 := HBE.out; omega) u4
      obtain ⟨i1, hi1, hy0, hy1, hy2⟩ := info_parts (show (Try.prog.info? 3).map (fun i => (i.zero, i.size, i.bytes)) = some (some (.int .i64 0), 1, 8) by kernel_rfl)
      have HI1 := Lib.hid hi1
      have HY0 := Lib.hid hy0
      have HY1 := Lib.hid hy1
      have HY2 := Lib.hid hy2
      have HUI := Lib.hid (show Try.prog.underlying 131 = some (.slice 3) by kernel_rfl)
      clear he hgd hBB hi1 hy0 hy1 hy2 HE HR hlt u4 u0 g2 hdl ha0 ha1
      go_wp2_with fail
      go_loopw [13, 75] (fun sv iv wr2 => ∃ (k : Nat), iv = .int .i64 k ∧ k ≤ done.length ∧ Hid (wr2.ownsRow B2 3 1 sv k ((List.range k).map fun i => .int .i64 (secW done i))) ∧ Hid (∃ Z : ExtO (fun b => B2 ≤ b) wr, wr2 = Z.1)) (fun _ iv _ => done.length - (intOf iv).toNat)
      case atStart => exact ⟨0, rfl, by omega, Lib.hid (World.ownsRow_nil _ _ _ _), Lib.hid ⟨⟨wr, Kept.refl _ _⟩, rfl⟩⟩
      case round =>
        obtain ⟨k, rfl, hk, HS, HZE⟩ := hrel
        obtain ⟨Z, rfl⟩ := HZE.out
        by_cases hlt : k < done.length
        · have t1 : decide ((k : Int) < (done.length : Int)) = true := by rw [decide_eq_true_eq]; omega
          have t1' : decide (k < done.length) = true := by simpa using hlt
          have hcell : ∀ j v, j < 5 → (pcell un slot (pget done k))[j]? = some v → Z.1.cell? ⟨gq, k * 5 + j, none⟩ = some v := fun j v hj hv => by
            have h6 := HOW.out.cells (g := gq) rfl (k * 5 + j) v (by rw [← hv]; exact flat5 (fun q => rfl) done k j hlt hj)
            rw [addr_add0] at h6
            exact Z.2.cell (by show ¬ B2 ≤ gq; omega) h6
          have e0 : Z.1.cell? ⟨gq, k * 5, none⟩ = some (.string un) := hcell 0 _ (by omega) rfl
          have e1 : Z.1.cell? ⟨gq, k * 5 + 1, none⟩ = some (.string slot) := hcell 1 _ (by omega) rfl
          have e2 : Z.1.cell? ⟨gq, k * 5 + 2, none⟩ = some (.string (pget done k).1) := hcell 2 _ (by omega) rfl
          have e3 : Z.1.cell? ⟨gq, k * 5 + 3, none⟩ = some (.int .i64 (pget done k).2) := hcell 3 _ (by omega) rfl
          have e4 : Z.1.cell? ⟨gq, k * 5 + 4, none⟩ = some (.int .i64 0) := hcell 4 _ (by omega) rfl
          have hzs : B2 ≤ Z.1.heap.size := Nat.le_trans (Nat.le_of_eq HBB.out.symm) Z.2.size
          clear hcell
          go_wp2_with (at_builtin; refine wpList_append_own _ rfl (.tmp 79) (.tmp 82) 131 rfl B2 3 i1 (.int .i64 0) 1 8 HUI.out HI1.out HY0.out HY1.out HY2.out rfl (by decide) _ k _ rfl ((HS.out.alloc _).alloc _) ⟨Z.1.heap.size + 1, 0, none⟩ 1 1 [.int .i64 (pget done k).2] rfl rfl ?c1 ?c2 ?c3 ?c4 ?c5 ?_)
          case c1 =>
            intro j u hu
            rw [addr_add0, World.cell?_alloc_at _ _ _ _ (by simp)]
            simpa using hu
          case c2 =>
            intro u hu
            simp only [List.mem_singleton] at hu
            rw [hu]
            rfl
          case c3 => unfold maxLen; omega
          case c4 => omega
          case c5 => simp; omega
          intro v5 w5 hown5 hg5 _
          have HS2 : Hid (w5.ownsRow B2 3 1 v5 (k + 1) ((List.range (k + 1)).map fun i => .int .i64 (secW done i))) := Lib.hid (by
            rw [List.range_succ, List.map_append]
            exact hown5)
          have HZ2 : Hid (∃ Z : ExtO (fun b => B2 ≤ b) wr, w5 = Z.1) := Lib.hid ⟨⟨w5, (Z.2.trans (Kept.of_below (below_tr (below_al Z.1 _) (by simp) (below_al _ _)))).grown hg5 (fun q hq _ => (HS.out.lt q hq).1)⟩, rfl⟩
          clear hown5 hg5 HS HZE
          go_wp2_with fail
          go_roundw
          case rel => exact ⟨k + 1, by go_num, by omega, HS2, HZ2⟩
          case measure => simp [intOf]; omega
        · have t1 : decide ((k : Int) < (done.length : Int)) = false := by rw [decide_eq_false_iff_not]; omega
          have t1' : decide (k < done.length) = false := by simpa using hlt
          obtain rfl : k = done.length := by omega
          have hoz : Z.1.ownsRow B0 42 5 (.slice (some ⟨gq, 0, none⟩) done.length cap) done.length (pcells un slot done) := HOW.out.kept (row := none) ⟨Z.2.os, Z.2.tape, Z.2.output, Z.2.size, fun q hq _ => Z.2.block q hq (by show ¬ B2 ≤ q; have := HBB.out; omega)⟩ (Or.inr (by simp [Value.ownBlock]))
          have hbz := HBB.out
          have hdz := HDN.out.size
          have hwz : Below w.heap.size w Z.1 := Kept.below HDN.out Z.2 HDN.out.size (fun k hk => by show ¬ B2 ≤ k; omega)
          have hzs : B2 ≤ Z.1.heap.size := Nat.le_trans (Nat.le_of_eq HBB.out.symm) Z.2.size
          obtain ⟨g2, cap2, hv2, hg3, hg4⟩ := HS.out.form hn0
          have hrow : Row1 Z.1 (some ⟨g2, 0, none⟩) done.length (secW done) := ⟨fun _ => ⟨g2, 0, rfl, hg4, fun i hi => by
            have h6 := HS.out
            rw [hv2] at h6
            have h7 := h6.cells (g := g2) rfl i (.int .i64 (secW done i)) (by simp [hi])
            rw [addr_add0] at h7
            rw [Nat.zero_add]
            exact h7⟩⟩
          have HOZ := Lib.hid hoz
          have HWZ := Lib.hid hwz
          have DP := Lib.hid (rparts_any uw us (some ⟨g2, 0, none⟩) done.length cap2 (secW done) Z.1 hrow HFI.out)
          subst hv2
          clear hoz hwz hrow HS HZE hlt
          go_wp2_with fail
          refine DP.out.mono ?_
          rintro e w6 ⟨lo, g5, hord, rfl, hrf, hg6, hb6⟩
          have ho6 := ownsRow_below HOZ.out hb6
          have hrw : RowF w6 g5 done.length (wayG uw us (secW done) done.length) := hrf.ext (fun i _ => wayG_of hord i)
          have hg56 : gq ≠ g5 := by omega
          have HW6 := Lib.hid (HWZ.out.trans (hb6.mono HWZ.out.size))
          have hs6 : w.heap.size ≤ w6.heap.size := HW6.out.size
          have hinit : ∀ i, i < done.length → ∀ j, j < 5 → (pcells un slot done)[i * 5 + j]? = (pcellW un slot (pget done i) (if i < 0 then wayG uw us (secW done) done.length i else 0))[j]? := fun i hi j hj => by
            rw [if_neg (by omega)]
            exact flat5 (fun q => rfl) done i j hi hj
          have HINI := Lib.hid hinit
          have HP6 := Lib.hid ho6
          have HRW := Lib.hid hrw
          obtain ⟨wy, hwy⟩ : ∃ wy, wayG uw us (secW done) done.length = wy := ⟨_, rfl⟩
          rw [hwy] at HINI HRW
          have HWY := Lib.hid hwy
          clear hwy ho6 hrw hord hrf hg6 hb6 HOZ HWZ HFI HBB DP hinit O4
          go_wp2_with fail
          go_loopw [90] (fun iv wr2 => ∃ (k : Nat), iv = .int .i64 k ∧ k ≤ done.length ∧ Hid (∃ xs, wr2.ownsRow B0 42 5 (.slice (some ⟨gq, 0, none⟩) done.length cap) done.length xs ∧ ∀ i, i < done.length → ∀ j, j < 5 → xs[i * 5 + j]? = (pcellW un slot (pget done i) (if i < k then wy i else 0))[j]?) ∧ Hid (∃ Z : ExtO (fun b => b = gq) w6, wr2 = Z.1)) (fun iv _ => done.length - (intOf iv).toNat)
          case atStart => exact ⟨0, rfl, by omega, Lib.hid ⟨_, HP6.out, HINI.out⟩, Lib.hid ⟨⟨w6, Kept.refl _ _⟩, rfl⟩⟩
          case round =>
            obtain ⟨k, rfl, hk, HS, HZE⟩ := hrel
            obtain ⟨Z6, rfl⟩ := HZE.out
            obtain ⟨xs, hx1, hx2⟩ := HS.out
            have HX1 := Lib.hid hx1
            have HX2 := Lib.hid hx2
            clear hx1 hx2 HS HZE
            by_cases hlt : k < done.length
            · have t1 : decide ((k : Int) < (done.length : Int)) = true := by rw [decide_eq_true_eq]; omega
              have t1' : decide (k < done.length) = true := by simpa using hlt
              have e5 : Z6.1.cell? ⟨g5, k, none⟩ = some (.int .i64 (wy k)) := Z6.2.cell (by show ¬ g5 = gq; omega) (HRW.out.cell hlt)
              have e6 : Z6.1.cell? ⟨gq, k * 5 + 4, none⟩ = some (.int .i64 0) := by
                have h6 := HX1.out.cells (g := gq) rfl (k * 5 + 4) (.int .i64 0) (by rw [HX2.out k hlt 4 (by omega), if_neg (by omega)]; rfl)
                rwa [addr_add0] at h6
              have f6 : Z6.1.frozen? ⟨gq, k * 5 + 4, none⟩ = false := World.ownsRow.frozenAt HX1.out (k * 5 + 4)
              obtain ⟨hs1, hs2⟩ := HX1.out.stored (k * 5 + 4) (.int .i64 (wy k))
              have HS2 := Lib.hid hs1
              have HZ7 : Hid (∃ Y : ExtO (fun b => b = gq) w6, Z6.1.setCell ⟨gq, k * 5 + 4, none⟩ (.int .i64 (wy k)) = Y.1) := Lib.hid ⟨⟨_, Z6.2.grown hs2 (fun q hq _ => by injection hq with hq; exact hq.symm)⟩, rfl⟩
              clear hs1 hs2
              go_wp2_with fail
              go_roundw
              case rel =>
                refine ⟨k + 1, by go_num, by omega, Lib.hid ⟨_, HS2.out, fun i hi j hj => ?_⟩, HZ7⟩
                have hlx : xs.length = done.length * 5 := HX1.out.1
                rw [List.getElem?_set]
                by_cases e : k * 5 + 4 = i * 5 + j
                · obtain rfl : i = k := by omega
                  obtain rfl : j = 4 := by omega
                  rw [if_pos rfl, if_pos (by omega), if_pos (by omega)]
                  rfl
                · rw [if_neg e, HX2.out i hi j hj]
                  by_cases e2 : i = k
                  · subst e2
                    exact pcellW_low _ _ _ _ _ (by omega)
                  · by_cases e3 : i < k
                    · rw [if_pos e3, if_pos (by omega)]
                    · rw [if_neg e3, if_neg (by omega)]
              case measure => simp [intOf]; omega
            · have t1 : decide ((k : Int) < (done.length : Int)) = false := by rw [decide_eq_false_iff_not]; omega
              have t1' : decide (k < done.length) = false := by simpa using hlt
              obtain rfl : k = done.length := by omega
              clear hlt
              go_wp2_with fail
              go_ret
              rw [HPC.out]
              refine ⟨gq, cap, rfl, by omega, ⟨fun _ => ⟨gq, 0, rfl, (HX1.out.lt gq rfl).2, fun i hi j hj => ?_⟩⟩, Kept.below HW6.out Z6.2 hs6 (fun q hq => by omega)⟩
              obtain ⟨u, hu⟩ := pcellW_some un slot (pget done i) (wy i) hj
              have h6 := HX1.out.cells (g := gq) rfl (i * 5 + j) u (by rw [HX2.out i hi j hj, if_pos hi, hu])
              rw [addr_add0] at h6
              rw [Nat.zero_add, HWY.out, hu]
              exact h6
end Go.Proofs.Ytbkpoepacjinlaa

/- Gear: pieces and Pieces of the reference. -/
namespace Go.Proofs.Ytbkpoepacjinlaa
open Go.RowKit Go.BigFrame
open Gar (chk mountsK)

theorem wpList_append_none {P : Program} (w : World) {ops : Array Oper} {rest : List Oper} {o : Oper} {a : Act} {Q : Exit → Act → World → Prop} (hgd : o.guard = none) (s x : Operand) (t : TypeId)
    (ho : o.op = .call { callee := .builtin .append, args := #[s, x], argTypes := #[t, t] })
    (base : Nat) (e : TypeId) (i : TypeInfo) (size : Nat) (ht : P.underlying t = some (.slice e)) (hi : P.info? e = some i)
    (v : Value) (n : Nat) (xs : List Value) (hs : a.eval s = v) (hown : w.ownsRow base e size v n xs) (hx : a.eval x = .slice none 0 0)
    (h : wpList P ops Q rest (a.put o.dst v) w) : wpList P ops Q (o :: rest) a w := by
  refine wpList_plain hgd fun K hK => ?_
  have hr := run_append_owned_none (P := P) (w := w) base t o.type e i size ht hi v n xs hown
  unfold Oper.wp execOp
  simp only [ho, resolve, invoke, builtin, Sem.run_bind, Sem.run_pure, Result.andThen_ok, List.map_toArray, List.map_cons, List.map_nil, hs, hx, hr]
  exact hK _ _ h
theorem evQ_cells (g : Gar) (i j : Nat) : ∀ n, evCs g (evQ g i j n) = (List.range n).flatMap fun q => pcellW (g.un i) (g.sn j) (pget (pcsOf g i j) q) (wayG (g.uw i) (g.us i) (secW (pcsOf g i j)) (pcsOf g i j).length q)
  | 0 => rfl
  | n + 1 => by
    rw [evQ, List.range_succ, List.flatMap_append, ← evQ_cells g i j n]
    unfold evCs
    rw [List.flatMap_append]
    rfl
theorem evCs_len (g : Gar) (l : List Ev) : (evCs g l).length = l.length * 5 := by
  unfold evCs
  induction l with
  | nil => rfl
  | cons e l ih => rw [List.flatMap_cons, List.length_append, ih, List.length_cons, Nat.succ_mul]; show 5 + _ = _; omega
theorem evCs_one (g : Gar) (l : List Ev) : ∀ u ∈ evCs g l, u.oneCell' = true := by
  intro u hu
  unfold evCs at hu
  obtain ⟨e, _, he⟩ := List.mem_flatMap.1 hu
  simp only [evC, List.mem_cons, List.not_mem_nil, or_false] at he
  rcases he with rfl | rfl | rfl | rfl | rfl <;> rfl
theorem evCs_app (g : Gar) (a b : List Ev) : evCs g (a ++ b) = evCs g a ++ evCs g b := List.flatMap_append
theorem use_hyp {g : Gar} (h : chk g = 0) {i : Nat} (hi : i < g.nu) : 0 ≤ g.uf i ∧ g.uf i ≤ 86399999999 ∧ 1 ≤ g.us i ∧ g.us i ≤ 1000000 ∧ 0 ≤ g.uw i ∧ g.uw i ≤ 1000000000 := by
  have := Gar.use_right (Gar.chk_parts h).2.2.2.2.2.2.2.2 hi
  omega
theorem mnt_hyp {g : Gar} (h : chk g = 0) : (∀ k, k < g.nm → 0 ≤ g.mf k ∧ g.mf k ≤ 86399999999) ∧ (∀ k, k < g.nm → g.mt k ≤ 86399999999) := by
  have hm := (Gar.chk_parts h).2.2.2.2.2.2.1
  refine ⟨fun k hk => ?_, fun k hk => ?_⟩
  · have := Gar.mt_cases hm k hk
    omega
  · obtain ⟨_, ⟨_, h2⟩, _⟩ := Gar.chkM_each g.nm 0 hm k (Nat.zero_le _) (by omega)
    simp [Gar.momG] at h2
    omega
set_option maxHeartbeats 4000000 in
set_option maxRecDepth 100000 in
theorem rpiecesU_any (g : Gar) (a0 a1 a2 a3 : Option Addr) (c0 c1 c2 c3 : Nat) (i : Nat) (w : World) (h : GarIn w g a0 a1 a2 a3) (hchk : chk g = 0) (hi : i < g.nu) :
    Calls Try.prog 65 #[garV g a0 a1 a2 a3 c0 c1 c2 c3, useAt g i] w fun e w' => ∃ v base, w.heap.size ≤ base ∧ e = .returned v ∧ w'.ownsRow base 42 5 v (evS g i g.ns).length (evCs g (evS g i g.ns)) ∧ ((evS g i g.ns).length = 0 → v = .slice none 0 0) ∧ Below w.heap.size w w' := by
  have HG := Lib.hid h
  have HU := Lib.hid (use_hyp hchk hi)
  have HM := Lib.hid (mnt_hyp hchk)
  have hl1 := h.l1
  have hpt := Gar.chk_parts hchk
  have HORD := Lib.hid (fun j => Gar.ord_mounts hpt.2.2.2.2.2.2.1 hpt.2.2.2.2.2.2.2.1 (g.sn j) g.nm (Nat.le_refl _))
  have HGD := Lib.hid (fun j => pcs_good hchk hi j)
  have HSL := Lib.hid (fun j => evS_len hchk hi j)
  have hns := hpt.2.1
  unfold useAt useV
  obtain ⟨W0, hW0, hb0, hs0, hq0⟩ := allocs w [.cells #[.slice a0 g.np c0, .slice a1 g.ns c1, .slice a2 g.nm c2, .slice a3 g.nu c3] 27, .cells #[.string (g.un i), .string (g.ur i), .int .i64 (g.uf i), .int .i64 (g.us i), .int .i64 (g.uw i)] 38]
  have hs0 : W0.heap.size = w.heap.size + 2 := hs0
  have f0 : W0.cell? ⟨w.heap.size, 0, none⟩ = some (.slice a0 g.np c0) := block_cell (hq0 0 _ rfl) rfl
  have f1 : W0.cell? ⟨w.heap.size, 1, none⟩ = some (.slice a1 g.ns c1) := block_cell (hq0 0 _ rfl) rfl
  have f2 : W0.cell? ⟨w.heap.size, 2, none⟩ = some (.slice a2 g.nm c2) := block_cell (hq0 0 _ rfl) rfl
  have f3 : W0.cell? ⟨w.heap.size, 3, none⟩ = some (.slice a3 g.nu c3) := block_cell (hq0 0 _ rfl) rfl
  have v0 : W0.cell? ⟨w.heap.size + 1, 0, none⟩ = some (.string (g.un i)) := block_cell (hq0 1 _ rfl) rfl
  have v1 : W0.cell? ⟨w.heap.size + 1, 1, none⟩ = some (.string (g.ur i)) := block_cell (hq0 1 _ rfl) rfl
  have v2 : W0.cell? ⟨w.heap.size + 1, 2, none⟩ = some (.int .i64 (g.uf i)) := block_cell (hq0 1 _ rfl) rfl
  have v3 : W0.cell? ⟨w.heap.size + 1, 3, none⟩ = some (.int .i64 (g.us i)) := block_cell (hq0 1 _ rfl) rfl
  have v4 : W0.cell? ⟨w.heap.size + 1, 4, none⟩ = some (.int .i64 (g.uw i)) := block_cell (hq0 1 _ rfl) rfl
  have HW0 := Lib.hid (show (w.alloc (.cells #[.slice a0 g.np c0, .slice a1 g.ns c1, .slice a2 g.nm c2, .slice a3 g.nu c3] 27)).alloc (.cells #[.string (g.un i), .string (g.ur i), .int .i64 (g.uf i), .int .i64 (g.us i), .int .i64 (g.uw i)] 38) = W0 from hW0)
  have HB := Lib.hid hb0
  obtain ⟨B0, hB0⟩ : ∃ B, W0.heap.size = B := ⟨_, rfl⟩
  have hbs : w.heap.size ≤ B0 := by omega
  have hws : w.heap.size ≤ W0.heap.size := by omega
  have HBE := Lib.hid hB0
  have DP := Lib.hid (fun (j : Nat) (W : World) (hW : Below w.heap.size w W) => rpiecesOf_any g a0 a1 a2 a3 c0 c1 c2 c3 (g.un i) (g.ur i) (g.uf i) (g.us i) (g.uw i) (g.sn j) W (HG.out.below hW) HU.out.1 HU.out.2.1 HU.out.2.2.1 HU.out.2.2.2.1 HU.out.2.2.2.2.1 HU.out.2.2.2.2.2 HM.out.1 HM.out.2 (HORD.out j))
  unfold garV useV at DP
  unfold garV
  obtain ⟨i0, hi0, hz0, hz1, hz2⟩ := info_parts (show (Try.prog.info? 42).map (fun i => (i.zero, i.size, i.bytes)) = some (some (.agg #[.string ⟨#[]⟩, .string ⟨#[]⟩, .string ⟨#[]⟩, .int .i64 0, .int .i64 0]), 5, 64) by kernel_rfl)
  have HI0 := Lib.hid hi0
  have HZ0 := Lib.hid hz0
  have HZ1 := Lib.hid hz1
  have HZ2 := Lib.hid hz2
  have HUT := Lib.hid (show Try.prog.underlying 34 = some (.slice 42) by kernel_rfl)
  have nnil : ∀ b : Nat, ¬ (Value.slice none 0 0).ownBlock = some b := fun b => by simp [Value.ownBlock]
  have HST : Hid (OwnR W0 W0 B0 42 5 (.slice none 0 0) (.slice none 0 0) (evS g i 0).length (evCs g (evS g i 0))) := Lib.hid (OwnR.start (World.ownsRow_nil _ _ _ _))
  clear h hW0 hb0 hq0 hi0 hz0 hz1 hz2 hB0 hpt hchk
  go_enter Try.func65, Try.ntmps65
  go_upto_region 1 with (fail)
  rw [HW0.out]
  go_wp2_with fail
  go_loopw [5, 11] (fun lv iv wr => ∃ (j : Nat), iv = .int .i64 j ∧ j ≤ g.ns ∧ Hid (OwnR W0 wr B0 42 5 (.slice none 0 0) lv (evS g i j).length (evCs g (evS g i j))) ∧ Hid ((evS g i j).length = 0 → lv = .slice none 0 0)) (fun _ iv _ => g.ns - (intOf iv).toNat)
  case atStart => exact ⟨0, rfl, by omega, HST, Lib.hid (fun _ => rfl)⟩
  case round =>
    obtain ⟨j, rfl, hj, HR, HN⟩ := hrel
    have HDN := Lib.hid (HR.out.down HB.out hws hbs (World.ownsRow_nil _ _ _ _))
    have g0 := HR.out.cell (nnil _) f0
    have g1 := HR.out.cell (nnil _) f1
    have g2 := HR.out.cell (nnil _) f2
    have g3 := HR.out.cell (nnil _) f3
    have u0 := HR.out.cell (nnil _) v0
    have u1 := HR.out.cell (nnil _) v1
    have u2 := HR.out.cell (nnil _) v2
    have u3 := HR.out.cell (nnil _) v3
    have u4 := HR.out.cell (nnil _) v4
    by_cases hlt : j < g.ns
    · have t1 : decide ((j : Int) < (g.ns : Int)) = true := by rw [decide_eq_true_eq]; omega
      obtain ⟨b, off, rfl, hbl, hcc⟩ := (HG.out.r1.below HDN.out (Nat.le_refl _)).here (by omega)
      have e0 : wr.cell? ⟨b, off + j * 2, none⟩ = some (.string (g.sn j)) := hcc j hlt 0 (by omega)
      have e1 : wr.cell? ⟨b, off + j * 2 + 1, none⟩ = some (.string (g.sr j)) := hcc j hlt 1 (by omega)
      obtain ⟨V1, hV1, hvb, hvs, hvl⟩ := alloc_cells wr #[.string (g.sn j), .string (g.sr j)] 40
      have s0 := hvl 0 _ rfl
      have s1 := hvl 1 _ rfl
      have g0 := below_cell hvb g0
      have g1 := below_cell hvb g1
      have g2 := below_cell hvb g2
      have g3 := below_cell hvb g3
      have u0 := below_cell hvb u0
      have u1 := below_cell hvb u1
      have u2 := below_cell hvb u2
      have u3 := below_cell hvb u3
      have u4 := below_cell hvb u4
      have HVB := Lib.hid hvb
      have HV1 := Lib.hid hV1
      have hdz := HDN.out.size
      have HBV := Lib.hid (HDN.out.trans (hvb.mono hdz))
      have DP1 := Lib.hid (DP.out j V1 HBV.out)
      rw [show Pcs.pieces (g.uf i) (g.uf i + g.us i) (g.mounts (g.sn j)) = pcsOf g i j from rfl] at DP1
      have hse := str_eq (g.sr j) (g.ur i)
      clear hcc hV1 hvb hvl
      by_cases hrig : g.sr j = g.ur i
      · have HES : Hid (evS g i (j + 1) = evS g i j ++ evQ g i j (pcsOf g i j).length) := Lib.hid (by rw [evS, if_pos hrig])
        rw [show decide (g.sr j = g.ur i) = true by simpa using hrig] at hse
        clear hrig
        go_upto_region 5 with (fail)
        rw [HV1.out]
        go_wp2_with fail
        refine DP1.out.mono ?_
        rintro e w2 ⟨gq, cap, rfl, hgq, hrow, hb2⟩
        have hrow : RowK w2 (some ⟨gq, 0, none⟩) (pcsOf g i j).length 5 (fun q => pcellW (g.un i) (g.sn j) (pget (pcsOf g i j) q) (wayG (g.uw i) (g.us i) (secW (pcsOf g i j)) (pcsOf g i j).length q)) := hrow
        have hn0 := (HGD.out j).ne HU.out.2.2.1
        have hn1 := (HGD.out j).len
        have hus := HU.out.2.2.2.1
        have hsl := HSL.out j
        have hjm : j * 1000000 ≤ 100 * 1000000 := Nat.mul_le_mul_right _ (by omega)
        have hnews : ∀ jj u, (evCs g (evQ g i j (pcsOf g i j).length))[jj]? = some u → w2.cell? ((⟨gq, 0, none⟩ : Addr).add jj) = some u := by
          intro jj u hu
          rw [evQ_cells] at hu
          obtain ⟨b', off', e1, _, e2⟩ := hrow.here hn0
          injection e1 with e1
          injection e1 with e1 e3
          subst e1
          subst e3
          have := row_cells (f := fun q => pcellW (g.un i) (g.sn j) (pget (pcsOf g i j) q) (wayG (g.uw i) (g.us i) (secW (pcsOf g i j)) (pcsOf g i j).length q)) (fun _ => rfl) (by omega) e2 jj u hu
          rw [addr_add0]
          rwa [Nat.zero_add] at this
        have HNEWS := Lib.hid hnews
        have hb12 := HVB.out.trans (hb2.mono HVB.out.size)
        have HB12 := Lib.hid hb12
        have HO2 := Lib.hid (ownsRow_below HR.out.own hb12)
        have hsb : B0 ≤ w2.heap.size := by have h1 := HR.out.kept.size; have h2 := hb12.size; have h3 := HBE.out; omega
        have hql := evQ_len g i j (pcsOf g i j).length
        have HQL := Lib.hid hql
        obtain ⟨m, hm⟩ : ∃ m, (pcsOf g i j).length = m := ⟨_, rfl⟩
        rw [hm] at hn0 hn1 HNEWS HES HQL ⊢
        obtain ⟨nl, hnl⟩ : ∃ nl, (evS g i j).length = nl := ⟨_, rfl⟩
        have hr3 := HR.out
        rw [hnl] at HO2 hsl hr3
        have HR3 := Lib.hid hr3
        have HNL := Lib.hid hnl
        have hm1 : m ≤ 1000000 := by omega
        have hnl1 : nl ≤ 100000000 := by omega
        clear hrow hnews hb2 hb12 hm hnl hr3 hql g0 g1 g2 g3 u0 u1 u2 u3 u4 s0 s1
        go_wp2_with (at_builtin; refine wpList_append_where _ rfl (.tmp 20) (.tmp 25) 34 rfl B0 42 i0 (.agg #[.string ⟨#[]⟩, .string ⟨#[]⟩, .string ⟨#[]⟩, .int .i64 0, .int .i64 0]) 5 64 HUT.out HI0.out HZ0.out HZ1.out HZ2.out rfl (by decide) _ _ _ rfl HO2.out ⟨gq, 0, none⟩ m cap (evCs g (evQ g i j m)) rfl hn0 ?c0 ?c1 ?c2 ?c3 ?c4 ?c5 ?_)
        case c0 => rw [evCs_len, HQL.out]
        case c1 => exact HNEWS.out
        case c2 => exact evCs_one g _
        case c3 => unfold maxLen; omega
        case c4 => omega
        case c5 => exact hsb
        intro v5 w5 hown5 hg5 hwh5
        have HN5 := Lib.hid (HR3.out.append HB12.out hown5 hg5 hwh5)
        clear hown5 hg5 hwh5
        go_wp2_with fail
        go_roundw
        case rel => exact ⟨j + 1, by go_num, by omega, Lib.hid (by rw [HES.out, List.length_append, HNL.out, HQL.out, evCs_app]; exact HN5.out), Lib.hid (by rw [HES.out, List.length_append, HQL.out]; intro h; omega)⟩
        case measure => simp [intOf]; omega
      · have HES : Hid (evS g i (j + 1) = evS g i j) := Lib.hid (by rw [evS, if_neg hrig, List.append_nil])
        rw [show decide (g.sr j = g.ur i) = false by simpa using hrig] at hse
        clear hrig
        go_upto_region 5 with (fail)
        rw [HV1.out]
        go_wp2_with fail
        go_roundw
        case rel => exact ⟨j + 1, by go_num, by omega, Lib.hid (by rw [HES.out]; exact HR.out.below HVB.out), Lib.hid (by rw [HES.out]; exact HN.out)⟩
        case measure => simp [intOf]; omega
    · have t1 : decide ((j : Int) < (g.ns : Int)) = false := by rw [decide_eq_false_iff_not]; omega
      have t1' : decide (j < g.ns) = false := by simpa using hlt
      obtain rfl : j = g.ns := by omega
      clear hlt
      go_wp2_with fail
      go_ret
      exact ⟨_, B0, hbs, rfl, HR.out.own, HN.out, HDN.out⟩
end Go.Proofs.Ytbkpoepacjinlaa

/- Gear: Pieces of the reference. -/
namespace Go.Proofs.Ytbkpoepacjinlaa
open Go.RowKit Go.BigFrame
open Gar (chk mountsK)

set_option maxHeartbeats 4000000 in
set_option maxRecDepth 100000 in
theorem rPieces_any (g : Gar) (a0 a1 a2 a3 : Option Addr) (c0 c1 c2 c3 : Nat) (w : World) (h : GarIn w g a0 a1 a2 a3) (hc2 : g.nm ≤ c2) (hc3 : g.nu ≤ c3) :
    Calls Try.prog 23 #[garV g a0 a1 a2 a3 c0 c1 c2 c3] w fun e w' => Below w.heap.size w w' ∧
      ((chk g ≠ 0 ∧ e = .returned (.tuple #[.slice none 0 0, .int .i64 (chk g)])) ∨ (chk g = 0 ∧ ∃ v base, w.heap.size ≤ base ∧ e = .returned (.tuple #[v, .int .i64 0]) ∧ w'.ownsRow base 42 5 v (evG g g.nu).length (evCs g (evG g g.nu)))) := by
  have HG := Lib.hid h
  have hl3 := h.l3
  obtain ⟨W0, hW0, hb0, hs0, hl0'⟩ := alloc_cells w #[.slice a0 g.np c0, .slice a1 g.ns c1, .slice a2 g.nm c2, .slice a3 g.nu c3] 27
  have G0 := Ext.ex (hl0' 0 _ rfl)
  have G1 := Ext.ex (hl0' 1 _ rfl)
  have G2 := Ext.ex (hl0' 2 _ rfl)
  have G3 := Ext.ex (hl0' 3 _ rfl)
  have HW0 := Lib.hid hW0
  have HB := Lib.hid hb0
  have hbs : w.heap.size ≤ W0.heap.size := by omega
  have hbs1 : w.heap.size < W0.heap.size := by omega
  have DK := Lib.hid (fun (Y : Ext W0) => rCheck_any g a0 a1 a2 a3 c0 c1 c2 c3 Y.1 (HG.out.below (Y.down HB.out hbs)) hc2 hc3)
  have DU0 := Lib.hid (fun (hk : chk g = 0) (i : Nat) (hi : i < g.nu) (W : World) (hW : Below w.heap.size w W) => rpiecesU_any g a0 a1 a2 a3 c0 c1 c2 c3 i W (HG.out.below hW) hk hi)
  unfold useAt useV at DU0
  unfold garV at DK DU0 ⊢
  clear h hl0' hW0 hb0 hs0
  by_cases k1 : chk g = 0
  case neg =>
    have n1 : (chk g != 0) = true := by rw [bne_iff_ne]; exact k1
    have K1 := Lib.hid k1
    clear k1 DU0
    generalize chk g = ck at *
    go_enter Try.func23, Try.ntmps23
    go_upto_region 1 with (fail)
    rw [HW0.out]
    refine ext_wp fun X => ?_
    go_wp2_with fail
    refine (Ext.calls _ (DK.out _)).mono ?_
    rintro e w2 ⟨rfl, Y, rfl⟩
    go_wp2_with fail
    go_ret2
    exact ⟨Y.down HB.out hbs, Or.inl ⟨K1.out, rfl⟩⟩
  have K1 := Lib.hid k1
  rw [k1] at DK
  have DU := Lib.hid (DU0.out k1)
  have HLE := Lib.hid (fun i (hi : i ≤ g.nu) => evG_len k1 i hi)
  have HSL := Lib.hid (fun i (hi : i < g.nu) => evS_len k1 hi g.ns)
  have hns := (Gar.chk_parts k1).2.1
  have hnu := (Gar.chk_parts k1).2.2.2.1
  obtain ⟨i0, hi0, hz0, hz1, hz2⟩ := info_parts (show (Try.prog.info? 42).map (fun i => (i.zero, i.size, i.bytes)) = some (some (.agg #[.string ⟨#[]⟩, .string ⟨#[]⟩, .string ⟨#[]⟩, .int .i64 0, .int .i64 0]), 5, 64) by kernel_rfl)
  have HI0 := Lib.hid hi0
  have HZ0 := Lib.hid hz0
  have HZ1 := Lib.hid hz1
  have HZ2 := Lib.hid hz2
  have HUT := Lib.hid (show Try.prog.underlying 34 = some (.slice 42) by kernel_rfl)
  have n1 : ((0 : Int) != 0) = false := rfl
  clear k1 DU0 hi0 hz0 hz1 hz2
  go_enter Try.func23, Try.ntmps23
  go_upto_region 1 with (fail)
  rw [HW0.out]
  refine ext_wp fun X => ?_
  go_wp2_with fail
  refine (Ext.calls _ (DK.out _)).mono ?_
  rintro e w2 ⟨rfl, Y2, rfl⟩
  have f0 := G0 Y2
  have f1 := G1 Y2
  have f2 := G2 Y2
  have f3 := G3 Y2
  have hdn := Y2.down HB.out hbs
  have hsz1 := Y2.2.size
  obtain ⟨W1, hW1⟩ : ∃ W1, Y2.1 = W1 := ⟨_, rfl⟩
  rw [hW1] at f0 f1 f2 f3 hdn hsz1 ⊢
  have HD1 := Lib.hid hdn
  obtain ⟨B0, hB0⟩ : ∃ B0, W0.heap.size = B0 := ⟨_, rfl⟩
  rw [hB0] at hbs hbs1 hsz1
  have hsw1 : w.heap.size ≤ W1.heap.size := by omega
  have nnil : ∀ b : Nat, ¬ (Value.slice none 0 0).ownBlock = some b := fun b => by simp [Value.ownBlock]
  have HST : Hid (OwnR W1 W1 B0 42 5 (.slice none 0 0) (.slice none 0 0) (evG g 0).length (evCs g (evG g 0))) := Lib.hid (OwnR.start (World.ownsRow_nil _ _ _ _))
  clear hdn hW1 Y2 X G0 G1 G2 G3
  go_wp2_with fail
  go_loopw [5, 16] (fun lv iv wr => ∃ (i : Nat), iv = .int .i64 i ∧ i ≤ g.nu ∧ Hid (OwnR W1 wr B0 42 5 (.slice none 0 0) lv (evG g i).length (evCs g (evG g i)))) (fun _ iv _ => g.nu - (intOf iv).toNat)
  case atStart => exact ⟨0, rfl, by omega, HST⟩
  case round =>
    obtain ⟨i, rfl, hi, HR⟩ := hrel
    have HDN := Lib.hid (HR.out.down HD1.out hsw1 hbs (World.ownsRow_nil _ _ _ _))
    have hszr : W1.heap.size ≤ wr.heap.size := HR.out.kept.size
    have g0 := HR.out.cell (nnil _) f0
    have g1 := HR.out.cell (nnil _) f1
    have g2 := HR.out.cell (nnil _) f2
    have g3 := HR.out.cell (nnil _) f3
    by_cases hlt : i < g.nu
    · have t1 : decide ((i : Int) < (g.nu : Int)) = true := by rw [decide_eq_true_eq]; omega
      obtain ⟨b, off, rfl, hbl, hcc⟩ := (HG.out.r3.below HDN.out (Nat.le_refl _)).here (by omega)
      have e0 : wr.cell? ⟨b, off + i * 5, none⟩ = some (.string (g.un i)) := hcc i hlt 0 (by omega)
      have e1 : wr.cell? ⟨b, off + i * 5 + 1, none⟩ = some (.string (g.ur i)) := hcc i hlt 1 (by omega)
      have e2 : wr.cell? ⟨b, off + i * 5 + 2, none⟩ = some (.int .i64 (g.uf i)) := hcc i hlt 2 (by omega)
      have e3 : wr.cell? ⟨b, off + i * 5 + 3, none⟩ = some (.int .i64 (g.us i)) := hcc i hlt 3 (by omega)
      have e4 : wr.cell? ⟨b, off + i * 5 + 4, none⟩ = some (.int .i64 (g.uw i)) := hcc i hlt 4 (by omega)
      obtain ⟨V1, hV1, hvb, hvs, hvl⟩ := alloc_cells wr #[.string (g.un i), .string (g.ur i), .int .i64 (g.uf i), .int .i64 (g.us i), .int .i64 (g.uw i)] 38
      have u0 := hvl 0 _ rfl
      have u1 := hvl 1 _ rfl
      have u2 := hvl 2 _ rfl
      have u3 := hvl 3 _ rfl
      have u4 := hvl 4 _ rfl
      have g0 := below_cell hvb g0
      have g1 := below_cell hvb g1
      have g2 := below_cell hvb g2
      have g3 := below_cell hvb g3
      have HVB := Lib.hid hvb
      have HV1 := Lib.hid hV1
      have HBV := Lib.hid (HDN.out.trans (hvb.mono HDN.out.size))
      have DU1 := Lib.hid (DU.out i hlt V1 HBV.out)
      have HES : Hid (evG g (i + 1) = evG g i ++ evS g i g.ns) := Lib.hid rfl
      have hlen := HLE.out i hi
      have hsl := HSL.out i hlt
      have him : i * 100000000 ≤ 5000 * 100000000 := Nat.mul_le_mul_right _ (by omega)
      have hnm : g.ns * 1000000 ≤ 100 * 1000000 := Nat.mul_le_mul_right _ hns
      clear hcc hV1 hvb hvl
      go_upto_region 8 with (fail)
      rw [HV1.out]
      go_wp2_with fail
      refine DU1.out.mono ?_
      rintro e w2 ⟨v, base, hbase, rfl, hown, hnil, hb2⟩
      have hb12 := HVB.out.trans (hb2.mono HVB.out.size)
      have HB12 := Lib.hid hb12
      have HO2 := Lib.hid (ownsRow_below HR.out.own hb12)
      have hsb : B0 ≤ w2.heap.size := by have h2 := hb12.size; omega
      obtain ⟨m, hm⟩ : ∃ m, (evS g i g.ns).length = m := ⟨_, rfl⟩
      obtain ⟨nl, hnl⟩ : ∃ nl, (evG g i).length = nl := ⟨_, rfl⟩
      have hr3 := HR.out
      rw [hnl] at HO2 hlen hr3
      rw [hm] at hown hnil hsl
      have HR3 := Lib.hid hr3
      have HNL := Lib.hid hnl
      have HM := Lib.hid hm
      clear hb12 hm hnl hr3 g0 g1 g2 g3 u0 u1 u2 u3 u4
      by_cases hm0 : m = 0
      · have hv := hnil hm0
        subst hv
        have HE0 : Hid (evS g i g.ns = []) := Lib.hid (List.length_eq_zero_iff.1 (HM.out.trans hm0))
        clear hnil hown
        go_wp2_with (at_builtin; refine wpList_append_none _ rfl (.tmp 20) (.tmp 23) 34 rfl B0 42 i0 5 HUT.out HI0.out _ _ _ rfl HO2.out rfl ?_)
        go_wp2_with fail
        go_roundw
        case rel => exact ⟨i + 1, by go_num, by omega, Lib.hid (by rw [HES.out, HE0.out, List.append_nil, HNL.out]; exact HR3.out.below HB12.out)⟩
        case measure => simp [intOf]; omega
      · obtain ⟨gq, cap, rfl, _, _⟩ := hown.form (by omega)
        have HNEWS : Hid (∀ jj u, (evCs g (evS g i g.ns))[jj]? = some u → w2.cell? ((⟨gq, 0, none⟩ : Addr).add jj) = some u) := Lib.hid (fun jj u hu => hown.cells (g := gq) rfl jj u hu)
        clear hnil hown
        go_wp2_with (at_builtin; refine wpList_append_where _ rfl (.tmp 20) (.tmp 23) 34 rfl B0 42 i0 (.agg #[.string ⟨#[]⟩, .string ⟨#[]⟩, .string ⟨#[]⟩, .int .i64 0, .int .i64 0]) 5 64 HUT.out HI0.out HZ0.out HZ1.out HZ2.out rfl (by decide) _ _ _ rfl HO2.out ⟨gq, 0, none⟩ m cap (evCs g (evS g i g.ns)) rfl (by omega) ?c0 ?c1 ?c2 ?c3 ?c4 ?c5 ?_)
        case c0 => rw [evCs_len, HM.out]
        case c1 => exact HNEWS.out
        case c2 => exact evCs_one g _
        case c3 => unfold maxLen; omega
        case c4 => omega
        case c5 => exact hsb
        intro v5 w5 hown5 hg5 hwh5
        have HN5 := Lib.hid (HR3.out.append HB12.out hown5 hg5 hwh5)
        clear hown5 hg5 hwh5
        go_wp2_with fail
        go_roundw
        case rel => exact ⟨i + 1, by go_num, by omega, Lib.hid (by rw [HES.out, List.length_append, HNL.out, HM.out, evCs_app]; exact HN5.out)⟩
        case measure => simp [intOf]; omega
    · have t1 : decide ((i : Int) < (g.nu : Int)) = false := by rw [decide_eq_false_iff_not]; omega
      have t1' : decide (i < g.nu) = false := by simpa using hlt
      obtain rfl : i = g.nu := by omega
      clear hlt
      go_wp2_with fail
      go_ret2
      exact ⟨HDN.out, Or.inr ⟨K1.out, _, B0, hbs, rfl, HR.out.own⟩⟩
end Go.Proofs.Ytbkpoepacjinlaa

/- Gear: how much a part was used (reference): plain, and its walk. -/
namespace Go.Proofs.Ytbkpoepacjinlaa
open Go.RowKit Go.BigFrame
open Gar (chk mountsK)

/-- seconds, way, was it used? -/
def stepU (part : ByteArray) (st : Int × Int × Int) (e : Ev) : Int × Int × Int := if e.p = part then (st.1 + e.sec, st.2.1 + e.way, 1) else st
def foldU (part : ByteArray) (a b : Int) (l : List Ev) : Int × Int × Int := l.foldl (stepU part) (a, b, 0)
def rwF (g : Gar) (part : ByteArray) (f t : Int) : Nat → Int × Int × Int
  | 0 => (0, 0, 0)
  | i + 1 => if g.uf i < f ∨ t ≤ g.uf i then rwF g part f t i else
    ((foldU part (rwF g part f t i).1 (rwF g part f t i).2.1 (evS g i g.ns)).1, (foldU part (rwF g part f t i).1 (rwF g part f t i).2.1 (evS g i g.ns)).2.1, (rwF g part f t i).2.2 + (foldU part (rwF g part f t i).1 (rwF g part f t i).2.1 (evS g i g.ns)).2.2)
theorem wearE_out (g : Gar) (part : ByteArray) (f t : Int) (i : Nat) (h : g.uf i < f ∨ t ≤ g.uf i) : ∀ (l : List Ev) (st : WSt), (∀ e, e ∈ l → e.i = i) → l.foldl (wearE g part f t) st = st
  | [], _, _ => rfl
  | e :: l, st, hl => by
    have he := hl e (by simp)
    rw [List.foldl_cons, show wearE g part f t st e = st by unfold wearE; rw [if_neg (by rw [he]; omega)], wearE_out g part f t i h l st fun x hx => hl x (by simp [hx])]
/-- within one use: the uses grow by one at most -/
theorem wearE_in (g : Gar) (part : ByteArray) (f t : Int) (i : Nat) (h : ¬ (g.uf i < f ∨ t ≤ g.uf i)) (u0 : Int) (l0 : ByteArray) (hl0 : l0 ≠ g.un i) : ∀ (l : List Ev) (st : WSt) (is : Int), (∀ e, e ∈ l → e.i = i) → (is = 0 ∧ st.last = l0 ∧ st.uses = u0 ∨ is = 1 ∧ st.last = g.un i ∧ st.uses = u0 + 1) →
    (l.foldl (wearE g part f t) st).sec = (l.foldl (stepU part) (st.sec, st.way, is)).1 ∧ (l.foldl (wearE g part f t) st).way = (l.foldl (stepU part) (st.sec, st.way, is)).2.1 ∧
    ((l.foldl (stepU part) (st.sec, st.way, is)).2.2 = 0 ∧ (l.foldl (wearE g part f t) st).last = l0 ∧ (l.foldl (wearE g part f t) st).uses = u0 ∨ (l.foldl (stepU part) (st.sec, st.way, is)).2.2 = 1 ∧ (l.foldl (wearE g part f t) st).last = g.un i ∧ (l.foldl (wearE g part f t) st).uses = u0 + 1)
  | [], st, is, _, hs => ⟨rfl, rfl, hs⟩
  | e :: l, st, is, hl, hs => by
    have he := hl e (by simp)
    rw [List.foldl_cons, List.foldl_cons]
    by_cases c : e.p = part
    · have e1 : wearE g part f t st e = ⟨st.sec + e.sec, st.way + e.way, if g.un i = st.last then st.uses else st.uses + 1, g.un i⟩ := by
        unfold wearE
        rw [if_pos ⟨c, by rw [he]; omega, by rw [he]; omega⟩, he]
      have e2 : stepU part (st.sec, st.way, is) e = (st.sec + e.sec, st.way + e.way, 1) := by unfold stepU; rw [if_pos c]
      rw [e1, e2]
      refine wearE_in g part f t i h u0 l0 hl0 l _ 1 (fun x hx => hl x (by simp [hx])) (Or.inr ⟨rfl, rfl, ?_⟩)
      show (if g.un i = st.last then st.uses else st.uses + 1) = u0 + 1
      rcases hs with ⟨_, h2, h3⟩ | ⟨_, h2, h3⟩
      · rw [if_neg (by rw [h2]; exact fun e => hl0 e.symm), h3]
      · rw [if_pos h2.symm, h3]
    · have e1 : wearE g part f t st e = st := by unfold wearE; rw [if_neg (fun h => c h.1)]
      have e2 : stepU part (st.sec, st.way, is) e = (st.sec, st.way, is) := by unfold stepU; rw [if_neg c]
      rw [e1, e2]
      exact wearE_in g part f t i h u0 l0 hl0 l st is (fun x hx => hl x (by simp [hx])) hs
theorem name_ne {s : ByteArray} (h : nameB s = true) : (⟨#[]⟩ : ByteArray) ≠ s := fun e => by
  subst e
  revert h
  decide
theorem use_name {g : Gar} (h : chk g = 0) {i : Nat} (hi : i < g.nu) : nameB (g.un i) = true := (Gar.use_right (Gar.chk_parts h).2.2.2.2.2.2.2.2 hi).1.1
theorem rwF_eq {g : Gar} (h : chk g = 0) (part : ByteArray) (f t : Int) : ∀ n, n ≤ g.nu →
    (wearL g part f t (evG g n)).sec = (rwF g part f t n).1 ∧ (wearL g part f t (evG g n)).way = (rwF g part f t n).2.1 ∧ (wearL g part f t (evG g n)).uses = (rwF g part f t n).2.2 ∧ ((wearL g part f t (evG g n)).last = ⟨#[]⟩ ∨ ∃ k, k < n ∧ (wearL g part f t (evG g n)).last = g.un k)
  | 0, _ => ⟨rfl, rfl, rfl, Or.inl rfl⟩
  | n + 1, hn => by
    obtain ⟨h1, h2, h3, h4⟩ := rwF_eq h part f t n (by omega)
    have hall := (evS_all h (show n < g.nu by omega) g.ns).1
    have hin : ∀ e, e ∈ evS g n g.ns → e.i = n := fun e he => (hall e he).2.2
    have hfold : wearL g part f t (evG g (n + 1)) = (evS g n g.ns).foldl (wearE g part f t) (wearL g part f t (evG g n)) := by
      unfold wearL
      rw [evG, List.foldl_append]
    rw [hfold, rwF]
    by_cases c : g.uf n < f ∨ t ≤ g.uf n
    · rw [if_pos c, wearE_out g part f t n c _ _ hin]
      exact ⟨h1, h2, h3, h4.elim Or.inl fun ⟨k, hk, e⟩ => Or.inr ⟨k, by omega, e⟩⟩
    · rw [if_neg c]
      have hne : (wearL g part f t (evG g n)).last ≠ g.un n := by
        rcases h4 with e | ⟨k, hk, e⟩
        · rw [e]; exact name_ne (use_name h (by omega))
        · rw [e]
          intro e2
          have := use_inj h (show k < g.nu by omega) (by omega) e2
          omega
      have hx := wearE_in g part f t n c (wearL g part f t (evG g n)).uses _ hne (evS g n g.ns) (wearL g part f t (evG g n)) 0 hin (Or.inl ⟨rfl, rfl, rfl⟩)
      rw [h1, h2] at hx
      obtain ⟨x1, x2, x3⟩ := hx
      refine ⟨x1, x2, ?_, ?_⟩
      · show _ = (rwF g part f t n).2.2 + _
        rcases x3 with ⟨y1, _, y3⟩ | ⟨y1, _, y3⟩
        · rw [y3, h3]
          show _ = _ + (List.foldl (stepU part) _ _).2.2
          rw [y1]
          omega
        · rw [y3, h3]
          show _ = _ + (List.foldl (stepU part) _ _).2.2
          rw [y1]
      · rcases x3 with ⟨_, y2, _⟩ | ⟨_, y2, _⟩
        · rw [y2]
          exact h4.elim Or.inl fun ⟨k, hk, e⟩ => Or.inr ⟨k, by omega, e⟩
        · rw [y2]
          exact Or.inr ⟨n, by omega, rfl⟩
end Go.Proofs.Ytbkpoepacjinlaa

/- Gear: wear of the reference: its walk. -/
namespace Go.Proofs.Ytbkpoepacjinlaa
open Go.RowKit Go.BigFrame
open Gar (chk mountsK)

theorem sums_take (l : List Ev) (q : Nat) (h : ∀ e, e ∈ l → 0 ≤ e.way ∧ 0 ≤ e.sec) : secSum (l.take q) ≤ secSum l ∧ waySum (l.take q) ≤ waySum l := by
  have e1 : secSum l = secSum (l.take q) + secSum (l.drop q) := by rw [← secSum_app, List.take_append_drop]
  have e2 : waySum l = waySum (l.take q) + waySum (l.drop q) := by rw [← waySum_app, List.take_append_drop]
  have hb := wearE_bound ⟨0, 0, 0, 0, fun _ => ⟨#[]⟩, fun _ => 0, fun _ => ⟨#[]⟩, fun _ => ⟨#[]⟩, fun _ => ⟨#[]⟩, fun _ => ⟨#[]⟩, fun _ => 0, fun _ => 0, fun _ => ⟨#[]⟩, fun _ => ⟨#[]⟩, fun _ => 0, fun _ => 0, fun _ => 0⟩ ⟨#[]⟩ 0 0 (l.drop q) wear0 (fun e hx => h e (List.mem_of_mem_drop hx))
  have z1 : wear0.sec = 0 := rfl
  have z2 : wear0.way = 0 := rfl
  omega
def stU (part : ByteArray) (a b : Int) (l : List Ev) (q : Nat) : Int × Int × Int := (l.take q).foldl (stepU part) (a, b, 0)
theorem stU_succ (part : ByteArray) (a b : Int) (l : List Ev) {q : Nat} (h : q < l.length) : stU part a b l (q + 1) = stepU part (stU part a b l q) (l.getD q ev0) := by
  unfold stU
  rw [List.take_succ_eq_append_getElem h, List.foldl_append, List.getD_eq_getElem?_getD, List.getElem?_eq_getElem h]
  rfl
theorem stepU_bound (part : ByteArray) : ∀ (l : List Ev) (a b c : Int), (∀ e, e ∈ l → 0 ≤ e.way ∧ 0 ≤ e.sec) → (c = 0 ∨ c = 1) →
    a ≤ (l.foldl (stepU part) (a, b, c)).1 ∧ (l.foldl (stepU part) (a, b, c)).1 ≤ a + secSum l ∧ b ≤ (l.foldl (stepU part) (a, b, c)).2.1 ∧ (l.foldl (stepU part) (a, b, c)).2.1 ≤ b + waySum l ∧ ((l.foldl (stepU part) (a, b, c)).2.2 = 0 ∨ (l.foldl (stepU part) (a, b, c)).2.2 = 1)
  | [], a, b, c, _, hc => by simp [secSum, waySum, hc]
  | e :: l, a, b, c, h, hc => by
    have he := h e (by simp)
    have h1 : secSum (e :: l) = e.sec + secSum l := by simp [secSum]
    have h2 : waySum (e :: l) = e.way + waySum l := by simp [waySum]
    rw [List.foldl_cons]
    by_cases k : e.p = part
    · rw [show stepU part (a, b, c) e = (a + e.sec, b + e.way, 1) by unfold stepU; rw [if_pos k]]
      have ih := stepU_bound part l (a + e.sec) (b + e.way) 1 (fun x hx => h x (by simp [hx])) (Or.inr rfl)
      omega
    · rw [show stepU part (a, b, c) e = (a, b, c) by unfold stepU; rw [if_neg k]]
      have ih := stepU_bound part l a b c (fun x hx => h x (by simp [hx])) hc
      omega
set_option maxHeartbeats 8000000 in
set_option maxRecDepth 100000 in
theorem rwear_any (g : Gar) (a0 a1 a2 a3 : Option Addr) (c0 c1 c2 c3 : Nat) (part : ByteArray) (f t : Int) (w : World) (h : GarIn w g a0 a1 a2 a3) (hchk : chk g = 0) :
    Calls Try.prog 68 #[garV g a0 a1 a2 a3 c0 c1 c2 c3, .string part, .int .i64 f, .int .i64 t] w fun e w' => e = .returned (wearR (wearL g part f t (evG g g.nu))) ∧ Below w.heap.size w w' := by
  have HG := Lib.hid h
  have hl3 := h.l3
  obtain ⟨W0, hW0, hb0, hs0, hq0⟩ := allocs w [.cells #[.slice a0 g.np c0, .slice a1 g.ns c1, .slice a2 g.nm c2, .slice a3 g.nu c3] 27, .cells #[.int .i64 0, .int .i64 0, .int .i64 0] 60, .cells #[.int .i64 0, .int .i64 0, .int .i64 0] 60]
  have hs0 : W0.heap.size = w.heap.size + 3 := hs0
  have f0 : W0.cell? ⟨w.heap.size, 0, none⟩ = some (.slice a0 g.np c0) := block_cell (hq0 0 _ rfl) rfl
  have f1 : W0.cell? ⟨w.heap.size, 1, none⟩ = some (.slice a1 g.ns c1) := block_cell (hq0 0 _ rfl) rfl
  have f2 : W0.cell? ⟨w.heap.size, 2, none⟩ = some (.slice a2 g.nm c2) := block_cell (hq0 0 _ rfl) rfl
  have f3 : W0.cell? ⟨w.heap.size, 3, none⟩ = some (.slice a3 g.nu c3) := block_cell (hq0 0 _ rfl) rfl
  have HR8 := Lib.hid (hq0 1 _ rfl)
  have HR9 : Hid (W0.heap[w.heap.size + 2]? = some (.cells #[.int .i64 (rwF g part f t 0).1, .int .i64 (rwF g part f t 0).2.1, .int .i64 (rwF g part f t 0).2.2] 60 (0, 0))) := Lib.hid (hq0 2 _ rfl)
  have HW0 := Lib.hid (show ((w.alloc (.cells #[.slice a0 g.np c0, .slice a1 g.ns c1, .slice a2 g.nm c2, .slice a3 g.nu c3] 27)).alloc (.cells #[.int .i64 0, .int .i64 0, .int .i64 0] 60)).alloc (.cells #[.int .i64 0, .int .i64 0, .int .i64 0] 60) = W0 from hW0)
  have HB := Lib.hid hb0
  have hws : w.heap.size ≤ W0.heap.size := by omega
  have DU := Lib.hid (fun (i : Nat) (hi : i < g.nu) (W : World) (hW : Below w.heap.size w W) => rpiecesU_any g a0 a1 a2 a3 c0 c1 c2 c3 i W (HG.out.below hW) hchk hi)
  have HRW := Lib.hid (rwF_eq hchk part f t)
  have HWS := Lib.hid (fun i (hi : i ≤ g.nu) => (evG_pre g i g.nu hi).elim fun r hr => wear_small hchk part f t hr)
  have HEA := Lib.hid (fun i (hi : i < g.nu) => evS_all hchk hi g.ns)
  have HSL := Lib.hid (fun i (hi : i < g.nu) => evS_len hchk hi g.ns)
  have hns := (Gar.chk_parts hchk).2.1
  unfold useAt useV at DU
  unfold garV at DU ⊢
  clear h hW0 hb0 hq0 hchk
  go_enter Try.func68, Try.ntmps68
  go_upto_region 2 with (fail)
  rw [HW0.out]
  go_wp2_with fail
  go_loopw [19] (fun iv wr => ∃ (i : Nat), iv = .int .i64 i ∧ i ≤ g.nu ∧ Hid (Kept (fun b => b = w.heap.size + 2) W0 wr) ∧ Hid (wr.heap[w.heap.size + 2]? = some (.cells #[.int .i64 (rwF g part f t i).1, .int .i64 (rwF g part f t i).2.1, .int .i64 (rwF g part f t i).2.2] 60 (0, 0)))) (fun iv _ => g.nu - (intOf iv).toNat)
  case atStart => exact ⟨0, rfl, by omega, Lib.hid (Kept.refl _ _), HR9⟩
  case round =>
    obtain ⟨i, rfl, hi, HK, HC⟩ := hrel
    have HDN := Lib.hid (Kept.below HB.out HK.out hws (fun k hk => by show ¬ k = w.heap.size + 2; omega))
    have hk1 := HK.out.size
    have g0 := HK.out.cell (by show ¬ w.heap.size = w.heap.size + 2; omega) f0
    have g1 := HK.out.cell (by show ¬ w.heap.size = w.heap.size + 2; omega) f1
    have g2 := HK.out.cell (by show ¬ w.heap.size = w.heap.size + 2; omega) f2
    have g3 := HK.out.cell (by show ¬ w.heap.size = w.heap.size + 2; omega) f3
    by_cases hlt : i < g.nu
    · have t1 : decide ((i : Int) < (g.nu : Int)) = true := by rw [decide_eq_true_eq]; omega
      obtain ⟨b, off, rfl, hbl, hcc⟩ := (HG.out.r3.below HDN.out (Nat.le_refl _)).here (by omega)
      have e0 : wr.cell? ⟨b, off + i * 5, none⟩ = some (.string (g.un i)) := hcc i hlt 0 (by omega)
      have e1 : wr.cell? ⟨b, off + i * 5 + 1, none⟩ = some (.string (g.ur i)) := hcc i hlt 1 (by omega)
      have e2 : wr.cell? ⟨b, off + i * 5 + 2, none⟩ = some (.int .i64 (g.uf i)) := hcc i hlt 2 (by omega)
      have e3 : wr.cell? ⟨b, off + i * 5 + 3, none⟩ = some (.int .i64 (g.us i)) := hcc i hlt 3 (by omega)
      have e4 : wr.cell? ⟨b, off + i * 5 + 4, none⟩ = some (.int .i64 (g.uw i)) := hcc i hlt 4 (by omega)
      obtain ⟨V1, hV1, hvb, hvs, hvl⟩ := alloc_cells wr #[.string (g.un i), .string (g.ur i), .int .i64 (g.uf i), .int .i64 (g.us i), .int .i64 (g.uw i)] 38
      have u0 := hvl 0 _ rfl
      have u1 := hvl 1 _ rfl
      have u2 := hvl 2 _ rfl
      have u3 := hvl 3 _ rfl
      have u4 := hvl 4 _ rfl
      have g0 := below_cell hvb g0
      have g1 := below_cell hvb g1
      have g2 := below_cell hvb g2
      have g3 := below_cell hvb g3
      have HVB := Lib.hid hvb
      have HV1 := Lib.hid hV1
      have HBV := Lib.hid (HDN.out.trans (hvb.mono HDN.out.size))
      have DU1 := Lib.hid (DU.out i hlt V1 HBV.out)
      have HS : Hid (rwF g part f t (i + 1) = if g.uf i < f ∨ t ≤ g.uf i then rwF g part f t i else
        ((foldU part (rwF g part f t i).1 (rwF g part f t i).2.1 (evS g i g.ns)).1, (foldU part (rwF g part f t i).1 (rwF g part f t i).2.1 (evS g i g.ns)).2.1, (rwF g part f t i).2.2 + (foldU part (rwF g part f t i).1 (rwF g part f t i).2.1 (evS g i g.ns)).2.2)) := Lib.hid rfl
      have hws2 := HWS.out i hi
      obtain ⟨x1, x2, x3, _⟩ := HRW.out i hi
      rw [x1, x2, x3] at hws2
      have hC := HC.out
      generalize rwF g part f t i = st at HS hws2 hC
      obtain ⟨sa, sb, sc⟩ := st
      have hws3 : 0 ≤ sa ∧ sa ≤ 500000000000 ∧ 0 ≤ sb ∧ sb ≤ 500000000000000 ∧ 0 ≤ sc ∧ sc ≤ 500000000000 := hws2
      have HCV := Lib.hid (below_block hvb hC)
      have hvk : Kept (fun b => b = w.heap.size + 2) W0 V1 := HK.out.trans (Kept.of_below hvb)
      have HVK := Lib.hid hvk
      clear hcc hV1 hvb hvl x1 x2 x3 hws2 hC hvk HC
      by_cases hskip : g.uf i < f ∨ t ≤ g.uf i
      · rw [if_pos hskip] at HS
        by_cases k1 : g.uf i < f
        · have d1 : decide (g.uf i < f) = true := by simpa using k1
          go_upto_region 5 with (fail)
          rw [HV1.out]
          go_wp2_with fail
          go_roundw
          case rel => exact ⟨i + 1, by go_num, by omega, HVK, Lib.hid (by rw [HS.out]; exact HCV.out)⟩
          case measure => simp [intOf]; omega
        · have d1 : decide (g.uf i < f) = false := by simpa using k1
          have d2 : decide (t ≤ g.uf i) = true := by rw [decide_eq_true_eq]; omega
          go_upto_region 5 with (fail)
          rw [HV1.out]
          go_wp2_with fail
          go_roundw
          case rel => exact ⟨i + 1, by go_num, by omega, HVK, Lib.hid (by rw [HS.out]; exact HCV.out)⟩
          case measure => simp [intOf]; omega
      · rw [if_neg hskip] at HS
        have d1 : decide (g.uf i < f) = false := by rw [decide_eq_false_iff_not]; omega
        have d2 : decide (t ≤ g.uf i) = false := by rw [decide_eq_false_iff_not]; omega
        clear hskip
        go_upto_region 5 with (fail)
        rw [HV1.out]
        go_wp2_with fail
        refine DU1.out.mono ?_
        rintro e w2 ⟨v, base, hbase, rfl, hown, _, hb2⟩
        obtain ⟨am, cm, hv, hrow⟩ := evRow hown
        have hnr : ∀ b off, am = some ⟨b, off, none⟩ → ¬ b = w.heap.size + 2 := fun b off e hb => by
          have := (hown.lt b (by rw [hv, e]; rfl)).1
          have := hvs
          omega
        have HNR := Lib.hid hnr
        subst hv
        have hea := HEA.out i hlt
        have hsl := HSL.out i hlt
        have HCV2 := Lib.hid (below_block hb2 HCV.out)
        have HVK2 := Lib.hid (HVK.out.trans (Kept.of_below (O := fun b => b = w.heap.size + 2) hb2))
        have hm1 : g.ns * 1000000 ≤ 100 * 1000000 := Nat.mul_le_mul_right _ hns
        have hm2 : g.ns * 1000000000 ≤ 100 * 1000000000 := Nat.mul_le_mul_right _ hns
        have HST := Lib.hid (fun q (hq : q < (evS g i g.ns).length) => stU_succ part sa sb (evS g i g.ns) hq)
        have HSB := Lib.hid (fun q => stepU_bound part ((evS g i g.ns).take q) sa sb 0 (fun e he => by have := hea.1 e (List.mem_of_mem_take he); omega) (Or.inl rfl))
        have HTK := Lib.hid (fun q => sums_take (evS g i g.ns) q (fun e he => by have := hea.1 e he; omega))
        have hfo : foldU part sa sb (evS g i g.ns) = stU part sa sb (evS g i g.ns) (evS g i g.ns).length := by unfold foldU stU; rw [List.take_length]
        have hs1 := hea.2.1
        have hs2 := hea.2.2
        have HEV := Lib.hid (fun q (hq : q < (evS g i g.ns).length) => hea.1 ((evS g i g.ns).getD q ev0) (by rw [List.getD_eq_getElem?_getD, List.getElem?_eq_getElem hq]; exact List.getElem_mem hq))
        have HSB2 : Hid (∀ q, sa ≤ (stU part sa sb (evS g i g.ns) q).1 ∧ (stU part sa sb (evS g i g.ns) q).1 ≤ sa + 100000000 ∧ sb ≤ (stU part sa sb (evS g i g.ns) q).2.1 ∧ (stU part sa sb (evS g i g.ns) q).2.1 ≤ sb + 100000000000 ∧ ((stU part sa sb (evS g i g.ns) q).2.2 = 0 ∨ (stU part sa sb (evS g i g.ns) q).2.2 = 1)) := Lib.hid (fun q => by
          have y1 := HSB.out q
          have y2 := HTK.out q
          unfold stU
          omega)
        have HSE : Hid (∀ q, q < (evS g i g.ns).length → 0 ≤ ((evS g i g.ns).getD q ev0).sec ∧ ((evS g i g.ns).getD q ev0).sec ≤ 100000000 ∧ 0 ≤ ((evS g i g.ns).getD q ev0).way ∧ ((evS g i g.ns).getD q ev0).way ≤ 100000000000) := Lib.hid (fun q hq => by
          have z1 := HEV.out q hq
          have z2 := HTK.out (q + 1)
          have z3 := sums_take ((evS g i g.ns).take q) 0 (fun e he => by have := hea.1 e (List.mem_of_mem_take he); omega)
          rw [List.take_zero] at z3
          have z4 : secSum [] = 0 := rfl
          have z5 : waySum [] = 0 := rfl
          rw [List.take_succ_eq_append_getElem hq, secSum_app, waySum_app] at z2
          rw [List.getD_eq_getElem?_getD, List.getElem?_eq_getElem hq] at z1 ⊢
          have z6 : secSum [(evS g i g.ns)[q]] = ((evS g i g.ns)[q]).sec := by simp [secSum]
          have z7 : waySum [(evS g i g.ns)[q]] = ((evS g i g.ns)[q]).way := by simp [waySum]
          simp only [Option.getD_some] at z1 ⊢
          omega)
        rw [hfo] at HS
        have HROW := Lib.hid hrow
        generalize evS g i g.ns = l at HS HROW HST HSB2 HSE hsl
        obtain ⟨st, hst⟩ : ∃ st : Nat → Int × Int × Int, stU part sa sb l = st := ⟨_, rfl⟩
        have hst0 : st 0 = (sa, sb, 0) := by rw [← hst]; rfl
        rw [hst] at HS HST HSB2
        have HST0 := Lib.hid hst0
        obtain ⟨m, hm⟩ : ∃ m, l.length = m := ⟨_, rfl⟩
        rw [hm] at HS HROW HST HSE hsl ⊢
        have hw2 : w.heap.size + 2 < w2.heap.size := by have := hb2.size; omega
        clear hrow hnr hea hfo hst hst0 hm hown HSB HTK HEV HEA HSL DU DU1 HCV HVK hs1 hs2 g0 g1 g2 g3 u0 u1 u2 u3 u4 e0 e1 e2 e3 e4 hb2
        go_wp2_with fail
        go_loopw [12, 37] (fun sv iv wr => ∃ (q : Nat), sv = .int .i64 (st q).2.2 ∧ iv = .int .i64 q ∧ q ≤ m ∧ Hid (Kept (fun b => b = w.heap.size + 2) w2 wr) ∧ Hid (wr.heap[w.heap.size + 2]? = some (.cells #[.int .i64 (st q).1, .int .i64 (st q).2.1, .int .i64 sc] 60 (0, 0)))) (fun _ iv _ => m - (intOf iv).toNat)
        case atStart => exact ⟨0, by rw [HST0.out], rfl, by omega, Lib.hid (Kept.refl _ _), Lib.hid (by rw [HST0.out]; exact HCV2.out)⟩
        case round =>
          obtain ⟨q, rfl, rfl, hq, HKI, HCI⟩ := hrel
          have hsb := HSB2.out q
          by_cases hltq : q < m
          · have t2 : decide ((q : Int) < (m : Int)) = true := by rw [decide_eq_true_eq]; omega
            have hse := HSE.out q hltq
            have hsu := HST.out q hltq
            obtain ⟨bq, offq, rfl, hblq, hcq⟩ := (Kept.row HROW.out HKI.out HNR.out).here (by omega)
            have z0 : wr.cell? ⟨bq, offq + q * 5, none⟩ = some (.string (g.un (l.getD q ev0).i)) := hcq q hltq 0 (by omega)
            have z1 : wr.cell? ⟨bq, offq + q * 5 + 1, none⟩ = some (.string (l.getD q ev0).s) := hcq q hltq 1 (by omega)
            have z2 : wr.cell? ⟨bq, offq + q * 5 + 2, none⟩ = some (.string (l.getD q ev0).p) := hcq q hltq 2 (by omega)
            have z3 : wr.cell? ⟨bq, offq + q * 5 + 3, none⟩ = some (.int .i64 (l.getD q ev0).sec) := hcq q hltq 3 (by omega)
            have z4 : wr.cell? ⟨bq, offq + q * 5 + 4, none⟩ = some (.int .i64 (l.getD q ev0).way) := hcq q hltq 4 (by omega)
            obtain ⟨V3, hV3, hvb3, hvs3, hvq3⟩ := alloc_block wr #[.string (g.un (l.getD q ev0).i), .string (l.getD q ev0).s, .string (l.getD q ev0).p, .int .i64 (l.getD q ev0).sec, .int .i64 (l.getD q ev0).way] 42
            generalize l.getD q ev0 = ev at hse hsu z0 z1 z2 z3 z4 hV3 hvq3
            have q2 : V3.cell? ⟨wr.heap.size, 2, none⟩ = some (.string ev.p) := block_cell hvq3 rfl
            have q3 : V3.cell? ⟨wr.heap.size, 3, none⟩ = some (.int .i64 ev.sec) := block_cell hvq3 rfl
            have q4 : V3.cell? ⟨wr.heap.size, 4, none⟩ = some (.int .i64 ev.way) := block_cell hvq3 rfl
            have hci := below_block hvb3 HCI.out
            obtain ⟨sq, hsq⟩ : ∃ sq, st q = sq := ⟨_, rfl⟩
            rw [hsq] at hsb hsu hci
            obtain ⟨qa, qb, qc⟩ := sq
            have hsb3 : sa ≤ qa ∧ qa ≤ sa + 100000000 ∧ sb ≤ qb ∧ qb ≤ sb + 100000000000 := ⟨hsb.1, hsb.2.1, hsb.2.2.1, hsb.2.2.2.1⟩
            have hci : V3.heap[w.heap.size + 2]? = some (.cells #[.int .i64 qa, .int .i64 qb, .int .i64 sc] 60 (0, 0)) := hci
            have w0 : V3.cell? ⟨w.heap.size + 2, 0, none⟩ = some (.int .i64 qa) := block_cell hci rfl
            have w1 : V3.cell? ⟨w.heap.size + 2, 1, none⟩ = some (.int .i64 qb) := block_cell hci rfl
            have x0 : V3.frozen? ⟨w.heap.size + 2, 0, none⟩ = false := block_free hci
            have x1 : V3.frozen? ⟨w.heap.size + 2, 1, none⟩ = false := block_free hci
            have HCI3 := Lib.hid hci
            have HV3 := Lib.hid hV3
            have HKV := Lib.hid (HKI.out.trans (Kept.of_below (O := fun b => b = w.heap.size + 2) hvb3))
            have hpe := str_eq ev.p part
            have hwk : w.heap.size + 2 < wr.heap.size := Nat.lt_of_lt_of_le hw2 HKI.out.size
            rw [hsq]
            clear hcq hV3 hvb3 hvq3 hsq hci hsb
            unfold stepU at hsu
            by_cases hp : ev.p = part
            · rw [if_pos hp] at hsu
              rw [show decide (ev.p = part) = true by simpa using hp] at hpe
              have HSU := Lib.hid hsu
              clear hp hsu
              go_upto_region 10 with (fail)
              rw [HV3.out]
              go_wp2_with fail
              go_roundw
              case rel => exact ⟨q + 1, by rw [HSU.out], by go_num, by omega, Lib.hid (kept_set (kept_set HKV.out (by rfl) _) (by rfl) _), Lib.hid (by rw [HSU.out]; exact cells_setCell (cells_setCell HCI3.out))⟩
              case measure => simp [intOf]; omega
            · rw [if_neg hp] at hsu
              rw [show decide (ev.p = part) = false by simpa using hp] at hpe
              have HSU := Lib.hid hsu
              clear hp hsu
              go_upto_region 10 with (fail)
              rw [HV3.out]
              go_wp2_with fail
              go_roundw
              case rel => exact ⟨q + 1, by rw [HSU.out], by go_num, by omega, HKV, Lib.hid (by rw [HSU.out]; exact HCI3.out)⟩
              case measure => simp [intOf]; omega
          · have t2 : decide ((q : Int) < (m : Int)) = false := by rw [decide_eq_false_iff_not]; omega
            have t2' : decide (q < m) = false := by simpa using hltq
            obtain rfl : q = m := by omega
            have hci := HCI.out
            have w2' : wr.cell? ⟨w.heap.size + 2, 2, none⟩ = some (.int .i64 sc) := block_cell hci rfl
            have x2 : wr.frozen? ⟨w.heap.size + 2, 2, none⟩ = false := block_free hci
            have hqc : 0 ≤ (st q).2.2 ∧ (st q).2.2 ≤ 1 := by omega
            clear hltq hci
            go_wp2_with fail
            go_roundw
            case rel => exact ⟨i + 1, by go_num, by omega, Lib.hid (kept_set (HVK2.out.trans HKI.out) (by rfl) _), Lib.hid (by rw [HS.out]; exact cells_setCell HCI.out)⟩
            case measure => simp [intOf]; omega
    · have t1 : decide ((i : Int) < (g.nu : Int)) = false := by rw [decide_eq_false_iff_not]; omega
      have t1' : decide (i < g.nu) = false := by simpa using hlt
      obtain rfl : i = g.nu := by omega
      obtain ⟨x1, x2, x3, _⟩ := HRW.out g.nu (Nat.le_refl _)
      have HWR : Hid (wearR (wearL g part f t (evG g g.nu)) = .agg #[.int .i64 (rwF g part f t g.nu).1, .int .i64 (rwF g part f t g.nu).2.1, .int .i64 (rwF g part f t g.nu).2.2]) := Lib.hid (by unfold wearR; rw [x1, x2, x3])
      have hc9 := HC.out
      generalize rwF g part f t g.nu = st at HWR hc9
      obtain ⟨sa, sb, sc⟩ := st
      have hc9 : wr.heap[w.heap.size + 2]? = some (.cells #[.int .i64 sa, .int .i64 sb, .int .i64 sc] 60 (0, 0)) := hc9
      have r8 := (HK.out.block (w.heap.size + 1) (by omega) (by show ¬ w.heap.size + 1 = w.heap.size + 2; omega)).trans HR8.out
      have k0 : wr.cell? ⟨w.heap.size + 2, 0, none⟩ = some (.int .i64 sa) := block_cell hc9 rfl
      have k1 : wr.cell? ⟨w.heap.size + 2, 1, none⟩ = some (.int .i64 sb) := block_cell hc9 rfl
      have k2 : wr.cell? ⟨w.heap.size + 2, 2, none⟩ = some (.int .i64 sc) := block_cell hc9 rfl
      have q0 : wr.cell? ⟨w.heap.size + 1, 0, none⟩ = some (.int .i64 0) := block_cell r8 rfl
      have q1 : wr.cell? ⟨w.heap.size + 1, 1, none⟩ = some (.int .i64 0) := block_cell r8 rfl
      have q2 : wr.cell? ⟨w.heap.size + 1, 2, none⟩ = some (.int .i64 0) := block_cell r8 rfl
      have z0 : wr.frozen? ⟨w.heap.size + 1, 0, none⟩ = false := block_free r8
      have z1 : wr.frozen? ⟨w.heap.size + 1, 1, none⟩ = false := block_free r8
      have z2 : wr.frozen? ⟨w.heap.size + 1, 2, none⟩ = false := block_free r8
      have HR4 := Lib.hid r8
      have HBF := HDN
      clear hlt x1 x2 x3 hc9 r8 g0 g1 g2 g3 HC HK
      go_wp2_with fail
      have hr : ((((wr.setCell ⟨w.heap.size + 1, 0, none⟩ (.int .i64 sa)).setCell ⟨w.heap.size + 1, 1, none⟩ (.int .i64 sb)).setCell ⟨w.heap.size + 1, 2, none⟩ (.int .i64 sc))).heap[w.heap.size + 1]? = some (.cells #[.int .i64 sa, .int .i64 sb, .int .i64 sc] 60 (0, 0)) :=
        cells_setCell (cells_setCell (cells_setCell HR4.out))
      have hbf := ((HBF.out.setCell (p := ⟨w.heap.size + 1, 0, none⟩) (by show w.heap.size ≤ w.heap.size + 1; omega) (.int .i64 sa)).setCell (p := ⟨w.heap.size + 1, 1, none⟩) (by show w.heap.size ≤ w.heap.size + 1; omega) (.int .i64 sb)).setCell (p := ⟨w.heap.size + 1, 2, none⟩) (by show w.heap.size ≤ w.heap.size + 1; omega) (.int .i64 sc)
      generalize ((wr.setCell ⟨w.heap.size + 1, 0, none⟩ (.int .i64 sa)).setCell ⟨w.heap.size + 1, 1, none⟩ (.int .i64 sb)).setCell ⟨w.heap.size + 1, 2, none⟩ (.int .i64 sc) = w4 at hr hbf ⊢
      have y0 : w4.cell? ⟨w.heap.size + 1, 0, none⟩ = some (.int .i64 sa) := block_cell hr rfl
      have y1 : w4.cell? ⟨w.heap.size + 1, 1, none⟩ = some (.int .i64 sb) := block_cell hr rfl
      have y2 : w4.cell? ⟨w.heap.size + 1, 2, none⟩ = some (.int .i64 sc) := block_cell hr rfl
      exact bodyPost_ret (v := .agg #[.int .i64 sa, .int .i64 sb, .int .i64 sc]) (by simp [results, Try.results68, go_sem, y0, y1, y2]) rfl ⟨by rw [HWR.out], hbf⟩
end Go.Proofs.Ytbkpoepacjinlaa

/- Gear: checkPlans of the reference (We's walk, turned). -/
namespace Go.Proofs.Ytbkpoepacjinlaa
open Go.RowKit Go.BigFrame
open Gar (chk momG hasS hasP)

set_option maxHeartbeats 4000000 in
set_option maxRecDepth 100000 in
theorem rcheckPlans_any (g : Gar) (a0 a1 a2 a3 : Option Addr) (c0 c1 c2 c3 : Nat) (c : Cares) (ac : Option Addr) (cc : Nat) (v : Servs) (av : Option Addr) (cv : Nat) (m : Int) (w : World) (h : GarIn w g a0 a1 a2 a3)
    (hc : RowK w ac c.n 3 c.cells) (hcl : (c.n : Int) ≤ 9223372036854775807) (hv : RowK w av v.n 2 v.cells) (hvl : (v.n : Int) ≤ 9223372036854775807) :
    Calls Try.prog 74 #[garV g a0 a1 a2 a3 c0 c1 c2 c3, .slice ac c.n cc, .slice av v.n cv, .int .i64 m] w fun e w' => e = .returned (.int .i64 (careErr g c v m)) ∧ Below w.heap.size w w' := by
  have HG := Lib.hid h
  have HC := Lib.hid hc
  have HV := Lib.hid hv
  obtain ⟨W0, hW0, hb0, hs0, hl0'⟩ := alloc_cells w #[.slice a0 g.np c0, .slice a1 g.ns c1, .slice a2 g.nm c2, .slice a3 g.nu c3] 27
  have G0 := Ext.ex (hl0' 0 _ rfl)
  have G1 := Ext.ex (hl0' 1 _ rfl)
  have G2 := Ext.ex (hl0' 2 _ rfl)
  have G3 := Ext.ex (hl0' 3 _ rfl)
  have HW0 := Lib.hid hW0
  have HB := Lib.hid hb0
  have hbs : w.heap.size ≤ W0.heap.size := by omega
  have DS := Lib.hid (fun (s : ByteArray) (Y : Ext W0) => slotAt_any g a0 a1 a2 a3 c0 c1 c2 c3 s Y.1 (HG.out.below (Y.down HB.out hbs)))
  have DP := Lib.hid (fun (s : ByteArray) (Y : Ext W0) => partAt_any g a0 a1 a2 a3 c0 c1 c2 c3 s Y.1 (HG.out.below (Y.down HB.out hbs)))
  have DI := Lib.hid (fun (n lo hi : Int) (W : World) => rout_any n lo hi W)
  have DM := Lib.hid (fun (n : Int) (W : World) => rmoment_any n W)
  obtain ⟨zz, hzz⟩ : ∃ z, careErr g c v m = z := ⟨_, rfl⟩
  rw [hzz]
  unfold careErr at hzz
  have HZ := Lib.hid hzz
  unfold garV at DS DP ⊢
  clear h hc hv hl0' hW0 hb0 hs0 hzz
  by_cases k1 : 200 < c.n
  · rw [if_pos k1] at HZ
    have t0 : decide ((200 : Int) < (c.n : Int)) = true := by rw [decide_eq_true_eq]; omega
    have t0' : decide (200 < c.n) = true := by simpa using k1
    clear k1
    go_enter Try.func74, Try.ntmps74
    go_upto_region 1 with (fail)
    rw [HW0.out]
    refine ext_wp fun X => ?_
    go_wp2_with fail
    go_ret
    exact ⟨ret_int HZ.out, X.down HB.out hbs⟩
  rw [if_neg k1] at HZ
  have t0 : decide ((200 : Int) < (c.n : Int)) = false := by rw [decide_eq_false_iff_not]; omega
  have t0' : decide (200 < c.n) = false := by simpa using k1
  obtain ⟨z1, hz1⟩ : ∃ z, chkC g c c.n 0 = z := ⟨_, rfl⟩
  rw [hz1] at HZ
  have HZ1 := Lib.hid hz1
  clear hz1
  go_enter Try.func74, Try.ntmps74
  go_upto_region 1 with (fail)
  rw [HW0.out]
  refine ext_wp fun X => ?_
  go_wp2_with fail
  go_loopw [18] (fun iv wr => ∃ (k : Nat), iv = .int .i64 k ∧ k ≤ c.n ∧ (∃ X : Ext W0, wr = X.1) ∧ Hid (chkC g c (c.n - k) k = z1)) (fun iv _ => c.n - (intOf iv).toNat)
  case atStart => exact ⟨0, rfl, by omega, ⟨X, rfl⟩, HZ1⟩
  case round =>
    obtain ⟨k, rfl, hk, ⟨X, rfl⟩, HX⟩ := hrel
    by_cases hlt : k < c.n
    · have t1 : decide ((k : Int) < (c.n : Int)) = true := by rw [decide_eq_true_eq]; omega
      obtain ⟨b, off, rfl, hbl, hcc⟩ := (HC.out.below (X.down HB.out hbs) (Nat.le_refl _)).here (by omega)
      have e0 : X.1.cell? ⟨b, off + k * 3, none⟩ = some (.string (c.s k)) := hcc k hlt 0 (by omega)
      have e1 : X.1.cell? ⟨b, off + k * 3 + 1, none⟩ = some (.int .i64 (c.w k)) := hcc k hlt 1 (by omega)
      have e2 : X.1.cell? ⟨b, off + k * 3 + 2, none⟩ = some (.int .i64 (c.d k)) := hcc k hlt 2 (by omega)
      have hx := HX.out
      rw [show c.n - k = (c.n - k - 1) + 1 by omega, chkC] at hx
      have HX2 := Lib.hid hx
      obtain ⟨V1, hV1, hvb, hvs, hvl'⟩ := alloc_cells X.1 #[.string (c.s k), .int .i64 (c.w k), .int .i64 (c.d k)] 109
      have U0 := Ext.ex (hvl' 0 _ rfl)
      have U1 := Ext.ex (hvl' 1 _ rfl)
      have U2 := Ext.ex (hvl' 2 _ rfl)
      have hWV : Below W0.heap.size W0 V1 := X.2.trans (hvb.mono X.2.size)
      have G0' := Ext.re hWV G0
      have G1' := Ext.re hWV G1
      have G2' := Ext.re hWV G2
      have G3' := Ext.re hWV G3
      have HWV := Lib.hid hWV
      have HV1 := Lib.hid hV1
      have DS1 := Lib.hid (fun (Y : Ext V1) => (Ext.rise HWV.out Y).elim fun Z hZ => hZ ▸ DS.out (c.s k) Z)
      have DW := Lib.hid (DI.out (c.w k) 0 1000000000)
      have DD := Lib.hid (DI.out (c.d k) 0 999999)
      obtain ⟨p6, hp6⟩ : ∃ p6, X.1.heap.size = p6 := ⟨_, rfl⟩
      rw [hp6] at U0 U1 U2
      have HP6 := Lib.hid hp6
      clear hcc hV1 hvb hvs hvl' hWV hp6 hx HX
      generalize c.s k = s0 at *
      generalize c.w k = s1 at *
      generalize c.d k = s2 at *
      have hix := hasS_idx g s0
      generalize idxF (fun i => decide (g.sn i = s0)) g.ns 0 = zi at DS1 hix
      cases hs : hasS g s0
      · rw [hs, Bool.not_false] at hix
        rw [hs] at HX2
        rw [if_pos rfl] at HX2
        clear hs
        go_upto_region 6 with (fail)
        rw [HV1.out, HP6.out]
        refine ext_wp fun X1 => ?_
        clear e0 e1 e2 hbl HP6 HV1 X
        go_wp2_with fail
        refine (Ext.calls _ (DS1.out _)).mono ?_
        rintro e w2 ⟨rfl, Y, rfl⟩
        go_wp2_with fail
        go_ret
        exact ⟨ret_int (by rw [← HZ.out, ← HX2.out] <;> simp), (Ext.rise HWV.out Y).elim fun Z hZ => hZ ▸ Z.down HB.out hbs⟩
      · rw [hs, Bool.not_true] at hix
        rw [hs] at HX2
        rw [if_neg (by simp)] at HX2
        clear hs
        cases h1 : inB s1 0 1000000000
        · rw [h1, Bool.not_false] at DW
          rw [h1] at HX2
          rw [Bool.false_and, if_pos rfl] at HX2
          clear h1
          go_upto_region 6 with (fail)
          rw [HV1.out, HP6.out]
          refine ext_wp fun X1 => ?_
          clear e0 e1 e2 hbl HP6 HV1 X
          go_wp2_with fail
          refine (Ext.calls _ (DS1.out _)).mono ?_
          rintro e w2 ⟨rfl, Y, rfl⟩
          go_wp2_with fail
          refine (DW.out _).mono ?_
          rintro e w3 ⟨rfl, rfl⟩
          go_wp2_with fail
          go_ret
          exact ⟨ret_int (by rw [← HZ.out, ← HX2.out] <;> simp), (Ext.rise HWV.out Y).elim fun Z hZ => hZ ▸ Z.down HB.out hbs⟩
        · rw [h1, Bool.not_true] at DW
          rw [h1] at HX2
          rw [Bool.true_and] at HX2
          clear h1
          cases h2 : inB s2 0 999999
          · rw [h2, Bool.not_false] at DD
            rw [h2] at HX2
            rw [if_pos rfl] at HX2
            clear h2
            go_upto_region 6 with (fail)
            rw [HV1.out, HP6.out]
            refine ext_wp fun X1 => ?_
            clear e0 e1 e2 hbl HP6 HV1 X
            go_wp2_with fail
            refine (Ext.calls _ (DS1.out _)).mono ?_
            rintro e w2 ⟨rfl, Y, rfl⟩
            go_wp2_with fail
            refine (DW.out _).mono ?_
            rintro e w3 ⟨rfl, rfl⟩
            go_wp2_with fail
            refine (DD.out _).mono ?_
            rintro e w3 ⟨rfl, rfl⟩
            go_wp2_with fail
            go_ret
            exact ⟨ret_int (by rw [← HZ.out, ← HX2.out] <;> simp), (Ext.rise HWV.out Y).elim fun Z hZ => hZ ▸ Z.down HB.out hbs⟩
          · rw [h2, Bool.not_true] at DD
            rw [h2] at HX2
            rw [if_neg (by simp)] at HX2
            clear h2
            by_cases h3 : s1 = 0 ∧ s2 = 0
            · rw [if_pos h3] at HX2
              have q1 : (s1 == 0) = true := by rw [h3.1]; rfl
              have q2 : (s2 == 0) = true := by rw [h3.2]; rfl
              clear h3
              go_upto_region 6 with (fail)
              rw [HV1.out, HP6.out]
              refine ext_wp fun X1 => ?_
              clear e0 e1 e2 hbl HP6 HV1 X
              go_wp2_with fail
              refine (Ext.calls _ (DS1.out _)).mono ?_
              rintro e w2 ⟨rfl, Y, rfl⟩
              go_wp2_with fail
              refine (DW.out _).mono ?_
              rintro e w3 ⟨rfl, rfl⟩
              go_wp2_with fail
              refine (DD.out _).mono ?_
              rintro e w3 ⟨rfl, rfl⟩
              go_wp2_with fail
              go_ret
              exact ⟨ret_int (by rw [← HZ.out, ← HX2.out] <;> simp), (Ext.rise HWV.out Y).elim fun Z hZ => hZ ▸ Z.down HB.out hbs⟩
            · rw [if_neg h3] at HX2
              by_cases h4 : s1 = 0
              · have q1 : (s1 == 0) = true := by rw [h4]; rfl
                have q2 : (s2 == 0) = false := by rw [beq_eq_false_iff_ne]; exact fun e => h3 ⟨h4, e⟩
                clear h3 h4
                go_upto_region 6 with (fail)
                rw [HV1.out, HP6.out]
                refine ext_wp fun X1 => ?_
                clear e0 e1 e2 hbl HP6 HV1 X
                go_wp2_with fail
                refine (Ext.calls _ (DS1.out _)).mono ?_
                rintro e w2 ⟨rfl, Y, rfl⟩
                go_wp2_with fail
                refine (DW.out _).mono ?_
                rintro e w3 ⟨rfl, rfl⟩
                go_wp2_with fail
                refine (DD.out _).mono ?_
                rintro e w3 ⟨rfl, rfl⟩
                go_wp2_with fail
                go_roundw
                case rel => exact ⟨k + 1, by go_num, by omega, Ext.rise HWV.out Y, HX2⟩
                case measure => simp [intOf]; omega
              · have q1 : (s1 == 0) = false := by rw [beq_eq_false_iff_ne]; exact h4
                clear h3 h4
                go_upto_region 6 with (fail)
                rw [HV1.out, HP6.out]
                refine ext_wp fun X1 => ?_
                clear e0 e1 e2 hbl HP6 HV1 X
                go_wp2_with fail
                refine (Ext.calls _ (DS1.out _)).mono ?_
                rintro e w2 ⟨rfl, Y, rfl⟩
                go_wp2_with fail
                refine (DW.out _).mono ?_
                rintro e w3 ⟨rfl, rfl⟩
                go_wp2_with fail
                refine (DD.out _).mono ?_
                rintro e w3 ⟨rfl, rfl⟩
                go_wp2_with fail
                go_roundw
                case rel => exact ⟨k + 1, by go_num, by omega, Ext.rise HWV.out Y, HX2⟩
                case measure => simp [intOf]; omega
    · have t1 : decide ((k : Int) < (c.n : Int)) = false := by rw [decide_eq_false_iff_not]; omega
      have t1' : decide (k < c.n) = false := by simpa using hlt
      have hx := HX.out
      rw [show c.n - k = 0 by omega, chkC] at hx
      subst hx
      rw [if_neg (by simp)] at HZ
      obtain rfl : k = c.n := by omega
      clear hlt HX HZ1
      by_cases k2 : 5000 < v.n
      · rw [if_pos k2] at HZ
        have t2 : decide ((5000 : Int) < (v.n : Int)) = true := by rw [decide_eq_true_eq]; omega
        have t2' : decide (5000 < v.n) = true := by simpa using k2
        clear k2
        go_wp2_with fail
        go_ret
        exact ⟨ret_int HZ.out, X.down HB.out hbs⟩
      · rw [if_neg k2] at HZ
        have t2 : decide ((5000 : Int) < (v.n : Int)) = false := by rw [decide_eq_false_iff_not]; omega
        have t2' : decide (5000 < v.n) = false := by simpa using k2
        obtain ⟨z2, hz2⟩ : ∃ z, chkV g v v.n 0 = z := ⟨_, rfl⟩
        rw [hz2] at HZ
        have HZ2 := Lib.hid hz2
        clear hz2 k2
        go_wp2_with fail
        go_loopw [49] (fun iv wr => ∃ (k : Nat), iv = .int .i64 k ∧ k ≤ v.n ∧ (∃ X : Ext W0, wr = X.1) ∧ Hid (chkV g v (v.n - k) k = z2)) (fun iv _ => v.n - (intOf iv).toNat)
        case atStart => exact ⟨0, rfl, by omega, ⟨X, rfl⟩, HZ2⟩
        case round =>
          obtain ⟨k, rfl, hk, ⟨X, rfl⟩, HX⟩ := hrel
          by_cases hlt : k < v.n
          · have t3 : decide ((k : Int) < (v.n : Int)) = true := by rw [decide_eq_true_eq]; omega
            obtain ⟨b, off, rfl, hbl, hcc⟩ := (HV.out.below (X.down HB.out hbs) (Nat.le_refl _)).here (by omega)
            have e0 : X.1.cell? ⟨b, off + k * 2, none⟩ = some (.string (v.p k)) := hcc k hlt 0 (by omega)
            have e1 : X.1.cell? ⟨b, off + k * 2 + 1, none⟩ = some (.int .i64 (v.t k)) := hcc k hlt 1 (by omega)
            have hx := HX.out
            rw [show v.n - k = (v.n - k - 1) + 1 by omega, chkV] at hx
            have HX2 := Lib.hid hx
            obtain ⟨V1, hV1, hvb, hvs, hvl'⟩ := alloc_cells X.1 #[.string (v.p k), .int .i64 (v.t k)] 47
            have U0 := Ext.ex (hvl' 0 _ rfl)
            have U1 := Ext.ex (hvl' 1 _ rfl)
            have hWV : Below W0.heap.size W0 V1 := X.2.trans (hvb.mono X.2.size)
            have G0' := Ext.re hWV G0
            have G1' := Ext.re hWV G1
            have G2' := Ext.re hWV G2
            have G3' := Ext.re hWV G3
            have HWV := Lib.hid hWV
            have HV1 := Lib.hid hV1
            have DP1 := Lib.hid (fun (Y : Ext V1) => (Ext.rise HWV.out Y).elim fun Z hZ => hZ ▸ DP.out (v.p k) Z)
            have DM1 := Lib.hid (DM.out (v.t k))
            obtain ⟨p6, hp6⟩ : ∃ p6, X.1.heap.size = p6 := ⟨_, rfl⟩
            rw [hp6] at U0 U1
            have HP6 := Lib.hid hp6
            clear hcc hV1 hvb hvs hvl' hWV hp6 hx HX
            generalize v.p k = s0 at *
            generalize v.t k = s1 at *
            have hix := hasP_idx g s0
            generalize idxF (fun i => decide (g.pn i = s0)) g.np 0 = zi at DP1 hix
            cases hs : hasP g s0
            · rw [hs, Bool.not_false] at hix
              rw [hs] at HX2
              rw [if_pos rfl] at HX2
              clear hs
              go_upto_region 18 with (fail)
              rw [HV1.out, HP6.out]
              refine ext_wp fun X1 => ?_
              clear e0 e1 hbl HP6 HV1 X
              go_wp2_with fail
              refine (Ext.calls _ (DP1.out _)).mono ?_
              rintro e w2 ⟨rfl, Y, rfl⟩
              go_wp2_with fail
              go_ret
              exact ⟨ret_int (by rw [← HZ.out, ← HX2.out] <;> simp), (Ext.rise HWV.out Y).elim fun Z hZ => hZ ▸ Z.down HB.out hbs⟩
            · rw [hs, Bool.not_true] at hix
              rw [hs] at HX2
              rw [if_neg (by simp)] at HX2
              clear hs
              cases h1 : momG s1
              · rw [h1] at DM1 HX2
                rw [if_pos rfl] at HX2
                clear h1
                go_upto_region 18 with (fail)
                rw [HV1.out, HP6.out]
                refine ext_wp fun X1 => ?_
                clear e0 e1 hbl HP6 HV1 X
                go_wp2_with fail
                refine (Ext.calls _ (DP1.out _)).mono ?_
                rintro e w2 ⟨rfl, Y, rfl⟩
                go_wp2_with fail
                refine (DM1.out _).mono ?_
                rintro e w3 ⟨rfl, rfl⟩
                go_wp2_with fail
                go_ret
                exact ⟨ret_int (by rw [← HZ.out, ← HX2.out] <;> simp), (Ext.rise HWV.out Y).elim fun Z hZ => hZ ▸ Z.down HB.out hbs⟩
              · rw [h1] at DM1 HX2
                rw [if_neg (by simp)] at HX2
                clear h1
                go_upto_region 18 with (fail)
                rw [HV1.out, HP6.out]
                refine ext_wp fun X1 => ?_
                clear e0 e1 hbl HP6 HV1 X
                go_wp2_with fail
                refine (Ext.calls _ (DP1.out _)).mono ?_
                rintro e w2 ⟨rfl, Y, rfl⟩
                go_wp2_with fail
                refine (DM1.out _).mono ?_
                rintro e w3 ⟨rfl, rfl⟩
                go_wp2_with fail
                go_roundw
                case rel => exact ⟨k + 1, by go_num, by omega, Ext.rise HWV.out Y, HX2⟩
                case measure => simp [intOf]; omega
          · have t3 : decide ((k : Int) < (v.n : Int)) = false := by rw [decide_eq_false_iff_not]; omega
            have t3' : decide (k < v.n) = false := by simpa using hlt
            have hx := HX.out
            rw [show v.n - k = 0 by omega, chkV] at hx
            subst hx
            rw [if_neg (by simp)] at HZ
            have DM1 := Lib.hid (DM.out m)
            clear hlt HX HZ2
            cases h1 : momG m
            · rw [h1] at DM1 HZ
              rw [if_pos rfl] at HZ
              clear h1
              go_wp2_with fail
              refine (DM1.out _).mono ?_
              rintro e w3 ⟨rfl, rfl⟩
              go_wp2_with fail
              go_ret
              exact ⟨ret_int HZ.out, X.down HB.out hbs⟩
            · rw [h1] at DM1 HZ
              rw [if_neg (by simp)] at HZ
              clear h1
              go_wp2_with fail
              refine (DM1.out _).mono ?_
              rintro e w3 ⟨rfl, rfl⟩
              go_wp2_with fail
              go_ret
              exact ⟨ret_int HZ.out, X.down HB.out hbs⟩
end Go.Proofs.Ytbkpoepacjinlaa

/- Gear: since of the reference. -/
namespace Go.Proofs.Ytbkpoepacjinlaa
open Go.RowKit Go.BigFrame
open Gar (chk momG hasS hasP)

/-- the reference's look for the first mount -/
def lastM (g : Gar) (part : ByteArray) (l0 : Int) : Nat → Int
  | 0 => l0
  | k + 1 => if lastM g part l0 k < 0 ∧ g.mp k = part then g.mf k else lastM g part l0 k
theorem lastM_pos (g : Gar) (part : ByteArray) (l0 : Int) (h : 0 ≤ l0) : ∀ k, lastM g part l0 k = l0
  | 0 => rfl
  | k + 1 => by rw [lastM, lastM_pos g part l0 h k, if_neg (by omega)]
theorem lastM_none (g : Gar) (part : ByteArray) (l0 : Int) : ∀ k, (∀ i, i < k → g.mp i ≠ part) → lastM g part l0 k = l0
  | 0, _ => rfl
  | k + 1, h => by rw [lastM, if_neg (fun x => h k (by omega) x.2), lastM_none g part l0 k fun i hi => h i (by omega)]
theorem lastM_hit (g : Gar) (part : ByteArray) (l0 : Int) (hl : l0 < 0) {j : Nat} (hj : g.mp j = part) (hmf : 0 ≤ g.mf j) (hno : ∀ i, i < j → g.mp i ≠ part) : ∀ d, lastM g part l0 (j + 1 + d) = g.mf j
  | 0 => by
    show lastM g part l0 (j + 1) = g.mf j
    rw [lastM, lastM_none g part l0 j hno, if_pos ⟨hl, hj⟩]
  | d + 1 => by
    show lastM g part l0 (j + 1 + d + 1) = g.mf j
    rw [lastM, lastM_hit g part l0 hl hj hmf hno d, if_neg (by omega)]
theorem idxF_first (p : Nat → Bool) : ∀ (n k j : Nat), idxF p n k = (j : Int) → ∀ i, k ≤ i → i < j → p i = false
  | 0, k, j, h, i, _, _ => by rw [idxF] at h; omega
  | n + 1, k, j, h, i, h1, h2 => by
    rw [idxF] at h
    split at h
    · omega
    · rename_i c
      by_cases e : i = k
      · subst e; simpa using c
      · exact idxF_first p n (k + 1) j h i (by omega) h2
theorem lastM_served {g : Gar} (hm : ∀ k, k < g.nm → 0 ≤ g.mf k) (v : Servs) {part : ByteArray} (m : Int) (hp : ∃ i, i < g.nm ∧ g.mp i = part) : lastM g part (lastS v part m v.n) g.nm = servedF g v part m := by
  obtain ⟨i, hi, he⟩ := hp
  obtain ⟨j, hj, _, hji, hjp⟩ := idxF_hit (fun i => decide (g.mp i = part)) g.nm 0 i (Nat.zero_le _) (by omega) (by simpa using he)
  have hno := idxF_first (fun i => decide (g.mp i = part)) g.nm 0 j hj
  unfold servedF firstI
  rw [hj]
  by_cases c : lastS v part m v.n < 0
  · rw [if_pos c]
    have := lastM_hit g part (lastS v part m v.n) c (by simpa using hjp) (hm j (by omega)) (fun i hi => by simpa using hno i (Nat.zero_le _) hi) (g.nm - (j + 1))
    rw [show j + 1 + (g.nm - (j + 1)) = g.nm by omega] at this
    exact this
  · rw [if_neg c, lastM_pos g part _ (by omega)]
set_option maxHeartbeats 2000000 in
set_option maxRecDepth 100000 in
theorem rsince_any (g : Gar) (a0 a1 a2 a3 : Option Addr) (c0 c1 c2 c3 : Nat) (part : ByteArray) (v : Servs) (av : Option Addr) (cs : Nat) (m : Int) (w : World) (h : GarIn w g a0 a1 a2 a3) (hv : RowK w av v.n 2 v.cells) (hvl : (v.n : Int) ≤ 9223372036854775807)
    (hmt : ∃ i, i < g.nm ∧ g.mp i = part) (hm0 : ∀ k, k < g.nm → 0 ≤ g.mf k) :
    Calls Try.prog 75 #[garV g a0 a1 a2 a3 c0 c1 c2 c3, .string part, .slice av v.n cs, .int .i64 m] w fun e w' => e = .returned (.int .i64 (servedF g v part m)) ∧ Below w.heap.size w w' := by
  have HG := Lib.hid h
  have HV := Lib.hid hv
  have hl2 := h.l2
  obtain ⟨V, hV, hb, hs, hl0'⟩ := alloc_cells w #[.slice a0 g.np c0, .slice a1 g.ns c1, .slice a2 g.nm c2, .slice a3 g.nu c3] 27
  have G2 := Ext.ex (hl0' 2 _ rfl)
  have HB := Lib.hid hb
  have hbs : w.heap.size ≤ V.heap.size := by omega
  have HV2 := Lib.hid hV
  have HZ : Hid (lastM g part (lastS v part m v.n) g.nm = servedF g v part m) := Lib.hid (lastM_served hm0 v m hmt)
  unfold garV
  clear h hv hV hb hs hl0' hmt hm0
  go_enter Try.func75, Try.ntmps75
  go_upto_region 1 with (fail)
  rw [HV2.out]
  refine ext_wp fun X0 => ?_
  go_wp2_with fail
  go_loopw [9, 16] (fun lv iv wr => ∃ (k : Nat), lv = .int .i64 (lastS v part m k) ∧ iv = .int .i64 k ∧ k ≤ v.n ∧ ∃ X : Ext V, wr = X.1) (fun _ iv _ => v.n - (intOf iv).toNat)
  case atStart => exact ⟨0, rfl, rfl, by omega, X0, rfl⟩
  case round =>
    obtain ⟨k, rfl, rfl, hk, X, rfl⟩ := hrel
    by_cases hlt : k < v.n
    · have t1 : decide ((k : Int) < (v.n : Int)) = true := by rw [decide_eq_true_eq]; omega
      obtain ⟨b, off, rfl, hbl, hc⟩ := (HV.out.below (X.down HB.out hbs) (Nat.le_refl _)).here (by omega)
      have e0 : X.1.cell? ⟨b, off + k * 2, none⟩ = some (.string (v.p k)) := hc k hlt 0 (by omega)
      have e1 : X.1.cell? ⟨b, off + k * 2 + 1, none⟩ = some (.int .i64 (v.t k)) := hc k hlt 1 (by omega)
      have HL : Hid (lastS v part m (k + 1) = if v.p k = part ∧ v.t k ≤ m then max (lastS v part m k) (v.t k) else lastS v part m k) := Lib.hid rfl
      obtain ⟨V1, hV1, hvb, hvs, hvl⟩ := alloc_cells X.1 #[.string (v.p k), .int .i64 (v.t k)] 47
      have U0 := Ext.ex (hvl 0 _ rfl)
      have U1 := Ext.ex (hvl 1 _ rfl)
      have hWV : Below V.heap.size V V1 := X.2.trans (hvb.mono X.2.size)
      have HWV := Lib.hid hWV
      have HV1 := Lib.hid hV1
      have hse := str_eq (v.p k) part
      generalize lastS v part m k = lk at HL ⊢
      generalize v.p k = pk at e0 U0 HL hV1 HV1 hse
      generalize v.t k = tk at e1 U1 HL hV1 HV1
      obtain ⟨p6, hp6⟩ : ∃ p6, X.1.heap.size = p6 := ⟨_, rfl⟩
      rw [hp6] at U0 U1
      have HP6 := Lib.hid hp6
      clear hc hV1 hvb hvs hvl hWV hp6
      by_cases hp : pk = part
      · rw [show decide (pk = part) = true by simpa using hp] at hse
        by_cases ht : tk ≤ m
        · rw [if_pos ⟨hp, ht⟩] at HL
          have t2 : decide (tk ≤ m) = true := by simpa using ht
          clear hp ht
          go_upto_region 5 with (fail)
          rw [HV1.out, HP6.out]
          refine ext_wp fun X1 => ?_
          clear e0 e1 hbl HP6 HV1 X
          go_wp2_with fail
          go_roundw
          case rel => exact ⟨k + 1, by rw [HL.out], by go_num, by omega, Ext.rise HWV.out X1⟩
          case measure => simp [intOf]; omega
        · rw [if_neg (fun h => ht h.2)] at HL
          have t2 : decide (tk ≤ m) = false := by simpa using ht
          clear hp ht
          go_upto_region 5 with (fail)
          rw [HV1.out, HP6.out]
          refine ext_wp fun X1 => ?_
          clear e0 e1 hbl HP6 HV1 X
          go_wp2_with fail
          go_roundw
          case rel => exact ⟨k + 1, by rw [HL.out], by go_num, by omega, Ext.rise HWV.out X1⟩
          case measure => simp [intOf]; omega
      · rw [if_neg (fun h => hp h.1)] at HL
        rw [show decide (pk = part) = false by simpa using hp] at hse
        clear hp
        go_upto_region 5 with (fail)
        rw [HV1.out, HP6.out]
        refine ext_wp fun X1 => ?_
        clear e0 e1 hbl HP6 HV1 X
        go_wp2_with fail
        go_roundw
        case rel => exact ⟨k + 1, by rw [HL.out], by go_num, by omega, Ext.rise HWV.out X1⟩
        case measure => simp [intOf]; omega
    · have t1 : decide ((k : Int) < (v.n : Int)) = false := by rw [decide_eq_false_iff_not]; omega
      have t1' : decide (k < v.n) = false := by simpa using hlt
      obtain rfl : k = v.n := by omega
      clear hlt
      have HZ0 : Hid (lastM g part (lastS v part m v.n) 0 = lastS v part m v.n) := Lib.hid rfl
      obtain ⟨l0, hl0⟩ : ∃ l, lastS v part m v.n = l := ⟨_, rfl⟩
      rw [hl0] at HZ HZ0 ⊢
      clear hl0
      go_wp2_with fail
      go_loopw [9, 38] (fun lv iv wr => ∃ (k : Nat), lv = .int .i64 (lastM g part l0 k) ∧ iv = .int .i64 k ∧ k ≤ g.nm ∧ ∃ X : Ext V, wr = X.1) (fun _ iv _ => g.nm - (intOf iv).toNat)
      case atStart => exact ⟨0, rfl, rfl, by omega, X, rfl⟩
      case round =>
        obtain ⟨k, rfl, rfl, hk, X, rfl⟩ := hrel
        by_cases hlt : k < g.nm
        · have t1 : decide ((k : Int) < (g.nm : Int)) = true := by rw [decide_eq_true_eq]; omega
          obtain ⟨b, off, rfl, hbl, hc⟩ := (HG.out.r2.below (X.down HB.out hbs) (Nat.le_refl _)).here (by omega)
          have e0 : X.1.cell? ⟨b, off + k * 4, none⟩ = some (.string (g.ms k)) := hc k hlt 0 (by omega)
          have e1 : X.1.cell? ⟨b, off + k * 4 + 1, none⟩ = some (.string (g.mp k)) := hc k hlt 1 (by omega)
          have e2 : X.1.cell? ⟨b, off + k * 4 + 2, none⟩ = some (.int .i64 (g.mf k)) := hc k hlt 2 (by omega)
          have e3 : X.1.cell? ⟨b, off + k * 4 + 3, none⟩ = some (.int .i64 (g.mt k)) := hc k hlt 3 (by omega)
          have HL : Hid (lastM g part l0 (k + 1) = if lastM g part l0 k < 0 ∧ g.mp k = part then g.mf k else lastM g part l0 k) := Lib.hid rfl
          obtain ⟨V1, hV1, hvb, hvs, hvl⟩ := alloc_cells X.1 #[.string (g.ms k), .string (g.mp k), .int .i64 (g.mf k), .int .i64 (g.mt k)] 54
          have U1 := Ext.ex (hvl 1 _ rfl)
          have U2 := Ext.ex (hvl 2 _ rfl)
          have hWV : Below V.heap.size V V1 := X.2.trans (hvb.mono X.2.size)
          have HWV := Lib.hid hWV
          have HV1 := Lib.hid hV1
          have hse := str_eq (g.mp k) part
          generalize lastM g part l0 k = lk at HL ⊢
          obtain ⟨p6, hp6⟩ : ∃ p6, X.1.heap.size = p6 := ⟨_, rfl⟩
          rw [hp6] at U1 U2
          have HP6 := Lib.hid hp6
          clear hc hV1 hvb hvs hvl hWV hp6
          by_cases hn : lk < 0
          · have t2 : decide (lk < 0) = true := by simpa using hn
            by_cases hp : g.mp k = part
            · rw [if_pos ⟨hn, hp⟩] at HL
              rw [show decide (g.mp k = part) = true by simpa using hp] at hse
              clear hn hp
              go_upto_region 11 with (fail)
              rw [HV1.out, HP6.out]
              refine ext_wp fun X1 => ?_
              clear e0 e1 e2 e3 hbl HP6 HV1 X
              go_wp2_with fail
              go_roundw
              case rel => exact ⟨k + 1, by rw [HL.out], by go_num, by omega, Ext.rise HWV.out X1⟩
              case measure => simp [intOf]; omega
            · rw [if_neg (fun x => hp x.2)] at HL
              rw [show decide (g.mp k = part) = false by simpa using hp] at hse
              clear hn hp
              go_upto_region 11 with (fail)
              rw [HV1.out, HP6.out]
              refine ext_wp fun X1 => ?_
              clear e0 e1 e2 e3 hbl HP6 HV1 X
              go_wp2_with fail
              go_roundw
              case rel => exact ⟨k + 1, by rw [HL.out], by go_num, by omega, Ext.rise HWV.out X1⟩
              case measure => simp [intOf]; omega
          · rw [if_neg (fun x => hn x.1)] at HL
            have t2 : decide (lk < 0) = false := by simpa using hn
            clear hn
            go_upto_region 11 with (fail)
            rw [HV1.out, HP6.out]
            refine ext_wp fun X1 => ?_
            clear e0 e1 e2 e3 hbl HP6 HV1 X
            go_wp2_with fail
            go_roundw
            case rel => exact ⟨k + 1, by rw [HL.out], by go_num, by omega, Ext.rise HWV.out X1⟩
            case measure => simp [intOf]; omega
        · have t1 : decide ((k : Int) < (g.nm : Int)) = false := by rw [decide_eq_false_iff_not]; omega
          have t1' : decide (k < g.nm) = false := by simpa using hlt
          obtain rfl : k = g.nm := by omega
          clear hlt
          go_wp2_with fail
          go_ret
          exact ⟨ret_int HZ.out, X.down HB.out hbs⟩
end Go.Proofs.Ytbkpoepacjinlaa

/- Gear: Dues of the reference (printed by wip/g/gen_rdues.py out of Wf's walk). -/
namespace Go.Proofs.Ytbkpoepacjinlaa
open Go.RowKit Go.BigFrame
open Gar (chk momG hasS hasP)

theorem empty_in {g : Gar} (h : chk g = 0) (m : Int) (j : Nat) : (inR (inF g (g.sn j) m g.nm 0)).2 = !decide (partJ g m j = ⟨#[]⟩) := by
  rw [← in_name h, ← str_empty]
  rfl
set_option maxHeartbeats 8000000 in
set_option maxRecDepth 100000 in
theorem rdues_any (g : Gar) (a0 a1 a2 a3 : Option Addr) (c0 c1 c2 c3 : Nat) (c : Cares) (ac : Option Addr) (cc : Nat) (v : Servs) (av : Option Addr) (cv : Nat) (m : Int) (w : World) (h : GarIn w g a0 a1 a2 a3)
    (hc : RowK w ac c.n 3 c.cells) (hcl : (c.n : Int) ≤ 9223372036854775807) (hv : RowK w av v.n 2 v.cells) (hvl : (v.n : Int) ≤ 9223372036854775807) (hc2 : g.nm ≤ c2) (hc3 : g.nu ≤ c3) :
    Calls Try.prog 31 #[garV g a0 a1 a2 a3 c0 c1 c2 c3, .slice ac c.n cc, .slice av v.n cv, .int .i64 m] w fun e w' => Below w.heap.size w w' ∧
      ((dueErr g c v m ≠ 0 ∧ e = .returned (.tuple #[.slice none 0 0, .int .i64 (dueErr g c v m)])) ∨ (dueErr g c v m = 0 ∧ ∃ vv base, w.heap.size ≤ base ∧ e = .returned (.tuple #[vv, .int .i64 0]) ∧ w'.ownsRow base 57 5 vv (dueJ g c v m g.ns).length (dueCs (dueJ g c v m g.ns)))) := by
  have HG := Lib.hid h
  have HC := Lib.hid hc
  have HV := Lib.hid hv
  have hl1 := h.l1
  obtain ⟨W0, hW0, hb0, hs0, hl0'⟩ := alloc_cells w #[.slice a0 g.np c0, .slice a1 g.ns c1, .slice a2 g.nm c2, .slice a3 g.nu c3] 27
  have G0 := Ext.ex (hl0' 0 _ rfl)
  have G1 := Ext.ex (hl0' 1 _ rfl)
  have G2 := Ext.ex (hl0' 2 _ rfl)
  have G3 := Ext.ex (hl0' 3 _ rfl)
  have HW0 := Lib.hid hW0
  have HB := Lib.hid hb0
  have hbs : w.heap.size ≤ W0.heap.size := by omega
  have hbs1 : w.heap.size < W0.heap.size := by omega
  have DK := Lib.hid (fun (Y : Ext W0) => rCheck_any g a0 a1 a2 a3 c0 c1 c2 c3 Y.1 (HG.out.below (Y.down HB.out hbs)) hc2 hc3)
  have DC := Lib.hid (fun (Y : Ext W0) => rcheckPlans_any g a0 a1 a2 a3 c0 c1 c2 c3 c ac cc v av cv m Y.1 (HG.out.below (Y.down HB.out hbs)) (HC.out.below (Y.down HB.out hbs) (Nat.le_refl _)) hcl (HV.out.below (Y.down HB.out hbs) (Nat.le_refl _)) hvl)
  have DI := Lib.hid (fun (s : ByteArray) (W : World) (hW : Below w.heap.size w W) => rin_any g a0 a1 a2 a3 c0 c1 c2 c3 s m W (HG.out.below hW) _ rfl)
  have DV := Lib.hid (fun (hk : chk g = 0) (part : ByteArray) (hp : ∃ i, i < g.nm ∧ g.mp i = part) (W : World) (hW : Below w.heap.size w W) => rsince_any g a0 a1 a2 a3 c0 c1 c2 c3 part v av cv m W (HG.out.below hW) (HV.out.below hW (Nat.le_refl _)) hvl hp (fun k hk2 => ((mnt_hyp hk).1 k hk2).1))
  have DW := Lib.hid (fun (hk : chk g = 0) (part : ByteArray) (f : Int) (W : World) (hW : Below w.heap.size w W) => rwear_any g a0 a1 a2 a3 c0 c1 c2 c3 part f m W (HG.out.below hW) hk)
  unfold garV at DK DC DI DV DW ⊢
  have HE : Hid (dueErr g c v m = if chk g ≠ 0 then chk g else careErr g c v m) := Lib.hid rfl
  clear h hc hv hl0' hW0 hb0 hs0
  by_cases k1 : chk g = 0
  case neg =>
    rw [if_pos k1] at HE
    have n1 : (chk g != 0) = true := by rw [bne_iff_ne]; exact k1
    have K1 := Lib.hid k1
    clear k1
    generalize chk g = ck at *
    go_enter Try.func31, Try.ntmps31
    go_upto_region 1 with (fail)
    rw [HW0.out]
    refine ext_wp fun X => ?_
    go_wp2_with fail
    refine (Ext.calls _ (DK.out _)).mono ?_
    rintro e w2 ⟨rfl, Y, rfl⟩
    go_wp2_with fail
    go_ret2
    exact ⟨Y.down HB.out hbs, Or.inl ⟨by rw [HE.out]; exact K1.out, by rw [HE.out]; rfl⟩⟩
  rw [if_neg (by rw [k1]; simp)] at HE
  have K1 := Lib.hid k1
  rw [k1] at DK
  clear k1
  by_cases k2 : careErr g c v m = 0
  case neg =>
    have n1 : (careErr g c v m != 0) = true := by rw [bne_iff_ne]; exact k2
    have K2 := Lib.hid k2
    clear k2
    generalize careErr g c v m = ck at *
    go_enter Try.func31, Try.ntmps31
    go_upto_region 1 with (fail)
    rw [HW0.out]
    refine ext_wp fun X => ?_
    go_wp2_with fail
    refine (Ext.calls _ (DK.out _)).mono ?_
    rintro e w2 ⟨rfl, Y, rfl⟩
    go_wp2_with fail
    refine (Ext.calls _ (DC.out _)).mono ?_
    rintro e w2 ⟨rfl, Y2, rfl⟩
    go_wp2_with fail
    go_ret2
    exact ⟨Y2.down HB.out hbs, Or.inl ⟨by rw [HE.out]; exact K2.out, by rw [HE.out]; rfl⟩⟩
  rw [k2] at DC HE
  obtain ⟨hcn, hvn, hcz, hvz, hmm⟩ := care_zero k2
  have hce := chkC_each c.n 0 hcz
  have HCE := Lib.hid hce
  have HWS := Lib.hid (fun j => way_small K1.out v m j)
  have HSS := Lib.hid (fun (part : ByteArray) (hp : ∃ i, i < g.nm ∧ g.mp i = part) => served_small K1.out v hmm hp)
  have HMM := Lib.hid hmm
  have hns := (Gar.chk_parts K1.out).2.1
  have hm2 : 0 ≤ m ∧ m ≤ 86399999999 := by
    unfold momG at hmm
    rw [Bool.and_eq_true, decide_eq_true_eq, decide_eq_true_eq] at hmm
    exact hmm
  have HDL := Lib.hid (fun j => dueJ_len g c v m j)
  obtain ⟨i0, hi0, hz0, hz1, hz2⟩ := info_parts (show (Try.prog.info? 57).map (fun i => (i.zero, i.size, i.bytes)) = some (some (.agg #[.string ⟨#[]⟩, .string ⟨#[]⟩, .int .i64 0, .int .i64 0, .int .i64 0]), 5, 56) by kernel_rfl)
  have HI0 := Lib.hid hi0
  have HZ0 := Lib.hid hz0
  have HZ1 := Lib.hid hz1
  have HZ2 := Lib.hid hz2
  have HU := Lib.hid (show Try.prog.underlying 48 = some (.slice 57) by kernel_rfl)
  have hfld : ∀ (x y z : Int) (u : World), (Instr.field 60 (.agg #[.int .i64 x, .int .i64 y, .int .i64 z]) 1).run Try.prog u = .ok (.int .i64 y) u := fun _ _ _ _ => by kernel_rfl
  have n1 : ((0 : Int) != 0) = false := rfl
  clear k2 hcz hvz hmm hce hi0 hz0 hz1 hz2
  go_enter Try.func31, Try.ntmps31
  go_upto_region 1 with (fail)
  rw [HW0.out]
  refine ext_wp fun X => ?_
  go_wp2_with fail
  refine (Ext.calls _ (DK.out _)).mono ?_
  rintro e w2 ⟨rfl, Y, rfl⟩
  go_wp2_with fail
  refine (Ext.calls _ (DC.out _)).mono ?_
  rintro e w2 ⟨rfl, Y2, rfl⟩
  have f0 := G0 Y2
  have f1 := G1 Y2
  have f2 := G2 Y2
  have f3 := G3 Y2
  have hdn := Y2.down HB.out hbs
  have hsz1 := Y2.2.size
  obtain ⟨W1, hW1⟩ : ∃ W1, Y2.1 = W1 := ⟨_, rfl⟩
  rw [hW1] at f0 f1 f2 f3 hdn hsz1 ⊢
  have HD1 := Lib.hid hdn
  obtain ⟨B0, hB0⟩ : ∃ B0, W0.heap.size = B0 := ⟨_, rfl⟩
  rw [hB0] at hbs hbs1 hsz1
  have hsw1 : w.heap.size ≤ W1.heap.size := by omega
  clear hdn hW1 Y2 Y X G0 G1 G2 G3
  go_wp2_with fail
  have hst : OwnR W1 W1 B0 57 5 (.slice none 0 0) (.slice none 0 0) (dueJ g c v m 0).length (dueCs (dueJ g c v m 0)) := OwnR.start (World.ownsRow_nil _ _ _ _)
  have HST := Lib.hid hst
  clear hst
  go_loopw [12, 37] (fun dv iv wr => ∃ (j : Nat), iv = .int .i64 j ∧ j ≤ g.ns ∧ Hid (OwnR W1 wr B0 57 5 (.slice none 0 0) dv (dueJ g c v m j).length (dueCs (dueJ g c v m j)))) (fun _ iv _ => g.ns - (intOf iv).toNat)
  case atStart => exact ⟨0, rfl, by omega, HST⟩
  case round =>
    obtain ⟨j, rfl, hj, HO⟩ := hrel
    have HDN := Lib.hid (HO.out.down HD1.out hsw1 hbs (World.ownsRow_nil _ _ _ _))
    have hszr : W1.heap.size ≤ wr.heap.size := HO.out.kept.size
    have nnil : ∀ b : Nat, ¬ (Value.slice none 0 0).ownBlock = some b := fun b => by simp [Value.ownBlock]
    have g0 := HO.out.cell (nnil _) f0
    have g1 := HO.out.cell (nnil _) f1
    have g2 := HO.out.cell (nnil _) f2
    have g3 := HO.out.cell (nnil _) f3
    by_cases hlt : j < g.ns
    · have t1 : decide ((j : Int) < (g.ns : Int)) = true := by rw [decide_eq_true_eq]; omega
      obtain ⟨b, off, rfl, hbl, hcc⟩ := (HG.out.r1.below HDN.out (Nat.le_refl _)).here (by omega)
      have e0 : wr.cell? ⟨b, off + j * 2, none⟩ = some (.string (g.sn j)) := hcc j hlt 0 (by omega)
      have e1 : wr.cell? ⟨b, off + j * 2 + 1, none⟩ = some (.string (g.sr j)) := hcc j hlt 1 (by omega)
      obtain ⟨V1, hV1, hvb, hvs, hvl'⟩ := alloc_cells wr #[.string (g.sn j), .string (g.sr j)] 40
      have U0 := Ext.ex (hvl' 0 _ rfl)
      have G0 := Ext.ex (below_cell hvb g0)
      have G1 := Ext.ex (below_cell hvb g1)
      have G2 := Ext.ex (below_cell hvb g2)
      have G3 := Ext.ex (below_cell hvb g3)
      have HVB := Lib.hid hvb
      have HV1 := Lib.hid hV1
      have hwv : w.heap.size ≤ V1.heap.size := by omega
      have HBV := Lib.hid (HDN.out.trans (hvb.mono (Nat.le_trans hsw1 hszr)))
      have DI1 := Lib.hid (fun (Y : Ext V1) => DI.out (g.sn j) Y.1 (Y.down HBV.out hwv))
      have HJ : Hid (dueJ g c v m (j + 1) = dueJ g c v m j ++ (if partJ g m j = ⟨#[]⟩ then [] else dueK g c m (partJ g m j) (servedF g v (partJ g m j) m) (wayJ g v m j) j c.n)) := Lib.hid rfl
      have DV1 := Lib.hid (fun (hp : partJ g m j ≠ ⟨#[]⟩) (Y : Ext V1) => DV.out K1.out (partJ g m j) (part_mnt hp) Y.1 (Y.down HBV.out hwv))
      have DW1 := Lib.hid (fun (W : World) (hW : Below w.heap.size w W) => DW.out K1.out (partJ g m j) (servedF g v (partJ g m j) m) W hW)
      have HSS1 := Lib.hid (fun (hp : partJ g m j ≠ ⟨#[]⟩) => HSS.out (partJ g m j) (part_mnt hp))
      have hws := HWS.out j
      unfold wayJ at HJ hws
      rw [show (inR (inF g (g.sn j) m g.nm 0)).1 = partJ g m j from rfl, empty_in K1.out m j] at DI1
      obtain ⟨p7, hp7⟩ : ∃ p7, wr.heap.size = p7 := ⟨_, rfl⟩
      rw [hp7] at U0
      have HP7 := Lib.hid hp7
      have hn7 : ∀ {vv : Value} {n : Nat} {xs : List Value}, wr.ownsRow B0 57 5 vv n xs → ¬ vv.ownBlock = some p7 := fun ho e => by have := (ho.lt p7 e).2; omega
      have HN7 := Lib.hid (hn7 HO.out.own)
      clear hcc hV1 hvb hvs hvl' hp7 g0 g1 g2 g3 hn7
      obtain ⟨pt, hpt⟩ : ∃ pt, partJ g m j = pt := ⟨_, rfl⟩
      rw [hpt] at DI1 HJ DV1 DW1 HSS1 hws
      obtain ⟨si, hsi⟩ : ∃ si, servedF g v pt m = si := ⟨_, rfl⟩
      rw [hsi] at HJ DV1 DW1 HSS1 hws
      obtain ⟨st, hstw⟩ : ∃ st, wearL g pt si m (evG g g.nu) = st := ⟨_, rfl⟩
      rw [hstw] at HJ DW1 hws
      clear hpt hsi hstw
      by_cases hpe : pt = ⟨#[]⟩
      · rw [if_pos hpe, List.append_nil] at HJ
        rw [show decide (pt = ⟨#[]⟩) = true by simpa using hpe, Bool.not_true] at DI1
        clear hpe
        go_upto_region 11 with (fail)
        rw [HV1.out, HP7.out]
        refine ext_wp fun X1 => ?_
        go_wp2_with fail
        refine (Ext.calls _ (DI1.out _)).mono ?_
        rintro e w2 ⟨rfl, Y, rfl⟩
        go_wp2_with fail
        go_roundw
        case rel => exact ⟨j + 1, by go_num, by omega, Lib.hid (by rw [HJ.out]; exact HO.out.below (HVB.out.trans (Y.2.mono HVB.out.size)))⟩
        case measure => simp [intOf]; omega
      · rw [if_neg hpe] at HJ
        rw [show decide (pt = ⟨#[]⟩) = false by simpa using hpe, Bool.not_false] at DI1
        have DV2 := Lib.hid (DV1.out hpe)
        have hsis := HSS1.out hpe
        have hlen0 : (dueJ g c v m j).length ≤ 20000 := Nat.le_trans (HDL.out j) (Nat.le_trans (Nat.mul_le_mul (show j ≤ 100 by omega) hcn) (by omega))
        clear hpe DV1 HSS1
        go_upto_region 11 with (fail)
        rw [HV1.out, HP7.out]
        refine ext_wp fun X1 => ?_
        go_wp2_with fail
        refine (Ext.calls _ (DI1.out _)).mono ?_
        rintro e w2 ⟨rfl, Y, rfl⟩
        go_wp2_with fail
        refine (Ext.calls _ (DV2.out _)).mono ?_
        rintro e w2 ⟨rfl, Y2, rfl⟩
        have u0 := U0 Y2
        have x0 := G0 Y2
        have x1 := G1 Y2
        have x2 := G2 Y2
        have x3 := G3 Y2
        have hb3 : Below wr.heap.size wr Y2.1 := HVB.out.trans (Y2.2.mono HVB.out.size)
        have hown := ownsRow_below HO.out.own hb3
        have hbw3 := Y2.down HBV.out hwv
        have hs3 : B0 ≤ Y2.1.heap.size := by have := hb3.size; omega
        obtain ⟨V2, hV2⟩ : ∃ V2, Y2.1 = V2 := ⟨_, rfl⟩
        rw [hV2] at u0 x0 x1 x2 x3 hb3 hown hbw3 hs3 ⊢
        have HB3 := Lib.hid hb3
        have HBW3 := Lib.hid hbw3
        have HOWN := Lib.hid hown
        have HNG : Hid (¬ u12.ownBlock = some w.heap.size) := Lib.hid (fun e => by have := (hown.lt w.heap.size e).1; omega)
        clear hb3 hown hbw3 hV2 Y2 Y X1 U0 G0 G1 G2 G3 DI1 DV2 HV1
        go_wp2_with fail
        go_loopw [12, 58] (fun dv2 iv wr => ∃ (k : Nat), iv = .int .i64 k ∧ k ≤ c.n ∧ Hid (OwnR V2 wr B0 57 5 u12 dv2 (dueJ g c v m j ++ dueK g c m pt si st.way j k).length (dueCs (dueJ g c v m j ++ dueK g c m pt si st.way j k)))) (fun _ iv _ => c.n - (intOf iv).toNat)
        case atStart => exact ⟨0, rfl, by omega, Lib.hid (by rw [dueK, List.append_nil]; exact OwnR.start HOWN.out)⟩
        case round =>
          obtain ⟨k, rfl, hk, HI⟩ := hrel
          by_cases hltk : k < c.n
          · have t2 : decide ((k : Int) < (c.n : Int)) = true := by rw [decide_eq_true_eq]; omega
            have t2' : decide (k < c.n) = true := by simpa using hltk
            have hkl := dueK_len g c m pt si st.way j k
            obtain ⟨bp, offp, rfl, hblp, hcp⟩ := (HI.out.row (HC.out.below HBW3.out (Nat.le_refl _)) (fun b off e ho => by
              obtain ⟨b', off', h1, h2, _⟩ := HC.out.here (by omega)
              rw [e] at h1
              injection h1 with h1
              injection h1 with h1 _
              have := (HOWN.out.lt b ho).1
              omega)).here (by omega)
            have z0 : wr.cell? ⟨bp, offp + k * 3, none⟩ = some (.string (c.s k)) := hcp k hltk 0 (by omega)
            have z1 : wr.cell? ⟨bp, offp + k * 3 + 1, none⟩ = some (.int .i64 (c.w k)) := hcp k hltk 1 (by omega)
            have z2 : wr.cell? ⟨bp, offp + k * 3 + 2, none⟩ = some (.int .i64 (c.d k)) := hcp k hltk 2 (by omega)
            have y0 : wr.cell? ⟨p7, 0, none⟩ = some (.string (g.sn j)) := HI.out.cell HN7.out u0
            have yg0 := HI.out.cell (p := ⟨w.heap.size, 0, none⟩) HNG.out x0
            have yg1 := HI.out.cell (p := ⟨w.heap.size, 1, none⟩) HNG.out x1
            have yg2 := HI.out.cell (p := ⟨w.heap.size, 2, none⟩) HNG.out x2
            have yg3 := HI.out.cell (p := ⟨w.heap.size, 3, none⟩) HNG.out x3
            have HBWR := Lib.hid (HI.out.down HBW3.out HBW3.out.size hbs HOWN.out)
            have hcb := HCE.out k (by omega) (by omega)
            have htd := tdiv_bound (x := m - si) (by omega) (by omega)
            have HJK : Hid (dueK g c m pt si st.way j (k + 1) = dueK g c m pt si st.way j k ++ (if c.s k = g.sn j then [⟨pt, g.sn j, k, if 0 < c.w k then c.w k - st.way else 0, if 0 < c.d k then c.d k - (m - si).tdiv 86400 else 0⟩] else [])) := Lib.hid rfl
            obtain ⟨V3, hV3, hvb3, hvs3, hvq3⟩ := alloc_block wr #[.string (c.s k), .int .i64 (c.w k), .int .i64 (c.d k)] 109
            have q0 : V3.cell? ⟨wr.heap.size, 0, none⟩ = some (.string (c.s k)) := block_cell hvq3 rfl
            have q1 : V3.cell? ⟨wr.heap.size, 1, none⟩ = some (.int .i64 (c.w k)) := block_cell hvq3 rfl
            have q2 : V3.cell? ⟨wr.heap.size, 2, none⟩ = some (.int .i64 (c.d k)) := block_cell hvq3 rfl
            have y1 := below_cell hvb3 y0
            have HB23 := Lib.hid hvb3
            have HV3 := Lib.hid hV3
            have HO3 := Lib.hid (ownsRow_below HI.out.own hvb3)
            have hse2 := str_eq (c.s k) (g.sn j)
            have hszb : B0 ≤ V3.heap.size := by have := HI.out.kept.size; omega
            have hll : (dueJ g c v m j ++ dueK g c m pt si st.way j k).length ≤ 20200 := by rw [List.length_append]; omega
            obtain ⟨nl, hnl⟩ : ∃ nl, (dueJ g c v m j ++ dueK g c m pt si st.way j k).length = nl := ⟨_, rfl⟩
            obtain ⟨xl, hxl⟩ : ∃ xl, dueCs (dueJ g c v m j ++ dueK g c m pt si st.way j k) = xl := ⟨_, rfl⟩
            have HNX : Hid (∀ d : Duc, (dueJ g c v m j ++ (dueK g c m pt si st.way j k ++ [d])).length = nl + 1 ∧ dueCs (dueJ g c v m j ++ (dueK g c m pt si st.way j k ++ [d])) = xl ++ dueC d) := Lib.hid (fun d => ⟨by rw [← hnl]; simp; omega, by rw [← hxl]; simp [dueCs]⟩)
            have hi3 := HI.out
            rw [hnl, hxl] at hi3 HO3
            rw [hnl] at hll
            have HI3 := Lib.hid hi3
            clear hnl hxl hi3
            clear hcp hV3 hvb3 hvq3 hkl y0
            by_cases heq : c.s k = g.sn j
            · rw [if_pos heq] at HJK
              rw [show decide (c.s k = g.sn j) = true by simpa using heq] at hse2
              have hne : ((c.s k).toList != (g.sn j).toList) = false := by rw [bne, hse2]; rfl
              have hnw : ∀ q, q < B0 → ¬ u12.ownBlock = some q := fun q hq e => by have := (HO3.out.lt q e).1; omega
              clear heq
              generalize c.s k = s0 at *
              generalize c.w k = s1 at *
              generalize c.d k = s2 at *
              obtain ⟨V4, hV4, hvb4, hvs4, hvq4⟩ := alloc_block V3 #[.string pt, .string (g.sn j), .int .i64 k, .int .i64 0, .int .i64 0] 57
              have hw3 : wr.heap.size < V3.heap.size := by omega
              have g0w := below_cell (HB23.out.trans (hvb4.mono HB23.out.size)) yg0
              have g1w := below_cell (HB23.out.trans (hvb4.mono HB23.out.size)) yg1
              have g2w := below_cell (HB23.out.trans (hvb4.mono HB23.out.size)) yg2
              have g3w := below_cell (HB23.out.trans (hvb4.mono HB23.out.size)) yg3
              obtain ⟨p20, hp20⟩ : ∃ p, V3.heap.size = p := ⟨_, rfl⟩
              rw [hp20] at hw3 hvq4
              have HP20 := Lib.hid hp20
              have HV4 := Lib.hid hV4
              have HVB4 := Lib.hid hvb4
              have HVQ4 := Lib.hid hvq4
              have HBW4 := Lib.hid (HBWR.out.trans ((HB23.out.trans (hvb4.mono HB23.out.size)).mono HBWR.out.size))
              obtain ⟨XWv, hXW⟩ : ∃ x, (if 0 < s1 then s1 - st.way else 0) = x := ⟨_, rfl⟩
              obtain ⟨XDv, hXD⟩ : ∃ x, (if 0 < s2 then s2 - (m - si).tdiv 86400 else 0) = x := ⟨_, rfl⟩
              rw [hXW, hXD] at HJK
              have q1' := below_cell hvb4 q1
              have hws20 : w.heap.size < p20 := by omega
              clear hV4 hvb4 hvq4 hp20 hvs4
              by_cases h1 : 0 < s1
              · have t5 : decide (0 < s1) = true := by simpa using h1
                rw [if_pos h1] at hXW
                subst hXW
                have hvs3' := Lib.hid hvs3
                clear hvs3
                go_upto_region 17 with (fail)
                rw [HV3.out]
                go_upto_region 19 with (fail)
                rw [HV4.out]
                simp only [HP20.out]
                go_upto_region 20 with (fail)
                have L1 : ∀ Z : ExtO (fun b => b = p20) V4, Z.1.cell? ⟨wr.heap.size, 1, none⟩ = some (.int .i64 s1) := ExtO.ex (by show ¬ wr.heap.size = p20; omega) q1'
                have L2 := ExtO.ex (O := fun b => b = p20) (by show ¬ w.heap.size = p20; omega) g0w
                have L3 := ExtO.ex (O := fun b => b = p20) (by show ¬ w.heap.size = p20; omega) g1w
                have L4 := ExtO.ex (O := fun b => b = p20) (by show ¬ w.heap.size = p20; omega) g2w
                have L5 := ExtO.ex (O := fun b => b = p20) (by show ¬ w.heap.size = p20; omega) g3w
                refine held_start (C := fun w' => ∃ Z : ExtO (fun b => b = p20) V4, w' = Z.1) (by kernel_rfl) ?_
                obtain ⟨Z0, hZ0, hz0⟩ : ∃ Z : ExtO (fun b => b = p20) V4, ({ V4 with drawn := V4.drawn + 1 } : World) = Z.1 ∧ Below V4.heap.size V4 Z.1 := ⟨⟨{ V4 with drawn := V4.drawn + 1 }, ⟨rfl, rfl, rfl, Nat.le_refl _, fun _ _ _ => rfl⟩⟩, rfl, ⟨rfl, rfl, rfl, Nat.le_refl _, fun _ _ => rfl⟩⟩
                rw [hZ0]
                have HZZ := Lib.hid hz0
                clear hZ0 hz0
                refine held_quiet (by kernel_rfl) (fun _ _ d _ _ h => by cases d <;> exact h) ⟨Z0, rfl⟩ [0, 1, 2, 3, 4, 5] 5 _ _ (by kernel_rfl) ?_
                change wpQuiet _ _ _ _ (_ :: _ :: _ :: _ :: _ :: _ :: []) _
                repeat go_big_quiet_step (fail)
                refine wpQuiet_nil ?_
                refine held_do (i := 6) _ rfl (by kernel_rfl) rfl (fun K hK => ?_)
                go_simp
                refine (DW1.out Z0.1 (HBW4.out.trans (HZZ.out.mono HBW4.out.size))).mono ?_
                rintro e w5 ⟨rfl, hb5⟩
                unfold wearR
                have h45 := HZZ.out.trans (hb5.mono HZZ.out.size)
                have HB45 := Lib.hid h45
                obtain ⟨Z5, rfl⟩ : ∃ Z : ExtO (fun b => b = p20) V4, w5 = Z.1 := ⟨⟨w5, Z0.2.trans (Kept.of_below hb5)⟩, rfl⟩
                refine hK _ _ ⟨Z5, rfl⟩ ?_
                have r20 := below_block h45 HVQ4.out
                have HR20 := Lib.hid r20
                have cc3 : Z5.1.cell? ⟨p20, 3, none⟩ = some (.int .i64 0) := block_cell r20 rfl
                have fz3 : Z5.1.frozen? ⟨p20, 3, none⟩ = false := block_free r20
                clear hK K hb5 h45 r20
                try simp only [Act.put, List.setIfInBounds_toArray, List.set_cons_zero, List.set_cons_succ]
                refine held_quiet (by kernel_rfl) (fun _ _ d _ _ h => by cases d <;> exact h) ⟨Z5, rfl⟩ [7, 8, 9] 1 _ _ (by kernel_rfl) ?_
                change wpQuiet _ _ _ _ (_ :: _ :: _ :: []) _
                repeat go_big_quiet_step (fail)
                refine wpQuiet_nil ?_
                refine held_do (i := 10) _ rfl (by kernel_rfl) rfl (fun K hK => ?_)
                go_simp
                refine hK _ _ ⟨⟨_, kept_set Z5.2 (by rfl) _⟩, rfl⟩ ?_
                clear hK K
                refine wpAnyH_done (by kernel_rfl) ?_ _
                have hy : (Z5.1.setCell ⟨p20, 3, none⟩ (.int .i64 (s1 - st.way))).heap[p20]? = some (.cells #[.string pt, .string (g.sn j), .int .i64 k, .int .i64 (s1 - st.way), .int .i64 0] 57 (0, 0)) := cells_setCell HR20.out
                have hby : Below V3.heap.size V3 (Z5.1.setCell ⟨p20, 3, none⟩ (.int .i64 (s1 - st.way))) := (HVB4.out.trans (HB45.out.mono HVB4.out.size)).setCell (p := ⟨p20, 3, none⟩) (by show V3.heap.size ≤ p20; rw [HP20.out]; exact Nat.le_refl _) _
                generalize Z5.1.setCell ⟨p20, 3, none⟩ (.int .i64 (s1 - st.way)) = y at hy hby ⊢
                have HY := Lib.hid hy
                have HBY := Lib.hid hby
                have hv3p := HP20.out
                clear hy hby cc3 fz3 L1 L2 L3 L4 L5
                have c0 : y.cell? ⟨p20, 0, none⟩ = some (.string pt) := block_cell HY.out rfl
                have c1 : y.cell? ⟨p20, 1, none⟩ = some (.string (g.sn j)) := block_cell HY.out rfl
                have c2 : y.cell? ⟨p20, 2, none⟩ = some (.int .i64 k) := block_cell HY.out rfl
                have c3 : y.cell? ⟨p20, 3, none⟩ = some (.int .i64 (s1 - st.way)) := block_cell HY.out rfl
                have c4 : y.cell? ⟨p20, 4, none⟩ = some (.int .i64 0) := block_cell HY.out rfl
                have fz4 : y.frozen? ⟨p20, 4, none⟩ = false := block_free HY.out
                have l2 := below_cell HBY.out q2
                have HOY := Lib.hid (ownsRow_below HO3.out HBY.out)
                have hyb : V3.heap.size ≤ y.heap.size := HBY.out.size
                by_cases h2 : 0 < s2
                · have t6 : decide (0 < s2) = true := by simpa using h2
                  rw [if_pos h2] at hXD
                  subst hXD
                  have HOA : Hid ((y.setCell ⟨p20, 4, none⟩ (.int .i64 (s2 - (m - si).tdiv 86400))).ownsRow B0 57 5 u12 nl xl) := Lib.hid (ownsRow_setCell_other HOY.out (fun e => by have := (HO3.out.lt p20 e).2; omega) _)
                  have HYZ : Hid ((y.setCell ⟨p20, 4, none⟩ (.int .i64 (s2 - (m - si).tdiv 86400))).heap.size = y.heap.size) := Lib.hid (set_size _ _ _)
                  have HBA : Hid (Below wr.heap.size wr (y.setCell ⟨p20, 4, none⟩ (.int .i64 (s2 - (m - si).tdiv 86400)))) := Lib.hid ((HB23.out.trans (HBY.out.mono HB23.out.size)).setCell (p := ⟨p20, 4, none⟩) (by show wr.heap.size ≤ p20; omega) _)
                  go_wp2_with (at_builtin; refine wpList_append_where _ rfl (.tmp 97) (.tmp 99) 48 rfl B0 57 i0 (.agg #[.string ⟨#[]⟩, .string ⟨#[]⟩, .int .i64 0, .int .i64 0, .int .i64 0]) 5 56 HU.out HI0.out HZ0.out HZ1.out HZ2.out rfl (by decide) u12 _ _ rfl (HOA.out.alloc _) ⟨y.heap.size, 0, none⟩ 1 1 (dueC ⟨pt, g.sn j, k, s1 - st.way, s2 - (m - si).tdiv 86400⟩) rfl (by decide) rfl ?c1 ?c2 ?c3 ?c4 ?c5 ?_)
                  case c1 =>
                    intro jj u hu
                    first
                      | (rw [addr_add0, World.cell?_alloc_at _ _ _ _ HYZ.out.symm]; simpa [dueC] using hu)
                      | simpa [dueC] using hu
                  case c2 =>
                    intro u hu
                    simp only [dueC, List.mem_cons, List.not_mem_nil, or_false] at hu
                    rcases hu with rfl | rfl | rfl | rfl | rfl <;> rfl
                  case c3 => unfold maxLen; omega
                  case c4 => omega
                  case c5 => have := HYZ.out; first | (simp; omega) | omega
                  intro v3 w4 hown4 hg4 hwh4
                  have HO4 := Lib.hid (HI3.out.append (HBA.out.trans ((below_al _ _).mono HBA.out.size)) hown4 hg4 (by rcases hwh4 with h | h; exact Or.inl h; exact Or.inr (by rw [h]; simp [HYZ.out])))
                  clear hown4 hg4 hwh4
                  go_wp2_with fail
                  go_roundw
                  case rel =>
                    refine ⟨k + 1, by go_num, by omega, Lib.hid ?_⟩
                    rw [HJK.out, (HNX.out _).1, (HNX.out _).2]
                    exact HO4.out
                  case measure => simp [intOf]; omega
                · have t6 : decide (0 < s2) = false := by simpa using h2
                  rw [if_neg h2] at hXD
                  subst hXD
                  have HOA := HOY
                  have HYZ : Hid (y.heap.size = y.heap.size) := Lib.hid rfl
                  have HBA : Hid (Below wr.heap.size wr y) := Lib.hid (HB23.out.trans (HBY.out.mono HB23.out.size))
                  go_wp2_with (at_builtin; refine wpList_append_where _ rfl (.tmp 97) (.tmp 99) 48 rfl B0 57 i0 (.agg #[.string ⟨#[]⟩, .string ⟨#[]⟩, .int .i64 0, .int .i64 0, .int .i64 0]) 5 56 HU.out HI0.out HZ0.out HZ1.out HZ2.out rfl (by decide) u12 _ _ rfl (HOA.out.alloc _) ⟨y.heap.size, 0, none⟩ 1 1 (dueC ⟨pt, g.sn j, k, s1 - st.way, 0⟩) rfl (by decide) rfl ?c1 ?c2 ?c3 ?c4 ?c5 ?_)
                  case c1 =>
                    intro jj u hu
                    first
                      | (rw [addr_add0, World.cell?_alloc_at _ _ _ _ HYZ.out.symm]; simpa [dueC] using hu)
                      | simpa [dueC] using hu
                  case c2 =>
                    intro u hu
                    simp only [dueC, List.mem_cons, List.not_mem_nil, or_false] at hu
                    rcases hu with rfl | rfl | rfl | rfl | rfl <;> rfl
                  case c3 => unfold maxLen; omega
                  case c4 => omega
                  case c5 => have := HYZ.out; first | (simp; omega) | omega
                  intro v3 w4 hown4 hg4 hwh4
                  have HO4 := Lib.hid (HI3.out.append (HBA.out.trans ((below_al _ _).mono HBA.out.size)) hown4 hg4 (by rcases hwh4 with h | h; exact Or.inl h; exact Or.inr (by rw [h]; simp)))
                  clear hown4 hg4 hwh4
                  go_wp2_with fail
                  go_roundw
                  case rel =>
                    refine ⟨k + 1, by go_num, by omega, Lib.hid ?_⟩
                    rw [HJK.out, (HNX.out _).1, (HNX.out _).2]
                    exact HO4.out
                  case measure => simp [intOf]; omega
              · have t5 : decide (0 < s1) = false := by simpa using h1
                rw [if_neg h1] at hXW
                subst hXW
                have hvs3' := Lib.hid hvs3
                clear hvs3
                go_upto_region 17 with (fail)
                rw [HV3.out]
                go_upto_region 19 with (fail)
                rw [HV4.out]
                simp only [HP20.out]
                have HY := HVQ4
                have HBY := HVB4
                have hv3p := HP20.out
                generalize V4 = y at *
                have c0 : y.cell? ⟨p20, 0, none⟩ = some (.string pt) := block_cell HY.out rfl
                have c1 : y.cell? ⟨p20, 1, none⟩ = some (.string (g.sn j)) := block_cell HY.out rfl
                have c2 : y.cell? ⟨p20, 2, none⟩ = some (.int .i64 k) := block_cell HY.out rfl
                have c3 : y.cell? ⟨p20, 3, none⟩ = some (.int .i64 (0)) := block_cell HY.out rfl
                have c4 : y.cell? ⟨p20, 4, none⟩ = some (.int .i64 0) := block_cell HY.out rfl
                have fz4 : y.frozen? ⟨p20, 4, none⟩ = false := block_free HY.out
                have l2 := below_cell HBY.out q2
                have HOY := Lib.hid (ownsRow_below HO3.out HBY.out)
                have hyb : V3.heap.size ≤ y.heap.size := HBY.out.size
                by_cases h2 : 0 < s2
                · have t6 : decide (0 < s2) = true := by simpa using h2
                  rw [if_pos h2] at hXD
                  subst hXD
                  have HOA : Hid ((y.setCell ⟨p20, 4, none⟩ (.int .i64 (s2 - (m - si).tdiv 86400))).ownsRow B0 57 5 u12 nl xl) := Lib.hid (ownsRow_setCell_other HOY.out (fun e => by have := (HO3.out.lt p20 e).2; omega) _)
                  have HYZ : Hid ((y.setCell ⟨p20, 4, none⟩ (.int .i64 (s2 - (m - si).tdiv 86400))).heap.size = y.heap.size) := Lib.hid (set_size _ _ _)
                  have HBA : Hid (Below wr.heap.size wr (y.setCell ⟨p20, 4, none⟩ (.int .i64 (s2 - (m - si).tdiv 86400)))) := Lib.hid ((HB23.out.trans (HBY.out.mono HB23.out.size)).setCell (p := ⟨p20, 4, none⟩) (by show wr.heap.size ≤ p20; omega) _)
                  go_wp2_with (at_builtin; refine wpList_append_where _ rfl (.tmp 97) (.tmp 99) 48 rfl B0 57 i0 (.agg #[.string ⟨#[]⟩, .string ⟨#[]⟩, .int .i64 0, .int .i64 0, .int .i64 0]) 5 56 HU.out HI0.out HZ0.out HZ1.out HZ2.out rfl (by decide) u12 _ _ rfl (HOA.out.alloc _) ⟨y.heap.size, 0, none⟩ 1 1 (dueC ⟨pt, g.sn j, k, 0, s2 - (m - si).tdiv 86400⟩) rfl (by decide) rfl ?c1 ?c2 ?c3 ?c4 ?c5 ?_)
                  case c1 =>
                    intro jj u hu
                    first
                      | (rw [addr_add0, World.cell?_alloc_at _ _ _ _ HYZ.out.symm]; simpa [dueC] using hu)
                      | simpa [dueC] using hu
                  case c2 =>
                    intro u hu
                    simp only [dueC, List.mem_cons, List.not_mem_nil, or_false] at hu
                    rcases hu with rfl | rfl | rfl | rfl | rfl <;> rfl
                  case c3 => unfold maxLen; omega
                  case c4 => omega
                  case c5 => have := HYZ.out; first | (simp; omega) | omega
                  intro v3 w4 hown4 hg4 hwh4
                  have HO4 := Lib.hid (HI3.out.append (HBA.out.trans ((below_al _ _).mono HBA.out.size)) hown4 hg4 (by rcases hwh4 with h | h; exact Or.inl h; exact Or.inr (by rw [h]; simp [HYZ.out])))
                  clear hown4 hg4 hwh4
                  go_wp2_with fail
                  go_roundw
                  case rel =>
                    refine ⟨k + 1, by go_num, by omega, Lib.hid ?_⟩
                    rw [HJK.out, (HNX.out _).1, (HNX.out _).2]
                    exact HO4.out
                  case measure => simp [intOf]; omega
                · have t6 : decide (0 < s2) = false := by simpa using h2
                  rw [if_neg h2] at hXD
                  subst hXD
                  have HOA := HOY
                  have HYZ : Hid (y.heap.size = y.heap.size) := Lib.hid rfl
                  have HBA : Hid (Below wr.heap.size wr y) := Lib.hid (HB23.out.trans (HBY.out.mono HB23.out.size))
                  go_wp2_with (at_builtin; refine wpList_append_where _ rfl (.tmp 97) (.tmp 99) 48 rfl B0 57 i0 (.agg #[.string ⟨#[]⟩, .string ⟨#[]⟩, .int .i64 0, .int .i64 0, .int .i64 0]) 5 56 HU.out HI0.out HZ0.out HZ1.out HZ2.out rfl (by decide) u12 _ _ rfl (HOA.out.alloc _) ⟨y.heap.size, 0, none⟩ 1 1 (dueC ⟨pt, g.sn j, k, 0, 0⟩) rfl (by decide) rfl ?c1 ?c2 ?c3 ?c4 ?c5 ?_)
                  case c1 =>
                    intro jj u hu
                    first
                      | (rw [addr_add0, World.cell?_alloc_at _ _ _ _ HYZ.out.symm]; simpa [dueC] using hu)
                      | simpa [dueC] using hu
                  case c2 =>
                    intro u hu
                    simp only [dueC, List.mem_cons, List.not_mem_nil, or_false] at hu
                    rcases hu with rfl | rfl | rfl | rfl | rfl <;> rfl
                  case c3 => unfold maxLen; omega
                  case c4 => omega
                  case c5 => have := HYZ.out; first | (simp; omega) | omega
                  intro v3 w4 hown4 hg4 hwh4
                  have HO4 := Lib.hid (HI3.out.append (HBA.out.trans ((below_al _ _).mono HBA.out.size)) hown4 hg4 (by rcases hwh4 with h | h; exact Or.inl h; exact Or.inr (by rw [h]; simp)))
                  clear hown4 hg4 hwh4
                  go_wp2_with fail
                  go_roundw
                  case rel =>
                    refine ⟨k + 1, by go_num, by omega, Lib.hid ?_⟩
                    rw [HJK.out, (HNX.out _).1, (HNX.out _).2]
                    exact HO4.out
                  case measure => simp [intOf]; omega
            · rw [if_neg heq, List.append_nil] at HJK
              rw [show decide (c.s k = g.sn j) = false by simpa using heq] at hse2
              have hne : ((c.s k).toList != (g.sn j).toList) = true := by rw [bne, hse2]; rfl
              clear heq
              go_upto_region 17 with (fail)
              rw [HV3.out]
              go_wp2_with fail
              go_roundw
              case rel => exact ⟨k + 1, by go_num, by omega, Lib.hid (by rw [HJK.out]; exact HI.out.below HB23.out)⟩
              case measure => simp [intOf]; omega
          · have t2 : decide ((k : Int) < (c.n : Int)) = false := by rw [decide_eq_false_iff_not]; omega
            have t2' : decide (k < c.n) = false := by simpa using hltk
            obtain rfl : k = c.n := by omega
            clear hltk
            go_wp2_with fail
            go_roundw
            case rel => exact ⟨j + 1, by go_num, by omega, Lib.hid (by rw [HJ.out]; exact HO.out.back HB3.out HI.out)⟩
            case measure => simp [intOf]; omega
    · have t1 : decide ((j : Int) < (g.ns : Int)) = false := by rw [decide_eq_false_iff_not]; omega
      have t1' : decide (j < g.ns) = false := by simpa using hlt
      obtain rfl : j = g.ns := by omega
      clear hlt
      go_wp2_with fail
      go_ret2
      exact ⟨HDN.out, Or.inr ⟨HE.out, _, B0, hbs, rfl, HO.out.own⟩⟩
end Go.Proofs.Ytbkpoepacjinlaa


/- The law GearServiceHelps: its walk. -/
namespace Go.Proofs.Ytbkpoepacjinlaa
open Go.RowKit Go.BigFrame
open Gar (chk momG hasS hasP)

theorem dueRow {W : World} {base : Nat} {T : TypeId} {v : Value} {l : List Duc} (hr : W.ownsRow base T 5 v l.length (dueCs l)) :
    ∃ (am : Option Addr) (cm : Nat), v = .slice am l.length cm ∧ RowK W am l.length 5 (fun i => dueC (l.getD i due0)) := by
  rcases hr.2 with ⟨e, hn⟩ | ⟨q, cap, cur, e, _, h3, _⟩
  · exact ⟨none, 0, by rw [e, hn], ⟨fun h => by omega⟩⟩
  · refine ⟨some ⟨q, 0, none⟩, cap, e, ⟨fun hl => ⟨q, 0, rfl, lt_of_block h3, fun i hi j hj => ?_⟩⟩⟩
    have hc := flatN (f := dueC) (m := 5) due0 (fun q => rfl) l i j hi hj
    have hv : ∃ v, (dueC (l.getD i due0))[j]? = some v := ⟨_, List.getElem?_eq_getElem (by simpa [dueC] using hj)⟩
    obtain ⟨v, hv⟩ := hv
    have h6 := hr.cells (g := q) (by rw [e]; rfl) (i * 5 + j) v (hc.trans hv)
    rw [addr_add0] at h6
    rw [Nat.zero_add, hv]
    exact h6
set_option maxHeartbeats 8000000 in
set_option maxRecDepth 100000 in
theorem helps_any (g : Gar) (a0 a1 a2 a3 : Option Addr) (c0 c1 c2 c3 : Nat) (c : Cares) (ac : Option Addr) (cc : Nat) (v : Servs) (av : Option Addr) (cv : Nat) (xp : ByteArray) (xt m : Int) (w : World) (h : GarIn w g a0 a1 a2 a3)
    (hc : RowK w ac c.n 3 c.cells) (hcl : (c.n : Int) ≤ 9223372036854775807) (hv : RowK w av v.n 2 v.cells) (hbig : v.n * 24 ≤ 140737488351232) :
    Calls Try.prog 5 #[garV g a0 a1 a2 a3 c0 c1 c2 c3, .slice ac c.n cc, .slice av v.n cv, .agg #[.string xp, .int .i64 xt], .int .i64 m] w fun e w' => e = .returned (.bool true) ∧ Below w.heap.size w w' := by
  have HG := Lib.hid h
  have HC := Lib.hid hc
  have HV := Lib.hid hv
  have hl2 := h.l2
  have hvl : (v.n : Int) ≤ 9223372036854775807 := by omega
  have hvl2 : ((v.snoc xp xt).n : Int) ≤ 9223372036854775807 := by show ((v.n + 1 : Nat) : Int) ≤ _; omega
  obtain ⟨V, hV, hb, hs, hq⟩ := allocs w [.cells #[.slice a0 g.np c0, .slice a1 g.ns c1, .slice a2 g.nm c2, .slice a3 g.nu c3] 27, .cells #[.string xp, .int .i64 xt] 47]
  have hs : V.heap.size = w.heap.size + 2 := hs
  have G0 := Ext.ex (show V.cell? ⟨w.heap.size, 0, none⟩ = some (.slice a0 g.np c0) from block_cell (hq 0 _ rfl) rfl)
  have G1 := Ext.ex (show V.cell? ⟨w.heap.size, 1, none⟩ = some (.slice a1 g.ns c1) from block_cell (hq 0 _ rfl) rfl)
  have G2 := Ext.ex (show V.cell? ⟨w.heap.size, 2, none⟩ = some (.slice a2 g.nm c2) from block_cell (hq 0 _ rfl) rfl)
  have G3 := Ext.ex (show V.cell? ⟨w.heap.size, 3, none⟩ = some (.slice a3 g.nu c3) from block_cell (hq 0 _ rfl) rfl)
  have X0 := Ext.ex (show V.cell? ⟨w.heap.size + 1, 0, none⟩ = some (.string xp) from block_cell (hq 1 _ rfl) rfl)
  have X1 := Ext.ex (show V.cell? ⟨w.heap.size + 1, 1, none⟩ = some (.int .i64 xt) from block_cell (hq 1 _ rfl) rfl)
  have HB := Lib.hid hb
  have hbs : w.heap.size ≤ V.heap.size := by omega
  have HV2 := Lib.hid (show (w.alloc (.cells #[.slice a0 g.np c0, .slice a1 g.ns c1, .slice a2 g.nm c2, .slice a3 g.nu c3] 27)).alloc (.cells #[.string xp, .int .i64 xt] 47) = V from hV)
  have DD := Lib.hid (fun (u : Servs) (au : Option Addr) (cu : Nat) (hul : (u.n : Int) ≤ 9223372036854775807) (W : World) (hW : Below w.heap.size w W) (hu : RowK W au u.n 2 u.cells) => dues_any g a0 a1 a2 a3 c0 c1 c2 c3 c ac cc u au cu m W (HG.out.below hW) (HC.out.below hW (Nat.le_refl _)) hcl hu hul)
  have DCL := Lib.hid (fun (W : World) (hW : Below w.heap.size w W) => cloneV_any v av cv W (HV.out.below hW (Nat.le_refl _)) (by omega) (by omega))
  have hmf : ∀ fn first cap w, (Instr.makeFunc fn first cap).run Try.prog w = .ok (.func fn first cap) w := fun _ _ _ _ => rfl
  have DF := Lib.hid (fun (Y : Ext V) => hasM_any g a2 c2 22 #[.pointer (some ⟨w.heap.size + 1, 0, none⟩)] (fun _ _ => rfl) (fun i => decide (g.mp i = xp) && decide (xt < g.mf i)) Y.1 (HG.out.below (Y.down HB.out hbs)).r2 hl2
    (fun k W _ hW => helpCl_any (g.ms k) (g.mp k) (g.mf k) (g.mt k) xp xt (w.heap.size + 1) W (by have := Y.2.size; have := hW.size; omega) (X0 ⟨W, Y.2.trans (hW.mono Y.2.size)⟩) (X1 ⟨W, Y.2.trans (hW.mono Y.2.size)⟩)))
  have DT := Lib.hid (fun W => told_any W)
  obtain ⟨i0, hi0, hz0, hz1, hz2⟩ := info_parts (show (Try.prog.info? 47).map (fun i => (i.zero, i.size, i.bytes)) = some (some (.agg #[.string ⟨#[]⟩, .int .i64 0]), 2, 24) by kernel_rfl)
  have HI0 := Lib.hid hi0
  have HZ0 := Lib.hid hz0
  have HZ1 := Lib.hid hz1
  have HZ2 := Lib.hid hz2
  have HUS := Lib.hid (show Try.prog.underlying 45 = some (.slice 47) by kernel_rfl)
  unfold garV at DD ⊢
  clear h hc hv hV hb hq hi0 hz0 hz1 hz2
  go_enter Try.func5, Try.ntmps5
  go_upto_region 1 with (fail)
  rw [HV2.out]
  refine ext_wp fun X => ?_
  go_wp2_with fail
  refine (DD.out v av cv hvl X.1 (X.down HB.out hbs) (HV.out.below (X.down HB.out hbs) (Nat.le_refl _))).mono ?_
  rintro e w2 ⟨hb2, hcase⟩
  obtain ⟨va, ba, rfl, hca⟩ : ∃ (va : Value) (ba : Nat), e = .returned (.tuple #[va, .int .i64 (dueErr g c v m)]) ∧ (dueErr g c v m = 0 → w.heap.size ≤ ba ∧ w2.ownsRow ba 57 5 va (dueJ g c v m g.ns).length (dueCs (dueJ g c v m g.ns))) := by
    rcases hcase with ⟨hne, rfl⟩ | ⟨hz, va, ba, h1, rfl, h2⟩
    · exact ⟨_, 0, rfl, fun h => absurd h hne⟩
    · exact ⟨va, ba, by rw [hz], fun _ => ⟨Nat.le_trans (X.down HB.out hbs).size h1, h2⟩⟩
  obtain ⟨Y, rfl⟩ : ∃ Y : Ext V, w2 = Y.1 := ⟨⟨w2, X.2.trans (hb2.mono X.2.size)⟩, rfl⟩
  obtain ⟨W2, hW2⟩ : ∃ W2, Y.1 = W2 := ⟨_, rfl⟩
  have hv2 := Y.2
  have hdn := Y.down HB.out hbs
  rw [hW2] at hca hv2 hdn ⊢
  have HV2W := Lib.hid hv2
  have HDN := Lib.hid hdn
  have HCA := Lib.hid hca
  have hsz2 : w.heap.size ≤ W2.heap.size := hdn.size
  have g0 := Ext.re hv2 G0
  have g1 := Ext.re hv2 G1
  have g2 := Ext.re hv2 G2
  have g3 := Ext.re hv2 G3
  have x0 := Ext.re hv2 X0
  have x1 := Ext.re hv2 X1
  obtain ⟨E1, hE1⟩ : ∃ E, dueErr g c v m = E := ⟨_, rfl⟩
  rw [hE1] at HCA ⊢
  have HE1 := Lib.hid hE1
  obtain ⟨E2, hE2⟩ : ∃ E, dueErr g c (v.snoc xp xt) m = E := ⟨_, rfl⟩
  have HE2 := Lib.hid hE2
  clear hca hv2 hdn hb2 hcase hE1 hE2 hW2 Y X G0 G1 G2 G3 X0 X1
  go_upto_region 2 with (fail)
  go_cut [13, 14] (fun p q wx => ∃ bb : Nat, q = .int .i64 E2 ∧ Hid (Below W2.heap.size W2 wx) ∧ Hid (E2 = 0 → w.heap.size ≤ bb ∧ wx.ownsRow bb 57 5 p (dueJ g c (v.snoc xp xt) m g.ns).length (dueCs (dueJ g c (v.snoc xp xt) m g.ns))))
  case first =>
    refine held_start (C := fun w' => ∃ Z : Ext W2, w' = Z.1) (by kernel_rfl) ?_
    obtain ⟨Z0, hZ0⟩ : ∃ Z : Ext W2, ({ W2 with drawn := W2.drawn + 1 } : World) = Z.1 := ⟨⟨{ W2 with drawn := W2.drawn + 1 }, ⟨rfl, rfl, rfl, Nat.le_refl _, fun _ _ => rfl⟩⟩, rfl⟩
    rw [hZ0]
    clear hZ0
    refine held_quiet (by kernel_rfl) (fun _ _ d _ _ h => by cases d <;> exact h) ⟨Z0, rfl⟩ [0, 1, 2, 4, 7] 9 _ _ (by kernel_rfl) ?_
    change wpQuiet _ _ _ _ (_ :: _ :: _ :: _ :: _ :: []) _
    repeat go_big_quiet_step (fail)
    refine wpQuiet_nil ?_
    refine held_two (i := 3) (j := 5) _ _ rfl rfl (by kernel_rfl) rfl rfl (fun K hK => ?_) (fun K hK => ?_)
    · go_simp
      refine (DCL.out Z0.1 (Z0.down HDN.out hsz2)).mono ?_
      rintro e w3 ⟨v3, rfl, hown3, hb3⟩
      have hs0 := Z0.2.size
      have hZ3 : Below W2.heap.size W2 w3 := Z0.2.trans (hb3.mono Z0.2.size)
      have HOWN := Lib.hid hown3
      have HZ3 := Lib.hid hZ3
      have HS3 := Lib.hid hb3.size
      refine hK _ _ ⟨⟨w3, hZ3⟩, rfl⟩ ?_
      clear hK K hown3 hZ3 hb3
      refine held_do (i := 5) _ rfl (by kernel_rfl) rfl (fun K hK => ?_)
      go_simp
      obtain ⟨WX, hWX, hwb1, hwb2, hwq⟩ := alloc_block w3 #[.string xp, .int .i64 xt] 47
      rw [hWX]
      have hvz := HZ3.out.trans (hwb1.mono HZ3.out.size)
      have HBX := Lib.hid hvz
      have HOX := Lib.hid (ownsRow_below HOWN.out hwb1)
      have HQX := Lib.hid hwq
      have HSX : Hid (W2.heap.size ≤ Z0.1.heap.size ∧ Z0.1.heap.size ≤ WX.heap.size) := Lib.hid ⟨hs0, by have := HS3.out; omega⟩
      refine hK _ _ ⟨⟨WX, hvz⟩, rfl⟩ ?_
      clear hK K hvz hwb1 hwq hWX
      refine held_do (i := 6) _ rfl (by kernel_rfl) rfl (fun K hK => ?_)
      refine wp_append_own WX (.tmp 29) (.tmp 31) 45 rfl Z0.1.heap.size 47 i0 (.agg #[.string ⟨#[]⟩, .int .i64 0]) 2 24 HUS.out HI0.out HZ0.out HZ1.out HZ2.out rfl (by decide) v3 _ _ rfl HOX.out ⟨w3.heap.size, 0, none⟩ 1 1 [.string xp, .int .i64 xt] rfl rfl (fun j u hu => by rw [addr_add0]; exact block_cell HQX.out (by rw [← Array.getElem?_toList]; exact hu)) (fun u hu => by simp only [List.mem_cons, List.not_mem_nil, or_false] at hu; rcases hu with rfl | rfl <;> rfl) (by unfold maxLen; omega) (by omega) (by have := HSX.out; omega) (fun v5 w5 hown5 hg5 _ => ?_)
      have hb5 : Below W2.heap.size W2 w5 := HBX.out.grown hg5 HBX.out.size (fun k hk => by have := (HOX.out.lt k hk).1; have := HSX.out; omega)
      obtain ⟨am, cm, rfl, hrow⟩ := own_row (f := (v.snoc xp xt).cells) (fun _ => rfl) (show w5.ownsRow _ _ 2 v5 (v.n + 1) (servCs (v.snoc xp xt)) from by rw [servCs_snoc]; exact hown5)
      have HB5 := Lib.hid hb5
      have HRW := Lib.hid hrow
      refine hK _ _ ⟨⟨w5, hb5⟩, rfl⟩ ?_
      clear hK K hown5 hg5 hb5 hrow
      simp only [Act.put, List.setIfInBounds_toArray, List.set_cons_zero, List.set_cons_succ]
      refine held_do (i := 8) _ rfl (by kernel_rfl) rfl (fun K hK => ?_)
      go_simp
      refine (DD.out (v.snoc xp xt) am cm hvl2 w5 (HDN.out.trans (HB5.out.mono hsz2)) HRW.out).mono ?_
      rintro e w6 ⟨hb6, hcase⟩
      obtain ⟨vb, bb, rfl, hcb⟩ : ∃ (vb : Value) (bb : Nat), e = .returned (.tuple #[vb, .int .i64 (dueErr g c (v.snoc xp xt) m)]) ∧ (dueErr g c (v.snoc xp xt) m = 0 → w.heap.size ≤ bb ∧ w6.ownsRow bb 57 5 vb (dueJ g c (v.snoc xp xt) m g.ns).length (dueCs (dueJ g c (v.snoc xp xt) m g.ns))) := by
        rcases hcase with ⟨hne, rfl⟩ | ⟨hz, va, ba, h1, rfl, h2⟩
        · exact ⟨_, 0, rfl, fun h => absurd h hne⟩
        · exact ⟨va, ba, by rw [hz], fun _ => ⟨Nat.le_trans (Nat.le_trans hsz2 HB5.out.size) h1, h2⟩⟩
      rw [HE2.out] at hcb ⊢
      have HCB := Lib.hid hcb
      have HB6 : Hid (Below W2.heap.size W2 w6) := Lib.hid (HB5.out.trans (hb6.mono HB5.out.size))
      obtain ⟨Z6, rfl⟩ : ∃ Z : Ext W2, w6 = Z.1 := ⟨⟨w6, HB6.out⟩, rfl⟩
      refine hK _ _ ⟨Z6, rfl⟩ ?_
      clear hK K hcb hcase hb6
      refine held_quiet (by kernel_rfl) (fun _ _ d _ _ h => by cases d <;> exact h) ⟨Z6, rfl⟩ [9, 10, 11, 12, 13] 0 _ _ (by kernel_rfl) ?_
      change wpQuiet _ _ _ _ (_ :: _ :: _ :: _ :: _ :: []) _
      repeat go_big_quiet_step (fail)
      refine wpQuiet_nil ?_
      refine wpAnyH_done (by kernel_rfl) ?_ _
      go_wp2_with fail
      go_meet
      exact ⟨bb, rfl, HB6, HCB⟩
    · go_simp
      obtain ⟨W4, hW4, hwb1, hwb2, hwq⟩ := alloc_block Z0.1 #[.string xp, .int .i64 xt] 47
      rw [hW4]
      have hs0 := Z0.2.size
      have hvz := Z0.2.trans (hwb1.mono Z0.2.size)
      have HV4 := Lib.hid hvz
      have HQ4 := Lib.hid hwq
      refine hK _ _ ⟨⟨W4, hvz⟩, rfl⟩ ?_
      clear hK K hvz hwb1 hwq hW4
      refine held_do (i := 3) _ rfl (by kernel_rfl) rfl (fun K hK => ?_)
      go_simp
      refine (DCL.out W4 (HDN.out.trans (HV4.out.mono hsz2))).mono ?_
      rintro e WX ⟨v3, rfl, hown3, hb3⟩
      have hZ3 : Below W2.heap.size W2 WX := HV4.out.trans (hb3.mono HV4.out.size)
      have HOX := Lib.hid hown3
      have HBX := Lib.hid hZ3
      have HQX := Lib.hid (below_block hb3 HQ4.out)
      have HSX : Hid (W2.heap.size ≤ W4.heap.size ∧ W4.heap.size ≤ WX.heap.size) := Lib.hid ⟨HV4.out.size, hb3.size⟩
      refine hK _ _ ⟨⟨WX, hZ3⟩, rfl⟩ ?_
      clear hK K hown3 hZ3 hb3
      refine held_do (i := 6) _ rfl (by kernel_rfl) rfl (fun K hK => ?_)
      refine wp_append_own WX (.tmp 29) (.tmp 31) 45 rfl W4.heap.size 47 i0 (.agg #[.string ⟨#[]⟩, .int .i64 0]) 2 24 HUS.out HI0.out HZ0.out HZ1.out HZ2.out rfl (by decide) v3 _ _ rfl HOX.out ⟨Z0.1.heap.size, 0, none⟩ 1 1 [.string xp, .int .i64 xt] rfl rfl (fun j u hu => by rw [addr_add0]; exact block_cell HQX.out (by rw [← Array.getElem?_toList]; exact hu)) (fun u hu => by simp only [List.mem_cons, List.not_mem_nil, or_false] at hu; rcases hu with rfl | rfl <;> rfl) (by unfold maxLen; omega) (by omega) (by have := HSX.out; omega) (fun v5 w5 hown5 hg5 _ => ?_)
      have hb5 : Below W2.heap.size W2 w5 := HBX.out.grown hg5 HBX.out.size (fun k hk => by have := (HOX.out.lt k hk).1; have := HSX.out; omega)
      obtain ⟨am, cm, rfl, hrow⟩ := own_row (f := (v.snoc xp xt).cells) (fun _ => rfl) (show w5.ownsRow _ _ 2 v5 (v.n + 1) (servCs (v.snoc xp xt)) from by rw [servCs_snoc]; exact hown5)
      have HB5 := Lib.hid hb5
      have HRW := Lib.hid hrow
      refine hK _ _ ⟨⟨w5, hb5⟩, rfl⟩ ?_
      clear hK K hown5 hg5 hb5 hrow
      simp only [Act.put, List.setIfInBounds_toArray, List.set_cons_zero, List.set_cons_succ]
      refine held_do (i := 8) _ rfl (by kernel_rfl) rfl (fun K hK => ?_)
      go_simp
      refine (DD.out (v.snoc xp xt) am cm hvl2 w5 (HDN.out.trans (HB5.out.mono hsz2)) HRW.out).mono ?_
      rintro e w6 ⟨hb6, hcase⟩
      obtain ⟨vb, bb, rfl, hcb⟩ : ∃ (vb : Value) (bb : Nat), e = .returned (.tuple #[vb, .int .i64 (dueErr g c (v.snoc xp xt) m)]) ∧ (dueErr g c (v.snoc xp xt) m = 0 → w.heap.size ≤ bb ∧ w6.ownsRow bb 57 5 vb (dueJ g c (v.snoc xp xt) m g.ns).length (dueCs (dueJ g c (v.snoc xp xt) m g.ns))) := by
        rcases hcase with ⟨hne, rfl⟩ | ⟨hz, va, ba, h1, rfl, h2⟩
        · exact ⟨_, 0, rfl, fun h => absurd h hne⟩
        · exact ⟨va, ba, by rw [hz], fun _ => ⟨Nat.le_trans (Nat.le_trans hsz2 HB5.out.size) h1, h2⟩⟩
      rw [HE2.out] at hcb ⊢
      have HCB := Lib.hid hcb
      have HB6 : Hid (Below W2.heap.size W2 w6) := Lib.hid (HB5.out.trans (hb6.mono HB5.out.size))
      obtain ⟨Z6, rfl⟩ : ∃ Z : Ext W2, w6 = Z.1 := ⟨⟨w6, HB6.out⟩, rfl⟩
      refine hK _ _ ⟨Z6, rfl⟩ ?_
      clear hK K hcb hcase hb6
      refine held_quiet (by kernel_rfl) (fun _ _ d _ _ h => by cases d <;> exact h) ⟨Z6, rfl⟩ [9, 10, 11, 12, 13] 0 _ _ (by kernel_rfl) ?_
      change wpQuiet _ _ _ _ (_ :: _ :: _ :: _ :: _ :: []) _
      repeat go_big_quiet_step (fail)
      refine wpQuiet_nil ?_
      refine wpAnyH_done (by kernel_rfl) ?_ _
      go_wp2_with fail
      go_meet
      exact ⟨bb, rfl, HB6, HCB⟩
  case rest =>
    obtain ⟨bb, rfl, HBC, HCB⟩ := hcut
    have HBW := Lib.hid (HDN.out.trans (HBC.out.mono hsz2))
    by_cases k1 : E1 = 0
    case neg =>
      have n1 : (E1 != 0) = true := by rw [bne_iff_ne]; exact k1
      clear k1
      go_wp2_with fail
      refine (DT.out _).mono ?_
      rintro e w3 ⟨rfl, hb3⟩
      go_wp2_with fail
      go_ret
      exact ⟨rfl, HBW.out.trans (hb3.mono HBW.out.size)⟩
    have n1 : (E1 != 0) = false := by rw [k1]; rfl
    by_cases k2 : E2 = 0
    case neg =>
      have n2 : (E2 != 0) = true := by rw [bne_iff_ne]; exact k2
      clear k1 k2
      go_wp2_with fail
      refine (DT.out _).mono ?_
      rintro e w3 ⟨rfl, hb3⟩
      go_wp2_with fail
      go_ret
      exact ⟨rfl, HBW.out.trans (hb3.mono HBW.out.size)⟩
    have n2 : (E2 != 0) = false := by rw [k2]; rfl
    obtain ⟨_, hoa⟩ := HCA.out k1
    obtain ⟨_, hob⟩ := HCB.out k2
    have hoa2 := ownsRow_below hoa HBC.out
    have hck : chk g = 0 := by
      have := HE1.out
      rw [k1] at this
      unfold dueErr at this
      split at this
      · omega
      · omega
    have hxt : 0 ≤ xt := by
      have := HE2.out
      rw [k2] at this
      unfold dueErr at this
      rw [if_neg (by rw [hck]; simp)] at this
      exact snoc_mom this
    have hrel := dueJ_rel hck c v (p := xp) hxt m g.ns
    have hlen := hrel.length
    have hdl := dueJ_len g c v m g.ns
    have hcn : c.n ≤ 200 := by
      have := HE1.out
      rw [k1] at this
      unfold dueErr at this
      rw [if_neg (by rw [hck]; simp)] at this
      exact (care_zero this).1
    have hnl : (dueJ g c v m g.ns).length ≤ 20000 := Nat.le_trans hdl (Nat.le_trans (Nat.mul_le_mul (Gar.chk_parts hck).2.1 hcn) (by omega))
    obtain ⟨ama, cma, rfl, hra⟩ := dueRow hoa2
    obtain ⟨amb, cmb, hvb, hrb⟩ := dueRow hob
    have hrl : laterB g xp xt = true → ∀ i, ((dueJ g c v m g.ns).getD i due0).way ≤ ((dueJ g c (v.snoc xp xt) m g.ns).getD i due0).way ∧ ((dueJ g c v m g.ns).getD i due0).days ≤ ((dueJ g c (v.snoc xp xt) m g.ns).getD i due0).days := fun h i => DRel.get h i hrel
    generalize dueJ g c v m g.ns = la at hlen hnl hra hrl hoa hoa2 ⊢
    generalize dueJ g c (v.snoc xp xt) m g.ns = lb at hlen hrb hrl hvb hob
    rw [← hlen] at hrb hvb
    obtain ⟨n, hn⟩ : ∃ n, la.length = n := ⟨_, rfl⟩
    rw [hn] at hnl hra hrb hvb ⊢
    have HRA := Lib.hid hra
    have HRB := Lib.hid hrb
    have HRL := Lib.hid hrl
    have hvw := HV2W.out.trans (HBC.out.mono HV2W.out.size)
    have g0 := Ext.re HBC.out g0
    have g1 := Ext.re HBC.out g1
    have g2 := Ext.re HBC.out g2
    have g3 := Ext.re HBC.out g3
    have HVW := Lib.hid hvw
    have DF1 := Lib.hid (fun (Z : Ext wc) => (Ext.rise HVW.out Z).elim fun Q hQ => hQ ▸ DF.out Q)
    rw [show (fun i => decide (g.mp i = xp) && decide (xt < g.mf i)) = (fun i => decide (g.mp i = xp) && decide (xt < g.mf i)) from rfl] at DF1
    have hlb : (!decide (0 ≤ idxF (fun i => decide (g.mp i = xp) && decide (xt < g.mf i)) g.nm 0)) = laterB g xp xt := rfl
    generalize decide (0 ≤ idxF (fun i => decide (g.mp i = xp) && decide (xt < g.mf i)) g.nm 0) = fb at DF1 hlb
    rw [← hlb] at HRL
    obtain ⟨lt, hnb⟩ : ∃ l : Bool, (!fb) = l := ⟨_, rfl⟩
    rw [hnb] at HRL
    subst hvb
    have q1 : ((n : Int) != (n : Int)) = false := by simp
    clear hra hrb hrl hlen hn hrel hdl hoa hoa2 hob hvw hlb k1 k2 hck hxt
    go_upto_region 3 with (fail)
    refine ext_wp fun Z => ?_
    go_wp2_with fail
    refine (Ext.calls _ (DF1.out _)).mono ?_
    rintro e w3 ⟨rfl, Z2, rfl⟩
    go_wp2_with fail
    go_loopw [56] (fun iv wr => ∃ (i : Nat), iv = .int .i64 i ∧ i ≤ n ∧ ∃ X : Ext wc, wr = X.1) (fun iv _ => n - (intOf iv).toNat)
    case atStart => exact ⟨0, rfl, by omega, Z2, rfl⟩
    case round =>
      obtain ⟨i, rfl, hi, Z3, rfl⟩ := hrel
      by_cases hlt : i < n
      · have t1 : decide ((i : Int) < (n : Int)) = true := by rw [decide_eq_true_eq]; omega
        have t1' : decide (i < n) = true := by simpa using hlt
        obtain ⟨ba', offa, rfl, hbla, hcca⟩ := HRA.out.here (by omega)
        obtain ⟨bb', offb, rfl, hblb, hccb⟩ := HRB.out.here (by omega)
        have a3 := Ext.ex (show wc.cell? ⟨ba', offa + i * 5 + 3, none⟩ = some (.int .i64 (la.getD i due0).way) from hcca i hlt 3 (by omega))
        have a4 := Ext.ex (show wc.cell? ⟨ba', offa + i * 5 + 4, none⟩ = some (.int .i64 (la.getD i due0).days) from hcca i hlt 4 (by omega))
        have b3 := Ext.ex (show wc.cell? ⟨bb', offb + i * 5 + 3, none⟩ = some (.int .i64 (lb.getD i due0).way) from hccb i hlt 3 (by omega))
        have b4 := Ext.ex (show wc.cell? ⟨bb', offb + i * 5 + 4, none⟩ = some (.int .i64 (lb.getD i due0).days) from hccb i hlt 4 (by omega))
        clear hcca hccb
        cases lt
        case true =>
          obtain ⟨r1, r2⟩ := HRL.out rfl i
          have d1 : decide ((lb.getD i due0).way < (la.getD i due0).way) = false := by rw [decide_eq_false_iff_not]; omega
          have d2 : decide ((lb.getD i due0).days < (la.getD i due0).days) = false := by rw [decide_eq_false_iff_not]; omega
          generalize (lb.getD i due0).way = y1 at b3 d1
          generalize (la.getD i due0).way = y2 at a3 d1
          generalize (lb.getD i due0).days = y3 at b4 d2
          generalize (la.getD i due0).days = y4 at a4 d2
          clear r1 r2
          go_upto_region 11 with (fail)
          refine wp_region_ext (W := wc) _ (by kernel_rfl) (by kernel_rfl) ?_
          repeat go_big_quiet_step (fail)
          refine wpQuiet_nil ?_
          intro _ hw'
          obtain ⟨Z4, rfl⟩ := hw'
          go_wp2_with fail
          go_roundw
          case rel => exact ⟨i + 1, by go_num, by omega, Z4, rfl⟩
          case measure => simp [intOf]; omega
        case false =>
          go_upto_region 11 with (fail)
          refine wp_region_ext (W := wc) _ (by kernel_rfl) (by kernel_rfl) ?_
          repeat go_big_quiet_step (fail)
          refine wpQuiet_nil ?_
          intro _ hw'
          obtain ⟨Z4, rfl⟩ := hw'
          go_wp2_with fail
          go_roundw
          case rel => exact ⟨i + 1, by go_num, by omega, Z4, rfl⟩
          case measure => simp [intOf]; omega
      · have t1 : decide ((i : Int) < (n : Int)) = false := by rw [decide_eq_false_iff_not]; omega
        have t1' : decide (i < n) = false := by simpa using hlt
        clear hlt
        go_wp2_with fail
        refine (DT.out _).mono ?_
        rintro e w3 ⟨rfl, hb3⟩
        go_wp2_with fail
        go_ret
        exact ⟨rfl, (Z3.down HBW.out HBW.out.size).trans (hb3.mono (Z3.down HBW.out HBW.out.size).size)⟩
end Go.Proofs.Ytbkpoepacjinlaa

/- The law GearDuesMatchSpec: two equal rows of dues; its walk. -/
namespace Go.Proofs.Ytbkpoepacjinlaa
open Go.RowKit Go.BigFrame
open Gar (chk momG hasS hasP)

set_option maxHeartbeats 1000000 in
theorem eqDue (a b : ByteArray) (c d e : Int) (w : World) : (Op.equalIn 10000 57 (.agg #[.string a, .string b, .int .i64 c, .int .i64 d, .int .i64 e]) (.agg #[.string a, .string b, .int .i64 c, .int .i64 d, .int .i64 e])).run Try.prog w = .ok true w := by
  have u3 := Try.underlying3
  have a3 := Try.isAgg3
  have z3 := Try.sizeOf3
  have u9 := Try.underlying9
  have a9 := Try.isAgg9
  have z9 := Try.sizeOf9
  have hS : Try.prog.underlying 57 = some (.struct (Try.prog.fieldsOf 57)) := by kernel_rfl
  have hp : Try.prog.stoodInHeld 57 = false := by kernel_rfl
  rw [show (10000 : Nat) = 9999 + 1 from rfl, run_equalIn_agg w 9999 57 _ _ hS hp]
  simp only [Program.fieldsOf, Try.underlying57]
  go_simp
set_option maxHeartbeats 2000000 in
set_option maxRecDepth 100000 in
theorem equalD_any (n : Nat) (f : Nat → Duc) (a b : Option Addr) (c d : Nat) (w : World) (hr : RowK w a n 5 (fun i => dueC (f i))) (hq : RowK w b n 5 (fun i => dueC (f i))) (hl : (n : Int) ≤ 9223372036854775807) :
    Calls Try.prog 32 #[.slice a n c, .slice b n d] w fun e w' => e = .returned (.bool true) ∧ ∃ m, w' = w.drewN m := by
  have hneq : ((n : Int) != (n : Int)) = false := by simp
  have HR := Lib.hid hr
  have HQ := Lib.hid hq
  clear hr hq
  go_enter Try.func32, Try.ntmps32
  go_wp2_with fail
  go_loopw [13] (fun iv wr => ∃ (k : Nat), iv = .int .i64 k ∧ k ≤ n ∧ ∃ m, wr = w.drewN m) (fun iv _ => n - (intOf iv).toNat)
  case atStart => exact ⟨0, rfl, by omega, 0, rfl⟩
  case round =>
    obtain ⟨k, rfl, hk, m, rfl⟩ := hrel
    by_cases hlt : k < n
    · have t1 : decide ((k : Int) < (n : Int)) = true := by rw [decide_eq_true_eq]; omega
      have t1' : decide (k < n) = true := by simpa using hlt
      have t2 : (k : Int) < (n : Int) := by omega
      obtain ⟨b1, o1, rfl, hb1, hc1⟩ := HR.out.here (by omega)
      obtain ⟨b2, o2, rfl, hb2, hc2⟩ := HQ.out.here (by omega)
      have e0 : w.cell? ⟨b1, o1 + k * 5, none⟩ = some (.string (f k).part) := hc1 k hlt 0 (by omega)
      have e1 : w.cell? ⟨b1, o1 + k * 5 + 1, none⟩ = some (.string (f k).slot) := hc1 k hlt 1 (by omega)
      have e2 : w.cell? ⟨b1, o1 + k * 5 + 2, none⟩ = some (.int .i64 (f k).plan) := hc1 k hlt 2 (by omega)
      have e3 : w.cell? ⟨b1, o1 + k * 5 + 3, none⟩ = some (.int .i64 (f k).way) := hc1 k hlt 3 (by omega)
      have e4 : w.cell? ⟨b1, o1 + k * 5 + 4, none⟩ = some (.int .i64 (f k).days) := hc1 k hlt 4 (by omega)
      have f0 : w.cell? ⟨b2, o2 + k * 5, none⟩ = some (.string (f k).part) := hc2 k hlt 0 (by omega)
      have f1 : w.cell? ⟨b2, o2 + k * 5 + 1, none⟩ = some (.string (f k).slot) := hc2 k hlt 1 (by omega)
      have f2 : w.cell? ⟨b2, o2 + k * 5 + 2, none⟩ = some (.int .i64 (f k).plan) := hc2 k hlt 2 (by omega)
      have f3 : w.cell? ⟨b2, o2 + k * 5 + 3, none⟩ = some (.int .i64 (f k).way) := hc2 k hlt 3 (by omega)
      have f4 : w.cell? ⟨b2, o2 + k * 5 + 4, none⟩ = some (.int .i64 (f k).days) := hc2 k hlt 4 (by omega)
      clear hc1 hc2
      have hgd : Try.prog.eqGuardType Try.prog.depth 57 = false := by kernel_rfl
      generalize (f k).part = x0 at *
      generalize (f k).slot = x1 at *
      obtain ⟨x2, hx2⟩ : ∃ x : Int, ((f k).plan : Int) = x := ⟨_, rfl⟩
      rw [hx2] at e2 f2
      generalize (f k).way = x3 at *
      generalize (f k).days = x4 at *
      clear hx2
      have hq : ∀ W, (Op.equalIn 10000 57 (.agg #[.string x0, .string x1, .int .i64 x2, .int .i64 x3, .int .i64 x4]) (.agg #[.string x0, .string x1, .int .i64 x2, .int .i64 x3, .int .i64 x4])).run Try.prog W = .ok true W := fun W => eqDue _ _ _ _ _ W
      go_wp2_with fail
      go_quiet (fail)
      go_wp2_with fail
      go_roundw
      case rel => exact ⟨k + 1, by go_num, by omega, _, rfl⟩
      case measure => simp [intOf]; omega
    · have t1 : decide ((k : Int) < (n : Int)) = false := by rw [decide_eq_false_iff_not]; omega
      have t1' : decide (k < n) = false := by simpa using hlt
      clear hlt
      go_wp2_with fail
      go_ret
      exact ⟨rfl, _, rfl⟩
/-- all that is due, or nothing where the arguments are not right -/
def allD (g : Gar) (c : Cares) (v : Servs) (m : Int) : List Duc := if dueErr g c v m = 0 then dueJ g c v m g.ns else []
theorem dues_form {g : Gar} {c : Cares} {v : Servs} {m : Int} {w w' : World} {e : Ending} (h : (dueErr g c v m ≠ 0 ∧ e = .returned (.tuple #[.slice none 0 0, .int .i64 (dueErr g c v m)])) ∨ (dueErr g c v m = 0 ∧ ∃ vv base, w.heap.size ≤ base ∧ e = .returned (.tuple #[vv, .int .i64 0]) ∧ w'.ownsRow base 57 5 vv (dueJ g c v m g.ns).length (dueCs (dueJ g c v m g.ns)))) :
    ∃ (am : Option Addr) (cm : Nat), e = .returned (.tuple #[.slice am (allD g c v m).length cm, .int .i64 (dueErr g c v m)]) ∧ RowK w' am (allD g c v m).length 5 (fun i => dueC ((allD g c v m).getD i due0)) := by
  rcases h with ⟨hne, rfl⟩ | ⟨hz, vv, base, _, rfl, ho⟩
  · have hl : allD g c v m = [] := by unfold allD; rw [if_neg hne]
    rw [hl]
    exact ⟨none, 0, rfl, ⟨fun h => by simp at h⟩⟩
  · have hl : allD g c v m = dueJ g c v m g.ns := by unfold allD; rw [if_pos hz]
    obtain ⟨am, cm, rfl, hr⟩ := dueRow ho
    rw [hl]
    exact ⟨am, cm, by rw [hz], hr⟩
set_option maxHeartbeats 4000000 in
set_option maxRecDepth 100000 in
theorem dues_law (g : Gar) (a0 a1 a2 a3 : Option Addr) (c0 c1 c2 c3 : Nat) (c : Cares) (ac : Option Addr) (cc : Nat) (v : Servs) (av : Option Addr) (cv : Nat) (m : Int) (w : World) (h : GarIn w g a0 a1 a2 a3) (hc2 : g.nm ≤ c2) (hc3 : g.nu ≤ c3)
    (hc : RowK w ac c.n 3 c.cells) (hcl : (c.n : Int) ≤ 9223372036854775807) (hv : RowK w av v.n 2 v.cells) (hvl : (v.n : Int) ≤ 9223372036854775807) :
    Calls Try.prog 7 #[garV g a0 a1 a2 a3 c0 c1 c2 c3, .slice ac c.n cc, .slice av v.n cv, .int .i64 m] w fun e w' => e = .returned (.bool true) ∧ Below w.heap.size w w' := by
  have HG := Lib.hid h
  have HC := Lib.hid hc
  have HV := Lib.hid hv
  obtain ⟨W0, hW0, hb0, hs0, hl0'⟩ := alloc_cells w #[.slice a0 g.np c0, .slice a1 g.ns c1, .slice a2 g.nm c2, .slice a3 g.nu c3] 27
  have G0 := Ext.ex (hl0' 0 _ rfl)
  have G1 := Ext.ex (hl0' 1 _ rfl)
  have G2 := Ext.ex (hl0' 2 _ rfl)
  have G3 := Ext.ex (hl0' 3 _ rfl)
  have HW0 := Lib.hid hW0
  have HB := Lib.hid hb0
  have hbs : w.heap.size ≤ W0.heap.size := by omega
  have D1 := Lib.hid (fun (Y : Ext W0) => dues_any g a0 a1 a2 a3 c0 c1 c2 c3 c ac cc v av cv m Y.1 (HG.out.below (Y.down HB.out hbs)) (HC.out.below (Y.down HB.out hbs) (Nat.le_refl _)) hcl (HV.out.below (Y.down HB.out hbs) (Nat.le_refl _)) hvl)
  have D2 := Lib.hid (fun (Y : Ext W0) => rdues_any g a0 a1 a2 a3 c0 c1 c2 c3 c ac cc v av cv m Y.1 (HG.out.below (Y.down HB.out hbs)) (HC.out.below (Y.down HB.out hbs) (Nat.le_refl _)) hcl (HV.out.below (Y.down HB.out hbs) (Nat.le_refl _)) hvl hc2 hc3)
  have DT := Lib.hid (fun W => told_any W)
  have hdl : ((allD g c v m).length : Int) ≤ 9223372036854775807 := by
    unfold allD
    split
    · rename_i hz
      have hk : chk g = 0 := by unfold dueErr at hz; split at hz <;> omega
      have hcn : c.n ≤ 200 := by
        unfold dueErr at hz
        rw [if_neg (by rw [hk]; simp)] at hz
        exact (care_zero hz).1
      have h1 := dueJ_len g c v m g.ns
      have h2 := Nat.mul_le_mul (Gar.chk_parts hk).2.1 hcn
      omega
    · simp
  have HPF := Lib.hid (fun (W W' : World) (e : Ending) => dues_form (g := g) (c := c) (v := v) (m := m) (w := W) (w' := W') (e := e))
  unfold garV at D1 D2 ⊢
  clear h hc hv hl0' hW0 hb0 hs0 hc2 hc3
  go_enter Try.func7, Try.ntmps7
  go_upto_region 1 with (fail)
  rw [HW0.out]
  refine ext_wp fun X => ?_
  go_wp2_with fail
  refine (D1.out _).mono ?_
  rintro e w1 ⟨hb1, hcase⟩
  obtain ⟨am, cm, rfl, hra⟩ := HPF.out _ _ _ hcase
  obtain ⟨Y1, rfl⟩ : ∃ Y : Ext W0, w1 = Y.1 := ⟨⟨w1, X.2.trans (hb1.mono X.2.size)⟩, rfl⟩
  go_wp2_with fail
  refine (D2.out _).mono ?_
  rintro e w2 ⟨hb2, hcase2⟩
  obtain ⟨am2, cm2, rfl, hrb⟩ := HPF.out _ _ _ hcase2
  have hra2 := hra.below hb2 (Nat.le_refl _)
  obtain ⟨Y2, rfl⟩ : ∃ Y : Ext W0, w2 = Y.1 := ⟨⟨w2, Y1.2.trans (hb2.mono Y1.2.size)⟩, rfl⟩
  have DE := Lib.hid (equalD_any _ _ am am2 cm cm2 Y2.1 hra2 hrb hdl)
  obtain ⟨n, hn⟩ : ∃ n, (allD g c v m).length = n := ⟨_, rfl⟩
  obtain ⟨ck, hck⟩ : ∃ x, dueErr g c v m = x := ⟨_, rfl⟩
  rw [hn] at DE ⊢
  rw [hck]
  clear hra hra2 hrb hcase hcase2 hb1 hb2 hn hck hdl HPF D1 D2
  go_wp2_with fail
  refine DE.out.mono ?_
  rintro e w3 ⟨rfl, mm, rfl⟩
  obtain ⟨Y3, hY3⟩ : ∃ Y : Ext W0, Y2.1.drewN mm = Y.1 := ⟨⟨Y2.1.drewN mm, below_drewN Y2.2 mm⟩, rfl⟩
  rw [hY3]
  go_wp2_with fail
  refine (DT.out _).mono ?_
  rintro e w4 ⟨rfl, hb4⟩
  go_wp2_with fail
  go_ret
  exact ⟨rfl, (Y3.down HB.out hbs).trans (hb4.mono (Y3.down HB.out hbs).size)⟩
end Go.Proofs.Ytbkpoepacjinlaa

/- A garage that came in by value: how it reads. -/
namespace Go.Proofs.Ytbkpoepacjinlaa
open Go.ChangeShapes Go.WideShapes Go.ChangeAt Go.RowKit Go.Deep

theorem laidOut : laidOutB Try.prog = true := by kernel_rfl
theorem readGarage : Try.prog.readableRec 27 = true := by kernel_rfl
theorem rowGarage : 27 < Try.prog.types.size := of_decide_eq_true (by kernel_rfl)
def intV : Value → Int
  | .int _ n => n
  | _ => 0
def strV : Value → ByteArray
  | .string s => s
  | _ => ByteArray.empty
theorem RowK.congr {w : World} {a : Option Addr} {len k : Nat} {V V' : Nat → List Value} (h : RowK w a len k V) (he : ∀ i, i < len → V i = V' i) : RowK w a len k V' :=
  ⟨fun h0 => by
    obtain ⟨b, off, e, hb, hc⟩ := h.here h0
    exact ⟨b, off, e, hb, fun i hi j hj => by rw [hc i hi j hj, he i hi]⟩⟩
section
variable {H : Type} {enc : TypeId × Value → H} {P : Program} {w : World} {base : Nat}
theorem field_str {V : List Value} {j : Nat} {t : TypeId} (ht : P.underlying t = some .string) (h : ∃ u n y, V[j]? = some u ∧ DataW.trod enc P w base (fun _ => true) true n t [u] = some y) :
    V[j]? = some (.string (strV (V.getD j (.bool false)))) ∧ (strV (V.getD j (.bool false))).size ≤ maxLen := by
  obtain ⟨u, n, y, hu, hd⟩ := h
  obtain ⟨s, e, _, hs⟩ := DataW.trod_string ht hd
  simp only [List.cons.injEq, and_true] at e
  subst e
  rw [List.getD_eq_getElem?_getD, hu]
  exact ⟨rfl, hs⟩
theorem field_int {V : List Value} {j : Nat} {t : TypeId} (ht : P.underlying t = some (.int .i64)) (h : ∃ u n y, V[j]? = some u ∧ DataW.trod enc P w base (fun _ => true) true n t [u] = some y) :
    V[j]? = some (.int .i64 (intV (V.getD j (.bool false)))) := by
  obtain ⟨u, n, y, hu, hd⟩ := h
  obtain ⟨s, e, _, hs⟩ := DataW.trod_int ht hd
  simp only [List.cons.injEq, and_true] at e
  subst e
  rw [List.getD_eq_getElem?_getD, hu]
  rfl
end
theorem list2 {V : List Value} {a b : Value} (hl : V.length = 2) (h0 : V[0]? = some a) (h1 : V[1]? = some b) : V = [a, b] := by
  match V, hl with
  | [x, y], _ => simp at h0 h1; rw [h0, h1]
theorem list4 {V : List Value} {a b c d : Value} (hl : V.length = 4) (h0 : V[0]? = some a) (h1 : V[1]? = some b) (h2 : V[2]? = some c) (h3 : V[3]? = some d) : V = [a, b, c, d] := by
  match V, hl with
  | [x, y, z, u], _ => simp at h0 h1 h2 h3; rw [h0, h1, h2, h3]
theorem list5 {V : List Value} {a b c d e : Value} (hl : V.length = 5) (h0 : V[0]? = some a) (h1 : V[1]? = some b) (h2 : V[2]? = some c) (h3 : V[3]? = some d) (h4 : V[4]? = some e) : V = [a, b, c, d, e] := by
  match V, hl with
  | [x, y, z, u, v], _ => simp at h0 h1 h2 h3 h4; rw [h0, h1, h2, h3, h4]

set_option maxRecDepth 100000 in
theorem open_garage {H : Type} {enc : TypeId × Value → H} {W : World} {r : Reach} {b0 base : Nat} {v : Value} {d : DataW H} {p : List MemPlace}
    (hv : Value.okWide Try.prog W r b0 27 v) (h : DataW.Trod enc Try.prog W base (fun _ => true) true 27 v d p) :
    ∃ (g : Gar) (a0 a1 a2 a3 : Option Addr) (c0 c1 c2 c3 : Nat), v = garV g a0 a1 a2 a3 c0 c1 c2 c3 ∧ GarIn W g a0 a1 a2 a3 ∧ g.nm ≤ c2 ∧ g.nu ≤ c3 := by
  obtain ⟨v0, v1, v2, v3, y0, y1, y2, y3, m, rfl, _, _, h0, h1, h2, h3⟩ := Go.Joins.open_agg4 Try.underlying27 (by kernel_rfl) (by kernel_rfl) hv h
  obtain ⟨a0, n0, c0, V0, rfl, l0, m0, R0, F0⟩ := open_rowK Try.underlying22 Try.underlying94 (by kernel_rfl) (by decide) (hone_of (by kernel_rfl)) h0
  obtain ⟨a1, n1, c1, V1, rfl, l1, m1, R1, F1⟩ := open_rowK Try.underlying23 Try.underlying40 (by kernel_rfl) (by decide) (hone_of (by kernel_rfl)) h1
  obtain ⟨a2, n2, c2, V2, rfl, l2, m2, R2, F2⟩ := open_rowK Try.underlying24 Try.underlying54 (by kernel_rfl) (by decide) (hone_of (by kernel_rfl)) h2
  obtain ⟨a3, n3, c3, V3, rfl, l3, m3, R3, F3⟩ := open_rowK Try.underlying25 Try.underlying38 (by kernel_rfl) (by decide) (hone_of (by kernel_rfl)) h3
  have hm : maxLen = 9223372036854775807 := rfl
  have S := Try.underlying9
  have I := Try.underlying3
  refine ⟨{ np := n0, ns := n1, nm := n2, nu := n3,
            pn := fun i => strV ((V0 i).getD 0 (.bool false)), pc := fun i => intV ((V0 i).getD 1 (.bool false)),
            sn := fun i => strV ((V1 i).getD 0 (.bool false)), sr := fun i => strV ((V1 i).getD 1 (.bool false)),
            ms := fun i => strV ((V2 i).getD 0 (.bool false)), mp := fun i => strV ((V2 i).getD 1 (.bool false)), mf := fun i => intV ((V2 i).getD 2 (.bool false)), mt := fun i => intV ((V2 i).getD 3 (.bool false)),
            un := fun i => strV ((V3 i).getD 0 (.bool false)), ur := fun i => strV ((V3 i).getD 1 (.bool false)), uf := fun i => intV ((V3 i).getD 2 (.bool false)), us := fun i => intV ((V3 i).getD 3 (.bool false)), uw := fun i => intV ((V3 i).getD 4 (.bool false)) },
    a0, a1, a2, a3, c0, c1, c2, c3, rfl, ⟨?_, ?_, ?_, ?_, ?_, ?_, ?_, ?_, ?_, ?_, ?_, ?_⟩, l2, l3⟩
  · exact R0.congr fun i hi => list2 (F0 i hi).1 (field_str S ((F0 i hi).2 0 _ rfl)).1 (field_int I ((F0 i hi).2 1 _ rfl))
  · exact R1.congr fun i hi => list2 (F1 i hi).1 (field_str S ((F1 i hi).2 0 _ rfl)).1 (field_str S ((F1 i hi).2 1 _ rfl)).1
  · exact R2.congr fun i hi => list4 (F2 i hi).1 (field_str S ((F2 i hi).2 0 _ rfl)).1 (field_str S ((F2 i hi).2 1 _ rfl)).1 (field_int I ((F2 i hi).2 2 _ rfl)) (field_int I ((F2 i hi).2 3 _ rfl))
  · exact R3.congr fun i hi => list5 (F3 i hi).1 (field_str S ((F3 i hi).2 0 _ rfl)).1 (field_str S ((F3 i hi).2 1 _ rfl)).1 (field_int I ((F3 i hi).2 2 _ rfl)) (field_int I ((F3 i hi).2 3 _ rfl)) (field_int I ((F3 i hi).2 4 _ rfl))
  · exact fun i hi => (field_str S ((F0 i hi).2 0 _ rfl)).2
  · exact fun i hi => ⟨(field_str S ((F1 i hi).2 0 _ rfl)).2, (field_str S ((F1 i hi).2 1 _ rfl)).2⟩
  · exact fun i hi => ⟨(field_str S ((F2 i hi).2 0 _ rfl)).2, (field_str S ((F2 i hi).2 1 _ rfl)).2⟩
  · exact fun i hi => ⟨(field_str S ((F3 i hi).2 0 _ rfl)).2, (field_str S ((F3 i hi).2 1 _ rfl)).2⟩
  · show ((n0 : Nat) : Int) ≤ _; omega
  · show ((n1 : Nat) : Int) ≤ _; omega
  · show ((n2 : Nat) : Int) ≤ _; omega
  · show ((n3 : Nat) : Int) ≤ _; omega
end Go.Proofs.Ytbkpoepacjinlaa

/- Plans, services, one service that came in: how they read. -/
namespace Go.Proofs.Ytbkpoepacjinlaa
open Go.ChangeShapes Go.WideShapes Go.ChangeAt Go.RowKit Go.ChangeMaps Go.Deep

theorem readCares : Try.prog.readableRec 44 = true := by kernel_rfl
theorem rowCares : 44 < Try.prog.types.size := of_decide_eq_true (by kernel_rfl)
theorem readServs : Try.prog.readableRec 45 = true := by kernel_rfl
theorem rowServs : 45 < Try.prog.types.size := of_decide_eq_true (by kernel_rfl)
theorem readServ : Try.prog.readableRec 47 = true := by kernel_rfl
theorem rowServ : 47 < Try.prog.types.size := of_decide_eq_true (by kernel_rfl)
theorem slice_one {P : Program} {W : World} {r : Reach} {b0 : Nat} {t e : TypeId} {v : Value} (hu : P.underlying t = some (.slice e)) (hv : Value.okWide P W r b0 t v) : v.cells.toList = [v] := by
  obtain ⟨a, l, c, rfl⟩ := okWide_slice hu hv
  rfl
theorem list3 {V : List Value} {a b c : Value} (hl : V.length = 3) (h0 : V[0]? = some a) (h1 : V[1]? = some b) (h2 : V[2]? = some c) : V = [a, b, c] := by
  match V, hl with
  | [x, y, z], _ => simp at h0 h1 h2; rw [h0, h1, h2]
set_option maxRecDepth 100000 in
theorem open_cares {H : Type} {enc : TypeId × Value → H} {W : World} {r : Reach} {b0 base : Nat} {v : Value} {d : DataW H} {p : List MemPlace}
    (hv : Value.okWide Try.prog W r b0 44 v) (h : DataW.Trod enc Try.prog W base (fun _ => true) true 44 v d p) :
    ∃ (c : Cares) (a : Option Addr) (cc : Nat), v = .slice a c.n cc ∧ RowK W a c.n 3 c.cells ∧ (c.n : Int) ≤ 9223372036854775807 := by
  obtain ⟨fuel, hf⟩ := h
  rw [slice_one Try.underlying44 hv] at hf
  obtain ⟨a0, n0, c0, V0, rfl, l0, m0, R0, F0⟩ := open_rowK Try.underlying44 Try.underlying109 (by kernel_rfl) (by decide) (hone_of (by kernel_rfl)) hf
  have hm : maxLen = 9223372036854775807 := rfl
  have S := Try.underlying9
  have I := Try.underlying3
  refine ⟨⟨n0, fun i => strV ((V0 i).getD 0 (.bool false)), fun i => intV ((V0 i).getD 1 (.bool false)), fun i => intV ((V0 i).getD 2 (.bool false))⟩, a0, c0, rfl, ?_, ?_⟩
  · exact R0.congr fun i hi => list3 (F0 i hi).1 (field_str S ((F0 i hi).2 0 _ rfl)).1 (field_int I ((F0 i hi).2 1 _ rfl)) (field_int I ((F0 i hi).2 2 _ rfl))
  · show ((n0 : Nat) : Int) ≤ _; omega
set_option maxRecDepth 100000 in
theorem open_servs {H : Type} {enc : TypeId × Value → H} {W : World} {r : Reach} {b0 base : Nat} {v : Value} {d : DataW H} {p : List MemPlace}
    (hv : Value.okWide Try.prog W r b0 45 v) (h : DataW.Trod enc Try.prog W base (fun _ => true) true 45 v d p) :
    ∃ (c : Servs) (a : Option Addr) (cc : Nat), v = .slice a c.n cc ∧ RowK W a c.n 2 c.cells ∧ (c.n = 0 ∨ ∃ elems spare, d = .slice elems spare ∧ elems.length = c.n) := by
  obtain ⟨fuel, hf⟩ := h
  rw [slice_one Try.underlying45 hv] at hf
  obtain ⟨a0, n0, c0, V0, rfl, l0, m0, R0, F0⟩ := open_rowK Try.underlying45 Try.underlying47 (by kernel_rfl) (by decide) (hone_of (by kernel_rfl)) hf
  have S := Try.underlying9
  have I := Try.underlying3
  refine ⟨⟨n0, fun i => strV ((V0 i).getD 0 (.bool false)), fun i => intV ((V0 i).getD 1 (.bool false))⟩, a0, c0, rfl, ?_, ?_⟩
  · exact R0.congr fun i hi => list2 (F0 i hi).1 (field_str S ((F0 i hi).2 0 _ rfl)).1 (field_int I ((F0 i hi).2 1 _ rfl))
  · show n0 = 0 ∨ _
    rcases open_slice Try.underlying45 hf with ⟨hc, _⟩ | ⟨a, len, cap, m, n, D, Pl, hc, _, _, _, _, hx, _⟩
    · injection hc with hc _
      injection hc with _ hc _
      exact Or.inl hc
    · injection hc with hc _
      injection hc with _ hc _
      refine Or.inr ⟨(List.range len).map D, (List.range (m - len)).map fun j => D (len + j), ?_, ?_⟩
      · exact congrArg Prod.fst hx
      · show _ = n0
        rw [hc]
        simp
set_option maxRecDepth 100000 in
theorem open_servs2 {H : Type} {enc : TypeId × Value → H} {W : World} {r : Reach} {b0 base : Nat} {v : Value} {d : DataW H} {p : List MemPlace}
    (hv : Value.okWide Try.prog W r b0 45 v) (h : DataW.Trod enc Try.prog W base (fun _ => true) true 45 v d p) :
    ∃ (c : Servs) (a : Option Addr) (cc : Nat), v = .slice a c.n cc ∧ RowK W a c.n 2 c.cells ∧ (c.n : Int) ≤ 9223372036854775807 := by
  obtain ⟨fuel, hf⟩ := h
  rw [slice_one Try.underlying45 hv] at hf
  obtain ⟨a0, n0, c0, V0, rfl, l0, m0, R0, F0⟩ := open_rowK Try.underlying45 Try.underlying47 (by kernel_rfl) (by decide) (hone_of (by kernel_rfl)) hf
  have hm : maxLen = 9223372036854775807 := rfl
  have S := Try.underlying9
  have I := Try.underlying3
  refine ⟨⟨n0, fun i => strV ((V0 i).getD 0 (.bool false)), fun i => intV ((V0 i).getD 1 (.bool false))⟩, a0, c0, rfl, ?_, ?_⟩
  · exact R0.congr fun i hi => list2 (F0 i hi).1 (field_str S ((F0 i hi).2 0 _ rfl)).1 (field_int I ((F0 i hi).2 1 _ rfl))
  · show ((n0 : Nat) : Int) ≤ _; omega
set_option maxRecDepth 100000 in
theorem open_serv {H : Type} {enc : TypeId × Value → H} {W : World} {r : Reach} {b0 base : Nat} {v : Value} {d : DataW H} {p : List MemPlace}
    (hv : Value.okWide Try.prog W r b0 47 v) (h : DataW.Trod enc Try.prog W base (fun _ => true) true 47 v d p) :
    ∃ (s : ByteArray) (t : Int), v = .agg #[.string s, .int .i64 t] := by
  obtain ⟨v0, v1, y0, y1, m, rfl, _, _, h0, h1⟩ := Go.Joins.open_agg2 Try.underlying47 (by kernel_rfl) (by kernel_rfl) hv h
  obtain ⟨s, e, _, _⟩ := DataW.trod_string Try.underlying9 h0
  obtain ⟨x, e1, _, _⟩ := DataW.trod_int Try.underlying3 h1
  simp only [List.cons.injEq, and_true] at e e1
  exact ⟨s, x, by rw [e, e1]⟩
end Go.Proofs.Ytbkpoepacjinlaa

/- GearDuesMatchSpec: for every input the law returns true, and each argument reads as it did. (The frame is the guide's shell of a law's proof, turned to a garage, plans and services; the walk is dues_law.) -/
namespace Go.Proofs.Ytbkpoepacjinlaa.gearDuesMatchSpecDone
open Go.ChangeShapes Go.WideShapes Go.ChangeAt Go.RowKit Go.ChangeMaps Go.Deep
set_option linter.unusedVariables false

theorem own : ownKnob Try.prog.godebug = none := by kernel_rfl

set_option maxRecDepth 100000 in
theorem lifted (os : Os) (started : os.Started) (H : Type) (enc : TypeId × Value → H) :
    ReturnsInHanded {} Try.checked os 7 .any (Rows.gearDuesMatchSpecSpec.pre6 enc Try.prog Try.f7 Rows.gearDuesMatchSpecRow.domain false) (Rows.gearDuesMatchSpecSpec.post enc Try.prog Try.f7 false true false false) := by
  refine returnsInHanded_of_change (C := Try.checked) own started (by kernel_rfl) Try.func7
    (ChangeSpec.witness6 (enc := enc) (C := Try.checked) false ⟨#[], #[.agg #[.slice none 0 0, .slice none 0 0, .slice none 0 0, .slice none 0 0], .slice none 0 0, .slice none 0 0, .int .i64 0], []⟩ 8 (by kernel_rfl) (by kernel_rfl) (by kernel_rfl) (by kernel_rfl)) ?_
  intro W base args ds gs before hval0 hW hcnd _
  have hval : ∀ (j : Nat) t v, Try.f7.params[j]? = some t → args[j]? = some v → Value.okWide Try.prog W .any base t v := hval0
  have hW' := hW
  obtain ⟨p, q, hA0, hV, rfl, hfz, hnd⟩ := hW
  have hA : DataW.TrodAll enc Try.prog W 0 (fun _ => true) true Try.f7.params.toList args.toList ds p := hA0
  have hlt := DataW.TrodAll.lt hA
  rw [Try.params7] at hA hval
  obtain ⟨v0, vs0, d0, ds0, p0, q0, hargs, rfl, rfl, h0, r0⟩ := trodAll_cons hA
  obtain ⟨v1, vs1, d1, ds1, p1, q1, rfl, rfl, rfl, h1, r1⟩ := trodAll_cons r0
  obtain ⟨v2, vs2, d2, ds2, p2, q2, rfl, rfl, rfl, h2, r2⟩ := trodAll_cons r1
  obtain ⟨v3, vs3, d3, ds3, p3, q3, rfl, rfl, rfl, h3, r3⟩ := trodAll_cons r2
  obtain ⟨rfl, rfl, rfl⟩ := trodAll_nil r3
  obtain rfl : args = #[v0, v1, v2, v3] := by cases args; simp_all
  obtain ⟨rfl, rfl⟩ := trodVars_none hV
  obtain ⟨g, a0, a1, a2, a3, c0, c1, c2, c3, rfl, hr, hc2, hc3⟩ := open_garage (hval 0 27 v0 rfl rfl) h0
  obtain ⟨c, ac, cc, rfl, hrc, hcl⟩ := open_cares (hval 1 44 v1 rfl rfl) h1
  obtain ⟨s, av, cv, rfl, hrs, hsl⟩ := open_servs2 (hval 2 45 v2 rfl rfl) h2
  obtain ⟨m3, rfl, rfl, rfl, w3⟩ := open_int Try.underlying3 (hval 3 3 v3 rfl rfl) h3
  clear hA0 hval0
  simp only [List.append_nil] at hW' hlt
  refine (dues_law g a0 a1 a2 a3 c0 c1 c2 c3 c ac cc s av cv m3 W hr hc2 hc3 hrc hcl hrs hsl).mono fun e W' hE => ?_
  obtain ⟨he, hg⟩ := hE
  subst he
  have z0 := Below.trod laidOut readGarage rowGarage h0 hg (fun x hx => hlt x (by simp [hx]))
  have z1 := Below.trod laidOut readCares rowCares h1 hg (fun x hx => hlt x (by simp [hx]))
  have z2 := Below.trod laidOut readServs rowServs h2 hg (fun x hx => hlt x (by simp [hx]))
  exact ⟨_, rfl, _, _, _, [], _, [], hW', (trodAll_cons_mk (shut_bool Try.underlying4 _) trodAll_mk0), (trodAll_cons_mk z0 (trodAll_cons_mk z1 (trodAll_cons_mk z2 (trodAll_cons_mk (shut_int Try.underlying3 w3) trodAll_mk0)))), rfl, hg.frame _, fun h => by cases h⟩

theorem over : Rows.gearDuesMatchSpecRow.holds Try.pinned (OpenSpec.ofChange Rows.gearDuesMatchSpecSpec) :=
  OpenClaim.holds_of_wide 7 Try.f7 rfl rfl rfl rfl rfl rfl rfl ⟨rfl, rfl, rfl, rfl, rfl⟩ rfl rfl rfl rfl rfl (by kernel_rfl) Try.func7 (by kernel_rfl)
    (of_decide_eq_true (by kernel_rfl)) (by unfold Func.isWrapper; first | (rw [if_pos (by decide +kernel)]; kernel_rfl) | (rw [if_neg (by decide +kernel)]; exact ⟨rfl, rfl⟩))
    (fun os started H enc _ => lifted os started H enc)

/-- The statement. -/
theorem proved : Rows.GearDuesMatchSpecSaid :=
  over
#print axioms proved
end Go.Proofs.Ytbkpoepacjinlaa.gearDuesMatchSpecDone
