/- Several texts of this claim in one. -/
import Derived.Test.YtbkpoepacjinlaaLu
import Derived.Laws.OwnMore
import Derived.Test.YtbkpoepacjinlaaGu
import Derived.Test.YtbkpoepacjinlaaF
import Derived.Test.YtbkpoepacjinlaaG
import Derived.Test.YtbkpoepacjinlaaRows
import Derived.ProofKit
import Derived.OpenShut
import Derived.Lib.SmallJoins
import Derived.Carry
import Derived.ChangeMaps5
import Derived.WalkKit
/- Gear: piecesOf of the reference. -/
namespace Go.Proofs.Ytbkpoepacjinlaa
open Go.RowKit Go.BigFrame
open Gar (mountsK)

def lookS (a : Int) (st : ByteArray × Int) (m : Pcs.Mnt) : ByteArray × Int := if m.f ≤ a ∧ a < Pcs.en m then (m.p, min st.2 (Pcs.en m)) else if a < m.f then (st.1, min st.2 m.f) else st
theorem look_snoc (a : Int) (m : Pcs.Mnt) : ∀ (ms : List Pcs.Mnt) (st : ByteArray × Int), Pcs.look a (ms ++ [m]) st = lookS a (Pcs.look a ms st) m
  | [], _ => rfl
  | x :: ms, st => by
    rw [List.cons_append, Pcs.look, Pcs.look, look_snoc a m ms]
theorem look_step (g : Gar) (slot : ByteArray) (a : Int) (st : ByteArray × Int) (k : Nat) : Pcs.look a (mountsK g slot (k + 1)) st = if g.ms k = slot then lookS a (Pcs.look a (mountsK g slot k) st) (g.mnt k) else Pcs.look a (mountsK g slot k) st := by
  rw [mountsK]
  split
  · exact look_snoc a _ _ _
  · rfl
theorem rp_next {last a : Int} {ms : List Pcs.Mnt} (h : a < last) : Pcs.rpieces last ms (last - a).toNat a = ((Pcs.look a ms (Pcs.em, last)).1, (Pcs.look a ms (Pcs.em, last)).2 - a) :: Pcs.rpieces last ms (last - (Pcs.look a ms (Pcs.em, last)).2).toNat (Pcs.look a ms (Pcs.em, last)).2 := by
  obtain ⟨n, hn⟩ : ∃ n, (last - a).toNat = n + 1 := ⟨(last - a).toNat - 1, by omega⟩
  have hg := Pcs.look_gt a ms (Pcs.em, last) h
  rw [hn, Pcs.rpieces, if_pos h]
  congr 1
  exact Pcs.rp_fuel _ _ _ (by omega) (by omega)
theorem isG_iff (g : Gar) (k : Nat) (a : Int) : isG (g.mf k) (g.mt k) a = true ↔ ((g.mnt k).f ≤ a ∧ a < Pcs.en (g.mnt k)) := by
  unfold isG
  rw [Bool.and_eq_true, decide_eq_true_eq, decide_eq_true_eq]
  rfl
set_option maxHeartbeats 8000000 in
set_option maxRecDepth 100000 in
theorem rpiecesOf_any (g : Gar) (a0 a1 a2 a3 : Option Addr) (c0 c1 c2 c3 : Nat) (un ur : ByteArray) (uf us uw : Int) (slot : ByteArray) (w : World) (h : GarIn w g a0 a1 a2 a3)
    (h0 : 0 ≤ uf) (h1 : uf ≤ 86399999999) (h2 : 1 ≤ us) (h3 : us ≤ 1000000) (h4 : 0 ≤ uw) (h5 : uw ≤ 1000000000) (hmf : ∀ k, k < g.nm → 0 ≤ g.mf k ∧ g.mf k ≤ 86399999999) (hmt : ∀ k, k < g.nm → g.mt k ≤ 86399999999) (ho : Pcs.Ord (g.mounts slot)) :
    Calls Try.prog 113 #[garV g a0 a1 a2 a3 c0 c1 c2 c3, useV un ur uf us uw, .string slot] w (PcsRet un slot (Pcs.pieces uf (uf + us) (g.mounts slot)) us uw w) := by
  have HG := Lib.hid h
  have HO := Lib.hid ho
  have HMF := Lib.hid hmf
  have HMT := Lib.hid hmt
  have hl2 := h.l2
  unfold garV useV
  obtain ⟨W0, hW0, hb0, hs0, hq0⟩ := allocs w [.cells #[.slice a0 g.np c0, .slice a1 g.ns c1, .slice a2 g.nm c2, .slice a3 g.nu c3] 27, .cells #[.string un, .string ur, .int .i64 uf, .int .i64 us, .int .i64 uw] 38]
  have hs0 : W0.heap.size = w.heap.size + 2 := hs0
  have f2 : W0.cell? ⟨w.heap.size, 2, none⟩ = some (.slice a2 g.nm c2) := block_cell (hq0 0 _ rfl) rfl
  have v0 : W0.cell? ⟨w.heap.size + 1, 0, none⟩ = some (.string un) := block_cell (hq0 1 _ rfl) rfl
  have v2 : W0.cell? ⟨w.heap.size + 1, 2, none⟩ = some (.int .i64 uf) := block_cell (hq0 1 _ rfl) rfl
  have v3 : W0.cell? ⟨w.heap.size + 1, 3, none⟩ = some (.int .i64 us) := block_cell (hq0 1 _ rfl) rfl
  have v4 : W0.cell? ⟨w.heap.size + 1, 4, none⟩ = some (.int .i64 uw) := block_cell (hq0 1 _ rfl) rfl
  have HW0 := Lib.hid (show (w.alloc (.cells #[.slice a0 g.np c0, .slice a1 g.ns c1, .slice a2 g.nm c2, .slice a3 g.nu c3] 27)).alloc (.cells #[.string un, .string ur, .int .i64 uf, .int .i64 us, .int .i64 uw] 38) = W0 from hW0)
  have HB := Lib.hid hb0
  obtain ⟨B0, hB0⟩ : ∃ B, W0.heap.size = B := ⟨_, rfl⟩
  have hbs : w.heap.size ≤ B0 := by omega
  have hws : w.heap.size ≤ W0.heap.size := by omega
  have HBE := Lib.hid hB0
  obtain ⟨ms, hms⟩ : ∃ ms, g.mounts slot = ms := ⟨_, rfl⟩
  have HMS : Hid (mountsK g slot g.nm = ms) := Lib.hid hms
  rw [hms] at HO ⊢
  obtain ⟨i0, hi0, hz0, hz1, hz2⟩ := info_parts (show (Try.prog.info? 42).map (fun i => (i.zero, i.size, i.bytes)) = some (some (.agg #[.string ⟨#[]⟩, .string ⟨#[]⟩, .string ⟨#[]⟩, .int .i64 0, .int .i64 0]), 5, 64) by kernel_rfl)
  have HI0 := Lib.hid hi0
  have HZ0 := Lib.hid hz0
  have HZ1 := Lib.hid hz1
  have HZ2 := Lib.hid hz2
  have HU := Lib.hid (show Try.prog.underlying 34 = some (.slice 42) by kernel_rfl)
  have nnil : ∀ b : Nat, ¬ (Value.slice none 0 0).ownBlock = some b := fun b => by simp [Value.ownBlock]
  have hst : OwnR W0 W0 B0 42 5 (.slice none 0 0) (.slice none 0 0) ([] : List Pcs.Pc).length (pcells un slot []) := OwnR.start (World.ownsRow_nil _ _ _ _)
  have HST := Lib.hid hst
  clear h ho hmf hmt hW0 hb0 hq0 hms hi0 hz0 hz1 hz2 hst hB0
  go_enter Try.func113, Try.ntmps113
  go_upto_region 1 with (fail)
  rw [HW0.out]
  go_wp2_with fail
  go_loopw [7, 8] (fun lv av wr => ∃ (a : Int) (done : List Pcs.Pc), av = .int .i64 a ∧ uf ≤ a ∧ a ≤ uf + us ∧ (done.length : Int) ≤ a - uf ∧ Hid (OwnR W0 wr B0 42 5 (.slice none 0 0) lv done.length (pcells un slot done)) ∧ Hid (Pcs.rpieces (uf + us) ms us.toNat uf = done ++ Pcs.rpieces (uf + us) ms (uf + us - a).toNat a)) (fun _ av _ => (uf + us - intOf av).toNat)
  case atStart => exact ⟨uf, [], rfl, by omega, by omega, by simp, HST, Lib.hid (by rw [show uf + us - uf = us by omega]; rfl)⟩
  case round =>
    obtain ⟨a, done, rfl, ha0, ha1, hdl, HR, HE⟩ := hrel
    have HDN := Lib.hid (HR.out.down HB.out hws hbs (World.ownsRow_nil _ _ _ _))
    have g2 := HR.out.cell (nnil _) f2
    have u0 := HR.out.cell (nnil _) v0
    have u2 := HR.out.cell (nnil _) v2
    have u3 := HR.out.cell (nnil _) v3
    have u4 := HR.out.cell (nnil _) v4
    by_cases hlt : a < uf + us
    · have t1 : decide (a < uf + us) = true := by simpa using hlt
      have hgt := Pcs.look_gt a ms (Pcs.em, uf + us) hlt
      have hle := Pcs.look_mono a ms (Pcs.em, uf + us)
      have he := HE.out
      rw [rp_next hlt] at he
      have HE2 := Lib.hid he
      have G2 := Ext.ex g2
      have U0 := Ext.ex u0
      have U2 := Ext.ex u2
      have U3 := Ext.ex u3
      have DC := Lib.hid (fun (k : Nat) (W : World) => covers_any (g.ms k) (g.mp k) (g.mf k) (g.mt k) a W)
      have DE := Lib.hid (fun (k : Nat) (W : World) => rend_any (g.ms k) (g.mp k) (g.mf k) (g.mt k) W)
      unfold mountV at DC DE
      clear he HE
      go_upto_region 4 with (fail)
      refine ext_wp fun Y0 => ?_
      refine wp_region_ext (W := wr) _ (by kernel_rfl) (by kernel_rfl) ?_
      repeat go_big_quiet_step (fail)
      refine wpQuiet_nil ?_
      intro _ hw'
      obtain ⟨Y, rfl⟩ := hw'
      go_wp2_with fail
      have hlen2 : done.length ≤ 1000000 := by omega
      go_loopw [9, 10, 35] (fun pv nv iv wr2 => ∃ (k : Nat), pv = .string (Pcs.look a (mountsK g slot k) (Pcs.em, uf + us)).1 ∧ nv = .int .i64 (Pcs.look a (mountsK g slot k) (Pcs.em, uf + us)).2 ∧ iv = .int .i64 k ∧ k ≤ g.nm ∧ ∃ X : Ext wr, wr2 = X.1) (fun _ _ iv _ => g.nm - (intOf iv).toNat)
      case atStart => exact ⟨0, rfl, rfl, rfl, by omega, Y, rfl⟩
      case round =>
        obtain ⟨k, rfl, rfl, rfl, hk, X, rfl⟩ := hrel
        by_cases hltk : k < g.nm
        · have t2 : decide ((k : Int) < (g.nm : Int)) = true := by rw [decide_eq_true_eq]; omega
          obtain ⟨b, off, rfl, hbl, hcc⟩ := (HG.out.r2.below (X.down HDN.out HDN.out.size) (Nat.le_refl _)).here (by omega)
          have e0 : X.1.cell? ⟨b, off + k * 4, none⟩ = some (.string (g.ms k)) := hcc k hltk 0 (by omega)
          have e1 : X.1.cell? ⟨b, off + k * 4 + 1, none⟩ = some (.string (g.mp k)) := hcc k hltk 1 (by omega)
          have e2 : X.1.cell? ⟨b, off + k * 4 + 2, none⟩ = some (.int .i64 (g.mf k)) := hcc k hltk 2 (by omega)
          have e3 : X.1.cell? ⟨b, off + k * 4 + 3, none⟩ = some (.int .i64 (g.mt k)) := hcc k hltk 3 (by omega)
          obtain ⟨V1, hV1, hvb, hvs, hvl⟩ := alloc_cells X.1 #[.string (g.ms k), .string (g.mp k), .int .i64 (g.mf k), .int .i64 (g.mt k)] 54
          have M0 := Ext.ex (hvl 0 _ rfl)
          have M1 := Ext.ex (hvl 1 _ rfl)
          have M2 := Ext.ex (hvl 2 _ rfl)
          have M3 := Ext.ex (hvl 3 _ rfl)
          have HWV := Lib.hid (X.2.trans (hvb.mono X.2.size))
          have HV1 := Lib.hid hV1
          have HL := Lib.hid (look_step g slot a (Pcs.em, uf + us) k)
          have hmf := HMF.out k hltk
          have hmt := HMT.out k hltk
          have hse := str_eq (g.ms k) slot
          have hlm := Pcs.look_mono a (mountsK g slot k) (Pcs.em, uf + us)
          have hlg := Pcs.look_gt a (mountsK g slot k) (Pcs.em, uf + us) hlt
          have DC1 := Lib.hid (DC.out k)
          have DE1 := Lib.hid (DE.out k)
          have hgi := isG_iff g k a
          have hen : Pcs.en (g.mnt k) = Gar.endG (g.mt k) := rfl
          have hfe : (g.mnt k).f = g.mf k := rfl
          have hpe : (g.mnt k).p = g.mp k := rfl
          have hege : -9223372036854775808 ≤ Gar.endG (g.mt k) ∧ Gar.endG (g.mt k) ≤ 9223372036854775807 := by unfold Gar.endG; split <;> omega
          unfold lookS at HL
          rw [hen, hfe, hpe] at HL
          rw [hen, hfe] at hgi
          obtain ⟨st, hstt⟩ : ∃ st, Pcs.look a (mountsK g slot k) (Pcs.em, uf + us) = st := ⟨_, rfl⟩
          rw [hstt] at HL hlm hlg ⊢
          obtain ⟨pp, nn⟩ := st
          generalize Gar.endG (g.mt k) = en at HL DE1 hege hgi
          have hnn : a < nn ∧ nn ≤ uf + us := ⟨hlg, hlm⟩
          obtain ⟨p6, hp6⟩ : ∃ p6, X.1.heap.size = p6 := ⟨_, rfl⟩
          rw [hp6] at M0 M1 M2 M3
          have HP6 := Lib.hid hp6
          clear hcc hV1 hvb hvs hvl hp6 hstt hen hfe hpe hlm hlg
          by_cases hss : g.ms k = slot
          · rw [if_pos hss] at HL
            rw [show decide (g.ms k = slot) = true by simpa using hss] at hse
            have hne : ((g.ms k).toList != slot.toList) = false := by rw [bne, hse]; rfl
            clear hss
            cases hcv : isG (g.mf k) (g.mt k) a
            · rw [hcv] at DC1
              rw [if_neg (fun h => by have := hgi.2 h; rw [hcv] at this; cases this)] at HL
              clear hcv hgi
              by_cases hfa : a < g.mf k
              · rw [if_pos hfa] at HL
                have t5 : decide (a < g.mf k) = true := by simpa using hfa
                go_upto_region 8 with (fail)
                rw [HV1.out, HP6.out]
                refine ext_wp fun X1 => ?_
                clear e0 e1 e2 e3 hbl HP6 HV1 X
                go_wp2_with fail
                refine (Ext.calls _ (DC1.out _)).mono ?_
                rintro e w2 ⟨rfl, Y1, rfl⟩
                go_wp2_with fail
                go_roundw
                case rel => exact ⟨k + 1, by rw [HL.out], by rw [HL.out], by go_num, by omega, Ext.rise HWV.out Y1⟩
                case measure => simp [intOf]; omega
              · rw [if_neg hfa] at HL
                have t5 : decide (a < g.mf k) = false := by simpa using hfa
                go_upto_region 8 with (fail)
                rw [HV1.out, HP6.out]
                refine ext_wp fun X1 => ?_
                clear e0 e1 e2 e3 hbl HP6 HV1 X
                go_wp2_with fail
                refine (Ext.calls _ (DC1.out _)).mono ?_
                rintro e w2 ⟨rfl, Y1, rfl⟩
                go_wp2_with fail
                go_roundw
                case rel => exact ⟨k + 1, by rw [HL.out], by rw [HL.out], by go_num, by omega, Ext.rise HWV.out Y1⟩
                case measure => simp [intOf]; omega
            · rw [hcv] at DC1
              rw [if_pos (hgi.1 hcv)] at HL
              clear hcv hgi
              go_upto_region 8 with (fail)
              rw [HV1.out, HP6.out]
              refine ext_wp fun X1 => ?_
              clear e0 e1 e2 e3 hbl HP6 HV1 X
              go_wp2_with fail
              refine (Ext.calls _ (DC1.out _)).mono ?_
              rintro e w2 ⟨rfl, Y1, rfl⟩
              go_wp2_with fail
              refine (Ext.calls _ (DE1.out _)).mono ?_
              rintro e w2 ⟨rfl, Y2, rfl⟩
              go_wp2_with fail
              go_roundw
              case rel => exact ⟨k + 1, by rw [HL.out], by rw [HL.out], by go_num, by omega, Ext.rise HWV.out Y2⟩
              case measure => simp [intOf]; omega
          · rw [if_neg hss] at HL
            rw [show decide (g.ms k = slot) = false by simpa using hss] at hse
            have hne : ((g.ms k).toList != slot.toList) = true := by rw [bne, hse]; rfl
            clear hss hgi
            go_upto_region 8 with (fail)
            rw [HV1.out, HP6.out]
            refine ext_wp fun X1 => ?_
            clear e0 e1 e2 e3 hbl HP6 HV1 X
            go_wp2_with fail
            go_roundw
            case rel => exact ⟨k + 1, by rw [HL.out], by rw [HL.out], by go_num, by omega, Ext.rise HWV.out X1⟩
            case measure => simp [intOf]; omega
        · have t2 : decide ((k : Int) < (g.nm : Int)) = false := by rw [decide_eq_false_iff_not]; omega
          have t2' : decide (k < g.nm) = false := by simpa using hltk
          obtain rfl : k = g.nm := by omega
          clear hltk
          rw [HMS.out]
          obtain ⟨st, hstt⟩ : ∃ st, Pcs.look a ms (Pcs.em, uf + us) = st := ⟨_, rfl⟩
          rw [hstt] at HE2 hgt hle ⊢
          obtain ⟨pp, nn⟩ := st
          have hnn : a < nn ∧ nn ≤ uf + us := ⟨hgt, hle⟩
          have HOW := Lib.hid (ownsRow_below HR.out.own X.2)
          have hxs : B0 ≤ X.1.heap.size := by have h1 := X.2.size; have h2 := HR.out.kept.size; have h3 := HBE.out; omega
          clear hstt hgt hle
          go_wp2_with (at_builtin; refine wpList_append_where _ rfl (.tmp 61) (.tmp 70) 34 rfl B0 42 i0 (.agg #[.string ⟨#[]⟩, .string ⟨#[]⟩, .string ⟨#[]⟩, .int .i64 0, .int .i64 0]) 5 64 HU.out HI0.out HZ0.out HZ1.out HZ2.out rfl (by decide) _ _ _ rfl (HOW.out.alloc _) ⟨X.1.heap.size, 0, none⟩ 1 1 (pcell un slot (pp, nn - a)) rfl (by decide) rfl ?c1 ?c2 ?c3 ?c4 ?c5 ?_)
          case c1 =>
            intro jj u hu
            first
              | (rw [addr_add0, World.cell?_alloc_at _ _ _ _ rfl]; simpa [pcell] using hu)
              | simpa [pcell] using hu
          case c2 =>
            intro u hu
            simp only [pcell, List.mem_cons, List.not_mem_nil, or_false] at hu
            rcases hu with rfl | rfl | rfl | rfl | rfl <;> rfl
          case c3 => unfold maxLen; omega
          case c4 => omega
          case c5 => first | (simp; omega) | omega
          intro v5 w5 hown5 hg5 hwh5
          have HN := Lib.hid (HR.out.append (X.2.trans ((below_al X.1 _).mono X.2.size)) hown5 hg5 (by rcases hwh5 with h | h; exact Or.inl h; exact Or.inr (by rw [h]; simp)))
          clear hown5 hg5 hwh5
          go_wp2_with fail
          go_roundw
          case rel =>
            refine ⟨nn, done ++ [(pp, nn - a)], rfl, by omega, by omega, by rw [List.length_append]; simp; omega, Lib.hid ?_, Lib.hid ?_⟩
            · rw [List.length_append, pcells_snoc]
              exact HN.out
            · rw [HE2.out, List.append_assoc]
              rfl
          case measure => simp [intOf]; omega
    · have t1 : decide (a < uf + us) = false := by simpa using hlt
      obtain rfl : a = uf + us := by omega
      have he := HE.out
      rw [show (uf + us - (uf + us)).toNat = 0 by omega, Pcs.rpieces, List.append_nil, Pcs.pieces_eq HO.out (n := us.toNat) (by omega)] at he
      have HPC := Lib.hid he
      have hgd : Good done us := by rw [← he]; exact good_pieces HO.out h2
      have hn0 := hgd.ne h2
      have hn1 := hgd.len
      have HFI := Lib.hid (hgd.fine h2 h3 h4 h5)
      obtain ⟨gq, cap, hvv, hg1, hg2⟩ := HR.out.own.form hn0
      have HOW := Lib.hid HR.out.own
      subst hvv
      obtain ⟨B2, hBB⟩ : ∃ B2, wr.heap.size = B2 := ⟨_, rfl⟩
      have hB2 : B0 ≤ B2 := by rw [← hBB]; have h1 := HR.out.kept.size; have h3 := HBE.out; omega
      rw [hBB] at hg2
      have HBB := Lib.hid hBB
      have O4 : ∀ Z : ExtO (fun b => B2 ≤ b) wr, Z.1.cell? ⟨w.heap.size + 1, 4, none⟩ = some (.int .i64 uw) := ExtO.ex (by show ¬ B2 ≤ w.heap.size + 1; have h3 := HBE.out; omega) u4
      obtain ⟨i1, hi1, hy0, hy1, hy2⟩ := info_parts (show (Try.prog.info? 3).map (fun i => (i.zero, i.size, i.bytes)) = some (some (.int .i64 0), 1, 8) by kernel_rfl)
      have HI1 := Lib.hid hi1
      have HY0 := Lib.hid hy0
      have HY1 := Lib.hid hy1
      have HY2 := Lib.hid hy2
      have HUI := Lib.hid (show Try.prog.underlying 131 = some (.slice 3) by kernel_rfl)
      clear he hgd hBB hi1 hy0 hy1 hy2 HE HR hlt u4 u0 g2 hdl ha0 ha1
      go_wp2_with fail
      go_loopw [13, 75] (fun sv iv wr2 => ∃ (k : Nat), iv = .int .i64 k ∧ k ≤ done.length ∧ Hid (wr2.ownsRow B2 3 1 sv k ((List.range k).map fun i => .int .i64 (secW done i))) ∧ Hid (∃ Z : ExtO (fun b => B2 ≤ b) wr, wr2 = Z.1)) (fun _ iv _ => done.length - (intOf iv).toNat)
      case atStart => exact ⟨0, rfl, by omega, Lib.hid (World.ownsRow_nil _ _ _ _), Lib.hid ⟨⟨wr, Kept.refl _ _⟩, rfl⟩⟩
      case round =>
        obtain ⟨k, rfl, hk, HS, HZE⟩ := hrel
        obtain ⟨Z, rfl⟩ := HZE.out
        by_cases hlt : k < done.length
        · have t1 : decide ((k : Int) < (done.length : Int)) = true := by rw [decide_eq_true_eq]; omega
          have t1' : decide (k < done.length) = true := by simpa using hlt
          have hcell : ∀ j v, j < 5 → (pcell un slot (pget done k))[j]? = some v → Z.1.cell? ⟨gq, k * 5 + j, none⟩ = some v := fun j v hj hv => by
            have h6 := HOW.out.cells (g := gq) rfl (k * 5 + j) v (by rw [← hv]; exact flat5 (fun q => rfl) done k j hlt hj)
            rw [addr_add0] at h6
            exact Z.2.cell (by show ¬ B2 ≤ gq; omega) h6
          have e0 : Z.1.cell? ⟨gq, k * 5, none⟩ = some (.string un) := hcell 0 _ (by omega) rfl
          have e1 : Z.1.cell? ⟨gq, k * 5 + 1, none⟩ = some (.string slot) := hcell 1 _ (by omega) rfl
          have e2 : Z.1.cell? ⟨gq, k * 5 + 2, none⟩ = some (.string (pget done k).1) := hcell 2 _ (by omega) rfl
          have e3 : Z.1.cell? ⟨gq, k * 5 + 3, none⟩ = some (.int .i64 (pget done k).2) := hcell 3 _ (by omega) rfl
          have e4 : Z.1.cell? ⟨gq, k * 5 + 4, none⟩ = some (.int .i64 0) := hcell 4 _ (by omega) rfl
          have hzs : B2 ≤ Z.1.heap.size := Nat.le_trans (Nat.le_of_eq HBB.out.symm) Z.2.size
          clear hcell
          go_wp2_with (at_builtin; refine wpList_append_own _ rfl (.tmp 79) (.tmp 82) 131 rfl B2 3 i1 (.int .i64 0) 1 8 HUI.out HI1.out HY0.out HY1.out HY2.out rfl (by decide) _ k _ rfl ((HS.out.alloc _).alloc _) ⟨Z.1.heap.size + 1, 0, none⟩ 1 1 [.int .i64 (pget done k).2] rfl rfl ?c1 ?c2 ?c3 ?c4 ?c5 ?_)
          case c1 =>
            intro j u hu
            rw [addr_add0, World.cell?_alloc_at _ _ _ _ (by simp)]
            simpa using hu
          case c2 =>
            intro u hu
            simp only [List.mem_singleton] at hu
            rw [hu]
            rfl
          case c3 => unfold maxLen; omega
          case c4 => omega
          case c5 => simp; omega
          intro v5 w5 hown5 hg5 _
          have HS2 : Hid (w5.ownsRow B2 3 1 v5 (k + 1) ((List.range (k + 1)).map fun i => .int .i64 (secW done i))) := Lib.hid (by
            rw [List.range_succ, List.map_append]
            exact hown5)
          have HZ2 : Hid (∃ Z : ExtO (fun b => B2 ≤ b) wr, w5 = Z.1) := Lib.hid ⟨⟨w5, (Z.2.trans (Kept.of_below (below_tr (below_al Z.1 _) (by simp) (below_al _ _)))).grown hg5 (fun q hq _ => (HS.out.lt q hq).1)⟩, rfl⟩
          clear hown5 hg5 HS HZE
          go_wp2_with fail
          go_roundw
          case rel => exact ⟨k + 1, by go_num, by omega, HS2, HZ2⟩
          case measure => simp [intOf]; omega
        · have t1 : decide ((k : Int) < (done.length : Int)) = false := by rw [decide_eq_false_iff_not]; omega
          have t1' : decide (k < done.length) = false := by simpa using hlt
          obtain rfl : k = done.length := by omega
          have hoz : Z.1.ownsRow B0 42 5 (.slice (some ⟨gq, 0, none⟩) done.length cap) done.length (pcells un slot done) := HOW.out.kept (row := none) ⟨Z.2.os, Z.2.tape, Z.2.output, Z.2.size, fun q hq _ => Z.2.block q hq (by show ¬ B2 ≤ q; have := HBB.out; omega)⟩ (Or.inr (by simp [Value.ownBlock]))
          have hbz := HBB.out
          have hdz := HDN.out.size
          have hwz : Below w.heap.size w Z.1 := Kept.below HDN.out Z.2 HDN.out.size (fun k hk => by show ¬ B2 ≤ k; omega)
          have hzs : B2 ≤ Z.1.heap.size := Nat.le_trans (Nat.le_of_eq HBB.out.symm) Z.2.size
          obtain ⟨g2, cap2, hv2, hg3, hg4⟩ := HS.out.form hn0
          have hrow : Row1 Z.1 (some ⟨g2, 0, none⟩) done.length (secW done) := ⟨fun _ => ⟨g2, 0, rfl, hg4, fun i hi => by
            have h6 := HS.out
            rw [hv2] at h6
            have h7 := h6.cells (g := g2) rfl i (.int .i64 (secW done i)) (by simp [hi])
            rw [addr_add0] at h7
            rw [Nat.zero_add]
            exact h7⟩⟩
          have HOZ := Lib.hid hoz
          have HWZ := Lib.hid hwz
          have DP := Lib.hid (rparts_any uw us (some ⟨g2, 0, none⟩) done.length cap2 (secW done) Z.1 hrow HFI.out)
          subst hv2
          clear hoz hwz hrow HS HZE hlt
          go_wp2_with fail
          refine DP.out.mono ?_
          rintro e w6 ⟨lo, g5, hord, rfl, hrf, hg6, hb6⟩
          have ho6 := ownsRow_below HOZ.out hb6
          have hrw : RowF w6 g5 done.length (wayG uw us (secW done) done.length) := hrf.ext (fun i _ => wayG_of hord i)
          have hg56 : gq ≠ g5 := by omega
          have HW6 := Lib.hid (HWZ.out.trans (hb6.mono HWZ.out.size))
          have hs6 : w.heap.size ≤ w6.heap.size := HW6.out.size
          have hinit : ∀ i, i < done.length → ∀ j, j < 5 → (pcells un slot done)[i * 5 + j]? = (pcellW un slot (pget done i) (if i < 0 then wayG uw us (secW done) done.length i else 0))[j]? := fun i hi j hj => by
            rw [if_neg (by omega)]
            exact flat5 (fun q => rfl) done i j hi hj
          have HINI := Lib.hid hinit
          have HP6 := Lib.hid ho6
          have HRW := Lib.hid hrw
          obtain ⟨wy, hwy⟩ : ∃ wy, wayG uw us (secW done) done.length = wy := ⟨_, rfl⟩
          rw [hwy] at HINI HRW
          have HWY := Lib.hid hwy
          clear hwy ho6 hrw hord hrf hg6 hb6 HOZ HWZ HFI HBB DP hinit O4
          go_wp2_with fail
          go_loopw [90] (fun iv wr2 => ∃ (k : Nat), iv = .int .i64 k ∧ k ≤ done.length ∧ Hid (∃ xs, wr2.ownsRow B0 42 5 (.slice (some ⟨gq, 0, none⟩) done.length cap) done.length xs ∧ ∀ i, i < done.length → ∀ j, j < 5 → xs[i * 5 + j]? = (pcellW un slot (pget done i) (if i < k then wy i else 0))[j]?) ∧ Hid (∃ Z : ExtO (fun b => b = gq) w6, wr2 = Z.1)) (fun iv _ => done.length - (intOf iv).toNat)
          case atStart => exact ⟨0, rfl, by omega, Lib.hid ⟨_, HP6.out, HINI.out⟩, Lib.hid ⟨⟨w6, Kept.refl _ _⟩, rfl⟩⟩
          case round =>
            obtain ⟨k, rfl, hk, HS, HZE⟩ := hrel
            obtain ⟨Z6, rfl⟩ := HZE.out
            obtain ⟨xs, hx1, hx2⟩ := HS.out
            have HX1 := Lib.hid hx1
            have HX2 := Lib.hid hx2
            clear hx1 hx2 HS HZE
            by_cases hlt : k < done.length
            · have t1 : decide ((k : Int) < (done.length : Int)) = true := by rw [decide_eq_true_eq]; omega
              have t1' : decide (k < done.length) = true := by simpa using hlt
              have e5 : Z6.1.cell? ⟨g5, k, none⟩ = some (.int .i64 (wy k)) := Z6.2.cell (by show ¬ g5 = gq; omega) (HRW.out.cell hlt)
              have e6 : Z6.1.cell? ⟨gq, k * 5 + 4, none⟩ = some (.int .i64 0) := by
                have h6 := HX1.out.cells (g := gq) rfl (k * 5 + 4) (.int .i64 0) (by rw [HX2.out k hlt 4 (by omega), if_neg (by omega)]; rfl)
                rwa [addr_add0] at h6
              have f6 : Z6.1.frozen? ⟨gq, k * 5 + 4, none⟩ = false := World.ownsRow.frozenAt HX1.out (k * 5 + 4)
              obtain ⟨hs1, hs2⟩ := HX1.out.stored (k * 5 + 4) (.int .i64 (wy k))
              have HS2 := Lib.hid hs1
              have HZ7 : Hid (∃ Y : ExtO (fun b => b = gq) w6, Z6.1.setCell ⟨gq, k * 5 + 4, none⟩ (.int .i64 (wy k)) = Y.1) := Lib.hid ⟨⟨_, Z6.2.grown hs2 (fun q hq _ => by injection hq with hq; exact hq.symm)⟩, rfl⟩
              clear hs1 hs2
              go_wp2_with fail
              go_roundw
              case rel =>
                refine ⟨k + 1, by go_num, by omega, Lib.hid ⟨_, HS2.out, fun i hi j hj => ?_⟩, HZ7⟩
                have hlx : xs.length = done.length * 5 := HX1.out.1
                rw [List.getElem?_set]
                by_cases e : k * 5 + 4 = i * 5 + j
                · obtain rfl : i = k := by omega
                  obtain rfl : j = 4 := by omega
                  rw [if_pos rfl, if_pos (by omega), if_pos (by omega)]
                  rfl
                · rw [if_neg e, HX2.out i hi j hj]
                  by_cases e2 : i = k
                  · subst e2
                    exact pcellW_low _ _ _ _ _ (by omega)
                  · by_cases e3 : i < k
                    · rw [if_pos e3, if_pos (by omega)]
                    · rw [if_neg e3, if_neg (by omega)]
              case measure => simp [intOf]; omega
            · have t1 : decide ((k : Int) < (done.length : Int)) = false := by rw [decide_eq_false_iff_not]; omega
              have t1' : decide (k < done.length) = false := by simpa using hlt
              obtain rfl : k = done.length := by omega
              clear hlt
              go_wp2_with fail
              go_ret
              rw [HPC.out]
              refine ⟨gq, cap, rfl, by omega, ⟨fun _ => ⟨gq, 0, rfl, (HX1.out.lt gq rfl).2, fun i hi j hj => ?_⟩⟩, Kept.below HW6.out Z6.2 hs6 (fun q hq => by omega)⟩
              obtain ⟨u, hu⟩ := pcellW_some un slot (pget done i) (wy i) hj
              have h6 := HX1.out.cells (g := gq) rfl (i * 5 + j) u (by rw [HX2.out i hi j hj, if_pos hi, hu])
              rw [addr_add0] at h6
              rw [Nat.zero_add, HWY.out, hu]
              exact h6
end Go.Proofs.Ytbkpoepacjinlaa

/- Gear: pieces and Pieces of the reference. -/
namespace Go.Proofs.Ytbkpoepacjinlaa
open Go.RowKit Go.BigFrame
open Gar (chk mountsK)

theorem wpList_append_none {P : Program} (w : World) {ops : Array Oper} {rest : List Oper} {o : Oper} {a : Act} {Q : Exit → Act → World → Prop} (hgd : o.guard = none) (s x : Operand) (t : TypeId)
    (ho : o.op = .call { callee := .builtin .append, args := #[s, x], argTypes := #[t, t] })
    (base : Nat) (e : TypeId) (i : TypeInfo) (size : Nat) (ht : P.underlying t = some (.slice e)) (hi : P.info? e = some i)
    (v : Value) (n : Nat) (xs : List Value) (hs : a.eval s = v) (hown : w.ownsRow base e size v n xs) (hx : a.eval x = .slice none 0 0)
    (h : wpList P ops Q rest (a.put o.dst v) w) : wpList P ops Q (o :: rest) a w := by
  refine wpList_plain hgd fun K hK => ?_
  have hr := run_append_owned_none (P := P) (w := w) base t o.type e i size ht hi v n xs hown
  unfold Oper.wp execOp
  simp only [ho, resolve, invoke, builtin, Sem.run_bind, Sem.run_pure, Result.andThen_ok, List.map_toArray, List.map_cons, List.map_nil, hs, hx, hr]
  exact hK _ _ h
theorem evQ_cells (g : Gar) (i j : Nat) : ∀ n, evCs g (evQ g i j n) = (List.range n).flatMap fun q => pcellW (g.un i) (g.sn j) (pget (pcsOf g i j) q) (wayG (g.uw i) (g.us i) (secW (pcsOf g i j)) (pcsOf g i j).length q)
  | 0 => rfl
  | n + 1 => by
    rw [evQ, List.range_succ, List.flatMap_append, ← evQ_cells g i j n]
    unfold evCs
    rw [List.flatMap_append]
    rfl
theorem evCs_len (g : Gar) (l : List Ev) : (evCs g l).length = l.length * 5 := by
  unfold evCs
  induction l with
  | nil => rfl
  | cons e l ih => rw [List.flatMap_cons, List.length_append, ih, List.length_cons, Nat.succ_mul]; show 5 + _ = _; omega
theorem evCs_one (g : Gar) (l : List Ev) : ∀ u ∈ evCs g l, u.oneCell' = true := by
  intro u hu
  unfold evCs at hu
  obtain ⟨e, _, he⟩ := List.mem_flatMap.1 hu
  simp only [evC, List.mem_cons, List.not_mem_nil, or_false] at he
  rcases he with rfl | rfl | rfl | rfl | rfl <;> rfl
theorem evCs_app (g : Gar) (a b : List Ev) : evCs g (a ++ b) = evCs g a ++ evCs g b := List.flatMap_append
theorem use_hyp {g : Gar} (h : chk g = 0) {i : Nat} (hi : i < g.nu) : 0 ≤ g.uf i ∧ g.uf i ≤ 86399999999 ∧ 1 ≤ g.us i ∧ g.us i ≤ 1000000 ∧ 0 ≤ g.uw i ∧ g.uw i ≤ 1000000000 := by
  have := Gar.use_right (Gar.chk_parts h).2.2.2.2.2.2.2.2 hi
  omega
theorem mnt_hyp {g : Gar} (h : chk g = 0) : (∀ k, k < g.nm → 0 ≤ g.mf k ∧ g.mf k ≤ 86399999999) ∧ (∀ k, k < g.nm → g.mt k ≤ 86399999999) := by
  have hm := (Gar.chk_parts h).2.2.2.2.2.2.1
  refine ⟨fun k hk => ?_, fun k hk => ?_⟩
  · have := Gar.mt_cases hm k hk
    omega
  · obtain ⟨_, ⟨_, h2⟩, _⟩ := Gar.chkM_each g.nm 0 hm k (Nat.zero_le _) (by omega)
    simp [Gar.momG] at h2
    omega
set_option maxHeartbeats 4000000 in
set_option maxRecDepth 100000 in
theorem rpiecesU_any (g : Gar) (a0 a1 a2 a3 : Option Addr) (c0 c1 c2 c3 : Nat) (i : Nat) (w : World) (h : GarIn w g a0 a1 a2 a3) (hchk : chk g = 0) (hi : i < g.nu) :
    Calls Try.prog 65 #[garV g a0 a1 a2 a3 c0 c1 c2 c3, useAt g i] w fun e w' => ∃ v base, w.heap.size ≤ base ∧ e = .returned v ∧ w'.ownsRow base 42 5 v (evS g i g.ns).length (evCs g (evS g i g.ns)) ∧ ((evS g i g.ns).length = 0 → v = .slice none 0 0) ∧ Below w.heap.size w w' := by
  have HG := Lib.hid h
  have HU := Lib.hid (use_hyp hchk hi)
  have HM := Lib.hid (mnt_hyp hchk)
  have hl1 := h.l1
  have hpt := Gar.chk_parts hchk
  have HORD := Lib.hid (fun j => Gar.ord_mounts hpt.2.2.2.2.2.2.1 hpt.2.2.2.2.2.2.2.1 (g.sn j) g.nm (Nat.le_refl _))
  have HGD := Lib.hid (fun j => pcs_good hchk hi j)
  have HSL := Lib.hid (fun j => evS_len hchk hi j)
  have hns := hpt.2.1
  unfold useAt useV
  obtain ⟨W0, hW0, hb0, hs0, hq0⟩ := allocs w [.cells #[.slice a0 g.np c0, .slice a1 g.ns c1, .slice a2 g.nm c2, .slice a3 g.nu c3] 27, .cells #[.string (g.un i), .string (g.ur i), .int .i64 (g.uf i), .int .i64 (g.us i), .int .i64 (g.uw i)] 38]
  have hs0 : W0.heap.size = w.heap.size + 2 := hs0
  have f0 : W0.cell? ⟨w.heap.size, 0, none⟩ = some (.slice a0 g.np c0) := block_cell (hq0 0 _ rfl) rfl
  have f1 : W0.cell? ⟨w.heap.size, 1, none⟩ = some (.slice a1 g.ns c1) := block_cell (hq0 0 _ rfl) rfl
  have f2 : W0.cell? ⟨w.heap.size, 2, none⟩ = some (.slice a2 g.nm c2) := block_cell (hq0 0 _ rfl) rfl
  have f3 : W0.cell? ⟨w.heap.size, 3, none⟩ = some (.slice a3 g.nu c3) := block_cell (hq0 0 _ rfl) rfl
  have v0 : W0.cell? ⟨w.heap.size + 1, 0, none⟩ = some (.string (g.un i)) := block_cell (hq0 1 _ rfl) rfl
  have v1 : W0.cell? ⟨w.heap.size + 1, 1, none⟩ = some (.string (g.ur i)) := block_cell (hq0 1 _ rfl) rfl
  have v2 : W0.cell? ⟨w.heap.size + 1, 2, none⟩ = some (.int .i64 (g.uf i)) := block_cell (hq0 1 _ rfl) rfl
  have v3 : W0.cell? ⟨w.heap.size + 1, 3, none⟩ = some (.int .i64 (g.us i)) := block_cell (hq0 1 _ rfl) rfl
  have v4 : W0.cell? ⟨w.heap.size + 1, 4, none⟩ = some (.int .i64 (g.uw i)) := block_cell (hq0 1 _ rfl) rfl
  have HW0 := Lib.hid (show (w.alloc (.cells #[.slice a0 g.np c0, .slice a1 g.ns c1, .slice a2 g.nm c2, .slice a3 g.nu c3] 27)).alloc (.cells #[.string (g.un i), .string (g.ur i), .int .i64 (g.uf i), .int .i64 (g.us i), .int .i64 (g.uw i)] 38) = W0 from hW0)
  have HB := Lib.hid hb0
  obtain ⟨B0, hB0⟩ : ∃ B, W0.heap.size = B := ⟨_, rfl⟩
  have hbs : w.heap.size ≤ B0 := by omega
  have hws : w.heap.size ≤ W0.heap.size := by omega
  have HBE := Lib.hid hB0
  have DP := Lib.hid (fun (j : Nat) (W : World) (hW : Below w.heap.size w W) => rpiecesOf_any g a0 a1 a2 a3 c0 c1 c2 c3 (g.un i) (g.ur i) (g.uf i) (g.us i) (g.uw i) (g.sn j) W (HG.out.below hW) HU.out.1 HU.out.2.1 HU.out.2.2.1 HU.out.2.2.2.1 HU.out.2.2.2.2.1 HU.out.2.2.2.2.2 HM.out.1 HM.out.2 (HORD.out j))
  unfold garV useV at DP
  unfold garV
  obtain ⟨i0, hi0, hz0, hz1, hz2⟩ := info_parts (show (Try.prog.info? 42).map (fun i => (i.zero, i.size, i.bytes)) = some (some (.agg #[.string ⟨#[]⟩, .string ⟨#[]⟩, .string ⟨#[]⟩, .int .i64 0, .int .i64 0]), 5, 64) by kernel_rfl)
  have HI0 := Lib.hid hi0
  have HZ0 := Lib.hid hz0
  have HZ1 := Lib.hid hz1
  have HZ2 := Lib.hid hz2
  have HUT := Lib.hid (show Try.prog.underlying 34 = some (.slice 42) by kernel_rfl)
  have nnil : ∀ b : Nat, ¬ (Value.slice none 0 0).ownBlock = some b := fun b => by simp [Value.ownBlock]
  have HST : Hid (OwnR W0 W0 B0 42 5 (.slice none 0 0) (.slice none 0 0) (evS g i 0).length (evCs g (evS g i 0))) := Lib.hid (OwnR.start (World.ownsRow_nil _ _ _ _))
  clear h hW0 hb0 hq0 hi0 hz0 hz1 hz2 hB0 hpt hchk
  go_enter Try.func65, Try.ntmps65
  go_upto_region 1 with (fail)
  rw [HW0.out]
  go_wp2_with fail
  go_loopw [5, 11] (fun lv iv wr => ∃ (j : Nat), iv = .int .i64 j ∧ j ≤ g.ns ∧ Hid (OwnR W0 wr B0 42 5 (.slice none 0 0) lv (evS g i j).length (evCs g (evS g i j))) ∧ Hid ((evS g i j).length = 0 → lv = .slice none 0 0)) (fun _ iv _ => g.ns - (intOf iv).toNat)
  case atStart => exact ⟨0, rfl, by omega, HST, Lib.hid (fun _ => rfl)⟩
  case round =>
    obtain ⟨j, rfl, hj, HR, HN⟩ := hrel
    have HDN := Lib.hid (HR.out.down HB.out hws hbs (World.ownsRow_nil _ _ _ _))
    have g0 := HR.out.cell (nnil _) f0
    have g1 := HR.out.cell (nnil _) f1
    have g2 := HR.out.cell (nnil _) f2
    have g3 := HR.out.cell (nnil _) f3
    have u0 := HR.out.cell (nnil _) v0
    have u1 := HR.out.cell (nnil _) v1
    have u2 := HR.out.cell (nnil _) v2
    have u3 := HR.out.cell (nnil _) v3
    have u4 := HR.out.cell (nnil _) v4
    by_cases hlt : j < g.ns
    · have t1 : decide ((j : Int) < (g.ns : Int)) = true := by rw [decide_eq_true_eq]; omega
      obtain ⟨b, off, rfl, hbl, hcc⟩ := (HG.out.r1.below HDN.out (Nat.le_refl _)).here (by omega)
      have e0 : wr.cell? ⟨b, off + j * 2, none⟩ = some (.string (g.sn j)) := hcc j hlt 0 (by omega)
      have e1 : wr.cell? ⟨b, off + j * 2 + 1, none⟩ = some (.string (g.sr j)) := hcc j hlt 1 (by omega)
      obtain ⟨V1, hV1, hvb, hvs, hvl⟩ := alloc_cells wr #[.string (g.sn j), .string (g.sr j)] 40
      have s0 := hvl 0 _ rfl
      have s1 := hvl 1 _ rfl
      have g0 := below_cell hvb g0
      have g1 := below_cell hvb g1
      have g2 := below_cell hvb g2
      have g3 := below_cell hvb g3
      have u0 := below_cell hvb u0
      have u1 := below_cell hvb u1
      have u2 := below_cell hvb u2
      have u3 := below_cell hvb u3
      have u4 := below_cell hvb u4
      have HVB := Lib.hid hvb
      have HV1 := Lib.hid hV1
      have hdz := HDN.out.size
      have HBV := Lib.hid (HDN.out.trans (hvb.mono hdz))
      have DP1 := Lib.hid (DP.out j V1 HBV.out)
      rw [show Pcs.pieces (g.uf i) (g.uf i + g.us i) (g.mounts (g.sn j)) = pcsOf g i j from rfl] at DP1
      have hse := str_eq (g.sr j) (g.ur i)
      clear hcc hV1 hvb hvl
      by_cases hrig : g.sr j = g.ur i
      · have HES : Hid (evS g i (j + 1) = evS g i j ++ evQ g i j (pcsOf g i j).length) := Lib.hid (by rw [evS, if_pos hrig])
        rw [show decide (g.sr j = g.ur i) = true by simpa using hrig] at hse
        clear hrig
        go_upto_region 5 with (fail)
        rw [HV1.out]
        go_wp2_with fail
        refine DP1.out.mono ?_
        rintro e w2 ⟨gq, cap, rfl, hgq, hrow, hb2⟩
        have hrow : RowK w2 (some ⟨gq, 0, none⟩) (pcsOf g i j).length 5 (fun q => pcellW (g.un i) (g.sn j) (pget (pcsOf g i j) q) (wayG (g.uw i) (g.us i) (secW (pcsOf g i j)) (pcsOf g i j).length q)) := hrow
        have hn0 := (HGD.out j).ne HU.out.2.2.1
        have hn1 := (HGD.out j).len
        have hus := HU.out.2.2.2.1
        have hsl := HSL.out j
        have hjm : j * 1000000 ≤ 100 * 1000000 := Nat.mul_le_mul_right _ (by omega)
        have hnews : ∀ jj u, (evCs g (evQ g i j (pcsOf g i j).length))[jj]? = some u → w2.cell? ((⟨gq, 0, none⟩ : Addr).add jj) = some u := by
          intro jj u hu
          rw [evQ_cells] at hu
          obtain ⟨b', off', e1, _, e2⟩ := hrow.here hn0
          injection e1 with e1
          injection e1 with e1 e3
          subst e1
          subst e3
          have := row_cells (f := fun q => pcellW (g.un i) (g.sn j) (pget (pcsOf g i j) q) (wayG (g.uw i) (g.us i) (secW (pcsOf g i j)) (pcsOf g i j).length q)) (fun _ => rfl) (by omega) e2 jj u hu
          rw [addr_add0]
          rwa [Nat.zero_add] at this
        have HNEWS := Lib.hid hnews
        have hb12 := HVB.out.trans (hb2.mono HVB.out.size)
        have HB12 := Lib.hid hb12
        have HO2 := Lib.hid (ownsRow_below HR.out.own hb12)
        have hsb : B0 ≤ w2.heap.size := by have h1 := HR.out.kept.size; have h2 := hb12.size; have h3 := HBE.out; omega
        have hql := evQ_len g i j (pcsOf g i j).length
        have HQL := Lib.hid hql
        obtain ⟨m, hm⟩ : ∃ m, (pcsOf g i j).length = m := ⟨_, rfl⟩
        rw [hm] at hn0 hn1 HNEWS HES HQL ⊢
        obtain ⟨nl, hnl⟩ : ∃ nl, (evS g i j).length = nl := ⟨_, rfl⟩
        have hr3 := HR.out
        rw [hnl] at HO2 hsl hr3
        have HR3 := Lib.hid hr3
        have HNL := Lib.hid hnl
        have hm1 : m ≤ 1000000 := by omega
        have hnl1 : nl ≤ 100000000 := by omega
        clear hrow hnews hb2 hb12 hm hnl hr3 hql g0 g1 g2 g3 u0 u1 u2 u3 u4 s0 s1
        go_wp2_with (at_builtin; refine wpList_append_where _ rfl (.tmp 20) (.tmp 25) 34 rfl B0 42 i0 (.agg #[.string ⟨#[]⟩, .string ⟨#[]⟩, .string ⟨#[]⟩, .int .i64 0, .int .i64 0]) 5 64 HUT.out HI0.out HZ0.out HZ1.out HZ2.out rfl (by decide) _ _ _ rfl HO2.out ⟨gq, 0, none⟩ m cap (evCs g (evQ g i j m)) rfl hn0 ?c0 ?c1 ?c2 ?c3 ?c4 ?c5 ?_)
        case c0 => rw [evCs_len, HQL.out]
        case c1 => exact HNEWS.out
        case c2 => exact evCs_one g _
        case c3 => unfold maxLen; omega
        case c4 => omega
        case c5 => exact hsb
        intro v5 w5 hown5 hg5 hwh5
        have HN5 := Lib.hid (HR3.out.append HB12.out hown5 hg5 hwh5)
        clear hown5 hg5 hwh5
        go_wp2_with fail
        go_roundw
        case rel => exact ⟨j + 1, by go_num, by omega, Lib.hid (by rw [HES.out, List.length_append, HNL.out, HQL.out, evCs_app]; exact HN5.out), Lib.hid (by rw [HES.out, List.length_append, HQL.out]; intro h; omega)⟩
        case measure => simp [intOf]; omega
      · have HES : Hid (evS g i (j + 1) = evS g i j) := Lib.hid (by rw [evS, if_neg hrig, List.append_nil])
        rw [show decide (g.sr j = g.ur i) = false by simpa using hrig] at hse
        clear hrig
        go_upto_region 5 with (fail)
        rw [HV1.out]
        go_wp2_with fail
        go_roundw
        case rel => exact ⟨j + 1, by go_num, by omega, Lib.hid (by rw [HES.out]; exact HR.out.below HVB.out), Lib.hid (by rw [HES.out]; exact HN.out)⟩
        case measure => simp [intOf]; omega
    · have t1 : decide ((j : Int) < (g.ns : Int)) = false := by rw [decide_eq_false_iff_not]; omega
      have t1' : decide (j < g.ns) = false := by simpa using hlt
      obtain rfl : j = g.ns := by omega
      clear hlt
      go_wp2_with fail
      go_ret
      exact ⟨_, B0, hbs, rfl, HR.out.own, HN.out, HDN.out⟩
end Go.Proofs.Ytbkpoepacjinlaa

/- Gear: Pieces of the reference. -/
namespace Go.Proofs.Ytbkpoepacjinlaa
open Go.RowKit Go.BigFrame
open Gar (chk mountsK)

set_option maxHeartbeats 4000000 in
set_option maxRecDepth 100000 in
theorem rPieces_any (g : Gar) (a0 a1 a2 a3 : Option Addr) (c0 c1 c2 c3 : Nat) (w : World) (h : GarIn w g a0 a1 a2 a3) (hc2 : g.nm ≤ c2) (hc3 : g.nu ≤ c3) :
    Calls Try.prog 23 #[garV g a0 a1 a2 a3 c0 c1 c2 c3] w fun e w' => Below w.heap.size w w' ∧
      ((chk g ≠ 0 ∧ e = .returned (.tuple #[.slice none 0 0, .int .i64 (chk g)])) ∨ (chk g = 0 ∧ ∃ v base, w.heap.size ≤ base ∧ e = .returned (.tuple #[v, .int .i64 0]) ∧ w'.ownsRow base 42 5 v (evG g g.nu).length (evCs g (evG g g.nu)))) := by
  have HG := Lib.hid h
  have hl3 := h.l3
  obtain ⟨W0, hW0, hb0, hs0, hl0'⟩ := alloc_cells w #[.slice a0 g.np c0, .slice a1 g.ns c1, .slice a2 g.nm c2, .slice a3 g.nu c3] 27
  have G0 := Ext.ex (hl0' 0 _ rfl)
  have G1 := Ext.ex (hl0' 1 _ rfl)
  have G2 := Ext.ex (hl0' 2 _ rfl)
  have G3 := Ext.ex (hl0' 3 _ rfl)
  have HW0 := Lib.hid hW0
  have HB := Lib.hid hb0
  have hbs : w.heap.size ≤ W0.heap.size := by omega
  have hbs1 : w.heap.size < W0.heap.size := by omega
  have DK := Lib.hid (fun (Y : Ext W0) => rCheck_any g a0 a1 a2 a3 c0 c1 c2 c3 Y.1 (HG.out.below (Y.down HB.out hbs)) hc2 hc3)
  have DU0 := Lib.hid (fun (hk : chk g = 0) (i : Nat) (hi : i < g.nu) (W : World) (hW : Below w.heap.size w W) => rpiecesU_any g a0 a1 a2 a3 c0 c1 c2 c3 i W (HG.out.below hW) hk hi)
  unfold useAt useV at DU0
  unfold garV at DK DU0 ⊢
  clear h hl0' hW0 hb0 hs0
  by_cases k1 : chk g = 0
  case neg =>
    have n1 : (chk g != 0) = true := by rw [bne_iff_ne]; exact k1
    have K1 := Lib.hid k1
    clear k1 DU0
    generalize chk g = ck at *
    go_enter Try.func23, Try.ntmps23
    go_upto_region 1 with (fail)
    rw [HW0.out]
    refine ext_wp fun X => ?_
    go_wp2_with fail
    refine (Ext.calls _ (DK.out _)).mono ?_
    rintro e w2 ⟨rfl, Y, rfl⟩
    go_wp2_with fail
    go_ret2
    exact ⟨Y.down HB.out hbs, Or.inl ⟨K1.out, rfl⟩⟩
  have K1 := Lib.hid k1
  rw [k1] at DK
  have DU := Lib.hid (DU0.out k1)
  have HLE := Lib.hid (fun i (hi : i ≤ g.nu) => evG_len k1 i hi)
  have HSL := Lib.hid (fun i (hi : i < g.nu) => evS_len k1 hi g.ns)
  have hns := (Gar.chk_parts k1).2.1
  have hnu := (Gar.chk_parts k1).2.2.2.1
  obtain ⟨i0, hi0, hz0, hz1, hz2⟩ := info_parts (show (Try.prog.info? 42).map (fun i => (i.zero, i.size, i.bytes)) = some (some (.agg #[.string ⟨#[]⟩, .string ⟨#[]⟩, .string ⟨#[]⟩, .int .i64 0, .int .i64 0]), 5, 64) by kernel_rfl)
  have HI0 := Lib.hid hi0
  have HZ0 := Lib.hid hz0
  have HZ1 := Lib.hid hz1
  have HZ2 := Lib.hid hz2
  have HUT := Lib.hid (show Try.prog.underlying 34 = some (.slice 42) by kernel_rfl)
  have n1 : ((0 : Int) != 0) = false := rfl
  clear k1 DU0 hi0 hz0 hz1 hz2
  go_enter Try.func23, Try.ntmps23
  go_upto_region 1 with (fail)
  rw [HW0.out]
  refine ext_wp fun X => ?_
  go_wp2_with fail
  refine (Ext.calls _ (DK.out _)).mono ?_
  rintro e w2 ⟨rfl, Y2, rfl⟩
  have f0 := G0 Y2
  have f1 := G1 Y2
  have f2 := G2 Y2
  have f3 := G3 Y2
  have hdn := Y2.down HB.out hbs
  have hsz1 := Y2.2.size
  obtain ⟨W1, hW1⟩ : ∃ W1, Y2.1 = W1 := ⟨_, rfl⟩
  rw [hW1] at f0 f1 f2 f3 hdn hsz1 ⊢
  have HD1 := Lib.hid hdn
  obtain ⟨B0, hB0⟩ : ∃ B0, W0.heap.size = B0 := ⟨_, rfl⟩
  rw [hB0] at hbs hbs1 hsz1
  have hsw1 : w.heap.size ≤ W1.heap.size := by omega
  have nnil : ∀ b : Nat, ¬ (Value.slice none 0 0).ownBlock = some b := fun b => by simp [Value.ownBlock]
  have HST : Hid (OwnR W1 W1 B0 42 5 (.slice none 0 0) (.slice none 0 0) (evG g 0).length (evCs g (evG g 0))) := Lib.hid (OwnR.start (World.ownsRow_nil _ _ _ _))
  clear hdn hW1 Y2 X G0 G1 G2 G3
  go_wp2_with fail
  go_loopw [5, 16] (fun lv iv wr => ∃ (i : Nat), iv = .int .i64 i ∧ i ≤ g.nu ∧ Hid (OwnR W1 wr B0 42 5 (.slice none 0 0) lv (evG g i).length (evCs g (evG g i)))) (fun _ iv _ => g.nu - (intOf iv).toNat)
  case atStart => exact ⟨0, rfl, by omega, HST⟩
  case round =>
    obtain ⟨i, rfl, hi, HR⟩ := hrel
    have HDN := Lib.hid (HR.out.down HD1.out hsw1 hbs (World.ownsRow_nil _ _ _ _))
    have hszr : W1.heap.size ≤ wr.heap.size := HR.out.kept.size
    have g0 := HR.out.cell (nnil _) f0
    have g1 := HR.out.cell (nnil _) f1
    have g2 := HR.out.cell (nnil _) f2
    have g3 := HR.out.cell (nnil _) f3
    by_cases hlt : i < g.nu
    · have t1 : decide ((i : Int) < (g.nu : Int)) = true := by rw [decide_eq_true_eq]; omega
      obtain ⟨b, off, rfl, hbl, hcc⟩ := (HG.out.r3.below HDN.out (Nat.le_refl _)).here (by omega)
      have e0 : wr.cell? ⟨b, off + i * 5, none⟩ = some (.string (g.un i)) := hcc i hlt 0 (by omega)
      have e1 : wr.cell? ⟨b, off + i * 5 + 1, none⟩ = some (.string (g.ur i)) := hcc i hlt 1 (by omega)
      have e2 : wr.cell? ⟨b, off + i * 5 + 2, none⟩ = some (.int .i64 (g.uf i)) := hcc i hlt 2 (by omega)
      have e3 : wr.cell? ⟨b, off + i * 5 + 3, none⟩ = some (.int .i64 (g.us i)) := hcc i hlt 3 (by omega)
      have e4 : wr.cell? ⟨b, off + i * 5 + 4, none⟩ = some (.int .i64 (g.uw i)) := hcc i hlt 4 (by omega)
      obtain ⟨V1, hV1, hvb, hvs, hvl⟩ := alloc_cells wr #[.string (g.un i), .string (g.ur i), .int .i64 (g.uf i), .int .i64 (g.us i), .int .i64 (g.uw i)] 38
      have u0 := hvl 0 _ rfl
      have u1 := hvl 1 _ rfl
      have u2 := hvl 2 _ rfl
      have u3 := hvl 3 _ rfl
      have u4 := hvl 4 _ rfl
      have g0 := below_cell hvb g0
      have g1 := below_cell hvb g1
      have g2 := below_cell hvb g2
      have g3 := below_cell hvb g3
      have HVB := Lib.hid hvb
      have HV1 := Lib.hid hV1
      have HBV := Lib.hid (HDN.out.trans (hvb.mono HDN.out.size))
      have DU1 := Lib.hid (DU.out i hlt V1 HBV.out)
      have HES : Hid (evG g (i + 1) = evG g i ++ evS g i g.ns) := Lib.hid rfl
      have hlen := HLE.out i hi
      have hsl := HSL.out i hlt
      have him : i * 100000000 ≤ 5000 * 100000000 := Nat.mul_le_mul_right _ (by omega)
      have hnm : g.ns * 1000000 ≤ 100 * 1000000 := Nat.mul_le_mul_right _ hns
      clear hcc hV1 hvb hvl
      go_upto_region 8 with (fail)
      rw [HV1.out]
      go_wp2_with fail
      refine DU1.out.mono ?_
      rintro e w2 ⟨v, base, hbase, rfl, hown, hnil, hb2⟩
      have hb12 := HVB.out.trans (hb2.mono HVB.out.size)
      have HB12 := Lib.hid hb12
      have HO2 := Lib.hid (ownsRow_below HR.out.own hb12)
      have hsb : B0 ≤ w2.heap.size := by have h2 := hb12.size; omega
      obtain ⟨m, hm⟩ : ∃ m, (evS g i g.ns).length = m := ⟨_, rfl⟩
      obtain ⟨nl, hnl⟩ : ∃ nl, (evG g i).length = nl := ⟨_, rfl⟩
      have hr3 := HR.out
      rw [hnl] at HO2 hlen hr3
      rw [hm] at hown hnil hsl
      have HR3 := Lib.hid hr3
      have HNL := Lib.hid hnl
      have HM := Lib.hid hm
      clear hb12 hm hnl hr3 g0 g1 g2 g3 u0 u1 u2 u3 u4
      by_cases hm0 : m = 0
      · have hv := hnil hm0
        subst hv
        have HE0 : Hid (evS g i g.ns = []) := Lib.hid (List.length_eq_zero_iff.1 (HM.out.trans hm0))
        clear hnil hown
        go_wp2_with (at_builtin; refine wpList_append_none _ rfl (.tmp 20) (.tmp 23) 34 rfl B0 42 i0 5 HUT.out HI0.out _ _ _ rfl HO2.out rfl ?_)
        go_wp2_with fail
        go_roundw
        case rel => exact ⟨i + 1, by go_num, by omega, Lib.hid (by rw [HES.out, HE0.out, List.append_nil, HNL.out]; exact HR3.out.below HB12.out)⟩
        case measure => simp [intOf]; omega
      · obtain ⟨gq, cap, rfl, _, _⟩ := hown.form (by omega)
        have HNEWS : Hid (∀ jj u, (evCs g (evS g i g.ns))[jj]? = some u → w2.cell? ((⟨gq, 0, none⟩ : Addr).add jj) = some u) := Lib.hid (fun jj u hu => hown.cells (g := gq) rfl jj u hu)
        clear hnil hown
        go_wp2_with (at_builtin; refine wpList_append_where _ rfl (.tmp 20) (.tmp 23) 34 rfl B0 42 i0 (.agg #[.string ⟨#[]⟩, .string ⟨#[]⟩, .string ⟨#[]⟩, .int .i64 0, .int .i64 0]) 5 64 HUT.out HI0.out HZ0.out HZ1.out HZ2.out rfl (by decide) _ _ _ rfl HO2.out ⟨gq, 0, none⟩ m cap (evCs g (evS g i g.ns)) rfl (by omega) ?c0 ?c1 ?c2 ?c3 ?c4 ?c5 ?_)
        case c0 => rw [evCs_len, HM.out]
        case c1 => exact HNEWS.out
        case c2 => exact evCs_one g _
        case c3 => unfold maxLen; omega
        case c4 => omega
        case c5 => exact hsb
        intro v5 w5 hown5 hg5 hwh5
        have HN5 := Lib.hid (HR3.out.append HB12.out hown5 hg5 hwh5)
        clear hown5 hg5 hwh5
        go_wp2_with fail
        go_roundw
        case rel => exact ⟨i + 1, by go_num, by omega, Lib.hid (by rw [HES.out, List.length_append, HNL.out, HM.out, evCs_app]; exact HN5.out)⟩
        case measure => simp [intOf]; omega
    · have t1 : decide ((i : Int) < (g.nu : Int)) = false := by rw [decide_eq_false_iff_not]; omega
      have t1' : decide (i < g.nu) = false := by simpa using hlt
      obtain rfl : i = g.nu := by omega
      clear hlt
      go_wp2_with fail
      go_ret2
      exact ⟨HDN.out, Or.inr ⟨K1.out, _, B0, hbs, rfl, HR.out.own⟩⟩
end Go.Proofs.Ytbkpoepacjinlaa

/- Gear: how much a part was used (reference): plain, and its walk. -/
namespace Go.Proofs.Ytbkpoepacjinlaa
open Go.RowKit Go.BigFrame
open Gar (chk mountsK)

/-- seconds, way, was it used? -/
def stepU (part : ByteArray) (st : Int × Int × Int) (e : Ev) : Int × Int × Int := if e.p = part then (st.1 + e.sec, st.2.1 + e.way, 1) else st
def foldU (part : ByteArray) (a b : Int) (l : List Ev) : Int × Int × Int := l.foldl (stepU part) (a, b, 0)
def rwF (g : Gar) (part : ByteArray) (f t : Int) : Nat → Int × Int × Int
  | 0 => (0, 0, 0)
  | i + 1 => if g.uf i < f ∨ t ≤ g.uf i then rwF g part f t i else
    ((foldU part (rwF g part f t i).1 (rwF g part f t i).2.1 (evS g i g.ns)).1, (foldU part (rwF g part f t i).1 (rwF g part f t i).2.1 (evS g i g.ns)).2.1, (rwF g part f t i).2.2 + (foldU part (rwF g part f t i).1 (rwF g part f t i).2.1 (evS g i g.ns)).2.2)
theorem wearE_out (g : Gar) (part : ByteArray) (f t : Int) (i : Nat) (h : g.uf i < f ∨ t ≤ g.uf i) : ∀ (l : List Ev) (st : WSt), (∀ e, e ∈ l → e.i = i) → l.foldl (wearE g part f t) st = st
  | [], _, _ => rfl
  | e :: l, st, hl => by
    have he := hl e (by simp)
    rw [List.foldl_cons, show wearE g part f t st e = st by unfold wearE; rw [if_neg (by rw [he]; omega)], wearE_out g part f t i h l st fun x hx => hl x (by simp [hx])]
/-- within one use: the uses grow by one at most -/
theorem wearE_in (g : Gar) (part : ByteArray) (f t : Int) (i : Nat) (h : ¬ (g.uf i < f ∨ t ≤ g.uf i)) (u0 : Int) (l0 : ByteArray) (hl0 : l0 ≠ g.un i) : ∀ (l : List Ev) (st : WSt) (is : Int), (∀ e, e ∈ l → e.i = i) → (is = 0 ∧ st.last = l0 ∧ st.uses = u0 ∨ is = 1 ∧ st.last = g.un i ∧ st.uses = u0 + 1) →
    (l.foldl (wearE g part f t) st).sec = (l.foldl (stepU part) (st.sec, st.way, is)).1 ∧ (l.foldl (wearE g part f t) st).way = (l.foldl (stepU part) (st.sec, st.way, is)).2.1 ∧
    ((l.foldl (stepU part) (st.sec, st.way, is)).2.2 = 0 ∧ (l.foldl (wearE g part f t) st).last = l0 ∧ (l.foldl (wearE g part f t) st).uses = u0 ∨ (l.foldl (stepU part) (st.sec, st.way, is)).2.2 = 1 ∧ (l.foldl (wearE g part f t) st).last = g.un i ∧ (l.foldl (wearE g part f t) st).uses = u0 + 1)
  | [], st, is, _, hs => ⟨rfl, rfl, hs⟩
  | e :: l, st, is, hl, hs => by
    have he := hl e (by simp)
    rw [List.foldl_cons, List.foldl_cons]
    by_cases c : e.p = part
    · have e1 : wearE g part f t st e = ⟨st.sec + e.sec, st.way + e.way, if g.un i = st.last then st.uses else st.uses + 1, g.un i⟩ := by
        unfold wearE
        rw [if_pos ⟨c, by rw [he]; omega, by rw [he]; omega⟩, he]
      have e2 : stepU part (st.sec, st.way, is) e = (st.sec + e.sec, st.way + e.way, 1) := by unfold stepU; rw [if_pos c]
      rw [e1, e2]
      refine wearE_in g part f t i h u0 l0 hl0 l _ 1 (fun x hx => hl x (by simp [hx])) (Or.inr ⟨rfl, rfl, ?_⟩)
      show (if g.un i = st.last then st.uses else st.uses + 1) = u0 + 1
      rcases hs with ⟨_, h2, h3⟩ | ⟨_, h2, h3⟩
      · rw [if_neg (by rw [h2]; exact fun e => hl0 e.symm), h3]
      · rw [if_pos h2.symm, h3]
    · have e1 : wearE g part f t st e = st := by unfold wearE; rw [if_neg (fun h => c h.1)]
      have e2 : stepU part (st.sec, st.way, is) e = (st.sec, st.way, is) := by unfold stepU; rw [if_neg c]
      rw [e1, e2]
      exact wearE_in g part f t i h u0 l0 hl0 l st is (fun x hx => hl x (by simp [hx])) hs
theorem name_ne {s : ByteArray} (h : nameB s = true) : (⟨#[]⟩ : ByteArray) ≠ s := fun e => by
  subst e
  revert h
  decide
theorem use_name {g : Gar} (h : chk g = 0) {i : Nat} (hi : i < g.nu) : nameB (g.un i) = true := (Gar.use_right (Gar.chk_parts h).2.2.2.2.2.2.2.2 hi).1.1
theorem rwF_eq {g : Gar} (h : chk g = 0) (part : ByteArray) (f t : Int) : ∀ n, n ≤ g.nu →
    (wearL g part f t (evG g n)).sec = (rwF g part f t n).1 ∧ (wearL g part f t (evG g n)).way = (rwF g part f t n).2.1 ∧ (wearL g part f t (evG g n)).uses = (rwF g part f t n).2.2 ∧ ((wearL g part f t (evG g n)).last = ⟨#[]⟩ ∨ ∃ k, k < n ∧ (wearL g part f t (evG g n)).last = g.un k)
  | 0, _ => ⟨rfl, rfl, rfl, Or.inl rfl⟩
  | n + 1, hn => by
    obtain ⟨h1, h2, h3, h4⟩ := rwF_eq h part f t n (by omega)
    have hall := (evS_all h (show n < g.nu by omega) g.ns).1
    have hin : ∀ e, e ∈ evS g n g.ns → e.i = n := fun e he => (hall e he).2.2
    have hfold : wearL g part f t (evG g (n + 1)) = (evS g n g.ns).foldl (wearE g part f t) (wearL g part f t (evG g n)) := by
      unfold wearL
      rw [evG, List.foldl_append]
    rw [hfold, rwF]
    by_cases c : g.uf n < f ∨ t ≤ g.uf n
    · rw [if_pos c, wearE_out g part f t n c _ _ hin]
      exact ⟨h1, h2, h3, h4.elim Or.inl fun ⟨k, hk, e⟩ => Or.inr ⟨k, by omega, e⟩⟩
    · rw [if_neg c]
      have hne : (wearL g part f t (evG g n)).last ≠ g.un n := by
        rcases h4 with e | ⟨k, hk, e⟩
        · rw [e]; exact name_ne (use_name h (by omega))
        · rw [e]
          intro e2
          have := use_inj h (show k < g.nu by omega) (by omega) e2
          omega
      have hx := wearE_in g part f t n c (wearL g part f t (evG g n)).uses _ hne (evS g n g.ns) (wearL g part f t (evG g n)) 0 hin (Or.inl ⟨rfl, rfl, rfl⟩)
      rw [h1, h2] at hx
      obtain ⟨x1, x2, x3⟩ := hx
      refine ⟨x1, x2, ?_, ?_⟩
      · show _ = (rwF g part f t n).2.2 + _
        rcases x3 with ⟨y1, _, y3⟩ | ⟨y1, _, y3⟩
        · rw [y3, h3]
          show _ = _ + (List.foldl (stepU part) _ _).2.2
          rw [y1]
          omega
        · rw [y3, h3]
          show _ = _ + (List.foldl (stepU part) _ _).2.2
          rw [y1]
      · rcases x3 with ⟨_, y2, _⟩ | ⟨_, y2, _⟩
        · rw [y2]
          exact h4.elim Or.inl fun ⟨k, hk, e⟩ => Or.inr ⟨k, by omega, e⟩
        · rw [y2]
          exact Or.inr ⟨n, by omega, rfl⟩
end Go.Proofs.Ytbkpoepacjinlaa

/- Gear: wear of the reference: its walk. -/
namespace Go.Proofs.Ytbkpoepacjinlaa
open Go.RowKit Go.BigFrame
open Gar (chk mountsK)

theorem sums_take (l : List Ev) (q : Nat) (h : ∀ e, e ∈ l → 0 ≤ e.way ∧ 0 ≤ e.sec) : secSum (l.take q) ≤ secSum l ∧ waySum (l.take q) ≤ waySum l := by
  have e1 : secSum l = secSum (l.take q) + secSum (l.drop q) := by rw [← secSum_app, List.take_append_drop]
  have e2 : waySum l = waySum (l.take q) + waySum (l.drop q) := by rw [← waySum_app, List.take_append_drop]
  have hb := wearE_bound ⟨0, 0, 0, 0, fun _ => ⟨#[]⟩, fun _ => 0, fun _ => ⟨#[]⟩, fun _ => ⟨#[]⟩, fun _ => ⟨#[]⟩, fun _ => ⟨#[]⟩, fun _ => 0, fun _ => 0, fun _ => ⟨#[]⟩, fun _ => ⟨#[]⟩, fun _ => 0, fun _ => 0, fun _ => 0⟩ ⟨#[]⟩ 0 0 (l.drop q) wear0 (fun e hx => h e (List.mem_of_mem_drop hx))
  have z1 : wear0.sec = 0 := rfl
  have z2 : wear0.way = 0 := rfl
  omega
def stU (part : ByteArray) (a b : Int) (l : List Ev) (q : Nat) : Int × Int × Int := (l.take q).foldl (stepU part) (a, b, 0)
theorem stU_succ (part : ByteArray) (a b : Int) (l : List Ev) {q : Nat} (h : q < l.length) : stU part a b l (q + 1) = stepU part (stU part a b l q) (l.getD q ev0) := by
  unfold stU
  rw [List.take_succ_eq_append_getElem h, List.foldl_append, List.getD_eq_getElem?_getD, List.getElem?_eq_getElem h]
  rfl
theorem stepU_bound (part : ByteArray) : ∀ (l : List Ev) (a b c : Int), (∀ e, e ∈ l → 0 ≤ e.way ∧ 0 ≤ e.sec) → (c = 0 ∨ c = 1) →
    a ≤ (l.foldl (stepU part) (a, b, c)).1 ∧ (l.foldl (stepU part) (a, b, c)).1 ≤ a + secSum l ∧ b ≤ (l.foldl (stepU part) (a, b, c)).2.1 ∧ (l.foldl (stepU part) (a, b, c)).2.1 ≤ b + waySum l ∧ ((l.foldl (stepU part) (a, b, c)).2.2 = 0 ∨ (l.foldl (stepU part) (a, b, c)).2.2 = 1)
  | [], a, b, c, _, hc => by simp [secSum, waySum, hc]
  | e :: l, a, b, c, h, hc => by
    have he := h e (by simp)
    have h1 : secSum (e :: l) = e.sec + secSum l := by simp [secSum]
    have h2 : waySum (e :: l) = e.way + waySum l := by simp [waySum]
    rw [List.foldl_cons]
    by_cases k : e.p = part
    · rw [show stepU part (a, b, c) e = (a + e.sec, b + e.way, 1) by unfold stepU; rw [if_pos k]]
      have ih := stepU_bound part l (a + e.sec) (b + e.way) 1 (fun x hx => h x (by simp [hx])) (Or.inr rfl)
      omega
    · rw [show stepU part (a, b, c) e = (a, b, c) by unfold stepU; rw [if_neg k]]
      have ih := stepU_bound part l a b c (fun x hx => h x (by simp [hx])) hc
      omega
set_option maxHeartbeats 8000000 in
set_option maxRecDepth 100000 in
theorem rwear_any (g : Gar) (a0 a1 a2 a3 : Option Addr) (c0 c1 c2 c3 : Nat) (part : ByteArray) (f t : Int) (w : World) (h : GarIn w g a0 a1 a2 a3) (hchk : chk g = 0) :
    Calls Try.prog 68 #[garV g a0 a1 a2 a3 c0 c1 c2 c3, .string part, .int .i64 f, .int .i64 t] w fun e w' => e = .returned (wearR (wearL g part f t (evG g g.nu))) ∧ Below w.heap.size w w' := by
  have HG := Lib.hid h
  have hl3 := h.l3
  obtain ⟨W0, hW0, hb0, hs0, hq0⟩ := allocs w [.cells #[.slice a0 g.np c0, .slice a1 g.ns c1, .slice a2 g.nm c2, .slice a3 g.nu c3] 27, .cells #[.int .i64 0, .int .i64 0, .int .i64 0] 60, .cells #[.int .i64 0, .int .i64 0, .int .i64 0] 60]
  have hs0 : W0.heap.size = w.heap.size + 3 := hs0
  have f0 : W0.cell? ⟨w.heap.size, 0, none⟩ = some (.slice a0 g.np c0) := block_cell (hq0 0 _ rfl) rfl
  have f1 : W0.cell? ⟨w.heap.size, 1, none⟩ = some (.slice a1 g.ns c1) := block_cell (hq0 0 _ rfl) rfl
  have f2 : W0.cell? ⟨w.heap.size, 2, none⟩ = some (.slice a2 g.nm c2) := block_cell (hq0 0 _ rfl) rfl
  have f3 : W0.cell? ⟨w.heap.size, 3, none⟩ = some (.slice a3 g.nu c3) := block_cell (hq0 0 _ rfl) rfl
  have HR8 := Lib.hid (hq0 1 _ rfl)
  have HR9 : Hid (W0.heap[w.heap.size + 2]? = some (.cells #[.int .i64 (rwF g part f t 0).1, .int .i64 (rwF g part f t 0).2.1, .int .i64 (rwF g part f t 0).2.2] 60 (0, 0))) := Lib.hid (hq0 2 _ rfl)
  have HW0 := Lib.hid (show ((w.alloc (.cells #[.slice a0 g.np c0, .slice a1 g.ns c1, .slice a2 g.nm c2, .slice a3 g.nu c3] 27)).alloc (.cells #[.int .i64 0, .int .i64 0, .int .i64 0] 60)).alloc (.cells #[.int .i64 0, .int .i64 0, .int .i64 0] 60) = W0 from hW0)
  have HB := Lib.hid hb0
  have hws : w.heap.size ≤ W0.heap.size := by omega
  have DU := Lib.hid (fun (i : Nat) (hi : i < g.nu) (W : World) (hW : Below w.heap.size w W) => rpiecesU_any g a0 a1 a2 a3 c0 c1 c2 c3 i W (HG.out.below hW) hchk hi)
  have HRW := Lib.hid (rwF_eq hchk part f t)
  have HWS := Lib.hid (fun i (hi : i ≤ g.nu) => (evG_pre g i g.nu hi).elim fun r hr => wear_small hchk part f t hr)
  have HEA := Lib.hid (fun i (hi : i < g.nu) => evS_all hchk hi g.ns)
  have HSL := Lib.hid (fun i (hi : i < g.nu) => evS_len hchk hi g.ns)
  have hns := (Gar.chk_parts hchk).2.1
  unfold useAt useV at DU
  unfold garV at DU ⊢
  clear h hW0 hb0 hq0 hchk
  go_enter Try.func68, Try.ntmps68
  go_upto_region 2 with (fail)
  rw [HW0.out]
  go_wp2_with fail
  go_loopw [19] (fun iv wr => ∃ (i : Nat), iv = .int .i64 i ∧ i ≤ g.nu ∧ Hid (Kept (fun b => b = w.heap.size + 2) W0 wr) ∧ Hid (wr.heap[w.heap.size + 2]? = some (.cells #[.int .i64 (rwF g part f t i).1, .int .i64 (rwF g part f t i).2.1, .int .i64 (rwF g part f t i).2.2] 60 (0, 0)))) (fun iv _ => g.nu - (intOf iv).toNat)
  case atStart => exact ⟨0, rfl, by omega, Lib.hid (Kept.refl _ _), HR9⟩
  case round =>
    obtain ⟨i, rfl, hi, HK, HC⟩ := hrel
    have HDN := Lib.hid (Kept.below HB.out HK.out hws (fun k hk => by show ¬ k = w.heap.size + 2; omega))
    have hk1 := HK.out.size
    have g0 := HK.out.cell (by show ¬ w.heap.size = w.heap.size + 2; omega) f0
    have g1 := HK.out.cell (by show ¬ w.heap.size = w.heap.size + 2; omega) f1
    have g2 := HK.out.cell (by show ¬ w.heap.size = w.heap.size + 2; omega) f2
    have g3 := HK.out.cell (by show ¬ w.heap.size = w.heap.size + 2; omega) f3
    by_cases hlt : i < g.nu
    · have t1 : decide ((i : Int) < (g.nu : Int)) = true := by rw [decide_eq_true_eq]; omega
      obtain ⟨b, off, rfl, hbl, hcc⟩ := (HG.out.r3.below HDN.out (Nat.le_refl _)).here (by omega)
      have e0 : wr.cell? ⟨b, off + i * 5, none⟩ = some (.string (g.un i)) := hcc i hlt 0 (by omega)
      have e1 : wr.cell? ⟨b, off + i * 5 + 1, none⟩ = some (.string (g.ur i)) := hcc i hlt 1 (by omega)
      have e2 : wr.cell? ⟨b, off + i * 5 + 2, none⟩ = some (.int .i64 (g.uf i)) := hcc i hlt 2 (by omega)
      have e3 : wr.cell? ⟨b, off + i * 5 + 3, none⟩ = some (.int .i64 (g.us i)) := hcc i hlt 3 (by omega)
      have e4 : wr.cell? ⟨b, off + i * 5 + 4, none⟩ = some (.int .i64 (g.uw i)) := hcc i hlt 4 (by omega)
      obtain ⟨V1, hV1, hvb, hvs, hvl⟩ := alloc_cells wr #[.string (g.un i), .string (g.ur i), .int .i64 (g.uf i), .int .i64 (g.us i), .int .i64 (g.uw i)] 38
      have u0 := hvl 0 _ rfl
      have u1 := hvl 1 _ rfl
      have u2 := hvl 2 _ rfl
      have u3 := hvl 3 _ rfl
      have u4 := hvl 4 _ rfl
      have g0 := below_cell hvb g0
      have g1 := below_cell hvb g1
      have g2 := below_cell hvb g2
      have g3 := below_cell hvb g3
      have HVB := Lib.hid hvb
      have HV1 := Lib.hid hV1
      have HBV := Lib.hid (HDN.out.trans (hvb.mono HDN.out.size))
      have DU1 := Lib.hid (DU.out i hlt V1 HBV.out)
      have HS : Hid (rwF g part f t (i + 1) = if g.uf i < f ∨ t ≤ g.uf i then rwF g part f t i else
        ((foldU part (rwF g part f t i).1 (rwF g part f t i).2.1 (evS g i g.ns)).1, (foldU part (rwF g part f t i).1 (rwF g part f t i).2.1 (evS g i g.ns)).2.1, (rwF g part f t i).2.2 + (foldU part (rwF g part f t i).1 (rwF g part f t i).2.1 (evS g i g.ns)).2.2)) := Lib.hid rfl
      have hws2 := HWS.out i hi
      obtain ⟨x1, x2, x3, _⟩ := HRW.out i hi
      rw [x1, x2, x3] at hws2
      have hC := HC.out
      generalize rwF g part f t i = st at HS hws2 hC
      obtain ⟨sa, sb, sc⟩ := st
      have hws3 : 0 ≤ sa ∧ sa ≤ 500000000000 ∧ 0 ≤ sb ∧ sb ≤ 500000000000000 ∧ 0 ≤ sc ∧ sc ≤ 500000000000 := hws2
      have HCV := Lib.hid (below_block hvb hC)
      have hvk : Kept (fun b => b = w.heap.size + 2) W0 V1 := HK.out.trans (Kept.of_below hvb)
      have HVK := Lib.hid hvk
      clear hcc hV1 hvb hvl x1 x2 x3 hws2 hC hvk HC
      by_cases hskip : g.uf i < f ∨ t ≤ g.uf i
      · rw [if_pos hskip] at HS
        by_cases k1 : g.uf i < f
        · have d1 : decide (g.uf i < f) = true := by simpa using k1
          go_upto_region 5 with (fail)
          rw [HV1.out]
          go_wp2_with fail
          go_roundw
          case rel => exact ⟨i + 1, by go_num, by omega, HVK, Lib.hid (by rw [HS.out]; exact HCV.out)⟩
          case measure => simp [intOf]; omega
        · have d1 : decide (g.uf i < f) = false := by simpa using k1
          have d2 : decide (t ≤ g.uf i) = true := by rw [decide_eq_true_eq]; omega
          go_upto_region 5 with (fail)
          rw [HV1.out]
          go_wp2_with fail
          go_roundw
          case rel => exact ⟨i + 1, by go_num, by omega, HVK, Lib.hid (by rw [HS.out]; exact HCV.out)⟩
          case measure => simp [intOf]; omega
      · rw [if_neg hskip] at HS
        have d1 : decide (g.uf i < f) = false := by rw [decide_eq_false_iff_not]; omega
        have d2 : decide (t ≤ g.uf i) = false := by rw [decide_eq_false_iff_not]; omega
        clear hskip
        go_upto_region 5 with (fail)
        rw [HV1.out]
        go_wp2_with fail
        refine DU1.out.mono ?_
        rintro e w2 ⟨v, base, hbase, rfl, hown, _, hb2⟩
        obtain ⟨am, cm, hv, hrow⟩ := evRow hown
        have hnr : ∀ b off, am = some ⟨b, off, none⟩ → ¬ b = w.heap.size + 2 := fun b off e hb => by
          have := (hown.lt b (by rw [hv, e]; rfl)).1
          have := hvs
          omega
        have HNR := Lib.hid hnr
        subst hv
        have hea := HEA.out i hlt
        have hsl := HSL.out i hlt
        have HCV2 := Lib.hid (below_block hb2 HCV.out)
        have HVK2 := Lib.hid (HVK.out.trans (Kept.of_below (O := fun b => b = w.heap.size + 2) hb2))
        have hm1 : g.ns * 1000000 ≤ 100 * 1000000 := Nat.mul_le_mul_right _ hns
        have hm2 : g.ns * 1000000000 ≤ 100 * 1000000000 := Nat.mul_le_mul_right _ hns
        have HST := Lib.hid (fun q (hq : q < (evS g i g.ns).length) => stU_succ part sa sb (evS g i g.ns) hq)
        have HSB := Lib.hid (fun q => stepU_bound part ((evS g i g.ns).take q) sa sb 0 (fun e he => by have := hea.1 e (List.mem_of_mem_take he); omega) (Or.inl rfl))
        have HTK := Lib.hid (fun q => sums_take (evS g i g.ns) q (fun e he => by have := hea.1 e he; omega))
        have hfo : foldU part sa sb (evS g i g.ns) = stU part sa sb (evS g i g.ns) (evS g i g.ns).length := by unfold foldU stU; rw [List.take_length]
        have hs1 := hea.2.1
        have hs2 := hea.2.2
        have HEV := Lib.hid (fun q (hq : q < (evS g i g.ns).length) => hea.1 ((evS g i g.ns).getD q ev0) (by rw [List.getD_eq_getElem?_getD, List.getElem?_eq_getElem hq]; exact List.getElem_mem hq))
        have HSB2 : Hid (∀ q, sa ≤ (stU part sa sb (evS g i g.ns) q).1 ∧ (stU part sa sb (evS g i g.ns) q).1 ≤ sa + 100000000 ∧ sb ≤ (stU part sa sb (evS g i g.ns) q).2.1 ∧ (stU part sa sb (evS g i g.ns) q).2.1 ≤ sb + 100000000000 ∧ ((stU part sa sb (evS g i g.ns) q).2.2 = 0 ∨ (stU part sa sb (evS g i g.ns) q).2.2 = 1)) := Lib.hid (fun q => by
          have y1 := HSB.out q
          have y2 := HTK.out q
          unfold stU
          omega)
        have HSE : Hid (∀ q, q < (evS g i g.ns).length → 0 ≤ ((evS g i g.ns).getD q ev0).sec ∧ ((evS g i g.ns).getD q ev0).sec ≤ 100000000 ∧ 0 ≤ ((evS g i g.ns).getD q ev0).way ∧ ((evS g i g.ns).getD q ev0).way ≤ 100000000000) := Lib.hid (fun q hq => by
          have z1 := HEV.out q hq
          have z2 := HTK.out (q + 1)
          have z3 := sums_take ((evS g i g.ns).take q) 0 (fun e he => by have := hea.1 e (List.mem_of_mem_take he); omega)
          rw [List.take_zero] at z3
          have z4 : secSum [] = 0 := rfl
          have z5 : waySum [] = 0 := rfl
          rw [List.take_succ_eq_append_getElem hq, secSum_app, waySum_app] at z2
          rw [List.getD_eq_getElem?_getD, List.getElem?_eq_getElem hq] at z1 ⊢
          have z6 : secSum [(evS g i g.ns)[q]] = ((evS g i g.ns)[q]).sec := by simp [secSum]
          have z7 : waySum [(evS g i g.ns)[q]] = ((evS g i g.ns)[q]).way := by simp [waySum]
          simp only [Option.getD_some] at z1 ⊢
          omega)
        rw [hfo] at HS
        have HROW := Lib.hid hrow
        generalize evS g i g.ns = l at HS HROW HST HSB2 HSE hsl
        obtain ⟨st, hst⟩ : ∃ st : Nat → Int × Int × Int, stU part sa sb l = st := ⟨_, rfl⟩
        have hst0 : st 0 = (sa, sb, 0) := by rw [← hst]; rfl
        rw [hst] at HS HST HSB2
        have HST0 := Lib.hid hst0
        obtain ⟨m, hm⟩ : ∃ m, l.length = m := ⟨_, rfl⟩
        rw [hm] at HS HROW HST HSE hsl ⊢
        have hw2 : w.heap.size + 2 < w2.heap.size := by have := hb2.size; omega
        clear hrow hnr hea hfo hst hst0 hm hown HSB HTK HEV HEA HSL DU DU1 HCV HVK hs1 hs2 g0 g1 g2 g3 u0 u1 u2 u3 u4 e0 e1 e2 e3 e4 hb2
        go_wp2_with fail
        go_loopw [12, 37] (fun sv iv wr => ∃ (q : Nat), sv = .int .i64 (st q).2.2 ∧ iv = .int .i64 q ∧ q ≤ m ∧ Hid (Kept (fun b => b = w.heap.size + 2) w2 wr) ∧ Hid (wr.heap[w.heap.size + 2]? = some (.cells #[.int .i64 (st q).1, .int .i64 (st q).2.1, .int .i64 sc] 60 (0, 0)))) (fun _ iv _ => m - (intOf iv).toNat)
        case atStart => exact ⟨0, by rw [HST0.out], rfl, by omega, Lib.hid (Kept.refl _ _), Lib.hid (by rw [HST0.out]; exact HCV2.out)⟩
        case round =>
          obtain ⟨q, rfl, rfl, hq, HKI, HCI⟩ := hrel
          have hsb := HSB2.out q
          by_cases hltq : q < m
          · have t2 : decide ((q : Int) < (m : Int)) = true := by rw [decide_eq_true_eq]; omega
            have hse := HSE.out q hltq
            have hsu := HST.out q hltq
            obtain ⟨bq, offq, rfl, hblq, hcq⟩ := (Kept.row HROW.out HKI.out HNR.out).here (by omega)
            have z0 : wr.cell? ⟨bq, offq + q * 5, none⟩ = some (.string (g.un (l.getD q ev0).i)) := hcq q hltq 0 (by omega)
            have z1 : wr.cell? ⟨bq, offq + q * 5 + 1, none⟩ = some (.string (l.getD q ev0).s) := hcq q hltq 1 (by omega)
            have z2 : wr.cell? ⟨bq, offq + q * 5 + 2, none⟩ = some (.string (l.getD q ev0).p) := hcq q hltq 2 (by omega)
            have z3 : wr.cell? ⟨bq, offq + q * 5 + 3, none⟩ = some (.int .i64 (l.getD q ev0).sec) := hcq q hltq 3 (by omega)
            have z4 : wr.cell? ⟨bq, offq + q * 5 + 4, none⟩ = some (.int .i64 (l.getD q ev0).way) := hcq q hltq 4 (by omega)
            obtain ⟨V3, hV3, hvb3, hvs3, hvq3⟩ := alloc_block wr #[.string (g.un (l.getD q ev0).i), .string (l.getD q ev0).s, .string (l.getD q ev0).p, .int .i64 (l.getD q ev0).sec, .int .i64 (l.getD q ev0).way] 42
            generalize l.getD q ev0 = ev at hse hsu z0 z1 z2 z3 z4 hV3 hvq3
            have q2 : V3.cell? ⟨wr.heap.size, 2, none⟩ = some (.string ev.p) := block_cell hvq3 rfl
            have q3 : V3.cell? ⟨wr.heap.size, 3, none⟩ = some (.int .i64 ev.sec) := block_cell hvq3 rfl
            have q4 : V3.cell? ⟨wr.heap.size, 4, none⟩ = some (.int .i64 ev.way) := block_cell hvq3 rfl
            have hci := below_block hvb3 HCI.out
            obtain ⟨sq, hsq⟩ : ∃ sq, st q = sq := ⟨_, rfl⟩
            rw [hsq] at hsb hsu hci
            obtain ⟨qa, qb, qc⟩ := sq
            have hsb3 : sa ≤ qa ∧ qa ≤ sa + 100000000 ∧ sb ≤ qb ∧ qb ≤ sb + 100000000000 := ⟨hsb.1, hsb.2.1, hsb.2.2.1, hsb.2.2.2.1⟩
            have hci : V3.heap[w.heap.size + 2]? = some (.cells #[.int .i64 qa, .int .i64 qb, .int .i64 sc] 60 (0, 0)) := hci
            have w0 : V3.cell? ⟨w.heap.size + 2, 0, none⟩ = some (.int .i64 qa) := block_cell hci rfl
            have w1 : V3.cell? ⟨w.heap.size + 2, 1, none⟩ = some (.int .i64 qb) := block_cell hci rfl
            have x0 : V3.frozen? ⟨w.heap.size + 2, 0, none⟩ = false := block_free hci
            have x1 : V3.frozen? ⟨w.heap.size + 2, 1, none⟩ = false := block_free hci
            have HCI3 := Lib.hid hci
            have HV3 := Lib.hid hV3
            have HKV := Lib.hid (HKI.out.trans (Kept.of_below (O := fun b => b = w.heap.size + 2) hvb3))
            have hpe := str_eq ev.p part
            have hwk : w.heap.size + 2 < wr.heap.size := Nat.lt_of_lt_of_le hw2 HKI.out.size
            rw [hsq]
            clear hcq hV3 hvb3 hvq3 hsq hci hsb
            unfold stepU at hsu
            by_cases hp : ev.p = part
            · rw [if_pos hp] at hsu
              rw [show decide (ev.p = part) = true by simpa using hp] at hpe
              have HSU := Lib.hid hsu
              clear hp hsu
              go_upto_region 10 with (fail)
              rw [HV3.out]
              go_wp2_with fail
              go_roundw
              case rel => exact ⟨q + 1, by rw [HSU.out], by go_num, by omega, Lib.hid (kept_set (kept_set HKV.out (by rfl) _) (by rfl) _), Lib.hid (by rw [HSU.out]; exact cells_setCell (cells_setCell HCI3.out))⟩
              case measure => simp [intOf]; omega
            · rw [if_neg hp] at hsu
              rw [show decide (ev.p = part) = false by simpa using hp] at hpe
              have HSU := Lib.hid hsu
              clear hp hsu
              go_upto_region 10 with (fail)
              rw [HV3.out]
              go_wp2_with fail
              go_roundw
              case rel => exact ⟨q + 1, by rw [HSU.out], by go_num, by omega, HKV, Lib.hid (by rw [HSU.out]; exact HCI3.out)⟩
              case measure => simp [intOf]; omega
          · have t2 : decide ((q : Int) < (m : Int)) = false := by rw [decide_eq_false_iff_not]; omega
            have t2' : decide (q < m) = false := by simpa using hltq
            obtain rfl : q = m := by omega
            have hci := HCI.out
            have w2' : wr.cell? ⟨w.heap.size + 2, 2, none⟩ = some (.int .i64 sc) := block_cell hci rfl
            have x2 : wr.frozen? ⟨w.heap.size + 2, 2, none⟩ = false := block_free hci
            have hqc : 0 ≤ (st q).2.2 ∧ (st q).2.2 ≤ 1 := by omega
            clear hltq hci
            go_wp2_with fail
            go_roundw
            case rel => exact ⟨i + 1, by go_num, by omega, Lib.hid (kept_set (HVK2.out.trans HKI.out) (by rfl) _), Lib.hid (by rw [HS.out]; exact cells_setCell HCI.out)⟩
            case measure => simp [intOf]; omega
    · have t1 : decide ((i : Int) < (g.nu : Int)) = false := by rw [decide_eq_false_iff_not]; omega
      have t1' : decide (i < g.nu) = false := by simpa using hlt
      obtain rfl : i = g.nu := by omega
      obtain ⟨x1, x2, x3, _⟩ := HRW.out g.nu (Nat.le_refl _)
      have HWR : Hid (wearR (wearL g part f t (evG g g.nu)) = .agg #[.int .i64 (rwF g part f t g.nu).1, .int .i64 (rwF g part f t g.nu).2.1, .int .i64 (rwF g part f t g.nu).2.2]) := Lib.hid (by unfold wearR; rw [x1, x2, x3])
      have hc9 := HC.out
      generalize rwF g part f t g.nu = st at HWR hc9
      obtain ⟨sa, sb, sc⟩ := st
      have hc9 : wr.heap[w.heap.size + 2]? = some (.cells #[.int .i64 sa, .int .i64 sb, .int .i64 sc] 60 (0, 0)) := hc9
      have r8 := (HK.out.block (w.heap.size + 1) (by omega) (by show ¬ w.heap.size + 1 = w.heap.size + 2; omega)).trans HR8.out
      have k0 : wr.cell? ⟨w.heap.size + 2, 0, none⟩ = some (.int .i64 sa) := block_cell hc9 rfl
      have k1 : wr.cell? ⟨w.heap.size + 2, 1, none⟩ = some (.int .i64 sb) := block_cell hc9 rfl
      have k2 : wr.cell? ⟨w.heap.size + 2, 2, none⟩ = some (.int .i64 sc) := block_cell hc9 rfl
      have q0 : wr.cell? ⟨w.heap.size + 1, 0, none⟩ = some (.int .i64 0) := block_cell r8 rfl
      have q1 : wr.cell? ⟨w.heap.size + 1, 1, none⟩ = some (.int .i64 0) := block_cell r8 rfl
      have q2 : wr.cell? ⟨w.heap.size + 1, 2, none⟩ = some (.int .i64 0) := block_cell r8 rfl
      have z0 : wr.frozen? ⟨w.heap.size + 1, 0, none⟩ = false := block_free r8
      have z1 : wr.frozen? ⟨w.heap.size + 1, 1, none⟩ = false := block_free r8
      have z2 : wr.frozen? ⟨w.heap.size + 1, 2, none⟩ = false := block_free r8
      have HR4 := Lib.hid r8
      have HBF := HDN
      clear hlt x1 x2 x3 hc9 r8 g0 g1 g2 g3 HC HK
      go_wp2_with fail
      have hr : ((((wr.setCell ⟨w.heap.size + 1, 0, none⟩ (.int .i64 sa)).setCell ⟨w.heap.size + 1, 1, none⟩ (.int .i64 sb)).setCell ⟨w.heap.size + 1, 2, none⟩ (.int .i64 sc))).heap[w.heap.size + 1]? = some (.cells #[.int .i64 sa, .int .i64 sb, .int .i64 sc] 60 (0, 0)) :=
        cells_setCell (cells_setCell (cells_setCell HR4.out))
      have hbf := ((HBF.out.setCell (p := ⟨w.heap.size + 1, 0, none⟩) (by show w.heap.size ≤ w.heap.size + 1; omega) (.int .i64 sa)).setCell (p := ⟨w.heap.size + 1, 1, none⟩) (by show w.heap.size ≤ w.heap.size + 1; omega) (.int .i64 sb)).setCell (p := ⟨w.heap.size + 1, 2, none⟩) (by show w.heap.size ≤ w.heap.size + 1; omega) (.int .i64 sc)
      generalize ((wr.setCell ⟨w.heap.size + 1, 0, none⟩ (.int .i64 sa)).setCell ⟨w.heap.size + 1, 1, none⟩ (.int .i64 sb)).setCell ⟨w.heap.size + 1, 2, none⟩ (.int .i64 sc) = w4 at hr hbf ⊢
      have y0 : w4.cell? ⟨w.heap.size + 1, 0, none⟩ = some (.int .i64 sa) := block_cell hr rfl
      have y1 : w4.cell? ⟨w.heap.size + 1, 1, none⟩ = some (.int .i64 sb) := block_cell hr rfl
      have y2 : w4.cell? ⟨w.heap.size + 1, 2, none⟩ = some (.int .i64 sc) := block_cell hr rfl
      exact bodyPost_ret (v := .agg #[.int .i64 sa, .int .i64 sb, .int .i64 sc]) (by simp [results, Try.results68, go_sem, y0, y1, y2]) rfl ⟨by rw [HWR.out], hbf⟩
end Go.Proofs.Ytbkpoepacjinlaa

/- Gear: WearOf of both (printed by wip/g/gen_wof.py). -/
namespace Go.Proofs.Ytbkpoepacjinlaa
open Go.RowKit Go.BigFrame
open Gar (chk momG hasS hasP)

/-- what WearOf returns -/
def wofF (g : Gar) (part : ByteArray) (f t : Int) : WSt × Int :=
  if chk g ≠ 0 then (wear0, chk g) else if hasP g part = false then (wear0, 4) else if (momG f && momG t) = false then (wear0, 9) else if t < f then (wear0, 10) else (wearL g part f t (evG g g.nu), 0)
def wofR (x : WSt × Int) : Value := .tuple #[wearR x.1, .int .i64 x.2]

set_option maxHeartbeats 4000000 in
set_option maxRecDepth 100000 in
theorem wof_any (g : Gar) (a0 a1 a2 a3 : Option Addr) (c0 c1 c2 c3 : Nat) (part : ByteArray) (f t : Int) (w : World) (h : GarIn w g a0 a1 a2 a3) :
    Calls Try.prog 24 #[garV g a0 a1 a2 a3 c0 c1 c2 c3, .string part, .int .i64 f, .int .i64 t] w fun e w' => e = .returned (wofR (wofF g part f t)) ∧ Below w.heap.size w w' := by
  have HG := Lib.hid h
  obtain ⟨W0, hW0, hb0, hs0, hq0⟩ := allocs w [.cells #[.slice a0 g.np c0, .slice a1 g.ns c1, .slice a2 g.nm c2, .slice a3 g.nu c3] 27, .cells #[.int .i64 0, .int .i64 0, .int .i64 0] 60]
  have hs0 : W0.heap.size = w.heap.size + 2 := hs0
  have G0 := Ext.ex (show W0.cell? ⟨w.heap.size, 0, none⟩ = some (.slice a0 g.np c0) from block_cell (hq0 0 _ rfl) rfl)
  have G1 := Ext.ex (show W0.cell? ⟨w.heap.size, 1, none⟩ = some (.slice a1 g.ns c1) from block_cell (hq0 0 _ rfl) rfl)
  have G2 := Ext.ex (show W0.cell? ⟨w.heap.size, 2, none⟩ = some (.slice a2 g.nm c2) from block_cell (hq0 0 _ rfl) rfl)
  have G3 := Ext.ex (show W0.cell? ⟨w.heap.size, 3, none⟩ = some (.slice a3 g.nu c3) from block_cell (hq0 0 _ rfl) rfl)
  have HR := Lib.hid (hq0 1 _ rfl)
  have HW0 := Lib.hid (show (w.alloc (.cells #[.slice a0 g.np c0, .slice a1 g.ns c1, .slice a2 g.nm c2, .slice a3 g.nu c3] 27)).alloc (.cells #[.int .i64 0, .int .i64 0, .int .i64 0] 60) = W0 from hW0)
  have HB := Lib.hid hb0
  have hbs : w.heap.size ≤ W0.heap.size := by omega
  have DK := Lib.hid (fun (Y : Ext W0) => gCheck_any g a0 a1 a2 a3 c0 c1 c2 c3 Y.1 (HG.out.below (Y.down HB.out hbs)))
  have DP := Lib.hid (fun (Y : Ext W0) => hasP_at' g a0 a1 a2 a3 c0 c1 c2 c3 part Y.1 (HG.out.below (Y.down HB.out hbs)))
  have DM := Lib.hid (fun (n : Int) (W : World) => gmoment_any n W)
  have DW0 := Lib.hid (fun (hk : chk g = 0) (Y : Ext W0) => wearOf_any g a0 a1 a2 a3 c0 c1 c2 c3 part f t Y.1 (HG.out.below (Y.down HB.out hbs)) hk)
  obtain ⟨xx, hxx⟩ : ∃ x, wofF g part f t = x := ⟨_, rfl⟩
  rw [hxx]
  unfold wofF at hxx
  have HX := Lib.hid hxx
  unfold garV at DK DP DW0
  unfold garV
  clear h hW0 hb0 hs0 hq0 hxx
  by_cases k1 : chk g = 0
  case neg =>
    rw [if_pos k1] at HX
    have n1 : (chk g != 0) = true := by rw [bne_iff_ne]; exact k1
    clear k1 DW0
    generalize chk g = ck at *
    go_enter Try.func24, Try.ntmps24
    go_upto_region 1 with (fail)
    rw [HW0.out]
    refine ext_wp fun X => ?_
    go_wp2_with fail
    refine (Ext.calls _ (DK.out _)).mono ?_
    rintro e w2 ⟨rfl, Y, rfl⟩
    have r4 := below_block Y.2 HR.out
    have hdn := Y.down HB.out hbs
    have q0 : Y.1.cell? ⟨w.heap.size + 1, 0, none⟩ = some (.int .i64 0) := block_cell r4 rfl
    have q1 : Y.1.cell? ⟨w.heap.size + 1, 1, none⟩ = some (.int .i64 0) := block_cell r4 rfl
    have q2 : Y.1.cell? ⟨w.heap.size + 1, 2, none⟩ = some (.int .i64 0) := block_cell r4 rfl
    have z0 : Y.1.frozen? ⟨w.heap.size + 1, 0, none⟩ = false := block_free r4
    have z1 : Y.1.frozen? ⟨w.heap.size + 1, 1, none⟩ = false := block_free r4
    have z2 : Y.1.frozen? ⟨w.heap.size + 1, 2, none⟩ = false := block_free r4
    have HR4 := Lib.hid r4
    have HDN := Lib.hid hdn
    clear r4 hdn
    generalize Y.1 = y at *
    go_wp2_with fail
    have hr : (((y.setCell ⟨w.heap.size + 1, 0, none⟩ (.int .i64 0)).setCell ⟨w.heap.size + 1, 1, none⟩ (.int .i64 0)).setCell ⟨w.heap.size + 1, 2, none⟩ (.int .i64 0)).heap[w.heap.size + 1]? = some (.cells #[.int .i64 0, .int .i64 0, .int .i64 0] 60 (0, 0)) := cells_setCell (cells_setCell (cells_setCell HR4.out))
    have hbf := ((HDN.out.setCell (p := ⟨w.heap.size + 1, 0, none⟩) (by show w.heap.size ≤ w.heap.size + 1; omega) (.int .i64 0)).setCell (p := ⟨w.heap.size + 1, 1, none⟩) (by show w.heap.size ≤ w.heap.size + 1; omega) (.int .i64 0)).setCell (p := ⟨w.heap.size + 1, 2, none⟩) (by show w.heap.size ≤ w.heap.size + 1; omega) (.int .i64 0)
    generalize ((y.setCell ⟨w.heap.size + 1, 0, none⟩ (.int .i64 0)).setCell ⟨w.heap.size + 1, 1, none⟩ (.int .i64 0)).setCell ⟨w.heap.size + 1, 2, none⟩ (.int .i64 0) = w4 at hr hbf ⊢
    have y0 : w4.cell? ⟨w.heap.size + 1, 0, none⟩ = some (.int .i64 0) := block_cell hr rfl
    have y1 : w4.cell? ⟨w.heap.size + 1, 1, none⟩ = some (.int .i64 0) := block_cell hr rfl
    have y2 : w4.cell? ⟨w.heap.size + 1, 2, none⟩ = some (.int .i64 0) := block_cell hr rfl
    exact bodyPost_ret (v := .tuple #[.agg #[.int .i64 0, .int .i64 0, .int .i64 0], .int .i64 ck]) (by simp [results, Try.results24, go_sem, y0, y1, y2]) rfl ⟨by rw [← HX.out]; rfl, hbf⟩
  rw [if_neg (by rw [k1]; simp)] at HX
  rw [k1] at DK
  have DW := Lib.hid (DW0.out k1)
  have n1 : ((0 : Int) != 0) = false := rfl
  clear k1 DW0
  cases k2 : hasP g part
  case false =>
    rw [if_pos k2] at HX
    rw [k2] at DP
    clear k2
    go_enter Try.func24, Try.ntmps24
    go_upto_region 1 with (fail)
    rw [HW0.out]
    refine ext_wp fun X => ?_
    go_wp2_with fail
    refine (Ext.calls _ (DK.out _)).mono ?_
    rintro e w2 ⟨rfl, Y, rfl⟩
    go_wp2_with fail
    refine (Ext.calls _ (DP.out _)).mono ?_
    rintro e w2 ⟨rfl, Y, rfl⟩
    have r4 := below_block Y.2 HR.out
    have hdn := Y.down HB.out hbs
    have q0 : Y.1.cell? ⟨w.heap.size + 1, 0, none⟩ = some (.int .i64 0) := block_cell r4 rfl
    have q1 : Y.1.cell? ⟨w.heap.size + 1, 1, none⟩ = some (.int .i64 0) := block_cell r4 rfl
    have q2 : Y.1.cell? ⟨w.heap.size + 1, 2, none⟩ = some (.int .i64 0) := block_cell r4 rfl
    have z0 : Y.1.frozen? ⟨w.heap.size + 1, 0, none⟩ = false := block_free r4
    have z1 : Y.1.frozen? ⟨w.heap.size + 1, 1, none⟩ = false := block_free r4
    have z2 : Y.1.frozen? ⟨w.heap.size + 1, 2, none⟩ = false := block_free r4
    have HR4 := Lib.hid r4
    have HDN := Lib.hid hdn
    clear r4 hdn
    generalize Y.1 = y at *
    go_wp2_with fail
    have hr : (((y.setCell ⟨w.heap.size + 1, 0, none⟩ (.int .i64 0)).setCell ⟨w.heap.size + 1, 1, none⟩ (.int .i64 0)).setCell ⟨w.heap.size + 1, 2, none⟩ (.int .i64 0)).heap[w.heap.size + 1]? = some (.cells #[.int .i64 0, .int .i64 0, .int .i64 0] 60 (0, 0)) := cells_setCell (cells_setCell (cells_setCell HR4.out))
    have hbf := ((HDN.out.setCell (p := ⟨w.heap.size + 1, 0, none⟩) (by show w.heap.size ≤ w.heap.size + 1; omega) (.int .i64 0)).setCell (p := ⟨w.heap.size + 1, 1, none⟩) (by show w.heap.size ≤ w.heap.size + 1; omega) (.int .i64 0)).setCell (p := ⟨w.heap.size + 1, 2, none⟩) (by show w.heap.size ≤ w.heap.size + 1; omega) (.int .i64 0)
    generalize ((y.setCell ⟨w.heap.size + 1, 0, none⟩ (.int .i64 0)).setCell ⟨w.heap.size + 1, 1, none⟩ (.int .i64 0)).setCell ⟨w.heap.size + 1, 2, none⟩ (.int .i64 0) = w4 at hr hbf ⊢
    have y0 : w4.cell? ⟨w.heap.size + 1, 0, none⟩ = some (.int .i64 0) := block_cell hr rfl
    have y1 : w4.cell? ⟨w.heap.size + 1, 1, none⟩ = some (.int .i64 0) := block_cell hr rfl
    have y2 : w4.cell? ⟨w.heap.size + 1, 2, none⟩ = some (.int .i64 0) := block_cell hr rfl
    exact bodyPost_ret (v := .tuple #[.agg #[.int .i64 0, .int .i64 0, .int .i64 0], .int .i64 4]) (by simp [results, Try.results24, go_sem, y0, y1, y2]) rfl ⟨by rw [← HX.out]; rfl, hbf⟩
  rw [if_neg (by rw [k2]; simp)] at HX
  rw [k2] at DP
  clear k2
  have MF := Lib.hid (DM.out f)
  have MT := Lib.hid (DM.out t)
  cases k3 : momG f
  case false =>
    rw [k3] at MF HX
    rw [Bool.false_and, if_pos rfl] at HX
    clear k3
    go_enter Try.func24, Try.ntmps24
    go_upto_region 1 with (fail)
    rw [HW0.out]
    refine ext_wp fun X => ?_
    go_wp2_with fail
    refine (Ext.calls _ (DK.out _)).mono ?_
    rintro e w2 ⟨rfl, Y, rfl⟩
    go_wp2_with fail
    refine (Ext.calls _ (DP.out _)).mono ?_
    rintro e w2 ⟨rfl, Y, rfl⟩
    go_wp2_with fail
    refine (MF.out _).mono ?_
    rintro e w3 ⟨rfl, rfl⟩
    have r4 := below_block Y.2 HR.out
    have hdn := Y.down HB.out hbs
    have q0 : Y.1.cell? ⟨w.heap.size + 1, 0, none⟩ = some (.int .i64 0) := block_cell r4 rfl
    have q1 : Y.1.cell? ⟨w.heap.size + 1, 1, none⟩ = some (.int .i64 0) := block_cell r4 rfl
    have q2 : Y.1.cell? ⟨w.heap.size + 1, 2, none⟩ = some (.int .i64 0) := block_cell r4 rfl
    have z0 : Y.1.frozen? ⟨w.heap.size + 1, 0, none⟩ = false := block_free r4
    have z1 : Y.1.frozen? ⟨w.heap.size + 1, 1, none⟩ = false := block_free r4
    have z2 : Y.1.frozen? ⟨w.heap.size + 1, 2, none⟩ = false := block_free r4
    have HR4 := Lib.hid r4
    have HDN := Lib.hid hdn
    clear r4 hdn
    generalize Y.1 = y at *
    go_wp2_with fail
    have hr : (((y.setCell ⟨w.heap.size + 1, 0, none⟩ (.int .i64 0)).setCell ⟨w.heap.size + 1, 1, none⟩ (.int .i64 0)).setCell ⟨w.heap.size + 1, 2, none⟩ (.int .i64 0)).heap[w.heap.size + 1]? = some (.cells #[.int .i64 0, .int .i64 0, .int .i64 0] 60 (0, 0)) := cells_setCell (cells_setCell (cells_setCell HR4.out))
    have hbf := ((HDN.out.setCell (p := ⟨w.heap.size + 1, 0, none⟩) (by show w.heap.size ≤ w.heap.size + 1; omega) (.int .i64 0)).setCell (p := ⟨w.heap.size + 1, 1, none⟩) (by show w.heap.size ≤ w.heap.size + 1; omega) (.int .i64 0)).setCell (p := ⟨w.heap.size + 1, 2, none⟩) (by show w.heap.size ≤ w.heap.size + 1; omega) (.int .i64 0)
    generalize ((y.setCell ⟨w.heap.size + 1, 0, none⟩ (.int .i64 0)).setCell ⟨w.heap.size + 1, 1, none⟩ (.int .i64 0)).setCell ⟨w.heap.size + 1, 2, none⟩ (.int .i64 0) = w4 at hr hbf ⊢
    have y0 : w4.cell? ⟨w.heap.size + 1, 0, none⟩ = some (.int .i64 0) := block_cell hr rfl
    have y1 : w4.cell? ⟨w.heap.size + 1, 1, none⟩ = some (.int .i64 0) := block_cell hr rfl
    have y2 : w4.cell? ⟨w.heap.size + 1, 2, none⟩ = some (.int .i64 0) := block_cell hr rfl
    exact bodyPost_ret (v := .tuple #[.agg #[.int .i64 0, .int .i64 0, .int .i64 0], .int .i64 9]) (by simp [results, Try.results24, go_sem, y0, y1, y2]) rfl ⟨by rw [← HX.out]; rfl, hbf⟩
  rw [k3] at MF HX
  rw [Bool.true_and] at HX
  clear k3
  cases k4 : momG t
  case false =>
    rw [k4] at MT HX
    rw [if_pos rfl] at HX
    clear k4
    go_enter Try.func24, Try.ntmps24
    go_upto_region 1 with (fail)
    rw [HW0.out]
    refine ext_wp fun X => ?_
    go_wp2_with fail
    refine (Ext.calls _ (DK.out _)).mono ?_
    rintro e w2 ⟨rfl, Y, rfl⟩
    go_wp2_with fail
    refine (Ext.calls _ (DP.out _)).mono ?_
    rintro e w2 ⟨rfl, Y, rfl⟩
    go_wp2_with fail
    refine (MF.out _).mono ?_
    rintro e w3 ⟨rfl, rfl⟩
    go_wp2_with fail
    refine (MT.out _).mono ?_
    rintro e w3 ⟨rfl, rfl⟩
    have r4 := below_block Y.2 HR.out
    have hdn := Y.down HB.out hbs
    have q0 : Y.1.cell? ⟨w.heap.size + 1, 0, none⟩ = some (.int .i64 0) := block_cell r4 rfl
    have q1 : Y.1.cell? ⟨w.heap.size + 1, 1, none⟩ = some (.int .i64 0) := block_cell r4 rfl
    have q2 : Y.1.cell? ⟨w.heap.size + 1, 2, none⟩ = some (.int .i64 0) := block_cell r4 rfl
    have z0 : Y.1.frozen? ⟨w.heap.size + 1, 0, none⟩ = false := block_free r4
    have z1 : Y.1.frozen? ⟨w.heap.size + 1, 1, none⟩ = false := block_free r4
    have z2 : Y.1.frozen? ⟨w.heap.size + 1, 2, none⟩ = false := block_free r4
    have HR4 := Lib.hid r4
    have HDN := Lib.hid hdn
    clear r4 hdn
    generalize Y.1 = y at *
    go_wp2_with fail
    have hr : (((y.setCell ⟨w.heap.size + 1, 0, none⟩ (.int .i64 0)).setCell ⟨w.heap.size + 1, 1, none⟩ (.int .i64 0)).setCell ⟨w.heap.size + 1, 2, none⟩ (.int .i64 0)).heap[w.heap.size + 1]? = some (.cells #[.int .i64 0, .int .i64 0, .int .i64 0] 60 (0, 0)) := cells_setCell (cells_setCell (cells_setCell HR4.out))
    have hbf := ((HDN.out.setCell (p := ⟨w.heap.size + 1, 0, none⟩) (by show w.heap.size ≤ w.heap.size + 1; omega) (.int .i64 0)).setCell (p := ⟨w.heap.size + 1, 1, none⟩) (by show w.heap.size ≤ w.heap.size + 1; omega) (.int .i64 0)).setCell (p := ⟨w.heap.size + 1, 2, none⟩) (by show w.heap.size ≤ w.heap.size + 1; omega) (.int .i64 0)
    generalize ((y.setCell ⟨w.heap.size + 1, 0, none⟩ (.int .i64 0)).setCell ⟨w.heap.size + 1, 1, none⟩ (.int .i64 0)).setCell ⟨w.heap.size + 1, 2, none⟩ (.int .i64 0) = w4 at hr hbf ⊢
    have y0 : w4.cell? ⟨w.heap.size + 1, 0, none⟩ = some (.int .i64 0) := block_cell hr rfl
    have y1 : w4.cell? ⟨w.heap.size + 1, 1, none⟩ = some (.int .i64 0) := block_cell hr rfl
    have y2 : w4.cell? ⟨w.heap.size + 1, 2, none⟩ = some (.int .i64 0) := block_cell hr rfl
    exact bodyPost_ret (v := .tuple #[.agg #[.int .i64 0, .int .i64 0, .int .i64 0], .int .i64 9]) (by simp [results, Try.results24, go_sem, y0, y1, y2]) rfl ⟨by rw [← HX.out]; rfl, hbf⟩
  rw [k4] at MT HX
  rw [if_neg (by simp)] at HX
  clear k4
  by_cases k5 : t < f
  case pos =>
    rw [if_pos k5] at HX
    have d5 : decide (t < f) = true := by simpa using k5
    clear k5
    go_enter Try.func24, Try.ntmps24
    go_upto_region 1 with (fail)
    rw [HW0.out]
    refine ext_wp fun X => ?_
    go_wp2_with fail
    refine (Ext.calls _ (DK.out _)).mono ?_
    rintro e w2 ⟨rfl, Y, rfl⟩
    go_wp2_with fail
    refine (Ext.calls _ (DP.out _)).mono ?_
    rintro e w2 ⟨rfl, Y, rfl⟩
    go_wp2_with fail
    refine (MF.out _).mono ?_
    rintro e w3 ⟨rfl, rfl⟩
    go_wp2_with fail
    refine (MT.out _).mono ?_
    rintro e w3 ⟨rfl, rfl⟩
    have r4 := below_block Y.2 HR.out
    have hdn := Y.down HB.out hbs
    have q0 : Y.1.cell? ⟨w.heap.size + 1, 0, none⟩ = some (.int .i64 0) := block_cell r4 rfl
    have q1 : Y.1.cell? ⟨w.heap.size + 1, 1, none⟩ = some (.int .i64 0) := block_cell r4 rfl
    have q2 : Y.1.cell? ⟨w.heap.size + 1, 2, none⟩ = some (.int .i64 0) := block_cell r4 rfl
    have z0 : Y.1.frozen? ⟨w.heap.size + 1, 0, none⟩ = false := block_free r4
    have z1 : Y.1.frozen? ⟨w.heap.size + 1, 1, none⟩ = false := block_free r4
    have z2 : Y.1.frozen? ⟨w.heap.size + 1, 2, none⟩ = false := block_free r4
    have HR4 := Lib.hid r4
    have HDN := Lib.hid hdn
    clear r4 hdn
    generalize Y.1 = y at *
    go_wp2_with fail
    have hr : (((y.setCell ⟨w.heap.size + 1, 0, none⟩ (.int .i64 0)).setCell ⟨w.heap.size + 1, 1, none⟩ (.int .i64 0)).setCell ⟨w.heap.size + 1, 2, none⟩ (.int .i64 0)).heap[w.heap.size + 1]? = some (.cells #[.int .i64 0, .int .i64 0, .int .i64 0] 60 (0, 0)) := cells_setCell (cells_setCell (cells_setCell HR4.out))
    have hbf := ((HDN.out.setCell (p := ⟨w.heap.size + 1, 0, none⟩) (by show w.heap.size ≤ w.heap.size + 1; omega) (.int .i64 0)).setCell (p := ⟨w.heap.size + 1, 1, none⟩) (by show w.heap.size ≤ w.heap.size + 1; omega) (.int .i64 0)).setCell (p := ⟨w.heap.size + 1, 2, none⟩) (by show w.heap.size ≤ w.heap.size + 1; omega) (.int .i64 0)
    generalize ((y.setCell ⟨w.heap.size + 1, 0, none⟩ (.int .i64 0)).setCell ⟨w.heap.size + 1, 1, none⟩ (.int .i64 0)).setCell ⟨w.heap.size + 1, 2, none⟩ (.int .i64 0) = w4 at hr hbf ⊢
    have y0 : w4.cell? ⟨w.heap.size + 1, 0, none⟩ = some (.int .i64 0) := block_cell hr rfl
    have y1 : w4.cell? ⟨w.heap.size + 1, 1, none⟩ = some (.int .i64 0) := block_cell hr rfl
    have y2 : w4.cell? ⟨w.heap.size + 1, 2, none⟩ = some (.int .i64 0) := block_cell hr rfl
    exact bodyPost_ret (v := .tuple #[.agg #[.int .i64 0, .int .i64 0, .int .i64 0], .int .i64 10]) (by simp [results, Try.results24, go_sem, y0, y1, y2]) rfl ⟨by rw [← HX.out]; rfl, hbf⟩
  rw [if_neg k5] at HX
  have d5 : decide (t < f) = false := by simpa using k5
  clear k5
  generalize wearL g part f t (evG g g.nu) = st at DW HX
  unfold wearR at DW
  go_enter Try.func24, Try.ntmps24
  go_upto_region 1 with (fail)
  rw [HW0.out]
  refine ext_wp fun X => ?_
  go_wp2_with fail
  refine (Ext.calls _ (DK.out _)).mono ?_
  rintro e w2 ⟨rfl, Y, rfl⟩
  go_wp2_with fail
  refine (Ext.calls _ (DP.out _)).mono ?_
  rintro e w2 ⟨rfl, Y, rfl⟩
  go_wp2_with fail
  refine (MF.out _).mono ?_
  rintro e w3 ⟨rfl, rfl⟩
  go_wp2_with fail
  refine (MT.out _).mono ?_
  rintro e w3 ⟨rfl, rfl⟩
  go_wp2_with fail
  refine (Ext.calls _ (DW.out _)).mono ?_
  rintro e w2 ⟨rfl, Y, rfl⟩
  have r4 := below_block Y.2 HR.out
  have hdn := Y.down HB.out hbs
  have q0 : Y.1.cell? ⟨w.heap.size + 1, 0, none⟩ = some (.int .i64 0) := block_cell r4 rfl
  have q1 : Y.1.cell? ⟨w.heap.size + 1, 1, none⟩ = some (.int .i64 0) := block_cell r4 rfl
  have q2 : Y.1.cell? ⟨w.heap.size + 1, 2, none⟩ = some (.int .i64 0) := block_cell r4 rfl
  have z0 : Y.1.frozen? ⟨w.heap.size + 1, 0, none⟩ = false := block_free r4
  have z1 : Y.1.frozen? ⟨w.heap.size + 1, 1, none⟩ = false := block_free r4
  have z2 : Y.1.frozen? ⟨w.heap.size + 1, 2, none⟩ = false := block_free r4
  have HR4 := Lib.hid r4
  have HDN := Lib.hid hdn
  clear r4 hdn
  generalize Y.1 = y at *
  go_wp2_with fail
  have hr : (((y.setCell ⟨w.heap.size + 1, 0, none⟩ (.int .i64 st.sec)).setCell ⟨w.heap.size + 1, 1, none⟩ (.int .i64 st.way)).setCell ⟨w.heap.size + 1, 2, none⟩ (.int .i64 st.uses)).heap[w.heap.size + 1]? = some (.cells #[.int .i64 st.sec, .int .i64 st.way, .int .i64 st.uses] 60 (0, 0)) := cells_setCell (cells_setCell (cells_setCell HR4.out))
  have hbf := ((HDN.out.setCell (p := ⟨w.heap.size + 1, 0, none⟩) (by show w.heap.size ≤ w.heap.size + 1; omega) (.int .i64 st.sec)).setCell (p := ⟨w.heap.size + 1, 1, none⟩) (by show w.heap.size ≤ w.heap.size + 1; omega) (.int .i64 st.way)).setCell (p := ⟨w.heap.size + 1, 2, none⟩) (by show w.heap.size ≤ w.heap.size + 1; omega) (.int .i64 st.uses)
  generalize ((y.setCell ⟨w.heap.size + 1, 0, none⟩ (.int .i64 st.sec)).setCell ⟨w.heap.size + 1, 1, none⟩ (.int .i64 st.way)).setCell ⟨w.heap.size + 1, 2, none⟩ (.int .i64 st.uses) = w4 at hr hbf ⊢
  have y0 : w4.cell? ⟨w.heap.size + 1, 0, none⟩ = some (.int .i64 st.sec) := block_cell hr rfl
  have y1 : w4.cell? ⟨w.heap.size + 1, 1, none⟩ = some (.int .i64 st.way) := block_cell hr rfl
  have y2 : w4.cell? ⟨w.heap.size + 1, 2, none⟩ = some (.int .i64 st.uses) := block_cell hr rfl
  exact bodyPost_ret (v := .tuple #[.agg #[.int .i64 st.sec, .int .i64 st.way, .int .i64 st.uses], .int .i64 0]) (by simp [results, Try.results24, go_sem, y0, y1, y2]) rfl ⟨by rw [← HX.out]; rfl, hbf⟩

set_option maxHeartbeats 4000000 in
set_option maxRecDepth 100000 in
theorem rwof_any (g : Gar) (a0 a1 a2 a3 : Option Addr) (c0 c1 c2 c3 : Nat) (part : ByteArray) (f t : Int) (w : World) (h : GarIn w g a0 a1 a2 a3) (hc2 : g.nm ≤ c2) (hc3 : g.nu ≤ c3) :
    Calls Try.prog 25 #[garV g a0 a1 a2 a3 c0 c1 c2 c3, .string part, .int .i64 f, .int .i64 t] w fun e w' => e = .returned (wofR (wofF g part f t)) ∧ Below w.heap.size w w' := by
  have HG := Lib.hid h
  obtain ⟨W0, hW0, hb0, hs0, hq0⟩ := allocs w [.cells #[.slice a0 g.np c0, .slice a1 g.ns c1, .slice a2 g.nm c2, .slice a3 g.nu c3] 27, .cells #[.int .i64 0, .int .i64 0, .int .i64 0] 60]
  have hs0 : W0.heap.size = w.heap.size + 2 := hs0
  have G0 := Ext.ex (show W0.cell? ⟨w.heap.size, 0, none⟩ = some (.slice a0 g.np c0) from block_cell (hq0 0 _ rfl) rfl)
  have G1 := Ext.ex (show W0.cell? ⟨w.heap.size, 1, none⟩ = some (.slice a1 g.ns c1) from block_cell (hq0 0 _ rfl) rfl)
  have G2 := Ext.ex (show W0.cell? ⟨w.heap.size, 2, none⟩ = some (.slice a2 g.nm c2) from block_cell (hq0 0 _ rfl) rfl)
  have G3 := Ext.ex (show W0.cell? ⟨w.heap.size, 3, none⟩ = some (.slice a3 g.nu c3) from block_cell (hq0 0 _ rfl) rfl)
  have HR := Lib.hid (hq0 1 _ rfl)
  have HW0 := Lib.hid (show (w.alloc (.cells #[.slice a0 g.np c0, .slice a1 g.ns c1, .slice a2 g.nm c2, .slice a3 g.nu c3] 27)).alloc (.cells #[.int .i64 0, .int .i64 0, .int .i64 0] 60) = W0 from hW0)
  have HB := Lib.hid hb0
  have hbs : w.heap.size ≤ W0.heap.size := by omega
  have DK := Lib.hid (fun (Y : Ext W0) => rCheck_any g a0 a1 a2 a3 c0 c1 c2 c3 Y.1 (HG.out.below (Y.down HB.out hbs)) hc2 hc3)
  have DP := Lib.hid (fun (Y : Ext W0) => partAt_any g a0 a1 a2 a3 c0 c1 c2 c3 part Y.1 (HG.out.below (Y.down HB.out hbs)))
  have DM := Lib.hid (fun (n : Int) (W : World) => rmoment_any n W)
  have DW0 := Lib.hid (fun (hk : chk g = 0) (Y : Ext W0) => rwear_any g a0 a1 a2 a3 c0 c1 c2 c3 part f t Y.1 (HG.out.below (Y.down HB.out hbs)) hk)
  have hix := hasP_idx g part
  generalize idxF (fun i => decide (g.pn i = part)) g.np 0 = zi at DP hix
  obtain ⟨xx, hxx⟩ : ∃ x, wofF g part f t = x := ⟨_, rfl⟩
  rw [hxx]
  unfold wofF at hxx
  have HX := Lib.hid hxx
  unfold garV at DK DP DW0
  unfold garV
  clear h hW0 hb0 hs0 hq0 hxx
  by_cases k1 : chk g = 0
  case neg =>
    rw [if_pos k1] at HX
    have n1 : (chk g != 0) = true := by rw [bne_iff_ne]; exact k1
    clear k1 DW0
    generalize chk g = ck at *
    go_enter Try.func25, Try.ntmps25
    go_upto_region 1 with (fail)
    rw [HW0.out]
    refine ext_wp fun X => ?_
    go_wp2_with fail
    refine (Ext.calls _ (DK.out _)).mono ?_
    rintro e w2 ⟨rfl, Y, rfl⟩
    have r4 := below_block Y.2 HR.out
    have hdn := Y.down HB.out hbs
    have q0 : Y.1.cell? ⟨w.heap.size + 1, 0, none⟩ = some (.int .i64 0) := block_cell r4 rfl
    have q1 : Y.1.cell? ⟨w.heap.size + 1, 1, none⟩ = some (.int .i64 0) := block_cell r4 rfl
    have q2 : Y.1.cell? ⟨w.heap.size + 1, 2, none⟩ = some (.int .i64 0) := block_cell r4 rfl
    have z0 : Y.1.frozen? ⟨w.heap.size + 1, 0, none⟩ = false := block_free r4
    have z1 : Y.1.frozen? ⟨w.heap.size + 1, 1, none⟩ = false := block_free r4
    have z2 : Y.1.frozen? ⟨w.heap.size + 1, 2, none⟩ = false := block_free r4
    have HR4 := Lib.hid r4
    have HDN := Lib.hid hdn
    clear r4 hdn
    generalize Y.1 = y at *
    go_wp2_with fail
    have hr : (((y.setCell ⟨w.heap.size + 1, 0, none⟩ (.int .i64 0)).setCell ⟨w.heap.size + 1, 1, none⟩ (.int .i64 0)).setCell ⟨w.heap.size + 1, 2, none⟩ (.int .i64 0)).heap[w.heap.size + 1]? = some (.cells #[.int .i64 0, .int .i64 0, .int .i64 0] 60 (0, 0)) := cells_setCell (cells_setCell (cells_setCell HR4.out))
    have hbf := ((HDN.out.setCell (p := ⟨w.heap.size + 1, 0, none⟩) (by show w.heap.size ≤ w.heap.size + 1; omega) (.int .i64 0)).setCell (p := ⟨w.heap.size + 1, 1, none⟩) (by show w.heap.size ≤ w.heap.size + 1; omega) (.int .i64 0)).setCell (p := ⟨w.heap.size + 1, 2, none⟩) (by show w.heap.size ≤ w.heap.size + 1; omega) (.int .i64 0)
    generalize ((y.setCell ⟨w.heap.size + 1, 0, none⟩ (.int .i64 0)).setCell ⟨w.heap.size + 1, 1, none⟩ (.int .i64 0)).setCell ⟨w.heap.size + 1, 2, none⟩ (.int .i64 0) = w4 at hr hbf ⊢
    have y0 : w4.cell? ⟨w.heap.size + 1, 0, none⟩ = some (.int .i64 0) := block_cell hr rfl
    have y1 : w4.cell? ⟨w.heap.size + 1, 1, none⟩ = some (.int .i64 0) := block_cell hr rfl
    have y2 : w4.cell? ⟨w.heap.size + 1, 2, none⟩ = some (.int .i64 0) := block_cell hr rfl
    exact bodyPost_ret (v := .tuple #[.agg #[.int .i64 0, .int .i64 0, .int .i64 0], .int .i64 ck]) (by simp [results, Try.results25, go_sem, y0, y1, y2]) rfl ⟨by rw [← HX.out]; rfl, hbf⟩
  rw [if_neg (by rw [k1]; simp)] at HX
  rw [k1] at DK
  have DW := Lib.hid (DW0.out k1)
  have n1 : ((0 : Int) != 0) = false := rfl
  clear k1 DW0
  cases k2 : hasP g part
  case false =>
    rw [if_pos k2] at HX
    have d1 : decide (zi < 0) = true := by rw [hix, k2]; rfl
    clear hix
    clear k2
    go_enter Try.func25, Try.ntmps25
    go_upto_region 1 with (fail)
    rw [HW0.out]
    refine ext_wp fun X => ?_
    go_wp2_with fail
    refine (Ext.calls _ (DK.out _)).mono ?_
    rintro e w2 ⟨rfl, Y, rfl⟩
    go_wp2_with fail
    refine (Ext.calls _ (DP.out _)).mono ?_
    rintro e w2 ⟨rfl, Y, rfl⟩
    have r4 := below_block Y.2 HR.out
    have hdn := Y.down HB.out hbs
    have q0 : Y.1.cell? ⟨w.heap.size + 1, 0, none⟩ = some (.int .i64 0) := block_cell r4 rfl
    have q1 : Y.1.cell? ⟨w.heap.size + 1, 1, none⟩ = some (.int .i64 0) := block_cell r4 rfl
    have q2 : Y.1.cell? ⟨w.heap.size + 1, 2, none⟩ = some (.int .i64 0) := block_cell r4 rfl
    have z0 : Y.1.frozen? ⟨w.heap.size + 1, 0, none⟩ = false := block_free r4
    have z1 : Y.1.frozen? ⟨w.heap.size + 1, 1, none⟩ = false := block_free r4
    have z2 : Y.1.frozen? ⟨w.heap.size + 1, 2, none⟩ = false := block_free r4
    have HR4 := Lib.hid r4
    have HDN := Lib.hid hdn
    clear r4 hdn
    generalize Y.1 = y at *
    go_wp2_with fail
    have hr : (((y.setCell ⟨w.heap.size + 1, 0, none⟩ (.int .i64 0)).setCell ⟨w.heap.size + 1, 1, none⟩ (.int .i64 0)).setCell ⟨w.heap.size + 1, 2, none⟩ (.int .i64 0)).heap[w.heap.size + 1]? = some (.cells #[.int .i64 0, .int .i64 0, .int .i64 0] 60 (0, 0)) := cells_setCell (cells_setCell (cells_setCell HR4.out))
    have hbf := ((HDN.out.setCell (p := ⟨w.heap.size + 1, 0, none⟩) (by show w.heap.size ≤ w.heap.size + 1; omega) (.int .i64 0)).setCell (p := ⟨w.heap.size + 1, 1, none⟩) (by show w.heap.size ≤ w.heap.size + 1; omega) (.int .i64 0)).setCell (p := ⟨w.heap.size + 1, 2, none⟩) (by show w.heap.size ≤ w.heap.size + 1; omega) (.int .i64 0)
    generalize ((y.setCell ⟨w.heap.size + 1, 0, none⟩ (.int .i64 0)).setCell ⟨w.heap.size + 1, 1, none⟩ (.int .i64 0)).setCell ⟨w.heap.size + 1, 2, none⟩ (.int .i64 0) = w4 at hr hbf ⊢
    have y0 : w4.cell? ⟨w.heap.size + 1, 0, none⟩ = some (.int .i64 0) := block_cell hr rfl
    have y1 : w4.cell? ⟨w.heap.size + 1, 1, none⟩ = some (.int .i64 0) := block_cell hr rfl
    have y2 : w4.cell? ⟨w.heap.size + 1, 2, none⟩ = some (.int .i64 0) := block_cell hr rfl
    exact bodyPost_ret (v := .tuple #[.agg #[.int .i64 0, .int .i64 0, .int .i64 0], .int .i64 4]) (by simp [results, Try.results25, go_sem, y0, y1, y2]) rfl ⟨by rw [← HX.out]; rfl, hbf⟩
  rw [if_neg (by rw [k2]; simp)] at HX
  have d1 : decide (zi < 0) = false := by rw [hix, k2]; rfl
  clear hix
  clear k2
  have MF := Lib.hid (DM.out f)
  have MT := Lib.hid (DM.out t)
  cases k3 : momG f
  case false =>
    rw [k3] at MF HX
    rw [Bool.false_and, if_pos rfl] at HX
    clear k3
    go_enter Try.func25, Try.ntmps25
    go_upto_region 1 with (fail)
    rw [HW0.out]
    refine ext_wp fun X => ?_
    go_wp2_with fail
    refine (Ext.calls _ (DK.out _)).mono ?_
    rintro e w2 ⟨rfl, Y, rfl⟩
    go_wp2_with fail
    refine (Ext.calls _ (DP.out _)).mono ?_
    rintro e w2 ⟨rfl, Y, rfl⟩
    go_wp2_with fail
    refine (MF.out _).mono ?_
    rintro e w3 ⟨rfl, rfl⟩
    have r4 := below_block Y.2 HR.out
    have hdn := Y.down HB.out hbs
    have q0 : Y.1.cell? ⟨w.heap.size + 1, 0, none⟩ = some (.int .i64 0) := block_cell r4 rfl
    have q1 : Y.1.cell? ⟨w.heap.size + 1, 1, none⟩ = some (.int .i64 0) := block_cell r4 rfl
    have q2 : Y.1.cell? ⟨w.heap.size + 1, 2, none⟩ = some (.int .i64 0) := block_cell r4 rfl
    have z0 : Y.1.frozen? ⟨w.heap.size + 1, 0, none⟩ = false := block_free r4
    have z1 : Y.1.frozen? ⟨w.heap.size + 1, 1, none⟩ = false := block_free r4
    have z2 : Y.1.frozen? ⟨w.heap.size + 1, 2, none⟩ = false := block_free r4
    have HR4 := Lib.hid r4
    have HDN := Lib.hid hdn
    clear r4 hdn
    generalize Y.1 = y at *
    go_wp2_with fail
    have hr : (((y.setCell ⟨w.heap.size + 1, 0, none⟩ (.int .i64 0)).setCell ⟨w.heap.size + 1, 1, none⟩ (.int .i64 0)).setCell ⟨w.heap.size + 1, 2, none⟩ (.int .i64 0)).heap[w.heap.size + 1]? = some (.cells #[.int .i64 0, .int .i64 0, .int .i64 0] 60 (0, 0)) := cells_setCell (cells_setCell (cells_setCell HR4.out))
    have hbf := ((HDN.out.setCell (p := ⟨w.heap.size + 1, 0, none⟩) (by show w.heap.size ≤ w.heap.size + 1; omega) (.int .i64 0)).setCell (p := ⟨w.heap.size + 1, 1, none⟩) (by show w.heap.size ≤ w.heap.size + 1; omega) (.int .i64 0)).setCell (p := ⟨w.heap.size + 1, 2, none⟩) (by show w.heap.size ≤ w.heap.size + 1; omega) (.int .i64 0)
    generalize ((y.setCell ⟨w.heap.size + 1, 0, none⟩ (.int .i64 0)).setCell ⟨w.heap.size + 1, 1, none⟩ (.int .i64 0)).setCell ⟨w.heap.size + 1, 2, none⟩ (.int .i64 0) = w4 at hr hbf ⊢
    have y0 : w4.cell? ⟨w.heap.size + 1, 0, none⟩ = some (.int .i64 0) := block_cell hr rfl
    have y1 : w4.cell? ⟨w.heap.size + 1, 1, none⟩ = some (.int .i64 0) := block_cell hr rfl
    have y2 : w4.cell? ⟨w.heap.size + 1, 2, none⟩ = some (.int .i64 0) := block_cell hr rfl
    exact bodyPost_ret (v := .tuple #[.agg #[.int .i64 0, .int .i64 0, .int .i64 0], .int .i64 9]) (by simp [results, Try.results25, go_sem, y0, y1, y2]) rfl ⟨by rw [← HX.out]; rfl, hbf⟩
  rw [k3] at MF HX
  rw [Bool.true_and] at HX
  clear k3
  cases k4 : momG t
  case false =>
    rw [k4] at MT HX
    rw [if_pos rfl] at HX
    clear k4
    go_enter Try.func25, Try.ntmps25
    go_upto_region 1 with (fail)
    rw [HW0.out]
    refine ext_wp fun X => ?_
    go_wp2_with fail
    refine (Ext.calls _ (DK.out _)).mono ?_
    rintro e w2 ⟨rfl, Y, rfl⟩
    go_wp2_with fail
    refine (Ext.calls _ (DP.out _)).mono ?_
    rintro e w2 ⟨rfl, Y, rfl⟩
    go_wp2_with fail
    refine (MF.out _).mono ?_
    rintro e w3 ⟨rfl, rfl⟩
    go_wp2_with fail
    refine (MT.out _).mono ?_
    rintro e w3 ⟨rfl, rfl⟩
    have r4 := below_block Y.2 HR.out
    have hdn := Y.down HB.out hbs
    have q0 : Y.1.cell? ⟨w.heap.size + 1, 0, none⟩ = some (.int .i64 0) := block_cell r4 rfl
    have q1 : Y.1.cell? ⟨w.heap.size + 1, 1, none⟩ = some (.int .i64 0) := block_cell r4 rfl
    have q2 : Y.1.cell? ⟨w.heap.size + 1, 2, none⟩ = some (.int .i64 0) := block_cell r4 rfl
    have z0 : Y.1.frozen? ⟨w.heap.size + 1, 0, none⟩ = false := block_free r4
    have z1 : Y.1.frozen? ⟨w.heap.size + 1, 1, none⟩ = false := block_free r4
    have z2 : Y.1.frozen? ⟨w.heap.size + 1, 2, none⟩ = false := block_free r4
    have HR4 := Lib.hid r4
    have HDN := Lib.hid hdn
    clear r4 hdn
    generalize Y.1 = y at *
    go_wp2_with fail
    have hr : (((y.setCell ⟨w.heap.size + 1, 0, none⟩ (.int .i64 0)).setCell ⟨w.heap.size + 1, 1, none⟩ (.int .i64 0)).setCell ⟨w.heap.size + 1, 2, none⟩ (.int .i64 0)).heap[w.heap.size + 1]? = some (.cells #[.int .i64 0, .int .i64 0, .int .i64 0] 60 (0, 0)) := cells_setCell (cells_setCell (cells_setCell HR4.out))
    have hbf := ((HDN.out.setCell (p := ⟨w.heap.size + 1, 0, none⟩) (by show w.heap.size ≤ w.heap.size + 1; omega) (.int .i64 0)).setCell (p := ⟨w.heap.size + 1, 1, none⟩) (by show w.heap.size ≤ w.heap.size + 1; omega) (.int .i64 0)).setCell (p := ⟨w.heap.size + 1, 2, none⟩) (by show w.heap.size ≤ w.heap.size + 1; omega) (.int .i64 0)
    generalize ((y.setCell ⟨w.heap.size + 1, 0, none⟩ (.int .i64 0)).setCell ⟨w.heap.size + 1, 1, none⟩ (.int .i64 0)).setCell ⟨w.heap.size + 1, 2, none⟩ (.int .i64 0) = w4 at hr hbf ⊢
    have y0 : w4.cell? ⟨w.heap.size + 1, 0, none⟩ = some (.int .i64 0) := block_cell hr rfl
    have y1 : w4.cell? ⟨w.heap.size + 1, 1, none⟩ = some (.int .i64 0) := block_cell hr rfl
    have y2 : w4.cell? ⟨w.heap.size + 1, 2, none⟩ = some (.int .i64 0) := block_cell hr rfl
    exact bodyPost_ret (v := .tuple #[.agg #[.int .i64 0, .int .i64 0, .int .i64 0], .int .i64 9]) (by simp [results, Try.results25, go_sem, y0, y1, y2]) rfl ⟨by rw [← HX.out]; rfl, hbf⟩
  rw [k4] at MT HX
  rw [if_neg (by simp)] at HX
  clear k4
  by_cases k5 : t < f
  case pos =>
    rw [if_pos k5] at HX
    have d5 : decide (t < f) = true := by simpa using k5
    clear k5
    go_enter Try.func25, Try.ntmps25
    go_upto_region 1 with (fail)
    rw [HW0.out]
    refine ext_wp fun X => ?_
    go_wp2_with fail
    refine (Ext.calls _ (DK.out _)).mono ?_
    rintro e w2 ⟨rfl, Y, rfl⟩
    go_wp2_with fail
    refine (Ext.calls _ (DP.out _)).mono ?_
    rintro e w2 ⟨rfl, Y, rfl⟩
    go_wp2_with fail
    refine (MF.out _).mono ?_
    rintro e w3 ⟨rfl, rfl⟩
    go_wp2_with fail
    refine (MT.out _).mono ?_
    rintro e w3 ⟨rfl, rfl⟩
    have r4 := below_block Y.2 HR.out
    have hdn := Y.down HB.out hbs
    have q0 : Y.1.cell? ⟨w.heap.size + 1, 0, none⟩ = some (.int .i64 0) := block_cell r4 rfl
    have q1 : Y.1.cell? ⟨w.heap.size + 1, 1, none⟩ = some (.int .i64 0) := block_cell r4 rfl
    have q2 : Y.1.cell? ⟨w.heap.size + 1, 2, none⟩ = some (.int .i64 0) := block_cell r4 rfl
    have z0 : Y.1.frozen? ⟨w.heap.size + 1, 0, none⟩ = false := block_free r4
    have z1 : Y.1.frozen? ⟨w.heap.size + 1, 1, none⟩ = false := block_free r4
    have z2 : Y.1.frozen? ⟨w.heap.size + 1, 2, none⟩ = false := block_free r4
    have HR4 := Lib.hid r4
    have HDN := Lib.hid hdn
    clear r4 hdn
    generalize Y.1 = y at *
    go_wp2_with fail
    have hr : (((y.setCell ⟨w.heap.size + 1, 0, none⟩ (.int .i64 0)).setCell ⟨w.heap.size + 1, 1, none⟩ (.int .i64 0)).setCell ⟨w.heap.size + 1, 2, none⟩ (.int .i64 0)).heap[w.heap.size + 1]? = some (.cells #[.int .i64 0, .int .i64 0, .int .i64 0] 60 (0, 0)) := cells_setCell (cells_setCell (cells_setCell HR4.out))
    have hbf := ((HDN.out.setCell (p := ⟨w.heap.size + 1, 0, none⟩) (by show w.heap.size ≤ w.heap.size + 1; omega) (.int .i64 0)).setCell (p := ⟨w.heap.size + 1, 1, none⟩) (by show w.heap.size ≤ w.heap.size + 1; omega) (.int .i64 0)).setCell (p := ⟨w.heap.size + 1, 2, none⟩) (by show w.heap.size ≤ w.heap.size + 1; omega) (.int .i64 0)
    generalize ((y.setCell ⟨w.heap.size + 1, 0, none⟩ (.int .i64 0)).setCell ⟨w.heap.size + 1, 1, none⟩ (.int .i64 0)).setCell ⟨w.heap.size + 1, 2, none⟩ (.int .i64 0) = w4 at hr hbf ⊢
    have y0 : w4.cell? ⟨w.heap.size + 1, 0, none⟩ = some (.int .i64 0) := block_cell hr rfl
    have y1 : w4.cell? ⟨w.heap.size + 1, 1, none⟩ = some (.int .i64 0) := block_cell hr rfl
    have y2 : w4.cell? ⟨w.heap.size + 1, 2, none⟩ = some (.int .i64 0) := block_cell hr rfl
    exact bodyPost_ret (v := .tuple #[.agg #[.int .i64 0, .int .i64 0, .int .i64 0], .int .i64 10]) (by simp [results, Try.results25, go_sem, y0, y1, y2]) rfl ⟨by rw [← HX.out]; rfl, hbf⟩
  rw [if_neg k5] at HX
  have d5 : decide (t < f) = false := by simpa using k5
  clear k5
  generalize wearL g part f t (evG g g.nu) = st at DW HX
  unfold wearR at DW
  go_enter Try.func25, Try.ntmps25
  go_upto_region 1 with (fail)
  rw [HW0.out]
  refine ext_wp fun X => ?_
  go_wp2_with fail
  refine (Ext.calls _ (DK.out _)).mono ?_
  rintro e w2 ⟨rfl, Y, rfl⟩
  go_wp2_with fail
  refine (Ext.calls _ (DP.out _)).mono ?_
  rintro e w2 ⟨rfl, Y, rfl⟩
  go_wp2_with fail
  refine (MF.out _).mono ?_
  rintro e w3 ⟨rfl, rfl⟩
  go_wp2_with fail
  refine (MT.out _).mono ?_
  rintro e w3 ⟨rfl, rfl⟩
  go_wp2_with fail
  refine (Ext.calls _ (DW.out _)).mono ?_
  rintro e w2 ⟨rfl, Y, rfl⟩
  have r4 := below_block Y.2 HR.out
  have hdn := Y.down HB.out hbs
  have q0 : Y.1.cell? ⟨w.heap.size + 1, 0, none⟩ = some (.int .i64 0) := block_cell r4 rfl
  have q1 : Y.1.cell? ⟨w.heap.size + 1, 1, none⟩ = some (.int .i64 0) := block_cell r4 rfl
  have q2 : Y.1.cell? ⟨w.heap.size + 1, 2, none⟩ = some (.int .i64 0) := block_cell r4 rfl
  have z0 : Y.1.frozen? ⟨w.heap.size + 1, 0, none⟩ = false := block_free r4
  have z1 : Y.1.frozen? ⟨w.heap.size + 1, 1, none⟩ = false := block_free r4
  have z2 : Y.1.frozen? ⟨w.heap.size + 1, 2, none⟩ = false := block_free r4
  have HR4 := Lib.hid r4
  have HDN := Lib.hid hdn
  clear r4 hdn
  generalize Y.1 = y at *
  go_wp2_with fail
  have hr : (((y.setCell ⟨w.heap.size + 1, 0, none⟩ (.int .i64 st.sec)).setCell ⟨w.heap.size + 1, 1, none⟩ (.int .i64 st.way)).setCell ⟨w.heap.size + 1, 2, none⟩ (.int .i64 st.uses)).heap[w.heap.size + 1]? = some (.cells #[.int .i64 st.sec, .int .i64 st.way, .int .i64 st.uses] 60 (0, 0)) := cells_setCell (cells_setCell (cells_setCell HR4.out))
  have hbf := ((HDN.out.setCell (p := ⟨w.heap.size + 1, 0, none⟩) (by show w.heap.size ≤ w.heap.size + 1; omega) (.int .i64 st.sec)).setCell (p := ⟨w.heap.size + 1, 1, none⟩) (by show w.heap.size ≤ w.heap.size + 1; omega) (.int .i64 st.way)).setCell (p := ⟨w.heap.size + 1, 2, none⟩) (by show w.heap.size ≤ w.heap.size + 1; omega) (.int .i64 st.uses)
  generalize ((y.setCell ⟨w.heap.size + 1, 0, none⟩ (.int .i64 st.sec)).setCell ⟨w.heap.size + 1, 1, none⟩ (.int .i64 st.way)).setCell ⟨w.heap.size + 1, 2, none⟩ (.int .i64 st.uses) = w4 at hr hbf ⊢
  have y0 : w4.cell? ⟨w.heap.size + 1, 0, none⟩ = some (.int .i64 st.sec) := block_cell hr rfl
  have y1 : w4.cell? ⟨w.heap.size + 1, 1, none⟩ = some (.int .i64 st.way) := block_cell hr rfl
  have y2 : w4.cell? ⟨w.heap.size + 1, 2, none⟩ = some (.int .i64 st.uses) := block_cell hr rfl
  exact bodyPost_ret (v := .tuple #[.agg #[.int .i64 st.sec, .int .i64 st.way, .int .i64 st.uses], .int .i64 0]) (by simp [results, Try.results25, go_sem, y0, y1, y2]) rfl ⟨by rw [← HX.out]; rfl, hbf⟩
end Go.Proofs.Ytbkpoepacjinlaa

/- Gear: Total of both (printed by wip/g/gen_tot.py). -/
namespace Go.Proofs.Ytbkpoepacjinlaa
open Go.RowKit Go.BigFrame
open Gar (chk momG hasS hasP)

def totF (g : Gar) (rig : ByteArray) : Nat → Int × Int × Int
  | 0 => (0, 0, 0)
  | i + 1 => if g.ur i = rig then ((totF g rig i).1 + g.us i, (totF g rig i).2.1 + g.uw i, (totF g rig i).2.2 + 1) else totF g rig i
theorem totF_bound {g : Gar} (h : chk g = 0) (rig : ByteArray) : ∀ n, n ≤ g.nu → 0 ≤ (totF g rig n).1 ∧ (totF g rig n).1 ≤ n * 1000000 ∧ 0 ≤ (totF g rig n).2.1 ∧ (totF g rig n).2.1 ≤ n * 1000000000 ∧ 0 ≤ (totF g rig n).2.2 ∧ (totF g rig n).2.2 ≤ n
  | 0, _ => by simp [totF]
  | n + 1, hn => by
    have ih := totF_bound h rig n (by omega)
    have hu := use_hyp h (show n < g.nu by omega)
    rw [totF]
    split
    · show 0 ≤ (totF g rig n).1 + g.us n ∧ (totF g rig n).1 + g.us n ≤ _ ∧ 0 ≤ (totF g rig n).2.1 + g.uw n ∧ (totF g rig n).2.1 + g.uw n ≤ _ ∧ 0 ≤ (totF g rig n).2.2 + 1 ∧ (totF g rig n).2.2 + 1 ≤ _
      omega
    · omega
/-- what Total returns -/
def totS (g : Gar) (rig : ByteArray) : (Int × Int × Int) × Int := if chk g ≠ 0 then ((0, 0, 0), chk g) else if nameB rig = false then ((0, 0, 0), 8) else (totF g rig g.nu, 0)
def totR (x : (Int × Int × Int) × Int) : Value := .tuple #[.agg #[.int .i64 x.1.1, .int .i64 x.1.2.1, .int .i64 x.1.2.2], .int .i64 x.2]

set_option maxHeartbeats 4000000 in
set_option maxRecDepth 100000 in
theorem tot_any (g : Gar) (a0 a1 a2 a3 : Option Addr) (c0 c1 c2 c3 : Nat) (rig : ByteArray) (w : World) (h : GarIn w g a0 a1 a2 a3) (hrg : rig.size ≤ maxLen) :
    Calls Try.prog 26 #[garV g a0 a1 a2 a3 c0 c1 c2 c3, .string rig] w fun e w' => e = .returned (totR (totS g rig)) ∧ Below w.heap.size w w' := by
  have HG := Lib.hid h
  have hl3 := h.l3
  obtain ⟨W0, hW0, hb0, hs0, hq0⟩ := allocs w [.cells #[.slice a0 g.np c0, .slice a1 g.ns c1, .slice a2 g.nm c2, .slice a3 g.nu c3] 27, .cells #[.int .i64 0, .int .i64 0, .int .i64 0] 60]
  have hs0 : W0.heap.size = w.heap.size + 2 := hs0
  have G0 := Ext.ex (show W0.cell? ⟨w.heap.size, 0, none⟩ = some (.slice a0 g.np c0) from block_cell (hq0 0 _ rfl) rfl)
  have G1 := Ext.ex (show W0.cell? ⟨w.heap.size, 1, none⟩ = some (.slice a1 g.ns c1) from block_cell (hq0 0 _ rfl) rfl)
  have G2 := Ext.ex (show W0.cell? ⟨w.heap.size, 2, none⟩ = some (.slice a2 g.nm c2) from block_cell (hq0 0 _ rfl) rfl)
  have G3 := Ext.ex (show W0.cell? ⟨w.heap.size, 3, none⟩ = some (.slice a3 g.nu c3) from block_cell (hq0 0 _ rfl) rfl)
  have HR := Lib.hid (hq0 1 _ rfl)
  have HW0 := Lib.hid (show (w.alloc (.cells #[.slice a0 g.np c0, .slice a1 g.ns c1, .slice a2 g.nm c2, .slice a3 g.nu c3] 27)).alloc (.cells #[.int .i64 0, .int .i64 0, .int .i64 0] 60) = W0 from hW0)
  have HB := Lib.hid hb0
  have hbs : w.heap.size ≤ W0.heap.size := by omega
  have hbs2 : w.heap.size + 1 < W0.heap.size := by omega
  have DK := Lib.hid (fun (Y : Ext W0) => gCheck_any g a0 a1 a2 a3 c0 c1 c2 c3 Y.1 (HG.out.below (Y.down HB.out hbs)))
  have DN := Lib.hid (fun (W : World) => isName_any rig W hrg)
  have HTB0 := Lib.hid (fun (hk : chk g = 0) => totF_bound hk rig)
  have HUH0 := Lib.hid (fun (hk : chk g = 0) (i : Nat) (hi : i < g.nu) => use_hyp hk hi)
  have hnu0 : chk g = 0 → g.nu ≤ 5000 := fun hk => (Gar.chk_parts hk).2.2.2.1
  obtain ⟨xx, hxx⟩ : ∃ x, totS g rig = x := ⟨_, rfl⟩
  rw [hxx]
  unfold totS at hxx
  have HX := Lib.hid hxx
  unfold garV at DK
  unfold garV
  clear h hW0 hb0 hs0 hq0 hxx hrg
  by_cases k1 : chk g = 0
  case neg =>
    rw [if_pos k1] at HX
    have n1 : (chk g != 0) = true := by rw [bne_iff_ne]; exact k1
    clear k1 HTB0 HUH0 hnu0
    generalize chk g = ck at *
    go_enter Try.func26, Try.ntmps26
    go_upto_region 1 with (fail)
    rw [HW0.out]
    refine ext_wp fun X => ?_
    go_wp2_with fail
    refine (Ext.calls _ (DK.out _)).mono ?_
    rintro e w2 ⟨rfl, Y, rfl⟩
    have r4 := below_block Y.2 HR.out
    have hdn := Y.down HB.out hbs
    have HDN := Lib.hid hdn
    clear hdn
    generalize Y.1 = y at *
    have q0 : y.cell? ⟨w.heap.size + 1, 0, none⟩ = some (.int .i64 0) := block_cell r4 rfl
    have q1 : y.cell? ⟨w.heap.size + 1, 1, none⟩ = some (.int .i64 0) := block_cell r4 rfl
    have q2 : y.cell? ⟨w.heap.size + 1, 2, none⟩ = some (.int .i64 0) := block_cell r4 rfl
    have z0 : y.frozen? ⟨w.heap.size + 1, 0, none⟩ = false := block_free r4
    have z1 : y.frozen? ⟨w.heap.size + 1, 1, none⟩ = false := block_free r4
    have z2 : y.frozen? ⟨w.heap.size + 1, 2, none⟩ = false := block_free r4
    have HR4 := Lib.hid r4
    clear r4
    go_wp2_with fail
    have hr : (((y.setCell ⟨w.heap.size + 1, 0, none⟩ (.int .i64 0)).setCell ⟨w.heap.size + 1, 1, none⟩ (.int .i64 0)).setCell ⟨w.heap.size + 1, 2, none⟩ (.int .i64 0)).heap[w.heap.size + 1]? = some (.cells #[.int .i64 0, .int .i64 0, .int .i64 0] 60 (0, 0)) := cells_setCell (cells_setCell (cells_setCell HR4.out))
    have hbf := ((HDN.out.setCell (p := ⟨w.heap.size + 1, 0, none⟩) (by show w.heap.size ≤ w.heap.size + 1; omega) (.int .i64 0)).setCell (p := ⟨w.heap.size + 1, 1, none⟩) (by show w.heap.size ≤ w.heap.size + 1; omega) (.int .i64 0)).setCell (p := ⟨w.heap.size + 1, 2, none⟩) (by show w.heap.size ≤ w.heap.size + 1; omega) (.int .i64 0)
    generalize ((y.setCell ⟨w.heap.size + 1, 0, none⟩ (.int .i64 0)).setCell ⟨w.heap.size + 1, 1, none⟩ (.int .i64 0)).setCell ⟨w.heap.size + 1, 2, none⟩ (.int .i64 0) = w4 at hr hbf ⊢
    have y0 : w4.cell? ⟨w.heap.size + 1, 0, none⟩ = some (.int .i64 0) := block_cell hr rfl
    have y1 : w4.cell? ⟨w.heap.size + 1, 1, none⟩ = some (.int .i64 0) := block_cell hr rfl
    have y2 : w4.cell? ⟨w.heap.size + 1, 2, none⟩ = some (.int .i64 0) := block_cell hr rfl
    exact bodyPost_ret (v := .tuple #[.agg #[.int .i64 0, .int .i64 0, .int .i64 0], .int .i64 ck]) (by simp [results, Try.results26, go_sem, y0, y1, y2]) rfl ⟨by rw [← HX.out]; rfl, hbf⟩
  rw [if_neg (by rw [k1]; simp)] at HX
  rw [k1] at DK
  have HTB := Lib.hid (HTB0.out k1)
  have HUH := Lib.hid (HUH0.out k1)
  have hnu := hnu0 k1
  have n1 : ((0 : Int) != 0) = false := rfl
  clear k1 HTB0 HUH0 hnu0
  cases k2 : nameB rig
  case false =>
    rw [if_pos k2] at HX
    rw [k2] at DN
    clear k2
    go_enter Try.func26, Try.ntmps26
    go_upto_region 1 with (fail)
    rw [HW0.out]
    refine ext_wp fun X => ?_
    go_wp2_with fail
    refine (Ext.calls _ (DK.out _)).mono ?_
    rintro e w2 ⟨rfl, Y, rfl⟩
    go_wp2_with fail
    refine (DN.out _).mono ?_
    rintro e w2 ⟨rfl, rfl⟩
    have r4 := below_block Y.2 HR.out
    have hdn := Y.down HB.out hbs
    have HDN := Lib.hid hdn
    clear hdn
    generalize Y.1 = y at *
    have q0 : y.cell? ⟨w.heap.size + 1, 0, none⟩ = some (.int .i64 0) := block_cell r4 rfl
    have q1 : y.cell? ⟨w.heap.size + 1, 1, none⟩ = some (.int .i64 0) := block_cell r4 rfl
    have q2 : y.cell? ⟨w.heap.size + 1, 2, none⟩ = some (.int .i64 0) := block_cell r4 rfl
    have z0 : y.frozen? ⟨w.heap.size + 1, 0, none⟩ = false := block_free r4
    have z1 : y.frozen? ⟨w.heap.size + 1, 1, none⟩ = false := block_free r4
    have z2 : y.frozen? ⟨w.heap.size + 1, 2, none⟩ = false := block_free r4
    have HR4 := Lib.hid r4
    clear r4
    go_wp2_with fail
    have hr : (((y.setCell ⟨w.heap.size + 1, 0, none⟩ (.int .i64 0)).setCell ⟨w.heap.size + 1, 1, none⟩ (.int .i64 0)).setCell ⟨w.heap.size + 1, 2, none⟩ (.int .i64 0)).heap[w.heap.size + 1]? = some (.cells #[.int .i64 0, .int .i64 0, .int .i64 0] 60 (0, 0)) := cells_setCell (cells_setCell (cells_setCell HR4.out))
    have hbf := ((HDN.out.setCell (p := ⟨w.heap.size + 1, 0, none⟩) (by show w.heap.size ≤ w.heap.size + 1; omega) (.int .i64 0)).setCell (p := ⟨w.heap.size + 1, 1, none⟩) (by show w.heap.size ≤ w.heap.size + 1; omega) (.int .i64 0)).setCell (p := ⟨w.heap.size + 1, 2, none⟩) (by show w.heap.size ≤ w.heap.size + 1; omega) (.int .i64 0)
    generalize ((y.setCell ⟨w.heap.size + 1, 0, none⟩ (.int .i64 0)).setCell ⟨w.heap.size + 1, 1, none⟩ (.int .i64 0)).setCell ⟨w.heap.size + 1, 2, none⟩ (.int .i64 0) = w4 at hr hbf ⊢
    have y0 : w4.cell? ⟨w.heap.size + 1, 0, none⟩ = some (.int .i64 0) := block_cell hr rfl
    have y1 : w4.cell? ⟨w.heap.size + 1, 1, none⟩ = some (.int .i64 0) := block_cell hr rfl
    have y2 : w4.cell? ⟨w.heap.size + 1, 2, none⟩ = some (.int .i64 0) := block_cell hr rfl
    exact bodyPost_ret (v := .tuple #[.agg #[.int .i64 0, .int .i64 0, .int .i64 0], .int .i64 8]) (by simp [results, Try.results26, go_sem, y0, y1, y2]) rfl ⟨by rw [← HX.out]; rfl, hbf⟩
  rw [if_neg (by rw [k2]; simp)] at HX
  rw [k2] at DN
  clear k2
  go_enter Try.func26, Try.ntmps26
  go_upto_region 1 with (fail)
  rw [HW0.out]
  refine ext_wp fun X => ?_
  go_wp2_with fail
  refine (Ext.calls _ (DK.out _)).mono ?_
  rintro e w2 ⟨rfl, Y, rfl⟩
  go_wp2_with fail
  refine (DN.out _).mono ?_
  rintro e w2 ⟨rfl, rfl⟩
  have r0 := below_block Y.2 HR.out
  have g3 := G3 Y
  have hdn := Y.down HB.out hbs
  have hsz := Y.2.size
  generalize Y.1 = y at *
  obtain ⟨W1, hW1, hb1, hs1, hq1⟩ := alloc_block y #[.int .i64 0, .int .i64 0, .int .i64 0] 60
  have HR1 := Lib.hid (below_block hb1 r0)
  have f3 := below_cell hb1 g3
  have HB1 := Lib.hid (hdn.trans (hb1.mono hdn.size))
  have HW1 := Lib.hid hW1
  have HQ1 : Hid (W1.heap[y.heap.size]? = some (.cells #[.int .i64 (totF g rig 0).1, .int .i64 (totF g rig 0).2.1, .int .i64 (totF g rig 0).2.2] 60 (0, 0))) := Lib.hid hq1
  have hp7 : w.heap.size + 1 < y.heap.size := by omega
  obtain ⟨p7, hp7e⟩ : ∃ p, y.heap.size = p := ⟨_, rfl⟩
  rw [hp7e] at HQ1 hp7 hs1
  have HPE := Lib.hid hp7e
  have hw1 : w.heap.size ≤ W1.heap.size := HB1.out.size
  clear r0 hdn hsz hW1 hb1 hq1 hp7e G0 G1 G2 G3
  go_upto_region 7 with (fail)
  rw [HW1.out, HPE.out]
  clear g3
  go_wp2_with fail
  go_loopw [23] (fun iv wr => ∃ (i : Nat), iv = .int .i64 i ∧ i ≤ g.nu ∧ Hid (Kept (fun b => b = p7) W1 wr) ∧ Hid (wr.heap[p7]? = some (.cells #[.int .i64 (totF g rig i).1, .int .i64 (totF g rig i).2.1, .int .i64 (totF g rig i).2.2] 60 (0, 0)))) (fun iv _ => g.nu - (intOf iv).toNat)
  case atStart => exact ⟨0, rfl, by omega, Lib.hid (Kept.refl _ _), HQ1⟩
  case round =>
    obtain ⟨i, rfl, hi, HK, HC⟩ := hrel
    have HDN := Lib.hid (Kept.below HB1.out HK.out hw1 (fun k hk => by show ¬ k = p7; omega))
    by_cases hlt : i < g.nu
    · have t1 : decide ((i : Int) < (g.nu : Int)) = true := by rw [decide_eq_true_eq]; omega
      obtain ⟨b, off, rfl, hbl, hcc⟩ := (HG.out.r3.below HDN.out (Nat.le_refl _)).here (by omega)
      have e0 : wr.cell? ⟨b, off + i * 5, none⟩ = some (.string (g.un i)) := hcc i hlt 0 (by omega)
      have e1 : wr.cell? ⟨b, off + i * 5 + 1, none⟩ = some (.string (g.ur i)) := hcc i hlt 1 (by omega)
      have e2 : wr.cell? ⟨b, off + i * 5 + 2, none⟩ = some (.int .i64 (g.uf i)) := hcc i hlt 2 (by omega)
      have e3 : wr.cell? ⟨b, off + i * 5 + 3, none⟩ = some (.int .i64 (g.us i)) := hcc i hlt 3 (by omega)
      have e4 : wr.cell? ⟨b, off + i * 5 + 4, none⟩ = some (.int .i64 (g.uw i)) := hcc i hlt 4 (by omega)
      obtain ⟨V1, hV1, hvb, hvs, hvq⟩ := alloc_block wr #[.string (g.un i), .string (g.ur i), .int .i64 (g.uf i), .int .i64 (g.us i), .int .i64 (g.uw i)] 38
      have u1 : V1.cell? ⟨wr.heap.size, 1, none⟩ = some (.string (g.ur i)) := block_cell hvq rfl
      have u3 : V1.cell? ⟨wr.heap.size, 3, none⟩ = some (.int .i64 (g.us i)) := block_cell hvq rfl
      have u4 : V1.cell? ⟨wr.heap.size, 4, none⟩ = some (.int .i64 (g.uw i)) := block_cell hvq rfl
      have hc3 := below_block hvb HC.out
      have hb := HTB.out i hi
      have hu := HUH.out i hlt
      have HT : Hid (totF g rig (i + 1) = if g.ur i = rig then ((totF g rig i).1 + g.us i, (totF g rig i).2.1 + g.uw i, (totF g rig i).2.2 + 1) else totF g rig i) := Lib.hid rfl
      generalize totF g rig i = st at hb HT hc3
      obtain ⟨sa, sb, sc⟩ := st
      have hb3 : 0 ≤ sa ∧ sa ≤ i * 1000000 ∧ 0 ≤ sb ∧ sb ≤ i * 1000000000 ∧ 0 ≤ sc ∧ sc ≤ i := hb
      have hc3 : V1.heap[p7]? = some (.cells #[.int .i64 sa, .int .i64 sb, .int .i64 sc] 60 (0, 0)) := hc3
      have k0 : V1.cell? ⟨p7, 0, none⟩ = some (.int .i64 sa) := block_cell hc3 rfl
      have k1 : V1.cell? ⟨p7, 1, none⟩ = some (.int .i64 sb) := block_cell hc3 rfl
      have k2 : V1.cell? ⟨p7, 2, none⟩ = some (.int .i64 sc) := block_cell hc3 rfl
      have x0 : V1.frozen? ⟨p7, 0, none⟩ = false := block_free hc3
      have x1 : V1.frozen? ⟨p7, 1, none⟩ = false := block_free hc3
      have x2 : V1.frozen? ⟨p7, 2, none⟩ = false := block_free hc3
      have HC3 := Lib.hid hc3
      have HV1 := Lib.hid hV1
      have HKV := Lib.hid (HK.out.trans (Kept.of_below (O := fun b => b = p7) hvb))
      have hpw : p7 < wr.heap.size := by have := HK.out.size; omega
      have hse := str_eq (g.ur i) rig
      clear hcc hV1 hvb hvq hb hc3 HC
      by_cases hr : g.ur i = rig
      · rw [if_pos hr] at HT
        rw [show decide (g.ur i = rig) = true by simpa using hr] at hse
        clear hr
        go_upto_region 10 with (fail)
        rw [HV1.out]
        go_wp2_with fail
        go_region
        go_wp2_with fail
        go_roundw
        case rel => exact ⟨i + 1, by go_num, by omega, Lib.hid ((kept_set (kept_set (kept_set HKV.out (by rfl) _) (by rfl) _) (by rfl) _).trans ⟨rfl, rfl, rfl, Nat.le_refl _, fun _ _ _ => rfl⟩), Lib.hid (by rw [HT.out]; exact cells_setCell (cells_setCell (cells_setCell HC3.out)))⟩
        case measure => simp [intOf]; omega
      · rw [if_neg hr] at HT
        rw [show decide (g.ur i = rig) = false by simpa using hr] at hse
        clear hr
        go_upto_region 10 with (fail)
        rw [HV1.out]
        go_wp2_with fail
        go_roundw
        case rel => exact ⟨i + 1, by go_num, by omega, HKV, Lib.hid (by rw [HT.out]; exact HC3.out)⟩
        case measure => simp [intOf]; omega
    · have t1 : decide ((i : Int) < (g.nu : Int)) = false := by rw [decide_eq_false_iff_not]; omega
      have t1' : decide (i < g.nu) = false := by simpa using hlt
      obtain rfl : i = g.nu := by omega
      have hc9 := HC.out
      generalize totF g rig g.nu = st at HX hc9
      obtain ⟨sa, sb, sc⟩ := st
      have hc9 : wr.heap[p7]? = some (.cells #[.int .i64 sa, .int .i64 sb, .int .i64 sc] 60 (0, 0)) := hc9
      have k0 : wr.cell? ⟨p7, 0, none⟩ = some (.int .i64 sa) := block_cell hc9 rfl
      have k1 : wr.cell? ⟨p7, 1, none⟩ = some (.int .i64 sb) := block_cell hc9 rfl
      have k2 : wr.cell? ⟨p7, 2, none⟩ = some (.int .i64 sc) := block_cell hc9 rfl
      have r4 := (HK.out.block (w.heap.size + 1) (by omega) (by show ¬ w.heap.size + 1 = p7; omega)).trans HR1.out
      clear hlt hc9 HC HK
      have q0 : wr.cell? ⟨w.heap.size + 1, 0, none⟩ = some (.int .i64 0) := block_cell r4 rfl
      have q1 : wr.cell? ⟨w.heap.size + 1, 1, none⟩ = some (.int .i64 0) := block_cell r4 rfl
      have q2 : wr.cell? ⟨w.heap.size + 1, 2, none⟩ = some (.int .i64 0) := block_cell r4 rfl
      have z0 : wr.frozen? ⟨w.heap.size + 1, 0, none⟩ = false := block_free r4
      have z1 : wr.frozen? ⟨w.heap.size + 1, 1, none⟩ = false := block_free r4
      have z2 : wr.frozen? ⟨w.heap.size + 1, 2, none⟩ = false := block_free r4
      have HR4 := Lib.hid r4
      clear r4
      go_wp2_with fail
      have hr : (((wr.setCell ⟨w.heap.size + 1, 0, none⟩ (.int .i64 sa)).setCell ⟨w.heap.size + 1, 1, none⟩ (.int .i64 sb)).setCell ⟨w.heap.size + 1, 2, none⟩ (.int .i64 sc)).heap[w.heap.size + 1]? = some (.cells #[.int .i64 sa, .int .i64 sb, .int .i64 sc] 60 (0, 0)) := cells_setCell (cells_setCell (cells_setCell HR4.out))
      have hbf := ((HDN.out.setCell (p := ⟨w.heap.size + 1, 0, none⟩) (by show w.heap.size ≤ w.heap.size + 1; omega) (.int .i64 sa)).setCell (p := ⟨w.heap.size + 1, 1, none⟩) (by show w.heap.size ≤ w.heap.size + 1; omega) (.int .i64 sb)).setCell (p := ⟨w.heap.size + 1, 2, none⟩) (by show w.heap.size ≤ w.heap.size + 1; omega) (.int .i64 sc)
      generalize ((wr.setCell ⟨w.heap.size + 1, 0, none⟩ (.int .i64 sa)).setCell ⟨w.heap.size + 1, 1, none⟩ (.int .i64 sb)).setCell ⟨w.heap.size + 1, 2, none⟩ (.int .i64 sc) = w4 at hr hbf ⊢
      have y0 : w4.cell? ⟨w.heap.size + 1, 0, none⟩ = some (.int .i64 sa) := block_cell hr rfl
      have y1 : w4.cell? ⟨w.heap.size + 1, 1, none⟩ = some (.int .i64 sb) := block_cell hr rfl
      have y2 : w4.cell? ⟨w.heap.size + 1, 2, none⟩ = some (.int .i64 sc) := block_cell hr rfl
      exact bodyPost_ret (v := .tuple #[.agg #[.int .i64 sa, .int .i64 sb, .int .i64 sc], .int .i64 0]) (by simp [results, Try.results26, go_sem, y0, y1, y2]) rfl ⟨by rw [← HX.out]; rfl, hbf⟩


set_option maxHeartbeats 4000000 in
set_option maxRecDepth 100000 in
theorem rtot_any (g : Gar) (a0 a1 a2 a3 : Option Addr) (c0 c1 c2 c3 : Nat) (rig : ByteArray) (w : World) (h : GarIn w g a0 a1 a2 a3) (hrg : rig.size ≤ maxLen) (hc2 : g.nm ≤ c2) (hc3 : g.nu ≤ c3) :
    Calls Try.prog 27 #[garV g a0 a1 a2 a3 c0 c1 c2 c3, .string rig] w fun e w' => e = .returned (totR (totS g rig)) ∧ Below w.heap.size w w' := by
  have HG := Lib.hid h
  have hl3 := h.l3
  obtain ⟨W0, hW0, hb0, hs0, hq0⟩ := allocs w [.cells #[.slice a0 g.np c0, .slice a1 g.ns c1, .slice a2 g.nm c2, .slice a3 g.nu c3] 27, .cells #[.int .i64 0, .int .i64 0, .int .i64 0] 60]
  have hs0 : W0.heap.size = w.heap.size + 2 := hs0
  have G0 := Ext.ex (show W0.cell? ⟨w.heap.size, 0, none⟩ = some (.slice a0 g.np c0) from block_cell (hq0 0 _ rfl) rfl)
  have G1 := Ext.ex (show W0.cell? ⟨w.heap.size, 1, none⟩ = some (.slice a1 g.ns c1) from block_cell (hq0 0 _ rfl) rfl)
  have G2 := Ext.ex (show W0.cell? ⟨w.heap.size, 2, none⟩ = some (.slice a2 g.nm c2) from block_cell (hq0 0 _ rfl) rfl)
  have G3 := Ext.ex (show W0.cell? ⟨w.heap.size, 3, none⟩ = some (.slice a3 g.nu c3) from block_cell (hq0 0 _ rfl) rfl)
  have HR := Lib.hid (hq0 1 _ rfl)
  have HW0 := Lib.hid (show (w.alloc (.cells #[.slice a0 g.np c0, .slice a1 g.ns c1, .slice a2 g.nm c2, .slice a3 g.nu c3] 27)).alloc (.cells #[.int .i64 0, .int .i64 0, .int .i64 0] 60) = W0 from hW0)
  have HB := Lib.hid hb0
  have hbs : w.heap.size ≤ W0.heap.size := by omega
  have hbs2 : w.heap.size + 1 < W0.heap.size := by omega
  have DK := Lib.hid (fun (Y : Ext W0) => rCheck_any g a0 a1 a2 a3 c0 c1 c2 c3 Y.1 (HG.out.below (Y.down HB.out hbs)) hc2 hc3)
  have DN := Lib.hid (fun (W : World) => risName_any rig W hrg)
  have HTB0 := Lib.hid (fun (hk : chk g = 0) => totF_bound hk rig)
  have HUH0 := Lib.hid (fun (hk : chk g = 0) (i : Nat) (hi : i < g.nu) => use_hyp hk hi)
  have hnu0 : chk g = 0 → g.nu ≤ 5000 := fun hk => (Gar.chk_parts hk).2.2.2.1
  obtain ⟨xx, hxx⟩ : ∃ x, totS g rig = x := ⟨_, rfl⟩
  rw [hxx]
  unfold totS at hxx
  have HX := Lib.hid hxx
  unfold garV at DK
  unfold garV
  clear h hW0 hb0 hs0 hq0 hxx hrg
  by_cases k1 : chk g = 0
  case neg =>
    rw [if_pos k1] at HX
    have n1 : (chk g != 0) = true := by rw [bne_iff_ne]; exact k1
    clear k1 HTB0 HUH0 hnu0
    generalize chk g = ck at *
    go_enter Try.func27, Try.ntmps27
    go_upto_region 1 with (fail)
    rw [HW0.out]
    refine ext_wp fun X => ?_
    go_wp2_with fail
    refine (Ext.calls _ (DK.out _)).mono ?_
    rintro e w2 ⟨rfl, Y, rfl⟩
    have r4 := below_block Y.2 HR.out
    have hdn := Y.down HB.out hbs
    have HDN := Lib.hid hdn
    clear hdn
    generalize Y.1 = y at *
    have q0 : y.cell? ⟨w.heap.size + 1, 0, none⟩ = some (.int .i64 0) := block_cell r4 rfl
    have q1 : y.cell? ⟨w.heap.size + 1, 1, none⟩ = some (.int .i64 0) := block_cell r4 rfl
    have q2 : y.cell? ⟨w.heap.size + 1, 2, none⟩ = some (.int .i64 0) := block_cell r4 rfl
    have z0 : y.frozen? ⟨w.heap.size + 1, 0, none⟩ = false := block_free r4
    have z1 : y.frozen? ⟨w.heap.size + 1, 1, none⟩ = false := block_free r4
    have z2 : y.frozen? ⟨w.heap.size + 1, 2, none⟩ = false := block_free r4
    have HR4 := Lib.hid r4
    clear r4
    go_wp2_with fail
    have hr : (((y.setCell ⟨w.heap.size + 1, 0, none⟩ (.int .i64 0)).setCell ⟨w.heap.size + 1, 1, none⟩ (.int .i64 0)).setCell ⟨w.heap.size + 1, 2, none⟩ (.int .i64 0)).heap[w.heap.size + 1]? = some (.cells #[.int .i64 0, .int .i64 0, .int .i64 0] 60 (0, 0)) := cells_setCell (cells_setCell (cells_setCell HR4.out))
    have hbf := ((HDN.out.setCell (p := ⟨w.heap.size + 1, 0, none⟩) (by show w.heap.size ≤ w.heap.size + 1; omega) (.int .i64 0)).setCell (p := ⟨w.heap.size + 1, 1, none⟩) (by show w.heap.size ≤ w.heap.size + 1; omega) (.int .i64 0)).setCell (p := ⟨w.heap.size + 1, 2, none⟩) (by show w.heap.size ≤ w.heap.size + 1; omega) (.int .i64 0)
    generalize ((y.setCell ⟨w.heap.size + 1, 0, none⟩ (.int .i64 0)).setCell ⟨w.heap.size + 1, 1, none⟩ (.int .i64 0)).setCell ⟨w.heap.size + 1, 2, none⟩ (.int .i64 0) = w4 at hr hbf ⊢
    have y0 : w4.cell? ⟨w.heap.size + 1, 0, none⟩ = some (.int .i64 0) := block_cell hr rfl
    have y1 : w4.cell? ⟨w.heap.size + 1, 1, none⟩ = some (.int .i64 0) := block_cell hr rfl
    have y2 : w4.cell? ⟨w.heap.size + 1, 2, none⟩ = some (.int .i64 0) := block_cell hr rfl
    exact bodyPost_ret (v := .tuple #[.agg #[.int .i64 0, .int .i64 0, .int .i64 0], .int .i64 ck]) (by simp [results, Try.results27, go_sem, y0, y1, y2]) rfl ⟨by rw [← HX.out]; rfl, hbf⟩
  rw [if_neg (by rw [k1]; simp)] at HX
  rw [k1] at DK
  have HTB := Lib.hid (HTB0.out k1)
  have HUH := Lib.hid (HUH0.out k1)
  have hnu := hnu0 k1
  have n1 : ((0 : Int) != 0) = false := rfl
  clear k1 HTB0 HUH0 hnu0
  cases k2 : nameB rig
  case false =>
    rw [if_pos k2] at HX
    rw [k2] at DN
    clear k2
    go_enter Try.func27, Try.ntmps27
    go_upto_region 1 with (fail)
    rw [HW0.out]
    refine ext_wp fun X => ?_
    go_wp2_with fail
    refine (Ext.calls _ (DK.out _)).mono ?_
    rintro e w2 ⟨rfl, Y, rfl⟩
    go_wp2_with fail
    refine (DN.out _).mono ?_
    rintro e w2 ⟨rfl, rfl⟩
    have r4 := below_block Y.2 HR.out
    have hdn := Y.down HB.out hbs
    have HDN := Lib.hid hdn
    clear hdn
    generalize Y.1 = y at *
    have q0 : y.cell? ⟨w.heap.size + 1, 0, none⟩ = some (.int .i64 0) := block_cell r4 rfl
    have q1 : y.cell? ⟨w.heap.size + 1, 1, none⟩ = some (.int .i64 0) := block_cell r4 rfl
    have q2 : y.cell? ⟨w.heap.size + 1, 2, none⟩ = some (.int .i64 0) := block_cell r4 rfl
    have z0 : y.frozen? ⟨w.heap.size + 1, 0, none⟩ = false := block_free r4
    have z1 : y.frozen? ⟨w.heap.size + 1, 1, none⟩ = false := block_free r4
    have z2 : y.frozen? ⟨w.heap.size + 1, 2, none⟩ = false := block_free r4
    have HR4 := Lib.hid r4
    clear r4
    go_wp2_with fail
    have hr : (((y.setCell ⟨w.heap.size + 1, 0, none⟩ (.int .i64 0)).setCell ⟨w.heap.size + 1, 1, none⟩ (.int .i64 0)).setCell ⟨w.heap.size + 1, 2, none⟩ (.int .i64 0)).heap[w.heap.size + 1]? = some (.cells #[.int .i64 0, .int .i64 0, .int .i64 0] 60 (0, 0)) := cells_setCell (cells_setCell (cells_setCell HR4.out))
    have hbf := ((HDN.out.setCell (p := ⟨w.heap.size + 1, 0, none⟩) (by show w.heap.size ≤ w.heap.size + 1; omega) (.int .i64 0)).setCell (p := ⟨w.heap.size + 1, 1, none⟩) (by show w.heap.size ≤ w.heap.size + 1; omega) (.int .i64 0)).setCell (p := ⟨w.heap.size + 1, 2, none⟩) (by show w.heap.size ≤ w.heap.size + 1; omega) (.int .i64 0)
    generalize ((y.setCell ⟨w.heap.size + 1, 0, none⟩ (.int .i64 0)).setCell ⟨w.heap.size + 1, 1, none⟩ (.int .i64 0)).setCell ⟨w.heap.size + 1, 2, none⟩ (.int .i64 0) = w4 at hr hbf ⊢
    have y0 : w4.cell? ⟨w.heap.size + 1, 0, none⟩ = some (.int .i64 0) := block_cell hr rfl
    have y1 : w4.cell? ⟨w.heap.size + 1, 1, none⟩ = some (.int .i64 0) := block_cell hr rfl
    have y2 : w4.cell? ⟨w.heap.size + 1, 2, none⟩ = some (.int .i64 0) := block_cell hr rfl
    exact bodyPost_ret (v := .tuple #[.agg #[.int .i64 0, .int .i64 0, .int .i64 0], .int .i64 8]) (by simp [results, Try.results27, go_sem, y0, y1, y2]) rfl ⟨by rw [← HX.out]; rfl, hbf⟩
  rw [if_neg (by rw [k2]; simp)] at HX
  rw [k2] at DN
  clear k2
  go_enter Try.func27, Try.ntmps27
  go_upto_region 1 with (fail)
  rw [HW0.out]
  refine ext_wp fun X => ?_
  go_wp2_with fail
  refine (Ext.calls _ (DK.out _)).mono ?_
  rintro e w2 ⟨rfl, Y, rfl⟩
  go_wp2_with fail
  refine (DN.out _).mono ?_
  rintro e w2 ⟨rfl, rfl⟩
  have r0 := below_block Y.2 HR.out
  have g3 := G3 Y
  have hdn := Y.down HB.out hbs
  have hsz := Y.2.size
  generalize Y.1 = y at *
  obtain ⟨W1, hW1, hb1, hs1, hq1⟩ := alloc_block y #[.int .i64 0, .int .i64 0, .int .i64 0] 60
  have HR1 := Lib.hid (below_block hb1 r0)
  have f3 := below_cell hb1 g3
  have HB1 := Lib.hid (hdn.trans (hb1.mono hdn.size))
  have HW1 := Lib.hid hW1
  have HQ1 : Hid (W1.heap[y.heap.size]? = some (.cells #[.int .i64 (totF g rig 0).1, .int .i64 (totF g rig 0).2.1, .int .i64 (totF g rig 0).2.2] 60 (0, 0))) := Lib.hid hq1
  have hp7 : w.heap.size + 1 < y.heap.size := by omega
  obtain ⟨p7, hp7e⟩ : ∃ p, y.heap.size = p := ⟨_, rfl⟩
  rw [hp7e] at HQ1 hp7 hs1
  have HPE := Lib.hid hp7e
  have hw1 : w.heap.size ≤ W1.heap.size := HB1.out.size
  clear r0 hdn hsz hW1 hb1 hq1 hp7e G0 G1 G2 G3
  go_upto_region 7 with (fail)
  rw [HW1.out, HPE.out]
  clear g3
  go_wp2_with fail
  go_loopw [24] (fun iv wr => ∃ (i : Nat), iv = .int .i64 i ∧ i ≤ g.nu ∧ Hid (Kept (fun b => b = p7) W1 wr) ∧ Hid (wr.heap[p7]? = some (.cells #[.int .i64 (totF g rig i).1, .int .i64 (totF g rig i).2.1, .int .i64 (totF g rig i).2.2] 60 (0, 0)))) (fun iv _ => g.nu - (intOf iv).toNat)
  case atStart => exact ⟨0, rfl, by omega, Lib.hid (Kept.refl _ _), HQ1⟩
  case round =>
    obtain ⟨i, rfl, hi, HK, HC⟩ := hrel
    have HDN := Lib.hid (Kept.below HB1.out HK.out hw1 (fun k hk => by show ¬ k = p7; omega))
    by_cases hlt : i < g.nu
    · have t1 : decide ((i : Int) < (g.nu : Int)) = true := by rw [decide_eq_true_eq]; omega
      obtain ⟨b, off, rfl, hbl, hcc⟩ := (HG.out.r3.below HDN.out (Nat.le_refl _)).here (by omega)
      have e0 : wr.cell? ⟨b, off + i * 5, none⟩ = some (.string (g.un i)) := hcc i hlt 0 (by omega)
      have e1 : wr.cell? ⟨b, off + i * 5 + 1, none⟩ = some (.string (g.ur i)) := hcc i hlt 1 (by omega)
      have e2 : wr.cell? ⟨b, off + i * 5 + 2, none⟩ = some (.int .i64 (g.uf i)) := hcc i hlt 2 (by omega)
      have e3 : wr.cell? ⟨b, off + i * 5 + 3, none⟩ = some (.int .i64 (g.us i)) := hcc i hlt 3 (by omega)
      have e4 : wr.cell? ⟨b, off + i * 5 + 4, none⟩ = some (.int .i64 (g.uw i)) := hcc i hlt 4 (by omega)
      obtain ⟨V1, hV1, hvb, hvs, hvq⟩ := alloc_block wr #[.string (g.un i), .string (g.ur i), .int .i64 (g.uf i), .int .i64 (g.us i), .int .i64 (g.uw i)] 38
      have u1 : V1.cell? ⟨wr.heap.size, 1, none⟩ = some (.string (g.ur i)) := block_cell hvq rfl
      have u3 : V1.cell? ⟨wr.heap.size, 3, none⟩ = some (.int .i64 (g.us i)) := block_cell hvq rfl
      have u4 : V1.cell? ⟨wr.heap.size, 4, none⟩ = some (.int .i64 (g.uw i)) := block_cell hvq rfl
      have hc3 := below_block hvb HC.out
      have hb := HTB.out i hi
      have hu := HUH.out i hlt
      have HT : Hid (totF g rig (i + 1) = if g.ur i = rig then ((totF g rig i).1 + g.us i, (totF g rig i).2.1 + g.uw i, (totF g rig i).2.2 + 1) else totF g rig i) := Lib.hid rfl
      generalize totF g rig i = st at hb HT hc3
      obtain ⟨sa, sb, sc⟩ := st
      have hb3 : 0 ≤ sa ∧ sa ≤ i * 1000000 ∧ 0 ≤ sb ∧ sb ≤ i * 1000000000 ∧ 0 ≤ sc ∧ sc ≤ i := hb
      have hc3 : V1.heap[p7]? = some (.cells #[.int .i64 sa, .int .i64 sb, .int .i64 sc] 60 (0, 0)) := hc3
      have k0 : V1.cell? ⟨p7, 0, none⟩ = some (.int .i64 sa) := block_cell hc3 rfl
      have k1 : V1.cell? ⟨p7, 1, none⟩ = some (.int .i64 sb) := block_cell hc3 rfl
      have k2 : V1.cell? ⟨p7, 2, none⟩ = some (.int .i64 sc) := block_cell hc3 rfl
      have x0 : V1.frozen? ⟨p7, 0, none⟩ = false := block_free hc3
      have x1 : V1.frozen? ⟨p7, 1, none⟩ = false := block_free hc3
      have x2 : V1.frozen? ⟨p7, 2, none⟩ = false := block_free hc3
      have HC3 := Lib.hid hc3
      have HV1 := Lib.hid hV1
      have HKV := Lib.hid (HK.out.trans (Kept.of_below (O := fun b => b = p7) hvb))
      have hpw : p7 < wr.heap.size := by have := HK.out.size; omega
      have hse := str_eq (g.ur i) rig
      clear hcc hV1 hvb hvq hb hc3 HC
      by_cases hr : g.ur i = rig
      · rw [if_pos hr] at HT
        rw [show decide (g.ur i = rig) = true by simpa using hr] at hse
        clear hr
        go_upto_region 10 with (fail)
        rw [HV1.out]
        go_wp2_with fail
        go_roundw
        case rel => exact ⟨i + 1, by go_num, by omega, Lib.hid (kept_set (kept_set (kept_set HKV.out (by rfl) _) (by rfl) _) (by rfl) _), Lib.hid (by rw [HT.out]; exact cells_setCell (cells_setCell (cells_setCell HC3.out)))⟩
        case measure => simp [intOf]; omega
      · rw [if_neg hr] at HT
        rw [show decide (g.ur i = rig) = false by simpa using hr] at hse
        clear hr
        go_upto_region 10 with (fail)
        rw [HV1.out]
        go_wp2_with fail
        go_roundw
        case rel => exact ⟨i + 1, by go_num, by omega, HKV, Lib.hid (by rw [HT.out]; exact HC3.out)⟩
        case measure => simp [intOf]; omega
    · have t1 : decide ((i : Int) < (g.nu : Int)) = false := by rw [decide_eq_false_iff_not]; omega
      have t1' : decide (i < g.nu) = false := by simpa using hlt
      obtain rfl : i = g.nu := by omega
      have hc9 := HC.out
      generalize totF g rig g.nu = st at HX hc9
      obtain ⟨sa, sb, sc⟩ := st
      have hc9 : wr.heap[p7]? = some (.cells #[.int .i64 sa, .int .i64 sb, .int .i64 sc] 60 (0, 0)) := hc9
      have k0 : wr.cell? ⟨p7, 0, none⟩ = some (.int .i64 sa) := block_cell hc9 rfl
      have k1 : wr.cell? ⟨p7, 1, none⟩ = some (.int .i64 sb) := block_cell hc9 rfl
      have k2 : wr.cell? ⟨p7, 2, none⟩ = some (.int .i64 sc) := block_cell hc9 rfl
      have r4 := (HK.out.block (w.heap.size + 1) (by omega) (by show ¬ w.heap.size + 1 = p7; omega)).trans HR1.out
      clear hlt hc9 HC HK
      have q0 : wr.cell? ⟨w.heap.size + 1, 0, none⟩ = some (.int .i64 0) := block_cell r4 rfl
      have q1 : wr.cell? ⟨w.heap.size + 1, 1, none⟩ = some (.int .i64 0) := block_cell r4 rfl
      have q2 : wr.cell? ⟨w.heap.size + 1, 2, none⟩ = some (.int .i64 0) := block_cell r4 rfl
      have z0 : wr.frozen? ⟨w.heap.size + 1, 0, none⟩ = false := block_free r4
      have z1 : wr.frozen? ⟨w.heap.size + 1, 1, none⟩ = false := block_free r4
      have z2 : wr.frozen? ⟨w.heap.size + 1, 2, none⟩ = false := block_free r4
      have HR4 := Lib.hid r4
      clear r4
      go_wp2_with fail
      have hr : (((wr.setCell ⟨w.heap.size + 1, 0, none⟩ (.int .i64 sa)).setCell ⟨w.heap.size + 1, 1, none⟩ (.int .i64 sb)).setCell ⟨w.heap.size + 1, 2, none⟩ (.int .i64 sc)).heap[w.heap.size + 1]? = some (.cells #[.int .i64 sa, .int .i64 sb, .int .i64 sc] 60 (0, 0)) := cells_setCell (cells_setCell (cells_setCell HR4.out))
      have hbf := ((HDN.out.setCell (p := ⟨w.heap.size + 1, 0, none⟩) (by show w.heap.size ≤ w.heap.size + 1; omega) (.int .i64 sa)).setCell (p := ⟨w.heap.size + 1, 1, none⟩) (by show w.heap.size ≤ w.heap.size + 1; omega) (.int .i64 sb)).setCell (p := ⟨w.heap.size + 1, 2, none⟩) (by show w.heap.size ≤ w.heap.size + 1; omega) (.int .i64 sc)
      generalize ((wr.setCell ⟨w.heap.size + 1, 0, none⟩ (.int .i64 sa)).setCell ⟨w.heap.size + 1, 1, none⟩ (.int .i64 sb)).setCell ⟨w.heap.size + 1, 2, none⟩ (.int .i64 sc) = w4 at hr hbf ⊢
      have y0 : w4.cell? ⟨w.heap.size + 1, 0, none⟩ = some (.int .i64 sa) := block_cell hr rfl
      have y1 : w4.cell? ⟨w.heap.size + 1, 1, none⟩ = some (.int .i64 sb) := block_cell hr rfl
      have y2 : w4.cell? ⟨w.heap.size + 1, 2, none⟩ = some (.int .i64 sc) := block_cell hr rfl
      exact bodyPost_ret (v := .tuple #[.agg #[.int .i64 sa, .int .i64 sb, .int .i64 sc], .int .i64 0]) (by simp [results, Try.results27, go_sem, y0, y1, y2]) rfl ⟨by rw [← HX.out]; rfl, hbf⟩

end Go.Proofs.Ytbkpoepacjinlaa

/- Gear: Rate of both. -/
namespace Go.Proofs.Ytbkpoepacjinlaa
open Go.RowKit Go.BigFrame
open Gar (chk momG hasS hasP chkP)

theorem chkP_cost {g : Gar} : ∀ (n k : Nat), chkP g n k = 0 → ∀ i, k ≤ i → i < k + n → 0 ≤ g.pc i ∧ g.pc i ≤ 1000000000
  | 0, k, _, i, h1, h2 => by omega
  | n + 1, k, h, i, h1, h2 => by
    rw [chkP] at h
    split at h
    · omega
    · split at h
      · omega
      · split at h
        · omega
        · rename_i a b c
          by_cases e : i = k
          · subst e; omega
          · exact chkP_cost n (k + 1) h i (by omega) (by omega)
def prtV (g : Gar) (k : Nat) : Value := .agg #[.string (g.pn k), .int .i64 (g.pc k)]
set_option maxHeartbeats 1000000 in
set_option maxRecDepth 100000 in
theorem idxG_any (g : Gar) (a : Option Addr) (c : Nat) (fid : FuncId) (caps : Array Value) (hcf : ∀ args w, Sem.run Try.prog (callFunc fid args) w = .ok (.enter fid args) w) (pb : Nat → Bool) (w : World)
    (hr : RowK w a g.np 2 (fun i => [.string (g.pn i), .int .i64 (g.pc i)])) (hl : (g.np : Int) ≤ 9223372036854775807)
    (hcl : ∀ (k : Nat) (W : World), k < g.np → Below w.heap.size w W → Calls Try.prog fid (#[prtV g k] ++ caps) W fun e w' => e = .returned (.bool (pb k)) ∧ Below W.heap.size W w') :
    Calls Try.prog 70 #[.slice a g.np c, .func (.func fid) #[] caps] w fun e w' => e = .returned (.int .i64 (idxF pb g.np 0)) ∧ Below w.heap.size w w' := by
  have HR := Lib.hid hr
  have HCL := Lib.hid hcl
  have HCF := Lib.hid hcf
  obtain ⟨z, hz⟩ : ∃ z, idxF pb g.np 0 = z := ⟨_, rfl⟩
  rw [hz]
  have HZ := Lib.hid hz
  clear hz hr hcl hcf
  go_enter Try.func70, Try.ntmps70
  go_wp2_with fail
  go_loopw [8] (fun iv wr => ∃ (k : Nat), iv = .int .i64 k ∧ k ≤ g.np ∧ Hid (Below w.heap.size w wr) ∧ Hid (idxF pb (g.np - k) k = z)) (fun iv _ => g.np - (intOf iv).toNat)
  case atStart => exact ⟨0, rfl, by omega, Lib.hid (Below.refl _ _), HZ⟩
  case round =>
    obtain ⟨k, rfl, hk, HB, HX⟩ := hrel
    by_cases hlt : k < g.np
    · have t1 : decide ((k : Int) < (g.np : Int)) = true := by rw [decide_eq_true_eq]; omega
      obtain ⟨b, off, rfl, hbl, hc⟩ := (HR.out.below HB.out (Nat.le_refl _)).here (by omega)
      have e0 : wr.cell? ⟨b, off + k * 2, none⟩ = some (.string (g.pn k)) := hc k hlt 0 (by omega)
      have e1 : wr.cell? ⟨b, off + k * 2 + 1, none⟩ = some (.int .i64 (g.pc k)) := hc k hlt 1 (by omega)
      have hx := HX.out
      rw [show g.np - k = (g.np - k - 1) + 1 by omega, idxF] at hx
      have HX2 := Lib.hid hx
      have hsz := HB.out.size
      have D := Lib.hid (HCL.out k wr hlt HB.out)
      unfold prtV at D
      have hcf := HCF.out
      clear hc hx HX
      generalize g.pn k = s0 at e0 D
      generalize g.pc k = s1 at e1 D
      cases hb : pb k
      · rw [hb] at D HX2
        rw [if_neg (by simp)] at HX2
        clear hb
        go_wp2_with fail
        refine D.out.mono ?_
        rintro e w2 ⟨rfl, hb2⟩
        have HB2 := Lib.hid (HB.out.trans (hb2.mono hsz))
        clear hb2 hcf
        go_wp2_with fail
        go_roundw
        case rel => exact ⟨k + 1, by go_num, by omega, HB2, HX2⟩
        case measure => simp [intOf]; omega
      · rw [hb] at D HX2
        rw [if_pos rfl] at HX2
        clear hb
        go_wp2_with fail
        refine D.out.mono ?_
        rintro e w2 ⟨rfl, hb2⟩
        have HB2 := Lib.hid (HB.out.trans (hb2.mono hsz))
        clear hb2 hcf
        go_wp2_with fail
        go_ret
        exact ⟨ret_int HX2.out, HB2.out⟩
    · have t1 : decide ((k : Int) < (g.np : Int)) = false := by rw [decide_eq_false_iff_not]; omega
      have t1' : decide (k < g.np) = false := by simpa using hlt
      have hx := HX.out
      rw [show g.np - k = 0 by omega, idxF] at hx
      have HX2 := Lib.hid hx
      clear hx hlt
      go_wp2_with fail
      go_ret
      exact ⟨ret_int HX2.out, HB.out⟩
set_option maxHeartbeats 1000000 in
theorem rateCl_any (s : ByteArray) (r : Int) (name : ByteArray) (p : Nat) (w : World) (hp : p < w.heap.size) (hc : w.cell? ⟨p, 0, none⟩ = some (.string name)) :
    Calls Try.prog 71 #[.agg #[.string s, .int .i64 r], .pointer (some ⟨p, 0, none⟩)] w fun e w' => e = .returned (.bool (decide (s = name))) ∧ Below w.heap.size w w' := by
  have hse := str_eq s name
  generalize decide (s = name) = bb at hse ⊢
  go_enter Try.func71, Try.ntmps71
  go_wp2_with fail
  go_ret
  exact ⟨rfl, (Below.refl _ _).alloc (Nat.le_refl _) _⟩
/-- uses end before both -/
theorem wear_top {g : Gar} (h : chk g = 0) (part : ByteArray) : wearL g part 0 86400000000 (evG g g.nu) = wearL g part 0 4611686018427387904 (evG g g.nu) := by
  have key : ∀ (l : List Ev) (st : WSt), (∀ e, e ∈ l → e.i < g.nu) → l.foldl (wearE g part 0 86400000000) st = l.foldl (wearE g part 0 4611686018427387904) st := by
    intro l
    induction l with
    | nil => intro _ _; rfl
    | cons e l ih =>
      intro st hl
      have hu := use_hyp h (hl e (by simp))
      rw [List.foldl_cons, List.foldl_cons, show wearE g part 0 86400000000 st e = wearE g part 0 4611686018427387904 st e by
        unfold wearE
        by_cases c : e.p = part
        · rw [if_pos (show e.p = part ∧ 0 ≤ g.uf e.i ∧ g.uf e.i < 86400000000 from ⟨c, by omega, by omega⟩), if_pos (show e.p = part ∧ 0 ≤ g.uf e.i ∧ g.uf e.i < 4611686018427387904 from ⟨c, by omega, by omega⟩)]
        · rw [if_neg (fun x => c x.1), if_neg (fun x => c x.1)]]
      exact ih _ fun x hx => hl x (by simp [hx])
  exact key _ _ fun e he => ((evG_all h g.nu (Nat.le_refl _)).1 e he).2.2
/-- what Rate returns -/
def rateF (g : Gar) (part : ByteArray) : Int × Int :=
  if chk g ≠ 0 then (0, chk g) else if hasP g part = false then (0, 4) else if (wearL g part 0 4611686018427387904 (evG g g.nu)).way = 0 then (0, 13) else
    Sc.sc (g.pc (idxF (fun i => decide (g.pn i = part)) g.np 0).toNat) 10000000 (wearL g part 0 4611686018427387904 (evG g g.nu)).way 4
def pairR (x : Int × Int) : Value := .tuple #[.int .i64 x.1, .int .i64 x.2]
theorem hasP_hit {g : Gar} {part : ByteArray} (h : hasP g part = true) : ∃ j : Nat, idxF (fun i => decide (g.pn i = part)) g.np 0 = j ∧ j < g.np := by
  unfold hasP at h
  rw [List.any_eq_true] at h
  obtain ⟨i, hi, he⟩ := h
  have hi := List.mem_range.1 hi
  obtain ⟨j, h1, _, h3, _⟩ := idxF_hit (fun i => decide (g.pn i = part)) g.np 0 i (Nat.zero_le _) (by omega) he
  exact ⟨j, h1, by omega⟩
theorem hasP_miss {g : Gar} {part : ByteArray} (h : hasP g part = false) : idxF (fun i => decide (g.pn i = part)) g.np 0 < 0 := by
  have := hasP_idx g part
  rw [h] at this
  simpa using this
theorem ret_pair {x y : Int × Int} (h : x = y) : Ending.returned (.tuple #[.int .i64 x.1, .int .i64 x.2]) = .returned (pairR y) := by rw [h]; rfl
set_option maxHeartbeats 4000000 in
set_option maxRecDepth 100000 in
theorem rate_any (g : Gar) (a0 a1 a2 a3 : Option Addr) (c0 c1 c2 c3 : Nat) (part : ByteArray) (w : World) (h : GarIn w g a0 a1 a2 a3) :
    Calls Try.prog 28 #[garV g a0 a1 a2 a3 c0 c1 c2 c3, .string part] w fun e w' => e = .returned (pairR (rateF g part)) ∧ Below w.heap.size w w' := by
  have HG := Lib.hid h
  have hl0 := h.l0
  obtain ⟨W0, hW0, hb0, hs0, hq0⟩ := allocs w [.cells #[.slice a0 g.np c0, .slice a1 g.ns c1, .slice a2 g.nm c2, .slice a3 g.nu c3] 27, .cells #[.string part] 9]
  have hs0 : W0.heap.size = w.heap.size + 2 := hs0
  have G0 := Ext.ex (show W0.cell? ⟨w.heap.size, 0, none⟩ = some (.slice a0 g.np c0) from block_cell (hq0 0 _ rfl) rfl)
  have G1 := Ext.ex (show W0.cell? ⟨w.heap.size, 1, none⟩ = some (.slice a1 g.ns c1) from block_cell (hq0 0 _ rfl) rfl)
  have G2 := Ext.ex (show W0.cell? ⟨w.heap.size, 2, none⟩ = some (.slice a2 g.nm c2) from block_cell (hq0 0 _ rfl) rfl)
  have G3 := Ext.ex (show W0.cell? ⟨w.heap.size, 3, none⟩ = some (.slice a3 g.nu c3) from block_cell (hq0 0 _ rfl) rfl)
  have G4 := Ext.ex (show W0.cell? ⟨w.heap.size + 1, 0, none⟩ = some (.string part) from block_cell (hq0 1 _ rfl) rfl)
  have HW0 := Lib.hid (show (w.alloc (.cells #[.slice a0 g.np c0, .slice a1 g.ns c1, .slice a2 g.nm c2, .slice a3 g.nu c3] 27)).alloc (.cells #[.string part] 9) = W0 from hW0)
  have HB := Lib.hid hb0
  have hbs : w.heap.size ≤ W0.heap.size := by omega
  have hmf : ∀ fn first cap w, (Instr.makeFunc fn first cap).run Try.prog w = .ok (.func fn first cap) w := fun _ _ _ _ => rfl
  have hfld : ∀ (x y z : Int) (u : World), (Instr.field 60 (.agg #[.int .i64 x, .int .i64 y, .int .i64 z]) 1).run Try.prog u = .ok (.int .i64 y) u := fun _ _ _ _ => by kernel_rfl
  have DK := Lib.hid (fun (Y : Ext W0) => gCheck_any g a0 a1 a2 a3 c0 c1 c2 c3 Y.1 (HG.out.below (Y.down HB.out hbs)))
  have DI := Lib.hid (fun (Y : Ext W0) => idxG_any g a0 c0 71 #[.pointer (some ⟨w.heap.size + 1, 0, none⟩)] (fun _ _ => rfl) (fun i => decide (g.pn i = part)) Y.1 (HG.out.below (Y.down HB.out hbs)).r0 hl0
    (fun k W _ hW => rateCl_any (g.pn k) (g.pc k) part (w.heap.size + 1) W (by have := Y.2.size; have := hW.size; omega) (G4 ⟨W, Y.2.trans (hW.mono Y.2.size)⟩)))
  have DW0 := Lib.hid (fun (hk : chk g = 0) (Y : Ext W0) => wearOf_any g a0 a1 a2 a3 c0 c1 c2 c3 part 0 4611686018427387904 Y.1 (HG.out.below (Y.down HB.out hbs)) hk)
  have HWS0 := Lib.hid (fun (hk : chk g = 0) => wear_small hk part 0 4611686018427387904 (done := evG g g.nu) (rest := []) (by simp))
  obtain ⟨xx, hxx⟩ : ∃ x, rateF g part = x := ⟨_, rfl⟩
  rw [hxx]
  unfold rateF at hxx
  have HX := Lib.hid hxx
  unfold garV at DK DW0
  unfold garV
  clear h hW0 hb0 hs0 hq0 hxx
  by_cases k1 : chk g = 0
  case neg =>
    rw [if_pos k1] at HX
    have n1 : (chk g != 0) = true := by rw [bne_iff_ne]; exact k1
    clear k1 DW0 HWS0
    generalize chk g = ck at *
    go_enter Try.func28, Try.ntmps28
    go_upto_region 1 with (fail)
    rw [HW0.out]
    refine ext_wp fun X => ?_
    go_wp2_with fail
    refine (Ext.calls _ (DK.out _)).mono ?_
    rintro e w2 ⟨rfl, Y, rfl⟩
    go_wp2_with fail
    go_ret2
    exact ⟨by rw [← HX.out]; rfl, Y.down HB.out hbs⟩
  rw [if_neg (by rw [k1]; simp)] at HX
  rw [k1] at DK
  have DW := Lib.hid (DW0.out k1)
  have hws := HWS0.out k1
  have HCO := Lib.hid (chkP_cost g.np 0 (Gar.chk_parts k1).2.2.2.2.1)
  have n1 : ((0 : Int) != 0) = false := rfl
  clear k1 DW0 HWS0
  cases k2 : hasP g part
  case false =>
    rw [if_pos k2] at HX
    have hm := hasP_miss k2
    generalize idxF (fun i => decide (g.pn i = part)) g.np 0 = zi at *
    have d1 : decide (zi < 0) = true := by simpa using hm
    clear k2
    go_enter Try.func28, Try.ntmps28
    go_upto_region 1 with (fail)
    rw [HW0.out]
    refine ext_wp fun X => ?_
    go_wp2_with fail
    refine (Ext.calls _ (DK.out _)).mono ?_
    rintro e w2 ⟨rfl, Y, rfl⟩
    go_wp2_with fail
    refine (Ext.calls _ (DI.out _)).mono ?_
    rintro e w2 ⟨rfl, Y2, rfl⟩
    go_wp2_with fail
    go_ret2
    exact ⟨by rw [← HX.out]; rfl, Y2.down HB.out hbs⟩
  rw [if_neg (by rw [k2]; simp)] at HX
  obtain ⟨j0, hj0, hjn⟩ := hasP_hit k2
  rw [hj0] at DI HX
  have HX : Hid ((if (wearL g part 0 4611686018427387904 (evG g g.nu)).way = 0 then (0, 13) else Sc.sc (g.pc j0) 10000000 (wearL g part 0 4611686018427387904 (evG g g.nu)).way 4) = xx) := HX
  have hco := HCO.out j0 (Nat.zero_le _) (by omega)
  clear k2 hj0 HCO
  generalize wearL g part 0 4611686018427387904 (evG g g.nu) = st at DW HX hws
  unfold wearR at DW
  have DS := Lib.hid (fun (W : World) => scale_any (g.pc j0) 10000000 st.way 4 W (by omega) (by omega) (by omega) (by omega))
  unfold scRet at DS
  have hji : (j0 : Int) < (g.np : Int) := by omega
  by_cases k3 : st.way = 0
  case pos =>
    rw [if_pos k3] at HX
    have q3 : (st.way == 0) = true := by rw [k3]; rfl
    clear k3
    go_enter Try.func28, Try.ntmps28
    go_upto_region 1 with (fail)
    rw [HW0.out]
    refine ext_wp fun X => ?_
    go_wp2_with fail
    refine (Ext.calls _ (DK.out _)).mono ?_
    rintro e w2 ⟨rfl, Y, rfl⟩
    go_wp2_with fail
    refine (Ext.calls _ (DI.out _)).mono ?_
    rintro e w2 ⟨rfl, Y2, rfl⟩
    go_wp2_with fail
    refine (Ext.calls _ (DW.out _)).mono ?_
    rintro e w2 ⟨rfl, Y3, rfl⟩
    go_wp2_with fail
    go_ret2
    exact ⟨by rw [← HX.out]; rfl, Y3.down HB.out hbs⟩
  rw [if_neg k3] at HX
  have q3 : (st.way == 0) = false := by rw [beq_eq_false_iff_ne]; exact k3
  clear k3
  go_enter Try.func28, Try.ntmps28
  go_upto_region 1 with (fail)
  rw [HW0.out]
  refine ext_wp fun X => ?_
  go_wp2_with fail
  refine (Ext.calls _ (DK.out _)).mono ?_
  rintro e w2 ⟨rfl, Y, rfl⟩
  go_wp2_with fail
  refine (Ext.calls _ (DI.out _)).mono ?_
  rintro e w2 ⟨rfl, Y2, rfl⟩
  go_wp2_with fail
  refine (Ext.calls _ (DW.out _)).mono ?_
  rintro e w2 ⟨rfl, Y3, rfl⟩
  obtain ⟨b, off, rfl, hbl, hcc⟩ := (HG.out.r0.below (Y3.down HB.out hbs) (Nat.le_refl _)).here (by omega)
  have e1 : Y3.1.cell? ⟨b, off + j0 * 2 + 1, none⟩ = some (.int .i64 (g.pc j0)) := hcc j0 hjn 1 (by omega)
  clear hcc
  go_wp2_with fail
  refine (Ext.calls _ (DS.out _)).mono ?_
  rintro e w2 ⟨rfl, Y4, rfl⟩
  go_wp2_with fail
  go_ret2
  exact ⟨ret_pair HX.out, Y4.down HB.out hbs⟩
set_option maxHeartbeats 4000000 in
set_option maxRecDepth 100000 in
theorem rrate_any (g : Gar) (a0 a1 a2 a3 : Option Addr) (c0 c1 c2 c3 : Nat) (part : ByteArray) (w : World) (h : GarIn w g a0 a1 a2 a3) (hc2 : g.nm ≤ c2) (hc3 : g.nu ≤ c3) :
    Calls Try.prog 29 #[garV g a0 a1 a2 a3 c0 c1 c2 c3, .string part] w fun e w' => e = .returned (pairR (rateF g part)) ∧ Below w.heap.size w w' := by
  have HG := Lib.hid h
  obtain ⟨W0, hW0, hb0, hs0, hl0'⟩ := alloc_cells w #[.slice a0 g.np c0, .slice a1 g.ns c1, .slice a2 g.nm c2, .slice a3 g.nu c3] 27
  have G0 := Ext.ex (hl0' 0 _ rfl)
  have G1 := Ext.ex (hl0' 1 _ rfl)
  have G2 := Ext.ex (hl0' 2 _ rfl)
  have G3 := Ext.ex (hl0' 3 _ rfl)
  have HW0 := Lib.hid hW0
  have HB := Lib.hid hb0
  have hbs : w.heap.size ≤ W0.heap.size := by omega
  have DK := Lib.hid (fun (Y : Ext W0) => rCheck_any g a0 a1 a2 a3 c0 c1 c2 c3 Y.1 (HG.out.below (Y.down HB.out hbs)) hc2 hc3)
  have DI := Lib.hid (fun (Y : Ext W0) => partAt_any g a0 a1 a2 a3 c0 c1 c2 c3 part Y.1 (HG.out.below (Y.down HB.out hbs)))
  have DW0 := Lib.hid (fun (hk : chk g = 0) (Y : Ext W0) => rwear_any g a0 a1 a2 a3 c0 c1 c2 c3 part 0 86400000000 Y.1 (HG.out.below (Y.down HB.out hbs)) hk)
  have HWS0 := Lib.hid (fun (hk : chk g = 0) => wear_small hk part 0 4611686018427387904 (done := evG g g.nu) (rest := []) (by simp))
  obtain ⟨xx, hxx⟩ : ∃ x, rateF g part = x := ⟨_, rfl⟩
  rw [hxx]
  unfold rateF at hxx
  have HX := Lib.hid hxx
  unfold garV at DK DW0 DI
  unfold garV
  clear h hl0' hW0 hb0 hs0 hxx
  by_cases k1 : chk g = 0
  case neg =>
    rw [if_pos k1] at HX
    have n1 : (chk g != 0) = true := by rw [bne_iff_ne]; exact k1
    clear k1 DW0 HWS0
    generalize chk g = ck at *
    go_enter Try.func29, Try.ntmps29
    go_upto_region 1 with (fail)
    rw [HW0.out]
    refine ext_wp fun X => ?_
    go_wp2_with fail
    refine (Ext.calls _ (DK.out _)).mono ?_
    rintro e w2 ⟨rfl, Y, rfl⟩
    go_wp2_with fail
    go_ret2
    exact ⟨by rw [← HX.out]; rfl, Y.down HB.out hbs⟩
  rw [if_neg (by rw [k1]; simp)] at HX
  rw [k1] at DK
  have DW := Lib.hid (DW0.out k1)
  have htop := wear_top k1 part
  have hws := HWS0.out k1
  rw [htop] at DW
  have HCO := Lib.hid (chkP_cost g.np 0 (Gar.chk_parts k1).2.2.2.2.1)
  have n1 : ((0 : Int) != 0) = false := rfl
  clear k1 DW0 HWS0 htop
  cases k2 : hasP g part
  case false =>
    rw [if_pos k2] at HX
    have hm := hasP_miss k2
    generalize idxF (fun i => decide (g.pn i = part)) g.np 0 = zi at *
    have d1 : decide (zi < 0) = true := by simpa using hm
    clear k2
    go_enter Try.func29, Try.ntmps29
    go_upto_region 1 with (fail)
    rw [HW0.out]
    refine ext_wp fun X => ?_
    go_wp2_with fail
    refine (Ext.calls _ (DK.out _)).mono ?_
    rintro e w2 ⟨rfl, Y, rfl⟩
    go_wp2_with fail
    refine (Ext.calls _ (DI.out _)).mono ?_
    rintro e w2 ⟨rfl, Y2, rfl⟩
    go_wp2_with fail
    go_ret2
    exact ⟨by rw [← HX.out]; rfl, Y2.down HB.out hbs⟩
  rw [if_neg (by rw [k2]; simp)] at HX
  obtain ⟨j0, hj0, hjn⟩ := hasP_hit k2
  rw [hj0] at DI HX
  have HX : Hid ((if (wearL g part 0 4611686018427387904 (evG g g.nu)).way = 0 then (0, 13) else Sc.sc (g.pc j0) 10000000 (wearL g part 0 4611686018427387904 (evG g g.nu)).way 4) = xx) := HX
  have hco := HCO.out j0 (Nat.zero_le _) (by omega)
  clear k2 hj0 HCO
  generalize wearL g part 0 4611686018427387904 (evG g g.nu) = st at DW HX hws
  unfold wearR at DW
  have DS := Lib.hid (fun (W : World) => rscale_any (g.pc j0) 10000000 st.way 4 W (by omega) (by omega) (by omega) (by omega))
  unfold scRet at DS
  have hji : (j0 : Int) < (g.np : Int) := by omega
  go_enter Try.func29, Try.ntmps29
  go_upto_region 1 with (fail)
  rw [HW0.out]
  refine ext_wp fun X => ?_
  go_wp2_with fail
  refine (Ext.calls _ (DK.out _)).mono ?_
  rintro e w2 ⟨rfl, Y, rfl⟩
  go_wp2_with fail
  refine (Ext.calls _ (DI.out _)).mono ?_
  rintro e w2 ⟨rfl, Y2, rfl⟩
  go_wp2_with fail
  refine (Ext.calls _ (DW.out _)).mono ?_
  rintro e w2 ⟨rfl, Y3, rfl⟩
  obtain ⟨V1, hV1, hvb, hvs, hvl⟩ := alloc_cells Y3.1 #[.int .i64 st.sec, .int .i64 st.way, .int .i64 st.uses] 60
  have U1 := Ext.ex (hvl 1 _ rfl)
  have HWV := Lib.hid (Y3.2.trans (hvb.mono Y3.2.size))
  have G0' := Ext.re HWV.out G0
  have HV1 := Lib.hid hV1
  obtain ⟨b, off, rfl, hbl, hcc⟩ := (HG.out.r0.below (Y3.down HB.out hbs) (Nat.le_refl _)).here (by omega)
  have E1 := Ext.ex (below_cell hvb (show Y3.1.cell? ⟨b, off + j0 * 2 + 1, none⟩ = some (.int .i64 (g.pc j0)) from hcc j0 hjn 1 (by omega)))
  obtain ⟨p6, hp6⟩ : ∃ p6, Y3.1.heap.size = p6 := ⟨_, rfl⟩
  rw [hp6] at U1
  have HP6 := Lib.hid hp6
  have HDV := Lib.hid (HB.out.trans (HWV.out.mono hbs))
  clear hcc hV1 hvb hvs hvl hp6
  by_cases k3 : st.way = 0
  · rw [if_pos k3] at HX
    have q3 : (st.way == 0) = true := by rw [k3]; rfl
    clear k3
    go_upto_region 8 with (fail)
    rw [HV1.out, HP6.out]
    refine ext_wp fun X1 => ?_
    go_wp2_with fail
    go_ret2
    exact ⟨by rw [← HX.out]; rfl, X1.down HDV.out HDV.out.size⟩
  · rw [if_neg k3] at HX
    have q3 : (st.way == 0) = false := by rw [beq_eq_false_iff_ne]; exact k3
    clear k3
    go_upto_region 8 with (fail)
    rw [HV1.out, HP6.out]
    refine ext_wp fun X1 => ?_
    go_upto_region 10 with (fail)
    refine wp_region_ext (W := V1) _ (by kernel_rfl) (by kernel_rfl) ?_
    repeat go_big_quiet_step ((go_at_call 73; exact Ext.calls _ (DS.out _)))
    refine wpQuiet_nil ?_
    intro _ hw'
    obtain ⟨Y5, rfl⟩ := hw'
    go_wp2_with fail
    go_ret2
    exact ⟨ret_pair HX.out, Y5.down HDV.out HDV.out.size⟩
end Go.Proofs.Ytbkpoepacjinlaa

/- The law GearPiecesMatchSpec: its walk. -/
namespace Go.Proofs.Ytbkpoepacjinlaa
open Go.RowKit Go.BigFrame
open Gar (chk momG hasS hasP)

/-- all pieces, or none of a garage that is not right -/
def allP (g : Gar) : List Ev := if chk g = 0 then evG g g.nu else []
def rowP (g : Gar) : PRow := ⟨(allP g).length, fun i => g.un ((allP g).getD i ev0).i, fun i => ((allP g).getD i ev0).s, fun i => ((allP g).getD i ev0).p, fun i => ((allP g).getD i ev0).sec, fun i => ((allP g).getD i ev0).way⟩
theorem rowP_eq (r : PRow) : r.eq r = true := by
  unfold PRow.eq PRow.eqAt
  simp
theorem pieces_form {g : Gar} {w w' : World} {e : Ending} (h : (chk g ≠ 0 ∧ e = .returned (.tuple #[.slice none 0 0, .int .i64 (chk g)])) ∨ (chk g = 0 ∧ ∃ v base, w.heap.size ≤ base ∧ e = .returned (.tuple #[v, .int .i64 0]) ∧ w'.ownsRow base 42 5 v (evG g g.nu).length (evCs g (evG g g.nu)))) :
    ∃ (am : Option Addr) (cm : Nat), e = .returned (.tuple #[.slice am (rowP g).n cm, .int .i64 (chk g)]) ∧ RowK w' am (rowP g).n 5 (rowP g).cells := by
  rcases h with ⟨hne, rfl⟩ | ⟨hz, v, base, _, rfl, ho⟩
  · have hl : allP g = [] := by unfold allP; rw [if_neg hne]
    have hn : (rowP g).n = 0 := by unfold rowP; rw [hl]; rfl
    exact ⟨none, 0, by rw [hn], ⟨fun h => by omega⟩⟩
  · have hl : allP g = evG g g.nu := by unfold allP; rw [if_pos hz]
    obtain ⟨am, cm, rfl, hr⟩ := evRow ho
    rw [← hl] at hr ⊢
    exact ⟨am, cm, by rw [hz]; rfl, hr⟩
set_option maxHeartbeats 1000000 in
theorem eqWear (a b c : Int) (w : World) : (Op.equalIn 10000 60 (.agg #[.int .i64 a, .int .i64 b, .int .i64 c]) (.agg #[.int .i64 a, .int .i64 b, .int .i64 c])).run Try.prog w = .ok true w := by
  have u3 := Try.underlying3
  have a3 := Try.isAgg3
  have z3 := Try.sizeOf3
  have hS : Try.prog.underlying 60 = some (.struct (Try.prog.fieldsOf 60)) := by kernel_rfl
  have hp : Try.prog.stoodInHeld 60 = false := by kernel_rfl
  rw [show (10000 : Nat) = 9999 + 1 from rfl, run_equalIn_agg w 9999 60 _ _ hS hp]
  simp only [Program.fieldsOf, Try.underlying60]
  go_simp
set_option maxHeartbeats 8000000 in
set_option maxRecDepth 100000 in
theorem pieces_law (g : Gar) (a0 a1 a2 a3 : Option Addr) (c0 c1 c2 c3 : Nat) (part rig : ByteArray) (f t : Int) (w : World) (h : GarIn w g a0 a1 a2 a3) (hc2 : g.nm ≤ c2) (hc3 : g.nu ≤ c3) (hrg : rig.size ≤ maxLen) :
    Calls Try.prog 6 #[garV g a0 a1 a2 a3 c0 c1 c2 c3, .string part, .string rig, .int .i64 f, .int .i64 t] w fun e w' => e = .returned (.bool true) ∧ Below w.heap.size w w' := by
  have HG := Lib.hid h
  obtain ⟨W0, hW0, hb0, hs0, hl0'⟩ := alloc_cells w #[.slice a0 g.np c0, .slice a1 g.ns c1, .slice a2 g.nm c2, .slice a3 g.nu c3] 27
  have G0 := Ext.ex (hl0' 0 _ rfl)
  have G1 := Ext.ex (hl0' 1 _ rfl)
  have G2 := Ext.ex (hl0' 2 _ rfl)
  have G3 := Ext.ex (hl0' 3 _ rfl)
  have HW0 := Lib.hid hW0
  have HB := Lib.hid hb0
  have hbs : w.heap.size ≤ W0.heap.size := by omega
  have D1 := Lib.hid (fun (Y : Ext W0) => gPieces_any g a0 a1 a2 a3 c0 c1 c2 c3 Y.1 (HG.out.below (Y.down HB.out hbs)))
  have D2 := Lib.hid (fun (Y : Ext W0) => rPieces_any g a0 a1 a2 a3 c0 c1 c2 c3 Y.1 (HG.out.below (Y.down HB.out hbs)) hc2 hc3)
  have D3 := Lib.hid (fun (Y : Ext W0) => wof_any g a0 a1 a2 a3 c0 c1 c2 c3 part f t Y.1 (HG.out.below (Y.down HB.out hbs)))
  have D4 := Lib.hid (fun (Y : Ext W0) => rwof_any g a0 a1 a2 a3 c0 c1 c2 c3 part f t Y.1 (HG.out.below (Y.down HB.out hbs)) hc2 hc3)
  have D5 := Lib.hid (fun (Y : Ext W0) => tot_any g a0 a1 a2 a3 c0 c1 c2 c3 rig Y.1 (HG.out.below (Y.down HB.out hbs)) hrg)
  have D6 := Lib.hid (fun (Y : Ext W0) => rtot_any g a0 a1 a2 a3 c0 c1 c2 c3 rig Y.1 (HG.out.below (Y.down HB.out hbs)) hrg hc2 hc3)
  have D7 := Lib.hid (fun (Y : Ext W0) => rate_any g a0 a1 a2 a3 c0 c1 c2 c3 part Y.1 (HG.out.below (Y.down HB.out hbs)))
  have D8 := Lib.hid (fun (Y : Ext W0) => rrate_any g a0 a1 a2 a3 c0 c1 c2 c3 part Y.1 (HG.out.below (Y.down HB.out hbs)) hc2 hc3)
  have DT := Lib.hid (fun W => told_any W)
  have hrl : ((rowP g).n : Int) ≤ 9223372036854775807 := by
    show ((allP g).length : Int) ≤ _
    unfold allP
    split
    · rename_i hk
      have h1 := evG_len hk g.nu (Nat.le_refl _)
      have h2 := (Gar.chk_parts hk).2.2.2.1
      omega
    · simp
  unfold garV at D1 D2 D3 D4 D5 D6 D7 D8 ⊢
  have HPF := Lib.hid (fun (W W' : World) (e : Ending) => pieces_form (g := g) (w := W) (w' := W') (e := e))
  have DE := Lib.hid (fun (a b : Option Addr) (c d : Nat) (W : World) (hr : RowK W a (rowP g).n 5 (rowP g).cells) (hq : RowK W b (rowP g).n 5 (rowP g).cells) => equalP_any (rowP g) (rowP g) a b c d W hr hq hrl hrl)
  rw [rowP_eq] at DE
  generalize wofF g part f t = x3 at D3 D4
  generalize totS g rig = x5 at D5 D6
  generalize rateF g part = x7 at D7 D8
  obtain ⟨⟨p1, p2, p3, p4⟩, p5⟩ := x3
  obtain ⟨⟨q1, q2, q3⟩, q5⟩ := x5
  obtain ⟨r1, r2⟩ := x7
  unfold wofR wearR at D3 D4
  unfold totR at D5 D6
  unfold pairR at D7 D8
  clear h hl0' hW0 hb0 hs0 hc2 hc3 hrg
  go_enter Try.func6, Try.ntmps6
  go_upto_region 1 with (fail)
  rw [HW0.out]
  refine ext_wp fun X => ?_
  go_wp2_with fail
  refine (D1.out _).mono ?_
  rintro e w1 ⟨hb1, hcase⟩
  obtain ⟨am, cm, rfl, hra⟩ := HPF.out _ _ _ hcase
  obtain ⟨Y1, rfl⟩ : ∃ Y : Ext W0, w1 = Y.1 := ⟨⟨w1, X.2.trans (hb1.mono X.2.size)⟩, rfl⟩
  go_wp2_with fail
  refine (D2.out _).mono ?_
  rintro e w2 ⟨hb2, hcase2⟩
  obtain ⟨am2, cm2, rfl, hrb⟩ := HPF.out _ _ _ hcase2
  have HRA := Lib.hid (hra.below hb2 (Nat.le_refl _))
  have HRB := Lib.hid hrb
  obtain ⟨Y2, rfl⟩ : ∃ Y : Ext W0, w2 = Y.1 := ⟨⟨w2, Y1.2.trans (hb2.mono Y1.2.size)⟩, rfl⟩
  obtain ⟨n, hn⟩ : ∃ n, (rowP g).n = n := ⟨_, rfl⟩
  obtain ⟨ck, hck⟩ : ∃ c, chk g = c := ⟨_, rfl⟩
  rw [hn] at HRA HRB DE ⊢
  rw [hck]
  have hv2 := Y2.2
  have G0 := Ext.re hv2 G0
  have G1 := Ext.re hv2 G1
  have G2 := Ext.re hv2 G2
  have G3 := Ext.re hv2 G3
  have hw2 := Y2.down HB.out hbs
  have HV2 := Lib.hid hv2
  have HW2 := Lib.hid hw2
  have D3 := Lib.hid (fun (W : World) (hW : Below Y2.1.heap.size Y2.1 W) => D3.out ⟨W, HV2.out.trans (hW.mono HV2.out.size)⟩)
  have D4 := Lib.hid (fun (W : World) (hW : Below Y2.1.heap.size Y2.1 W) => D4.out ⟨W, HV2.out.trans (hW.mono HV2.out.size)⟩)
  have D5 := Lib.hid (fun (W : World) (hW : Below Y2.1.heap.size Y2.1 W) => D5.out ⟨W, HV2.out.trans (hW.mono HV2.out.size)⟩)
  have D6 := Lib.hid (fun (W : World) (hW : Below Y2.1.heap.size Y2.1 W) => D6.out ⟨W, HV2.out.trans (hW.mono HV2.out.size)⟩)
  have D7 := Lib.hid (fun (W : World) (hW : Below Y2.1.heap.size Y2.1 W) => D7.out ⟨W, HV2.out.trans (hW.mono HV2.out.size)⟩)
  have D8 := Lib.hid (fun (W : World) (hW : Below Y2.1.heap.size Y2.1 W) => D8.out ⟨W, HV2.out.trans (hW.mono HV2.out.size)⟩)
  have HB3 := Lib.hid (Below.refl Y2.1.heap.size Y2.1)
  clear hra hrb hcase hcase2 hb1 hb2 hn hck hrl HPF D1 D2 hv2 hw2
  generalize Y2.1 = W2 at *
  go_upto_region 3 with (fail)
  refine ext_wp fun X3 => ?_
  go_wp2_with fail
  refine (Ext.calls _ (D3.out _ X3.2)).mono ?_
  rintro e w3 ⟨rfl, Y3, rfl⟩
  obtain ⟨V4, hV4, hvb4, hvs4, hvl4⟩ := alloc_cells Y3.1 #[.int .i64 p1, .int .i64 p2, .int .i64 p3] 60
  have hbb4 := Y3.2.trans (hvb4.mono Y3.2.size)
  have HB4 := Lib.hid (HB3.out.trans (hbb4.mono HB3.out.size))
  have A0 := Ext.ex (hvl4 0 _ rfl)
  have A1 := Ext.ex (hvl4 1 _ rfl)
  have A2 := Ext.ex (hvl4 2 _ rfl)
  have G0 := Ext.re hbb4 G0
  have G1 := Ext.re hbb4 G1
  have G2 := Ext.re hbb4 G2
  have G3 := Ext.re hbb4 G3
  obtain ⟨s4, hs4⟩ : ∃ s, Y3.1.heap.size = s := ⟨_, rfl⟩
  rw [hs4] at A0 A1 A2
  have HV4 := Lib.hid hV4
  have HS4 := Lib.hid hs4
  clear hV4 hvb4 hvs4 hvl4 hbb4 hs4
  go_upto_region 4 with (fail)
  rw [HV4.out, HS4.out]
  refine ext_wp fun X4 => ?_
  go_wp2_with fail
  refine (Ext.calls _ (D4.out _ (X4.down HB4.out HB4.out.size))).mono ?_
  rintro e w2 ⟨rfl, Y4, rfl⟩
  obtain ⟨V5, hV5, hvb5, hvs5, hvl5⟩ := alloc_cells Y4.1 #[.int .i64 p1, .int .i64 p2, .int .i64 p3] 60
  have hbb5 := Y4.2.trans (hvb5.mono Y4.2.size)
  have HB5 := Lib.hid (HB4.out.trans (hbb5.mono HB4.out.size))
  have B0 := Ext.ex (hvl5 0 _ rfl)
  have B1 := Ext.ex (hvl5 1 _ rfl)
  have B2 := Ext.ex (hvl5 2 _ rfl)
  have G0 := Ext.re hbb5 G0
  have G1 := Ext.re hbb5 G1
  have G2 := Ext.re hbb5 G2
  have G3 := Ext.re hbb5 G3
  have A0 := Ext.re hbb5 A0
  have A1 := Ext.re hbb5 A1
  have A2 := Ext.re hbb5 A2
  obtain ⟨s5, hs5⟩ : ∃ s, Y4.1.heap.size = s := ⟨_, rfl⟩
  rw [hs5] at B0 B1 B2
  have HV5 := Lib.hid hV5
  have HS5 := Lib.hid hs5
  clear hV5 hvb5 hvs5 hvl5 hbb5 hs5
  go_upto_region 5 with (fail)
  rw [HV5.out, HS5.out]
  refine ext_wp fun X5 => ?_
  go_wp2_with fail
  refine (Ext.calls _ (D5.out _ (X5.down HB5.out HB5.out.size))).mono ?_
  rintro e w2 ⟨rfl, Y5, rfl⟩
  obtain ⟨V6, hV6, hvb6, hvs6, hvl6⟩ := alloc_cells Y5.1 #[.int .i64 q1, .int .i64 q2, .int .i64 q3] 60
  have hbb6 := Y5.2.trans (hvb6.mono Y5.2.size)
  have HB6 := Lib.hid (HB5.out.trans (hbb6.mono HB5.out.size))
  have C0 := Ext.ex (hvl6 0 _ rfl)
  have C1 := Ext.ex (hvl6 1 _ rfl)
  have C2 := Ext.ex (hvl6 2 _ rfl)
  have G0 := Ext.re hbb6 G0
  have G1 := Ext.re hbb6 G1
  have G2 := Ext.re hbb6 G2
  have G3 := Ext.re hbb6 G3
  have A0 := Ext.re hbb6 A0
  have A1 := Ext.re hbb6 A1
  have A2 := Ext.re hbb6 A2
  have B0 := Ext.re hbb6 B0
  have B1 := Ext.re hbb6 B1
  have B2 := Ext.re hbb6 B2
  obtain ⟨s6, hs6⟩ : ∃ s, Y5.1.heap.size = s := ⟨_, rfl⟩
  rw [hs6] at C0 C1 C2
  have HV6 := Lib.hid hV6
  have HS6 := Lib.hid hs6
  clear hV6 hvb6 hvs6 hvl6 hbb6 hs6
  go_upto_region 6 with (fail)
  rw [HV6.out, HS6.out]
  refine ext_wp fun X6 => ?_
  go_wp2_with fail
  refine (Ext.calls _ (D6.out _ (X6.down HB6.out HB6.out.size))).mono ?_
  rintro e w2 ⟨rfl, Y6, rfl⟩
  obtain ⟨V7, hV7, hvb7, hvs7, hvl7⟩ := alloc_cells Y6.1 #[.int .i64 q1, .int .i64 q2, .int .i64 q3] 60
  have hbb7 := Y6.2.trans (hvb7.mono Y6.2.size)
  have HB7 := Lib.hid (HB6.out.trans (hbb7.mono HB6.out.size))
  have D0 := Ext.ex (hvl7 0 _ rfl)
  have D1 := Ext.ex (hvl7 1 _ rfl)
  have D2 := Ext.ex (hvl7 2 _ rfl)
  have G0 := Ext.re hbb7 G0
  have G1 := Ext.re hbb7 G1
  have G2 := Ext.re hbb7 G2
  have G3 := Ext.re hbb7 G3
  have A0 := Ext.re hbb7 A0
  have A1 := Ext.re hbb7 A1
  have A2 := Ext.re hbb7 A2
  have B0 := Ext.re hbb7 B0
  have B1 := Ext.re hbb7 B1
  have B2 := Ext.re hbb7 B2
  have C0 := Ext.re hbb7 C0
  have C1 := Ext.re hbb7 C1
  have C2 := Ext.re hbb7 C2
  obtain ⟨s7, hs7⟩ : ∃ s, Y6.1.heap.size = s := ⟨_, rfl⟩
  rw [hs7] at D0 D1 D2
  have HV7 := Lib.hid hV7
  have HS7 := Lib.hid hs7
  clear hV7 hvb7 hvs7 hvl7 hbb7 hs7
  go_upto_region 7 with (fail)
  rw [HV7.out, HS7.out]
  refine ext_wp fun X7 => ?_
  go_wp2_with fail
  refine (Ext.calls _ (D7.out _ (X7.down HB7.out HB7.out.size))).mono ?_
  rintro e w2 ⟨rfl, Y7, rfl⟩
  go_wp2_with fail
  refine (Ext.calls _ (D8.out _ (Y7.down HB7.out HB7.out.size))).mono ?_
  rintro e w2 ⟨rfl, Y8, rfl⟩

  have DE1 : Hid (∀ Z : Ext V7, Calls Try.prog 30 #[.slice am n cm, .slice am2 n cm2] Z.1 fun e w' => e = .returned (.bool true) ∧ Below Z.1.heap.size Z.1 w') := Lib.hid (fun Z => (DE.out am am2 cm cm2 Z.1 (HRA.out.below (Z.down HB7.out HB7.out.size) (Nat.le_refl _)) (HRB.out.below (Z.down HB7.out HB7.out.size) (Nat.le_refl _))).mono (by rintro e w' ⟨rfl, m, rfl⟩; exact ⟨rfl, below_drewN (Below.refl _ _) m⟩))
  have hgd : Try.prog.eqGuardType Try.prog.depth 60 = false := by kernel_rfl
  have hqp : ∀ W, (Op.equalIn 10000 60 (.agg #[.int .i64 p1, .int .i64 p2, .int .i64 p3]) (.agg #[.int .i64 p1, .int .i64 p2, .int .i64 p3])).run Try.prog W = .ok true W := fun W => eqWear _ _ _ W
  have hqq : ∀ W, (Op.equalIn 10000 60 (.agg #[.int .i64 q1, .int .i64 q2, .int .i64 q3]) (.agg #[.int .i64 q1, .int .i64 q2, .int .i64 q3])).run Try.prog W = .ok true W := fun W => eqWear _ _ _ W
  have HBW := Lib.hid (HW2.out.trans (HB7.out.mono HW2.out.size))
  clear D3 D4 D5 D6 D7 D8 G0 G1 G2 G3
  go_wp2_with fail
  refine (Ext.calls _ (DE1.out _)).mono ?_
  rintro e w2 ⟨rfl, Y9, rfl⟩
  go_wp2_with fail
  refine (Ext.calls _ (DT.out _)).mono ?_
  rintro e w2 ⟨rfl, Y9, rfl⟩
  go_wp2_with fail
  go_ret
  exact ⟨rfl, Y9.down HBW.out HBW.out.size⟩
end Go.Proofs.Ytbkpoepacjinlaa

/- A garage that came in by value: how it reads. -/
namespace Go.Proofs.Ytbkpoepacjinlaa
open Go.ChangeShapes Go.WideShapes Go.ChangeAt Go.RowKit Go.Deep

theorem laidOut : laidOutB Try.prog = true := by kernel_rfl
theorem readGarage : Try.prog.readableRec 27 = true := by kernel_rfl
theorem rowGarage : 27 < Try.prog.types.size := of_decide_eq_true (by kernel_rfl)
def intV : Value → Int
  | .int _ n => n
  | _ => 0
def strV : Value → ByteArray
  | .string s => s
  | _ => ByteArray.empty
theorem RowK.congr {w : World} {a : Option Addr} {len k : Nat} {V V' : Nat → List Value} (h : RowK w a len k V) (he : ∀ i, i < len → V i = V' i) : RowK w a len k V' :=
  ⟨fun h0 => by
    obtain ⟨b, off, e, hb, hc⟩ := h.here h0
    exact ⟨b, off, e, hb, fun i hi j hj => by rw [hc i hi j hj, he i hi]⟩⟩
section
variable {H : Type} {enc : TypeId × Value → H} {P : Program} {w : World} {base : Nat}
theorem field_str {V : List Value} {j : Nat} {t : TypeId} (ht : P.underlying t = some .string) (h : ∃ u n y, V[j]? = some u ∧ DataW.trod enc P w base (fun _ => true) true n t [u] = some y) :
    V[j]? = some (.string (strV (V.getD j (.bool false)))) ∧ (strV (V.getD j (.bool false))).size ≤ maxLen := by
  obtain ⟨u, n, y, hu, hd⟩ := h
  obtain ⟨s, e, _, hs⟩ := DataW.trod_string ht hd
  simp only [List.cons.injEq, and_true] at e
  subst e
  rw [List.getD_eq_getElem?_getD, hu]
  exact ⟨rfl, hs⟩
theorem field_int {V : List Value} {j : Nat} {t : TypeId} (ht : P.underlying t = some (.int .i64)) (h : ∃ u n y, V[j]? = some u ∧ DataW.trod enc P w base (fun _ => true) true n t [u] = some y) :
    V[j]? = some (.int .i64 (intV (V.getD j (.bool false)))) := by
  obtain ⟨u, n, y, hu, hd⟩ := h
  obtain ⟨s, e, _, hs⟩ := DataW.trod_int ht hd
  simp only [List.cons.injEq, and_true] at e
  subst e
  rw [List.getD_eq_getElem?_getD, hu]
  rfl
end
theorem list2 {V : List Value} {a b : Value} (hl : V.length = 2) (h0 : V[0]? = some a) (h1 : V[1]? = some b) : V = [a, b] := by
  match V, hl with
  | [x, y], _ => simp at h0 h1; rw [h0, h1]
theorem list4 {V : List Value} {a b c d : Value} (hl : V.length = 4) (h0 : V[0]? = some a) (h1 : V[1]? = some b) (h2 : V[2]? = some c) (h3 : V[3]? = some d) : V = [a, b, c, d] := by
  match V, hl with
  | [x, y, z, u], _ => simp at h0 h1 h2 h3; rw [h0, h1, h2, h3]
theorem list5 {V : List Value} {a b c d e : Value} (hl : V.length = 5) (h0 : V[0]? = some a) (h1 : V[1]? = some b) (h2 : V[2]? = some c) (h3 : V[3]? = some d) (h4 : V[4]? = some e) : V = [a, b, c, d, e] := by
  match V, hl with
  | [x, y, z, u, v], _ => simp at h0 h1 h2 h3 h4; rw [h0, h1, h2, h3, h4]

set_option maxRecDepth 100000 in
theorem open_garage {H : Type} {enc : TypeId × Value → H} {W : World} {r : Reach} {b0 base : Nat} {v : Value} {d : DataW H} {p : List MemPlace}
    (hv : Value.okWide Try.prog W r b0 27 v) (h : DataW.Trod enc Try.prog W base (fun _ => true) true 27 v d p) :
    ∃ (g : Gar) (a0 a1 a2 a3 : Option Addr) (c0 c1 c2 c3 : Nat), v = garV g a0 a1 a2 a3 c0 c1 c2 c3 ∧ GarIn W g a0 a1 a2 a3 ∧ g.nm ≤ c2 ∧ g.nu ≤ c3 := by
  obtain ⟨v0, v1, v2, v3, y0, y1, y2, y3, m, rfl, _, _, h0, h1, h2, h3⟩ := Go.Joins.open_agg4 Try.underlying27 (by kernel_rfl) (by kernel_rfl) hv h
  obtain ⟨a0, n0, c0, V0, rfl, l0, m0, R0, F0⟩ := open_rowK Try.underlying22 Try.underlying94 (by kernel_rfl) (by decide) (hone_of (by kernel_rfl)) h0
  obtain ⟨a1, n1, c1, V1, rfl, l1, m1, R1, F1⟩ := open_rowK Try.underlying23 Try.underlying40 (by kernel_rfl) (by decide) (hone_of (by kernel_rfl)) h1
  obtain ⟨a2, n2, c2, V2, rfl, l2, m2, R2, F2⟩ := open_rowK Try.underlying24 Try.underlying54 (by kernel_rfl) (by decide) (hone_of (by kernel_rfl)) h2
  obtain ⟨a3, n3, c3, V3, rfl, l3, m3, R3, F3⟩ := open_rowK Try.underlying25 Try.underlying38 (by kernel_rfl) (by decide) (hone_of (by kernel_rfl)) h3
  have hm : maxLen = 9223372036854775807 := rfl
  have S := Try.underlying9
  have I := Try.underlying3
  refine ⟨{ np := n0, ns := n1, nm := n2, nu := n3,
            pn := fun i => strV ((V0 i).getD 0 (.bool false)), pc := fun i => intV ((V0 i).getD 1 (.bool false)),
            sn := fun i => strV ((V1 i).getD 0 (.bool false)), sr := fun i => strV ((V1 i).getD 1 (.bool false)),
            ms := fun i => strV ((V2 i).getD 0 (.bool false)), mp := fun i => strV ((V2 i).getD 1 (.bool false)), mf := fun i => intV ((V2 i).getD 2 (.bool false)), mt := fun i => intV ((V2 i).getD 3 (.bool false)),
            un := fun i => strV ((V3 i).getD 0 (.bool false)), ur := fun i => strV ((V3 i).getD 1 (.bool false)), uf := fun i => intV ((V3 i).getD 2 (.bool false)), us := fun i => intV ((V3 i).getD 3 (.bool false)), uw := fun i => intV ((V3 i).getD 4 (.bool false)) },
    a0, a1, a2, a3, c0, c1, c2, c3, rfl, ⟨?_, ?_, ?_, ?_, ?_, ?_, ?_, ?_, ?_, ?_, ?_, ?_⟩, l2, l3⟩
  · exact R0.congr fun i hi => list2 (F0 i hi).1 (field_str S ((F0 i hi).2 0 _ rfl)).1 (field_int I ((F0 i hi).2 1 _ rfl))
  · exact R1.congr fun i hi => list2 (F1 i hi).1 (field_str S ((F1 i hi).2 0 _ rfl)).1 (field_str S ((F1 i hi).2 1 _ rfl)).1
  · exact R2.congr fun i hi => list4 (F2 i hi).1 (field_str S ((F2 i hi).2 0 _ rfl)).1 (field_str S ((F2 i hi).2 1 _ rfl)).1 (field_int I ((F2 i hi).2 2 _ rfl)) (field_int I ((F2 i hi).2 3 _ rfl))
  · exact R3.congr fun i hi => list5 (F3 i hi).1 (field_str S ((F3 i hi).2 0 _ rfl)).1 (field_str S ((F3 i hi).2 1 _ rfl)).1 (field_int I ((F3 i hi).2 2 _ rfl)) (field_int I ((F3 i hi).2 3 _ rfl)) (field_int I ((F3 i hi).2 4 _ rfl))
  · exact fun i hi => (field_str S ((F0 i hi).2 0 _ rfl)).2
  · exact fun i hi => ⟨(field_str S ((F1 i hi).2 0 _ rfl)).2, (field_str S ((F1 i hi).2 1 _ rfl)).2⟩
  · exact fun i hi => ⟨(field_str S ((F2 i hi).2 0 _ rfl)).2, (field_str S ((F2 i hi).2 1 _ rfl)).2⟩
  · exact fun i hi => ⟨(field_str S ((F3 i hi).2 0 _ rfl)).2, (field_str S ((F3 i hi).2 1 _ rfl)).2⟩
  · show ((n0 : Nat) : Int) ≤ _; omega
  · show ((n1 : Nat) : Int) ≤ _; omega
  · show ((n2 : Nat) : Int) ≤ _; omega
  · show ((n3 : Nat) : Int) ≤ _; omega
end Go.Proofs.Ytbkpoepacjinlaa

/- GearPiecesMatchSpec: for every input the law returns true, and each argument reads as it did. (The frame is the guide's shell of a law's proof, turned to a garage by value; the walk is pieces_law.) -/
namespace Go.Proofs.Ytbkpoepacjinlaa.gearPiecesMatchSpecDone
open Go.ChangeShapes Go.WideShapes Go.ChangeAt Go.RowKit Go.ChangeMaps
set_option linter.unusedVariables false

theorem own : ownKnob Try.prog.godebug = none := by kernel_rfl

set_option maxRecDepth 100000 in
theorem lifted (os : Os) (started : os.Started) (H : Type) (enc : TypeId × Value → H) :
    ReturnsInHanded {} Try.checked os 6 .any (Rows.gearPiecesMatchSpecSpec.pre6 enc Try.prog Try.f6 Rows.gearPiecesMatchSpecRow.domain false) (Rows.gearPiecesMatchSpecSpec.post enc Try.prog Try.f6 false true false false) := by
  refine returnsInHanded_of_change (C := Try.checked) own started (by kernel_rfl) Try.func6
    (ChangeSpec.witness6 (enc := enc) (C := Try.checked) false ⟨#[], #[.agg #[.slice none 0 0, .slice none 0 0, .slice none 0 0, .slice none 0 0], .string ByteArray.empty, .string ByteArray.empty, .int .i64 0, .int .i64 0], []⟩ 8 (by kernel_rfl) (by kernel_rfl) (by kernel_rfl) (by kernel_rfl)) ?_
  intro W base args ds gs before hval0 hW hcnd _
  have hval : ∀ (j : Nat) t v, Try.f6.params[j]? = some t → args[j]? = some v → Value.okWide Try.prog W .any base t v := hval0
  have hW' := hW
  obtain ⟨p, q, hA0, hV, rfl, hfz, hnd⟩ := hW
  have hA : DataW.TrodAll enc Try.prog W 0 (fun _ => true) true Try.f6.params.toList args.toList ds p := hA0
  have hlt := DataW.TrodAll.lt hA
  rw [Try.params6] at hA hval
  obtain ⟨v0, vs0, d0, ds0, p0, q0, hargs, rfl, rfl, h0, r0⟩ := trodAll_cons hA
  obtain ⟨v1, vs1, d1, ds1, p1, q1, rfl, rfl, rfl, h1, r1⟩ := trodAll_cons r0
  obtain ⟨v2, vs2, d2, ds2, p2, q2, rfl, rfl, rfl, h2, r2⟩ := trodAll_cons r1
  obtain ⟨v3, vs3, d3, ds3, p3, q3, rfl, rfl, rfl, h3, r3⟩ := trodAll_cons r2
  obtain ⟨v4, vs4, d4, ds4, p4, q4, rfl, rfl, rfl, h4, r4⟩ := trodAll_cons r3
  obtain ⟨rfl, rfl, rfl⟩ := trodAll_nil r4
  obtain rfl : args = #[v0, v1, v2, v3, v4] := by cases args; simp_all
  obtain ⟨rfl, rfl⟩ := trodVars_none hV
  obtain ⟨g, a0, a1, a2, a3, c0, c1, c2, c3, rfl, hr, hc2, hc3⟩ := open_garage (hval 0 27 v0 rfl rfl) h0
  obtain ⟨s1, rfl, rfl, rfl, w1⟩ := open_string Try.underlying9 (hval 1 9 v1 rfl rfl) h1
  obtain ⟨s2, rfl, rfl, rfl, w2⟩ := open_string Try.underlying9 (hval 2 9 v2 rfl rfl) h2
  obtain ⟨m3, rfl, rfl, rfl, w3⟩ := open_int Try.underlying3 (hval 3 3 v3 rfl rfl) h3
  obtain ⟨m4, rfl, rfl, rfl, w4⟩ := open_int Try.underlying3 (hval 4 3 v4 rfl rfl) h4
  clear hA0 hval0
  simp only [List.append_nil] at hW' hlt
  refine (pieces_law g a0 a1 a2 a3 c0 c1 c2 c3 s1 s2 m3 m4 W hr hc2 hc3 w2).mono fun e W' hE => ?_
  obtain ⟨he, hg⟩ := hE
  subst he
  have hz := Below.trod laidOut readGarage rowGarage h0 hg hlt
  exact ⟨_, rfl, _, _, _, [], _, [], hW', (trodAll_cons_mk (shut_bool Try.underlying4 _) trodAll_mk0), (trodAll_cons_mk hz (trodAll_cons_mk (shut_string Try.underlying9 w1) (trodAll_cons_mk (shut_string Try.underlying9 w2) (trodAll_cons_mk (shut_int Try.underlying3 w3) (trodAll_cons_mk (shut_int Try.underlying3 w4) trodAll_mk0))))), rfl, hg.frame _, fun h => by cases h⟩

theorem over : Rows.gearPiecesMatchSpecRow.holds Try.pinned (OpenSpec.ofChange Rows.gearPiecesMatchSpecSpec) :=
  OpenClaim.holds_of_wide 6 Try.f6 rfl rfl rfl rfl rfl rfl rfl ⟨rfl, rfl, rfl, rfl, rfl⟩ rfl rfl rfl rfl rfl (by kernel_rfl) Try.func6 (by kernel_rfl)
    (of_decide_eq_true (by kernel_rfl)) (by unfold Func.isWrapper; first | (rw [if_pos (by decide +kernel)]; kernel_rfl) | (rw [if_neg (by decide +kernel)]; exact ⟨rfl, rfl⟩))
    (fun os started H enc _ => lifted os started H enc)

/-- The statement. -/
theorem proved : Rows.GearPiecesMatchSpecSaid :=
  over
#print axioms proved
end Go.Proofs.Ytbkpoepacjinlaa.gearPiecesMatchSpecDone
