/- Several texts of this claim in one. -/
import Derived.Test.YtbkpoepacjinlaaGreatEs7
import Derived.Test.YtbkpoepacjinlaaGreatEs3
import Derived.Test.YtbkpoepacjinlaaGreatRows
import Derived.ProofKit
import Derived.OpenShut
import Derived.Lib.SmallJoins
import Derived.Carry
import Derived.ChangeMaps5
import Derived.WalkKit
/- Gear: Swaps of the reference. -/
namespace Go.Proofs.YtbkpoepacjinlaaGreat
open Go.RowKit Go.BigFrame
open Gar (chk hasS)
open Cir (Perm it To IsP)

theorem inF_at {g : Gar} {slot : ByteArray} {m : Int} {p : ByteArray} : ∀ (n k : Nat), inF g slot m n k = some p → ∃ i, k ≤ i ∧ i < k + n ∧ g.mp i = p ∧ g.ms i = slot ∧ isG (g.mf i) (g.mt i) m = true
  | 0, _, h => by simp [inF] at h
  | n + 1, k, h => by
    rw [inF] at h
    split at h
    · rename_i h1
      injection h with h
      rw [Bool.and_eq_true, decide_eq_true_eq] at h1
      exact ⟨k, by omega, by omega, h, h1.1, h1.2⟩
    · obtain ⟨i, h1, h2, h3⟩ := inF_at n (k + 1) h
      exact ⟨i, by omega, by omega, h3⟩
theorem partF_some {g : Gar} {sl : Nat → ByteArray} {j : Nat} (h : partF g sl j ≠ ⟨#[]⟩) : inF g (sl j) 86399999999 g.nm 0 = some (partF g sl j) := by
  unfold partF at h ⊢
  cases e : inF g (sl j) 86399999999 g.nm 0 with
  | none => rw [e] at h; exact absurd rfl h
  | some p => rfl
/-- two slots have two parts -/
theorem partF_inj {g : Gar} (hc : chk g = 0) {sl : Nat → ByteArray} {x y : Nat} (hx : partF g sl x ≠ ⟨#[]⟩) (hy : partF g sl y ≠ ⟨#[]⟩) (e : partF g sl x = partF g sl y) : sl x = sl y := by
  obtain ⟨i, _, hi, pi, si, gi⟩ := inF_at _ _ (partF_some hx)
  obtain ⟨k, _, hk, pk, sk, gk⟩ := inF_at _ _ (partF_some hy)
  have hp := Gar.chk_parts hc
  unfold isG at gi gk
  rw [Bool.and_eq_true, decide_eq_true_eq, decide_eq_true_eq] at gi gk
  rcases Nat.lt_trichotomy i k with h | h | h
  · have := Gar.apart hp.2.2.2.2.2.2.1 hp.2.2.2.2.2.2.2.1 h (by omega) (Or.inr (pi.trans (e.trans pk.symm)))
    omega
  · subst h
    exact si.symm.trans sk
  · have := Gar.apart hp.2.2.2.2.2.2.1 hp.2.2.2.2.2.2.2.1 h (by omega) (Or.inr (pk.trans (e.symm.trans pi.symm)))
    omega
/-- from a row of the call's own to a block -/
theorem own_part {w : World} {base n q cap : Nat} {T : TypeId} {xs : List Value} {f : Nat → Value} (h : w.ownsRow base T 1 (.slice (some ⟨q, 0, none⟩) n cap) n xs) (hx : ∀ j, j < n → xs[j]? = some (f j)) : n ≤ cap ∧ Part w q cap n T f := by
  rcases h.2 with ⟨e, _⟩ | ⟨g, cap', cur, e, _, h3, h4, _, h6, h7⟩
  · cases e
  · injection e with e1 _ e2
    injection e1 with e1
    injection e1 with e1
    subst e1
    subst e2
    refine ⟨h4, cur, h3, by rw [h6, Nat.mul_one], fun j hj => ?_⟩
    have h8 := hx j hj
    rw [← h7, List.getElem?_take_of_lt (by omega), Array.getElem?_toList] at h8
    exact h8
def nowCs (g : Gar) (sl : Nat → ByteArray) (k : Nat) : List Value := (List.range k).map fun j => .string (partF g sl j)
theorem nowCs_at {g : Gar} {sl : Nat → ByteArray} {n j : Nat} (h : j < n) : (nowCs g sl n)[j]? = some (.string (partF g sl j)) := by
  unfold nowCs
  simp [h]
theorem nowCs_snoc (g : Gar) (sl : Nat → ByteArray) (k : Nat) : nowCs g sl (k + 1) = nowCs g sl k ++ [.string (partF g sl k)] := by
  unfold nowCs
  rw [List.range_succ, List.map_append]
  rfl
set_option maxHeartbeats 4000000 in
set_option maxRecDepth 100000 in
theorem rswaps_nil (a q : Option Addr) (c0 c2 : Nat) (most : Int) (w : World) :
    Calls Tryz.prog 16 #[.slice a (0 : Nat) c0, .slice none 0 0, .slice q (0 : Nat) c2, .int .i64 most] w fun e w' => e = .returned (.slice none 0 0) ∧ w = w' := by
  by_cases hm : 0 < most
  · have t1 : decide (0 < most) = true := by simpa using hm
    clear hm
    go_enter Tryz.func16, Tryz.ntmps16
    go_wp2_with fail
    go_loopw [9] (fun v wr => v = .slice none 0 0 ∧ w = wr) (fun _ _ => 0)
    case atStart => exact ⟨rfl, rfl⟩
    case round =>
      obtain ⟨rfl, rfl⟩ := hrel
      go_wp2_with fail
      go_loopw [10, 11, 20] (fun xv yv iv wr => xv = .int .i64 (-1) ∧ yv = .int .i64 (-1) ∧ iv = .int .i64 0 ∧ w = wr) (fun _ _ _ _ => 0)
      case atStart => exact ⟨rfl, rfl, rfl, rfl⟩
      case round =>
        obtain ⟨rfl, rfl, rfl, rfl⟩ := hrel
        go_wp2_with fail
        go_ret
        exact ⟨rfl, rfl⟩
  · have t1 : decide (0 < most) = false := by simpa using hm
    clear hm
    go_enter Tryz.func16, Tryz.ntmps16
    go_wp2_with fail
    go_loopw [9] (fun v wr => v = .slice none 0 0 ∧ w = wr) (fun _ _ => 0)
    case atStart => exact ⟨rfl, rfl⟩
    case round =>
      obtain ⟨rfl, rfl⟩ := hrel
      go_wp2_with fail
      go_ret
      exact ⟨rfl, rfl⟩
/-- what Swaps of the reference hands back -/
def RsR (g : Gar) (n : Nat) (sl : Nat → ByteArray) (most : Nat) (w : World) (v : Value) (w' : World) : Prop :=
  ∃ ps : List (Nat × Nat), (∃ base, w.heap.size ≤ base ∧ w'.ownsRow base 34 2 v ps.length (pairCs sl ps)) ∧ (n = 0 → ps = []) ∧
    (0 < n → ∃ tt bs bp t : Nat → Nat, Ords n (fun j => sumK Ev.s (evG g g.nu) (sl j)) (fun j => sumK Ev.p (evG g g.nu) (partF g sl j)) (partF g sl) tt bs bp ∧ Swps n tt ps t ∧ SwEnd n most ps t ∧ ∀ x, x ∈ ps → x.1 < n ∧ x.2 < n)
def RsPost (g : Gar) (n : Nat) (sl : Nat → ByteArray) (most : Int) (w : World) (E : Int) (e : Ending) (w' : World) : Prop :=
  ∃ v, e = .returned (.tuple #[v, .int .i64 E]) ∧ Below w.heap.size w w' ∧ (E ≠ 0 → v = .slice none 0 0) ∧ (E = 0 → RsR g n sl most.toNat w v w')
theorem RsPost.err {g : Gar} {n : Nat} {sl : Nat → ByteArray} {most : Int} {w w' : World} {E E' : Int} (hb : Below w.heap.size w w') (h : E' = E) (hz : E ≠ 0) : RsPost g n sl most w E (.returned (.tuple #[.slice none 0 0, .int .i64 E'])) w' :=
  ⟨_, by rw [h], hb, fun _ => rfl, fun h0 => absurd h0 hz⟩
set_option maxHeartbeats 8000000 in
set_option maxRecDepth 100000 in
theorem rSwaps_any (g : Gar) (a0 a1 a2 a3 : Option Addr) (c0 c1 c2 c3 : Nat) (n : Nat) (sl : Nat → ByteArray) (a : Option Addr) (cap : Nat) (most : Int) (w : World) (h : GarIn w g a0 a1 a2 a3) (hc2 : g.nm ≤ c2) (hc3 : g.nu ≤ c3) (hr : RowK w a n 1 (fun j => [.string (sl j)])) (hcap : n ≤ cap) (hn : (n : Int) ≤ 9223372036854775807) :
    Calls Tryz.prog 5 #[garV g a0 a1 a2 a3 c0 c1 c2 c3, .slice a n cap, .int .i64 most] w fun e w' => RsPost g n sl most w (swapErr g n sl most) e w' := by
  have HG := Lib.hid h
  have HR := Lib.hid hr
  obtain ⟨V, hV, hb, hs, hq⟩ := alloc_block w #[.slice a0 g.np c0, .slice a1 g.ns c1, .slice a2 g.nm c2, .slice a3 g.nu c3] 27
  have HV := Lib.hid hV
  have HB := Lib.hid hb
  have hsV : w.heap.size ≤ V.heap.size := hb.size
  have G0 := Ext.ex (block_cell (i := 0) hq rfl)
  have G1 := Ext.ex (block_cell (i := 1) hq rfl)
  have G2 := Ext.ex (block_cell (i := 2) hq rfl)
  have G3 := Ext.ex (block_cell (i := 3) hq rfl)
  have DC := Lib.hid (fun (Y : Ext V) => Y.calls (rCheck_any g a0 a1 a2 a3 c0 c1 c2 c3 Y.1 (HG.out.below (Y.down HB.out hsV)) hc2 hc3))
  have DS0 := Lib.hid (fun (j : Nat) (W : World) (hW : Below w.heap.size w W) => slotAt_any g a0 a1 a2 a3 c0 c1 c2 c3 (sl j) W (HG.out.below hW))
  have DI0 := Lib.hid (fun (j : Nat) (W : World) (hW : Below w.heap.size w W) => rin_any g a0 a1 a2 a3 c0 c1 c2 c3 (sl j) 86399999999 W (HG.out.below hW) _ rfl)
  have DN := Lib.hid (fun (W : World) => rout_any most 0 100 W)
  have DW0 := Lib.hid (fun (hchk : chk g = 0) (pn : Nat → ByteArray) (p : Option Addr) (capp : Nat) (hn20 : n ≤ 20) (W : World) (hW : Below w.heap.size w W) (hpr : RowK W p n 1 (fun j => [.string (pn j)])) (hsl : ∀ j, j < n → hasS g (sl j) = true) (hd : ∀ x y, x < n → y < n → x ≠ y → pn x ≠ pn y) =>
    rwanted_any g a0 a1 a2 a3 c0 c1 c2 c3 n sl pn a p cap capp W (HG.out.below hW) hchk (HR.out.below hW (Nat.le_refl _)) hpr hn20 hsl hd)
  have hidx := Lib.hid (fun j => hasS_idx g (sl j))
  obtain ⟨E, hE⟩ : ∃ E, swapErr g n sl most = E := ⟨_, rfl⟩
  rw [hE]
  have HE0 := Lib.hid hE
  unfold swapErr at hE
  have HE := Lib.hid hE
  unfold garV at DC DS0 DI0 DW0 ⊢
  clear h hr hV hb hq hE
  by_cases k0 : chk g = 0
  case neg =>
    have x0 : (chk g != 0) = true := by simpa using k0
    have HX := Lib.hid (show chk g = E by rw [← HE.out, if_pos k0])
    go_enter Tryz.func5, Tryz.ntmps5
    go_upto_region 1 with (fail)
    rw [HV.out]
    refine ext_wp fun Y => ?_
    go_wp2_with (go_at_call 12; refine ((DC.out _).mono ?_); rintro e w3 ⟨rfl, Y3, rfl⟩)
    go_ret2
    exact RsPost.err (Y3.down HB.out hsV) HX.out (by rw [← HX.out]; exact k0)
  have x0 : (chk g != 0) = false := by simpa using k0
  have HX := Lib.hid (show swErr g n sl most = E by rw [← HE.out, if_neg (by simpa using k0)])
  have HIN := Lib.hid (fun (j : Nat) => in_name (g := g) k0 (slot := sl j) (m := 86399999999))
  rw [k0] at DC
  clear HE
  have hX := HX.out
  unfold swErr at hX
  by_cases k1 : 20 < n
  case pos =>
    have HX3 := Lib.hid (show (3 : Int) = E by rw [← hX, if_pos k1])
    have t1 : decide ((20 : Int) < (n : Int)) = true := by rw [decide_eq_true_eq]; omega
    have t1' : decide (20 < n) = true := by simpa using k1
    clear k1 hX x0
    go_enter Tryz.func5, Tryz.ntmps5
    go_upto_region 1 with (fail)
    rw [HV.out]
    refine ext_wp fun Y => ?_
    go_wp2_with (go_at_call 12; refine ((DC.out _).mono ?_); rintro e w3 ⟨rfl, Y3, rfl⟩)
    go_ret2
    exact RsPost.err (Y3.down HB.out hsV) HX3.out (by rw [← HX3.out]; decide)
  rw [if_neg k1] at hX
  have HX4 := Lib.hid hX
  have t1 : decide ((20 : Int) < (n : Int)) = false := by rw [decide_eq_false_iff_not]; omega
  have t1' : decide (20 < n) = false := by simpa using k1
  have hn20 : n ≤ 20 := by omega
  obtain ⟨i0, hi0, hz0, hz1, hz2⟩ := info_parts (show (Tryz.prog.info? 9).map (fun i => (i.zero, i.size, i.bytes)) = some (some (.string ⟨#[]⟩), 1, 16) by kernel_rfl)
  have HI0 := Lib.hid hi0
  have HZ0 := Lib.hid hz0
  have HZ1 := Lib.hid hz1
  have HZ2 := Lib.hid hz2
  have HU := Lib.hid (show Tryz.prog.underlying 28 = some (.slice 9) by kernel_rfl)
  have nnil : ∀ b : Nat, ¬ (Value.slice none 0 0).ownBlock = some b := fun b => by simp [Value.ownBlock]
  clear k1 hX x0 hi0 hz0 hz1 hz2
  go_enter Tryz.func5, Tryz.ntmps5
  go_upto_region 1 with (fail)
  rw [HV.out]
  refine ext_wp fun Y => ?_
  go_wp2_with (go_at_call 12; refine ((DC.out _).mono ?_); rintro e w3 ⟨rfl, Y3, rfl⟩)
  have HB3 := Lib.hid (Y3.down HB.out hsV)
  have g0 := G0 Y3
  have g1 := G1 Y3
  have g2 := G2 Y3
  have g3 := G3 Y3
  obtain ⟨W3, hW3⟩ : ∃ W, Y3.1 = W := ⟨_, rfl⟩
  rw [hW3] at HB3 g0 g1 g2 g3 ⊢
  have hs3 := HB3.out.size
  have HST : Hid (OwnR W3 W3 W3.heap.size 9 1 (.slice none 0 0) (.slice none 0 0) 0 (nowCs g sl 0)) := Lib.hid (OwnR.start (World.ownsRow_nil _ _ _ _))
  clear hW3 Y3 Y G0 G1 G2 G3
  go_loopw [9, 26] (fun lv iv wr => ∃ (k : Nat), iv = .int .i64 k ∧ k ≤ n ∧ Hid (OwnR W3 wr W3.heap.size 9 1 (.slice none 0 0) lv k (nowCs g sl k)) ∧ Hid (k = 0 → lv = .slice none 0 0) ∧ Hid (swL g sl (n - k) k = swL g sl n 0)) (fun _ iv _ => n - (intOf iv).toNat)
  case atStart => exact ⟨0, rfl, by omega, HST, Lib.hid (fun _ => rfl), Lib.hid rfl⟩
  case round =>
    obtain ⟨k, rfl, hk, HO, HL0, HSW⟩ := hrel
    have HDN := Lib.hid (HO.out.down HB3.out hs3 hs3 (World.ownsRow_nil _ _ _ _))
    have hdz := HDN.out.size
    have f0 := HO.out.cell (nnil _) g0
    have f1 := HO.out.cell (nnil _) g1
    have f2 := HO.out.cell (nnil _) g2
    have f3 := HO.out.cell (nnil _) g3
    by_cases hlt : k < n
    · have t2 : decide ((k : Int) < (n : Int)) = true := by rw [decide_eq_true_eq]; omega
      have t2' : decide (k < n) = true := by simpa using hlt
      have hki : (k : Int) < (n : Int) := by omega
      have hkc : (k : Int) ≤ (cap : Int) := by omega
      obtain ⟨b, off, rfl, hbl, hc⟩ := (HR.out.below HDN.out (Nat.le_refl _)).here (by omega)
      have hcell : ∀ j, j < n → wr.cell? ⟨b, off + j, none⟩ = some (.string (sl j)) := fun j hj => by
        have := hc j hj 0 (by omega)
        rw [Nat.mul_one, Nat.add_zero] at this
        exact this
      have e0 := hcell k hlt
      have hx := HSW.out
      rw [show n - k = (n - k - 1) + 1 by omega, swL] at hx
      have HX2 := Lib.hid hx
      have hfin : swStep g sl k ≠ 0 → swStep g sl k = E := fun e => by
        rw [if_pos e] at hx
        have := HX4.out
        rw [← hx, if_pos e] at this
        exact this
      have HFIN := Lib.hid hfin
      have hst : swStep g sl k = if hasS g (sl k) = false then 4 else if ((List.range k).any fun j => decide (sl j = sl k)) = true then 5 else if (inR (inF g (sl k) 86399999999 g.nm 0)).1 = ⟨#[]⟩ then 13 else 0 := rfl
      have HST2 := Lib.hid hst
      have DS := Lib.hid (DS0.out k wr HDN.out)
      have hdx := hidx.out k
      generalize idxF (fun i => decide (g.sn i = sl k)) g.ns 0 = ix at DS hdx
      clear hx hfin hst hc
      cases k2 : hasS g (sl k)
      case false =>
        rw [k2] at hdx
        have hdx : decide (ix < 0) = true := hdx
        have HR4 : Hid ((4 : Int) = E) := Lib.hid (by
          have e : swStep g sl k = 4 := by rw [HST2.out, if_pos k2]
          rw [← HFIN.out (by rw [e]; simp), e])
        clear k2
        go_wp2_with fail
        refine DS.out.mono ?_
        rintro e w4 ⟨rfl, hb4⟩
        go_wp2_with fail
        go_ret2
        exact RsPost.err (HDN.out.trans (hb4.mono hdz)) HR4.out (by rw [← HR4.out]; decide)
      case true =>
      rw [k2] at hdx
      have hdx : decide (ix < 0) = false := hdx
      go_wp2_with fail
      refine DS.out.mono ?_
      rintro e w4 ⟨rfl, hb4⟩
      have HB4 := Lib.hid hb4
      have HBW4 := Lib.hid (HDN.out.trans (hb4.mono hdz))
      have hdz4 : w.heap.size ≤ w4.heap.size := Nat.le_trans hdz hb4.size
      have HC4 := Lib.hid (fun (j : Nat) (hj : j < n) => (below_cell hb4 (hcell j hj)))
      have g40 := below_cell hb4 f0
      have g41 := below_cell hb4 f1
      have g42 := below_cell hb4 f2
      have g43 := below_cell hb4 f3
      have DI := Lib.hid (DI0.out k w4 HBW4.out)
      have hin := HIN.out k
      clear hb4 hcell DS hdx f0 f1 f2 f3 e0
      go_wp2_with fail
      go_loopw [39] (fun jv wr' => ∃ (j : Nat), jv = .int .i64 j ∧ j ≤ k ∧ w4 = wr' ∧ Hid (∀ j', j' < j → sl j' ≠ sl k)) (fun jv _ => k - (intOf jv).toNat)
      case atStart => exact ⟨0, rfl, by omega, rfl, Lib.hid (fun j' hj' => by omega)⟩
      case round =>
        obtain ⟨j, rfl, hj, rfl, HJ⟩ := hrel
        by_cases hjk : j < k
        · have t3 : decide ((j : Int) < (k : Int)) = true := by rw [decide_eq_true_eq]; omega
          have t3' : decide (j < k) = true := by simpa using hjk
          have hji : (j : Int) < (k : Int) := by omega
          have z0 := HC4.out j (by omega)
          have hse := str_eq (sl j) (sl k)
          by_cases he : sl j = sl k
          · rw [show decide (sl j = sl k) = true by simpa using he] at hse
            have HR4 : Hid ((5 : Int) = E) := Lib.hid (by
              have e : swStep g sl k = 5 := by
                rw [HST2.out, if_neg (by rw [k2]; simp), if_pos]
                rw [List.any_eq_true]
                exact ⟨j, List.mem_range.2 hjk, by simpa using he⟩
              rw [← HFIN.out (by rw [e]; simp), e])
            generalize sl j = sj at z0 hse
            clear he k2
            go_wp2_with fail
            go_ret2
            exact RsPost.err HBW4.out HR4.out (by rw [← HR4.out]; decide)
          · rw [show decide (sl j = sl k) = false by simpa using he] at hse
            have HJ2 : Hid (∀ j', j' < j + 1 → sl j' ≠ sl k) := Lib.hid (fun j' hj' => by
              by_cases e : j' = j
              · rw [e]; exact he
              · exact HJ.out j' (by omega))
            generalize sl j = sj at z0 hse
            clear he k2
            go_wp2_with fail
            go_roundw
            case rel => exact ⟨j + 1, by go_num, by omega, trivial, HJ2⟩
            case measure => simp [intOf]; omega
        · have t3 : decide ((j : Int) < (k : Int)) = false := by rw [decide_eq_false_iff_not]; omega
          have t3' : decide (j < k) = false := by simpa using hjk
          obtain rfl : j = k := by omega
          have hany : ¬ ((List.range j).any fun j' => decide (sl j' = sl j)) = true := fun e => by
            rw [List.any_eq_true] at e
            obtain ⟨x, h1, h2⟩ := e
            exact HJ.out x (List.mem_range.1 h1) (by simpa using h2)
          have hem := str_empty (inR (inF g (sl j) 86399999999 g.nm 0)).1
          have hpf : partF g sl j = (inR (inF g (sl j) 86399999999 g.nm 0)).1 := rfl
          obtain ⟨ps, hps⟩ : ∃ p, (inR (inF g (sl j) 86399999999 g.nm 0)).1 = p := ⟨_, rfl⟩
          obtain ⟨bs, hbs⟩ : ∃ p, (inR (inF g (sl j) 86399999999 g.nm 0)).2 = p := ⟨_, rfl⟩
          rw [hps] at hem hpf
          rw [hps, hbs] at hin DI
          rw [hps, if_neg (by rw [k2]; simp), if_neg hany] at HST2
          rw [hem] at hin
          have HPF := Lib.hid hpf
          clear hem hpf hps hbs hany k2 HJ hjk t3 t3'
          by_cases k3 : ps = ⟨#[]⟩
          · obtain rfl : bs = false := by rw [← hin]; simp [k3]
            have HR4 : Hid ((13 : Int) = E) := Lib.hid (by
              have e : swStep g sl j = 13 := by rw [HST2.out, if_pos k3]
              rw [← HFIN.out (by rw [e]; simp), e])
            clear k3 hin
            go_wp2_with (go_at_call 14; refine DI.out.mono ?_; rintro e w5 ⟨rfl, hb5⟩)
            go_ret2
            exact RsPost.err (HBW4.out.trans (hb5.mono hdz4)) HR4.out (by rw [← HR4.out]; decide)
          · obtain rfl : bs = true := by rw [← hin]; simp [k3]
            have HN : Hid (swL g sl (n - (j + 1)) (j + 1) = swL g sl n 0) := Lib.hid (by
              have e : swStep g sl j = 0 := by rw [HST2.out, if_neg k3]
              have := HX2.out
              rw [if_neg (by rw [e]; simp)] at this
              rw [show n - (j + 1) = n - j - 1 by omega]
              exact this)
            clear k3 hin
            go_upto_region 21 with (go_at_call 14; refine DI.out.mono ?_; rintro e w5 ⟨rfl, hb5⟩)
            have HO4 := Lib.hid (HO.out.below HB4.out)
            have HO5 := Lib.hid (HO4.out.below hb5)
            have hz5 : W3.heap.size ≤ w5.heap.size := HO5.out.kept.size
            clear hb5 DI
            go_wp2_with (at_builtin; refine wpList_append_where _ rfl (.tmp 55) (.tmp 57) 28 rfl W3.heap.size 9 i0 (.string ⟨#[]⟩) 1 16 HU.out HI0.out HZ0.out HZ1.out HZ2.out rfl (by decide) u9 j (nowCs g sl j) rfl (HO5.out.own.alloc _) ⟨w5.heap.size, 0, none⟩ 1 1 [.string ps] rfl (by decide) rfl ?c1 ?c2 ?c3 ?c4 ?c5 ?_)
            case c1 =>
              intro jj u hu
              rw [addr_add0, World.cell?_alloc_at _ _ _ _ rfl]
              simpa using hu
            case c2 =>
              intro u hu
              simp only [List.mem_singleton] at hu
              subst hu
              rfl
            case c3 => unfold maxLen; omega
            case c4 => omega
            case c5 => simp; omega
            intro v6 w6 hown6 hg6 hwh6
            have HN6 : Hid (OwnR W3 w6 W3.heap.size 9 1 (.slice none 0 0) v6 (j + 1) (nowCs g sl (j + 1))) := Lib.hid (by
              rw [nowCs_snoc, HPF.out]
              exact HO5.out.append (below_al w5 _) hown6 hg6 (by rw [World.size_alloc]; exact hwh6))
            clear hown6 hg6 hwh6
            go_wp2_with fail
            go_roundw
            case rel => exact ⟨j + 1, by go_num, by omega, HN6, Lib.hid (fun h => by omega), HN⟩
            case measure => simp [intOf]; omega
    · have t2 : decide ((k : Int) < (n : Int)) = false := by rw [decide_eq_false_iff_not]; omega
      have t2' : decide (k < n) = false := by simpa using hlt
      obtain rfl : k = n := by omega
      have hsw0 : swL g sl k 0 = 0 := by
        have := HSW.out
        rw [Nat.sub_self, swL] at this
        exact this.symm
      have hX := HX4.out
      rw [if_neg (by rw [hsw0]; simp)] at hX
      have HSW0 := Lib.hid hsw0
      have HX5 := Lib.hid hX
      clear hsw0 hX hlt HX4 HSW
      cases hib : inB most 0 100
      case false =>
        rw [hib] at DN
        have HR4 : Hid ((9 : Int) = E) := Lib.hid (by rw [← HX5.out, if_pos hib])
        clear hib
        go_wp2_with (go_at_call 15; refine (DN.out _).mono ?_; rintro e w2 ⟨rfl, rfl⟩)
        go_ret2
        exact RsPost.err HDN.out HR4.out (by rw [← HR4.out]; decide)
      case true =>
      rw [hib] at DN
      have HR4 : Hid ((0 : Int) = E) := Lib.hid (by rw [← HX5.out, if_neg (by rw [hib]; simp)])
      obtain ⟨mm, hmm⟩ : ∃ mm : Nat, most = mm := ⟨most.toNat, by
        simp only [inB, Bool.and_eq_true, decide_eq_true_eq] at hib
        omega⟩
      subst hmm
      have hm100 : mm ≤ 100 := by
        simp only [inB, Bool.and_eq_true, decide_eq_true_eq] at hib
        omega
      have HSTEP := Lib.hid (fun i (hi : i < k) => sw_step (swL_zero k 0 HSW0.out i (Nat.zero_le _) (by omega)))
      have HD := Lib.hid (show ∀ x y, x < k → y < k → x ≠ y → partF g sl x ≠ partF g sl y from fun x y hx hy hne e =>
        hne (sl_inj HSW0.out hx hy (partF_inj k0 (HSTEP.out x hx).2.2 (HSTEP.out y hy).2.2 e)))
      clear hib HX5
      rcases Nat.eq_zero_or_pos k with h0 | h0
      · subst h0
        obtain rfl := HL0.out rfl
        have DWX := Lib.hid (DW0.out k0 (partF g sl) none 0 (by omega) wr HDN.out ⟨fun h => by omega⟩ (fun j hj => by omega) (fun x y hx => by omega))
        clear k0 DW0
        go_upto_region 25 with (go_at_call 15; refine (DN.out _).mono ?_; rintro e w2 ⟨rfl, rfl⟩)
        go_wp2_with (first | (go_at_call 17; refine DWX.out.mono ?_; rintro e w7 ⟨Q, rfl, hwt⟩) | (go_at_call 16; refine (rswaps_nil _ _ _ _ _ _).mono ?_; rintro e w8 ⟨rfl, rfl⟩))
        go_ret2
        exact ⟨_, by rw [← HR4.out]; rfl, HDN.out.trans (hwt.2.1.mono hdz), fun h => absurd HR4.out.symm h, fun _ => ⟨[], ⟨w.heap.size, Nat.le_refl _, World.ownsRow_nil _ _ _ _⟩, fun _ => rfl, fun h => absurd h (by omega)⟩⟩
      · obtain ⟨q, capq, hqv, hqb, hqs⟩ := HO.out.own.form h0
        subst hqv
        obtain ⟨hqc, hpart⟩ := own_part (f := fun j => .string (partF g sl j)) HO.out.own (fun j hj => nowCs_at hj)
        have HPART := Lib.hid hpart
        have hql := hpart.lt
        have DWX := Lib.hid (DW0.out k0 (partF g sl) (some ⟨q, 0, none⟩) capq (by omega) wr HDN.out ⟨fun _ => ⟨q, 0, rfl, hql, fun i hi j hj => by
          obtain rfl : j = 0 := by omega
          rw [Nat.mul_one, Nat.zero_add, Nat.add_zero]
          exact hpart.cell hi⟩⟩ (fun j hj => (HSTEP.out j hj).1) HD.out)
        clear k0 DW0 hpart
        go_upto_region 25 with (go_at_call 15; refine (DN.out _).mono ?_; rintro e w2 ⟨rfl, rfl⟩)
        go_wp2_with (go_at_call 17; refine DWX.out.mono ?_; rintro e w7 ⟨Q, rfl, hwt⟩; refine Hid.out ?_)
        refine Lib.hid ?_
        obtain ⟨hQ, hb7, want, tt, bs, bp, hpw, ho, hwm⟩ := hwt
        have HBW7 := Lib.hid (HDN.out.trans (hb7.mono hdz))
        have hz7 := HBW7.out.size
        have HORD := Lib.hid ho
        have hnow : Part w7 q capq k 9 (fun j => .string (want (tt j))) := (HPART.out.below hb7).congr fun j hj => by
          obtain ⟨m, hm, rfl⟩ := ho.pp.onto hj
          rw [ho.tt m hm, hwm m hm]
        have hwi : ∀ x y, x < k → y < k → want x = want y → x = y := fun x y hx hy e => by
          obtain ⟨m, hm, rfl⟩ := ho.ps.onto hx
          obtain ⟨m', hm', rfl⟩ := ho.ps.onto hy
          rw [hwm m hm, hwm m' hm'] at e
          by_cases hbe : bp m = bp m'
          · rw [ho.pp.inj m m' hm hm' hbe]
          · exact absurd e (HD.out _ _ (ho.pp.lt m hm) (ho.pp.lt m' hm') hbe)
        have DSX := Lib.hid (rswaps_any k q capq Q k cap capq k mm a sl want tt w7 hn20 hqc (by omega) hm100 (HR.out.below HBW7.out (Nat.le_refl _)) (fun b off e => by
          obtain ⟨b', off', e', hlt', _⟩ := HR.out.here h0
          rw [e] at e'
          injection e' with e'
          injection e' with e1
          omega) hnow hpw (Cir.wanted_perm ho.pp ho.ps ho.tt) hwi)
        have hqw : w.heap.size ≤ q := by omega
        clear hpw ho hwm hnow hwi hb7 HPART DWX
        go_wp2_with (go_at_call 16; refine DSX.out.mono ?_; rintro e w8 ⟨v, rfl, hrs⟩)
        go_ret2
        obtain ⟨hk8, ps, t, ho8, hs8, he8, hl8⟩ := hrs
        exact ⟨v, by rw [← HR4.out]; rfl, Kept.below HBW7.out hk8 hz7 (fun b hb e => by omega), fun h => absurd HR4.out.symm h, fun _ => ⟨ps, ⟨w7.heap.size, hz7, ho8⟩, fun h => absurd h (by omega), fun _ => ⟨tt, bs, bp, t, HORD.out, hs8, by rw [Int.toNat_natCast]; exact he8, hl8⟩⟩⟩
end Go.Proofs.YtbkpoepacjinlaaGreat

/- Gear: two equal rows of pairs (the library's Equal at [2]string). -/
namespace Go.Proofs.YtbkpoepacjinlaaGreat
open Go.RowKit Go.BigFrame

set_option maxHeartbeats 2000000 in
theorem eqPair (a b : ByteArray) (w : World) :
    (Op.equalIn 10000 34 (.agg #[.string a, .string b]) (.agg #[.string a, .string b])).run Tryz.prog w = .ok true w := by
  have u9 := Tryz.underlying9
  have a9 := Tryz.isAgg9
  have z9 := Tryz.sizeOf9
  have hS : Tryz.prog.underlying 34 = some (.array 2 9) := by kernel_rfl
  have h1 := str_eq a a
  have h2 := str_eq b b
  rw [show decide (a = a) = true by simp] at h1
  rw [show decide (b = b) = true by simp] at h2
  rw [show (10000 : Nat) = 9998 + 1 + 1 from rfl]
  rw [Op.equalIn]
  simp only [Sem.run_bind, run_underlying hS, Result.andThen_ok]
  go_simp
  have e := fun (s : ByteArray) (h : (s.toList == s.toList) = true) (w : World) => (run_equalIn_string (P := Tryz.prog) w 9998 9 s s u9).trans (by rw [h])
  rw [show List.range' 0 2 = [0, 1] from rfl]
  simp only [List.forIn_cons, List.forIn_nil, Sem.run_bind, a9, Result.andThen_ok, Bool.false_eq_true, if_false, List.getElem?_cons_zero, List.getElem?_cons_succ, Sem.run_pure, e a h1]
  go_simp
set_option maxHeartbeats 2000000 in
set_option maxRecDepth 100000 in
theorem equalPairs_any (n : Nat) (p q : Nat → ByteArray) (a b : Option Addr) (c d : Nat) (w : World) (hr : RowK w a n 2 (fun i => [.string (p i), .string (q i)])) (hq : RowK w b n 2 (fun i => [.string (p i), .string (q i)])) (hl : (n : Int) ≤ 9223372036854775807) :
    Calls Tryz.prog 6 #[.slice a n c, .slice b n d] w fun e w' => e = .returned (.bool true) ∧ ∃ m, w' = w.drewN m := by
  have hneq : ((n : Int) != (n : Int)) = false := by simp
  have HR := Lib.hid hr
  have HQ := Lib.hid hq
  clear hr hq
  go_enter Tryz.func6, Tryz.ntmps6
  go_wp2_with fail
  go_loopw [13] (fun iv wr => ∃ (k : Nat), iv = .int .i64 k ∧ k ≤ n ∧ (∃ m, wr = w.drewN m)) (fun iv _ => n - (intOf iv).toNat)
  case atStart => exact ⟨0, rfl, by omega, ⟨0, rfl⟩⟩
  case round =>
    obtain ⟨k, rfl, hk, m, rfl⟩ := hrel
    by_cases hlt : k < n
    · have t1 : decide ((k : Int) < (n : Int)) = true := by rw [decide_eq_true_eq]; omega
      have t1' : decide (k < n) = true := by simpa using hlt
      have t2 : (k : Int) < (n : Int) := by omega
      obtain ⟨b1, o1, rfl, hb1, hc1⟩ := HR.out.here (by omega)
      obtain ⟨b2, o2, rfl, hb2, hc2⟩ := HQ.out.here (by omega)
      have e0 : w.cell? ⟨b1, o1 + k * 2, none⟩ = some (.string (p k)) := hc1 k hlt 0 (by omega)
      have e1 : w.cell? ⟨b1, o1 + k * 2 + 1, none⟩ = some (.string (q k)) := hc1 k hlt 1 (by omega)
      have f0 : w.cell? ⟨b2, o2 + k * 2, none⟩ = some (.string (p k)) := hc2 k hlt 0 (by omega)
      have f1 : w.cell? ⟨b2, o2 + k * 2 + 1, none⟩ = some (.string (q k)) := hc2 k hlt 1 (by omega)
      have hgd : Tryz.prog.eqGuardType Tryz.prog.depth 34 = false := by kernel_rfl
      have hq : ∀ W, (Op.equalIn 10000 34 (.agg #[.string (p k), .string (q k)]) (.agg #[.string (p k), .string (q k)])).run Tryz.prog W = .ok true W := fun W => eqPair _ _ W
      clear hc1 hc2
      go_wp2_with fail
      go_quiet (fail)
      go_wp2_with fail
      go_roundw
      case rel => exact ⟨k + 1, by go_num, by omega, _, rfl⟩
      case measure => simp [intOf]; omega
    · have t1 : decide ((k : Int) < (n : Int)) = false := by rw [decide_eq_false_iff_not]; omega
      have t1' : decide (k < n) = false := by simpa using hlt
      clear hlt
      go_wp2_with fail
      go_ret
      exact ⟨rfl, _, rfl⟩
end Go.Proofs.YtbkpoepacjinlaaGreat

/- Gear: the law GearSwapsMatchSpec: its walk. -/
namespace Go.Proofs.YtbkpoepacjinlaaGreat
open Go.RowKit Go.BigFrame
open Gar (chk hasS)

/-- what Swaps of the program hands back, with or without an error -/
theorem gSwaps_any (g : Gar) (a0 a1 a2 a3 : Option Addr) (c0 c1 c2 c3 : Nat) (n : Nat) (sl : Nat → ByteArray) (a : Option Addr) (cap : Nat) (most : Int) (w : World) (h : GarIn w g a0 a1 a2 a3) (hr : RowK w a n 1 (fun j => [.string (sl j)])) (hcap : n ≤ cap) (hn : (n : Int) ≤ 9223372036854775807) (hsz : ∀ j, j < n → (sl j).size ≤ maxLen) :
    Calls Tryz.prog 4 #[garV g a0 a1 a2 a3 c0 c1 c2 c3, .slice a n cap, .int .i64 most] w fun e w' => ∃ v, e = .returned (.tuple #[v, .int .i64 (swapErr g n sl most)]) ∧ Below w.heap.size w w' ∧ (swapErr g n sl most ≠ 0 → v = .slice none 0 0) ∧ (swapErr g n sl most = 0 → SwpR g n sl most.toNat w v w') := by
  by_cases hz : swapErr g n sl most = 0
  · have hmo := (swErr_zero hz).2.2.2.1
    have hm : ((most.toNat : Nat) : Int) = most := by
      simp only [inB, Bool.and_eq_true, decide_eq_true_eq] at hmo
      omega
    have h1 := swaps_any g a0 a1 a2 a3 c0 c1 c2 c3 n sl a cap most.toNat w h hr hcap hn hsz (by rw [hm]; exact hz)
    rw [hm] at h1
    refine h1.mono ?_
    rintro e w' ⟨v, rfl, hs⟩
    exact ⟨v, by rw [hz], hs.1, fun h => absurd hz h, fun _ => hs⟩
  · refine (swaps_err g a0 a1 a2 a3 c0 c1 c2 c3 n sl a cap most w h hr hcap hn hz).mono ?_
    rintro e w' ⟨rfl, hb⟩
    exact ⟨_, rfl, hb, fun _ => rfl, fun h => absurd h hz⟩
/-- two equal rows of pairs -/
def Two (W : World) (v1 v2 : Value) : Prop := ∃ (m : Nat) (p q : Nat → ByteArray) (am : Option Addr) (cm : Nat) (bm : Option Addr) (dm : Nat), (m : Int) ≤ 100 ∧ v1 = .slice am m cm ∧ v2 = .slice bm m dm ∧ RowK W am m 2 (fun i => [.string (p i), .string (q i)]) ∧ RowK W bm m 2 (fun i => [.string (p i), .string (q i)])
theorem two_nil (W : World) : Two W (.slice none 0 0) (.slice none 0 0) :=
  ⟨0, fun _ => ⟨#[]⟩, fun _ => ⟨#[]⟩, none, 0, none, 0, by omega, rfl, rfl, ⟨fun h => by omega⟩, ⟨fun h => by omega⟩⟩
theorem two_same {g : Gar} {n : Nat} {sl : Nat → ByteArray} {most : Int} {w W1 W2 W' : World} {v1 v2 : Value} (hz : swapErr g n sl most = 0) (h1 : SwpR g n sl most.toNat w v1 W1) (hb : Below W1.heap.size W1 W2) (h2 : RsR g n sl most.toNat W' v2 W2) : Two W2 v1 v2 := by
  obtain ⟨hchk, hse, hn20, hmo, hsw⟩ := swErr_zero hz
  have hm : most.toNat ≤ 100 := by
    simp only [inB, Bool.and_eq_true, decide_eq_true_eq] at hmo
    omega
  obtain ⟨_, ps, ⟨b1, _, o1⟩, e1, k1⟩ := h1
  obtain ⟨ps', ⟨b2, _, o2⟩, e2, k2⟩ := h2
  have hps : ps = ps' ∧ ps.length ≤ 100 := by
    rcases Nat.eq_zero_or_pos n with h0 | h0
    · rw [e1 h0, e2 h0]
      exact ⟨rfl, by simp⟩
    · obtain ⟨tt, bs, bp, hd, ho⟩ := k1 h0
      obtain ⟨tt', bs', bp', t', ho', hs', he', _⟩ := k2 h0
      obtain ⟨t, i, _, hs, he⟩ := hd.ex
      have hst : ∀ i, i < n → swStep g sl i = 0 := fun i hi => swL_zero n 0 hsw i (by omega) (by omega)
      have hdis : ∀ x y, x < n → y < n → x ≠ y → partF g sl x ≠ partF g sl y := fun x y hx hy hne e => by
        have := partF_inj hchk (sw_step (hst x hx)).2.2 (sw_step (hst y hy)).2.2 e
        exact hne (sl_inj hsw hx hy this)
      have ha := Ords.one ho ho' hdis
      exact ⟨Swps.same (Cir.wanted_perm ho.pp ho.ps ho.tt) ha hs he hs' he', Nat.le_trans he.1 hm⟩
  obtain ⟨rfl, hl⟩ := hps
  obtain ⟨am, cm, rfl, r1⟩ := pairRow (ownsRow_below o1 hb)
  obtain ⟨bm, dm, rfl, r2⟩ := pairRow o2
  exact ⟨ps.length, _, _, am, cm, bm, dm, by omega, rfl, rfl, r1, r2⟩
set_option maxHeartbeats 4000000 in
set_option maxRecDepth 100000 in
theorem swapsMatch_law (g : Gar) (a0 a1 a2 a3 : Option Addr) (c0 c1 c2 c3 : Nat) (n : Nat) (sl : Nat → ByteArray) (a : Option Addr) (cap : Nat) (most : Int) (w : World) (h : GarIn w g a0 a1 a2 a3) (hc2 : g.nm ≤ c2) (hc3 : g.nu ≤ c3) (hr : RowK w a n 1 (fun j => [.string (sl j)])) (hcap : n ≤ cap) (hn : (n : Int) ≤ 9223372036854775807) (hsz : ∀ j, j < n → (sl j).size ≤ maxLen) :
    Calls Tryz.prog 3 #[garV g a0 a1 a2 a3 c0 c1 c2 c3, .slice a n cap, .int .i64 most] w fun e w' => e = .returned (.bool true) ∧ Below w.heap.size w w' := by
  have HG := Lib.hid h
  have HR := Lib.hid hr
  obtain ⟨W0, hW0, hb0, hs0, hl0'⟩ := alloc_cells w #[.slice a0 g.np c0, .slice a1 g.ns c1, .slice a2 g.nm c2, .slice a3 g.nu c3] 27
  have G0 := Ext.ex (hl0' 0 _ rfl)
  have G1 := Ext.ex (hl0' 1 _ rfl)
  have G2 := Ext.ex (hl0' 2 _ rfl)
  have G3 := Ext.ex (hl0' 3 _ rfl)
  have HW0 := Lib.hid hW0
  have HB0 := Lib.hid hb0
  have hs0' : w.heap.size ≤ W0.heap.size := by omega
  have DA := Lib.hid (fun (Y : Ext W0) => gSwaps_any g a0 a1 a2 a3 c0 c1 c2 c3 n sl a cap most Y.1 (HG.out.below (Y.down HB0.out hs0')) (HR.out.below (Y.down HB0.out hs0') (Nat.le_refl _)) hcap hn hsz)
  have DB := Lib.hid (fun (Y : Ext W0) => rSwaps_any g a0 a1 a2 a3 c0 c1 c2 c3 n sl a cap most Y.1 (HG.out.below (Y.down HB0.out hs0')) hc2 hc3 (HR.out.below (Y.down HB0.out hs0') (Nat.le_refl _)) hcap hn)
  have DT := Lib.hid (fun W => told_any W)
  have HTW := Lib.hid (fun (W W1 W2 W' : World) (v1 v2 : Value) (hz : swapErr g n sl most = 0) (h1 : SwpR g n sl most.toNat W v1 W1) (hb : Below W1.heap.size W1 W2) (h2 : RsR g n sl most.toNat W' v2 W2) => two_same hz h1 hb h2)
  unfold garV at DA DB ⊢
  obtain ⟨E, hE⟩ : ∃ E, swapErr g n sl most = E := ⟨_, rfl⟩
  rw [hE] at DA DB HTW
  have hee : (E == E) = true := by simp
  clear hl0' hW0 hb0 h hr hsz hE
  go_enter Tryz.func3, Tryz.ntmps3
  go_upto_region 1 with (fail)
  rw [HW0.out]
  refine ext_wp fun X => ?_
  go_upto_region 2 with (go_at_call 4; refine (DA.out _).mono ?_; rintro e w1 ⟨v1, rfl, hb1, hA1, hA2⟩)
  have HA1 := Lib.hid hA1
  have HA2 := Lib.hid hA2
  obtain ⟨Y1, rfl⟩ : ∃ Y : Ext W0, w1 = Y.1 := ⟨⟨w1, below_step X.2 hb1⟩, rfl⟩
  clear hA1 hA2
  go_upto_region 3 with (go_at_call 5; refine (DB.out Y1).mono ?_; rintro e w2 ⟨v2, rfl, hb2, hB1, hB2⟩)
  have h2 : Two w2 v1 v2 := by
    by_cases hz : E = 0
    · exact HTW.out X.1 Y1.1 w2 Y1.1 v1 v2 hz (HA2.out hz) hb2 (hB2 hz)
    · rw [HA1.out hz, hB1 hz]
      exact two_nil w2
  obtain ⟨m, p, q, am, cm, bm, dm, hm, rfl, rfl, r1, r2⟩ := h2
  have DE := Lib.hid (equalPairs_any m p q am bm cm dm w2 r1 r2 (by omega))
  have HB2 := Lib.hid ((Y1.down HB0.out hs0').trans (hb2.mono (Y1.down HB0.out hs0').size))
  clear r1 r2 hb2 hB1 hB2 HA1 HA2 HTW DA DB
  go_wp2_with (first | (go_at_call 6; refine DE.out.mono ?_; rintro e w3 ⟨rfl, nd, rfl⟩) | (go_at_call 7; refine (DT.out _).mono ?_; rintro e w4 ⟨rfl, hb4⟩))
  go_ret
  exact ⟨rfl, (HB2.out.trans (show Below w.heap.size w2 (w2.drewN nd) from ⟨rfl, rfl, rfl, Nat.le_refl _, fun _ _ => rfl⟩)).trans (hb4.mono HB2.out.size)⟩
end Go.Proofs.YtbkpoepacjinlaaGreat

/- A garage that came in by value: how it reads. -/
namespace Go.Proofs.YtbkpoepacjinlaaGreat
open Go.ChangeShapes Go.WideShapes Go.ChangeAt Go.RowKit Go.Deep

theorem laidOut : laidOutB Tryz.prog = true := by kernel_rfl
theorem readGarage : Tryz.prog.readableRec 27 = true := by kernel_rfl
theorem rowGarage : 27 < Tryz.prog.types.size := of_decide_eq_true (by kernel_rfl)
def intV : Value → Int
  | .int _ n => n
  | _ => 0
def strV : Value → ByteArray
  | .string s => s
  | _ => ByteArray.empty
theorem RowK.congr {w : World} {a : Option Addr} {len k : Nat} {V V' : Nat → List Value} (h : RowK w a len k V) (he : ∀ i, i < len → V i = V' i) : RowK w a len k V' :=
  ⟨fun h0 => by
    obtain ⟨b, off, e, hb, hc⟩ := h.here h0
    exact ⟨b, off, e, hb, fun i hi j hj => by rw [hc i hi j hj, he i hi]⟩⟩
section
variable {H : Type} {enc : TypeId × Value → H} {P : Program} {w : World} {base : Nat}
theorem field_str {V : List Value} {j : Nat} {t : TypeId} (ht : P.underlying t = some .string) (h : ∃ u n y, V[j]? = some u ∧ DataW.trod enc P w base (fun _ => true) true n t [u] = some y) :
    V[j]? = some (.string (strV (V.getD j (.bool false)))) ∧ (strV (V.getD j (.bool false))).size ≤ maxLen := by
  obtain ⟨u, n, y, hu, hd⟩ := h
  obtain ⟨s, e, _, hs⟩ := DataW.trod_string ht hd
  simp only [List.cons.injEq, and_true] at e
  subst e
  rw [List.getD_eq_getElem?_getD, hu]
  exact ⟨rfl, hs⟩
theorem field_int {V : List Value} {j : Nat} {t : TypeId} (ht : P.underlying t = some (.int .i64)) (h : ∃ u n y, V[j]? = some u ∧ DataW.trod enc P w base (fun _ => true) true n t [u] = some y) :
    V[j]? = some (.int .i64 (intV (V.getD j (.bool false)))) := by
  obtain ⟨u, n, y, hu, hd⟩ := h
  obtain ⟨s, e, _, hs⟩ := DataW.trod_int ht hd
  simp only [List.cons.injEq, and_true] at e
  subst e
  rw [List.getD_eq_getElem?_getD, hu]
  rfl
end
theorem list2 {V : List Value} {a b : Value} (hl : V.length = 2) (h0 : V[0]? = some a) (h1 : V[1]? = some b) : V = [a, b] := by
  match V, hl with
  | [x, y], _ => simp at h0 h1; rw [h0, h1]
theorem list4 {V : List Value} {a b c d : Value} (hl : V.length = 4) (h0 : V[0]? = some a) (h1 : V[1]? = some b) (h2 : V[2]? = some c) (h3 : V[3]? = some d) : V = [a, b, c, d] := by
  match V, hl with
  | [x, y, z, u], _ => simp at h0 h1 h2 h3; rw [h0, h1, h2, h3]
theorem list5 {V : List Value} {a b c d e : Value} (hl : V.length = 5) (h0 : V[0]? = some a) (h1 : V[1]? = some b) (h2 : V[2]? = some c) (h3 : V[3]? = some d) (h4 : V[4]? = some e) : V = [a, b, c, d, e] := by
  match V, hl with
  | [x, y, z, u, v], _ => simp at h0 h1 h2 h3 h4; rw [h0, h1, h2, h3, h4]

set_option maxRecDepth 100000 in
theorem open_garage {H : Type} {enc : TypeId × Value → H} {W : World} {r : Reach} {b0 base : Nat} {v : Value} {d : DataW H} {p : List MemPlace}
    (hv : Value.okWide Tryz.prog W r b0 27 v) (h : DataW.Trod enc Tryz.prog W base (fun _ => true) true 27 v d p) :
    ∃ (g : Gar) (a0 a1 a2 a3 : Option Addr) (c0 c1 c2 c3 : Nat), v = garV g a0 a1 a2 a3 c0 c1 c2 c3 ∧ GarIn W g a0 a1 a2 a3 ∧ g.nm ≤ c2 ∧ g.nu ≤ c3 := by
  obtain ⟨v0, v1, v2, v3, y0, y1, y2, y3, m, rfl, _, _, h0, h1, h2, h3⟩ := Go.Joins.open_agg4 Tryz.underlying27 (by kernel_rfl) (by kernel_rfl) hv h
  obtain ⟨a0, n0, c0, V0, rfl, l0, m0, R0, F0⟩ := open_rowK Tryz.underlying22 Tryz.underlying56 (by kernel_rfl) (by decide) (hone_of (by kernel_rfl)) h0
  obtain ⟨a1, n1, c1, V1, rfl, l1, m1, R1, F1⟩ := open_rowK Tryz.underlying23 Tryz.underlying59 (by kernel_rfl) (by decide) (hone_of (by kernel_rfl)) h1
  obtain ⟨a2, n2, c2, V2, rfl, l2, m2, R2, F2⟩ := open_rowK Tryz.underlying24 Tryz.underlying78 (by kernel_rfl) (by decide) (hone_of (by kernel_rfl)) h2
  obtain ⟨a3, n3, c3, V3, rfl, l3, m3, R3, F3⟩ := open_rowK Tryz.underlying25 Tryz.underlying62 (by kernel_rfl) (by decide) (hone_of (by kernel_rfl)) h3
  have hm : maxLen = 9223372036854775807 := rfl
  have S := Tryz.underlying9
  have I := Tryz.underlying3
  refine ⟨{ np := n0, ns := n1, nm := n2, nu := n3,
            pn := fun i => strV ((V0 i).getD 0 (.bool false)), pc := fun i => intV ((V0 i).getD 1 (.bool false)),
            sn := fun i => strV ((V1 i).getD 0 (.bool false)), sr := fun i => strV ((V1 i).getD 1 (.bool false)),
            ms := fun i => strV ((V2 i).getD 0 (.bool false)), mp := fun i => strV ((V2 i).getD 1 (.bool false)), mf := fun i => intV ((V2 i).getD 2 (.bool false)), mt := fun i => intV ((V2 i).getD 3 (.bool false)),
            un := fun i => strV ((V3 i).getD 0 (.bool false)), ur := fun i => strV ((V3 i).getD 1 (.bool false)), uf := fun i => intV ((V3 i).getD 2 (.bool false)), us := fun i => intV ((V3 i).getD 3 (.bool false)), uw := fun i => intV ((V3 i).getD 4 (.bool false)) },
    a0, a1, a2, a3, c0, c1, c2, c3, rfl, ⟨?_, ?_, ?_, ?_, ?_, ?_, ?_, ?_, ?_, ?_, ?_, ?_⟩, l2, l3⟩
  · exact R0.congr fun i hi => list2 (F0 i hi).1 (field_str S ((F0 i hi).2 0 _ rfl)).1 (field_int I ((F0 i hi).2 1 _ rfl))
  · exact R1.congr fun i hi => list2 (F1 i hi).1 (field_str S ((F1 i hi).2 0 _ rfl)).1 (field_str S ((F1 i hi).2 1 _ rfl)).1
  · exact R2.congr fun i hi => list4 (F2 i hi).1 (field_str S ((F2 i hi).2 0 _ rfl)).1 (field_str S ((F2 i hi).2 1 _ rfl)).1 (field_int I ((F2 i hi).2 2 _ rfl)) (field_int I ((F2 i hi).2 3 _ rfl))
  · exact R3.congr fun i hi => list5 (F3 i hi).1 (field_str S ((F3 i hi).2 0 _ rfl)).1 (field_str S ((F3 i hi).2 1 _ rfl)).1 (field_int I ((F3 i hi).2 2 _ rfl)) (field_int I ((F3 i hi).2 3 _ rfl)) (field_int I ((F3 i hi).2 4 _ rfl))
  · exact fun i hi => (field_str S ((F0 i hi).2 0 _ rfl)).2
  · exact fun i hi => ⟨(field_str S ((F1 i hi).2 0 _ rfl)).2, (field_str S ((F1 i hi).2 1 _ rfl)).2⟩
  · exact fun i hi => ⟨(field_str S ((F2 i hi).2 0 _ rfl)).2, (field_str S ((F2 i hi).2 1 _ rfl)).2⟩
  · exact fun i hi => ⟨(field_str S ((F3 i hi).2 0 _ rfl)).2, (field_str S ((F3 i hi).2 1 _ rfl)).2⟩
  · show ((n0 : Nat) : Int) ≤ _; omega
  · show ((n1 : Nat) : Int) ≤ _; omega
  · show ((n2 : Nat) : Int) ≤ _; omega
  · show ((n3 : Nat) : Int) ≤ _; omega
end Go.Proofs.YtbkpoepacjinlaaGreat

/- Names that came in: how they read. -/
namespace Go.Proofs.YtbkpoepacjinlaaGreat
open Go.ChangeShapes Go.WideShapes Go.ChangeAt Go.RowKit Go.ChangeMaps Go.Deep

theorem readStrs : Tryz.prog.readableRec 28 = true := by kernel_rfl
theorem rowStrs : 28 < Tryz.prog.types.size := of_decide_eq_true (by kernel_rfl)
set_option maxRecDepth 100000 in
theorem open_strs {H : Type} {enc : TypeId × Value → H} {W : World} {r : Reach} {b0 base : Nat} {v : Value} {d : DataW H} {p : List MemPlace}
    (hv : Value.okWide Tryz.prog W r b0 28 v) (h : DataW.Trod enc Tryz.prog W base (fun _ => true) true 28 v d p) :
    ∃ (n : Nat) (sl : Nat → ByteArray) (a : Option Addr) (cap : Nat), v = .slice a n cap ∧ n ≤ cap ∧ (n : Int) ≤ 9223372036854775807 ∧ RowK W a n 1 (fun j => [.string (sl j)]) ∧ ∀ j, j < n → (sl j).size ≤ maxLen := by
  obtain ⟨fuel, hf⟩ := h
  obtain ⟨a', l', c', hv'⟩ := okWide_slice Tryz.underlying28 hv
  rw [show v.cells.toList = [v] by rw [hv']; rfl] at hf
  rcases open_slice Tryz.underlying28 hf with ⟨hc, _⟩ | ⟨a, len, cap, m, n, D, Pl, hc, _, hl, hm, hmm, _, hx⟩
  · simp only [List.cons.injEq, and_true] at hc
    exact ⟨0, fun _ => ⟨#[]⟩, none, 0, hc, by omega, by omega, ⟨fun h => by omega⟩, fun j hj => by omega⟩
  · simp only [List.cons.injEq, and_true] at hc
    simp only [if_true] at hmm
    subst hmm
    have hmx : maxLen = 9223372036854775807 := rfl
    have each : ∀ i, i < m → ∃ s : ByteArray, W.cell? (a.add i) = some (.string s) ∧ s.size ≤ maxLen := by
      intro i hi
      obtain ⟨cs, h1, h2⟩ := hx i hi
      rw [show Tryz.prog.cellsOf 9 = 1 by kernel_rfl] at h1
      obtain ⟨_, hlen, hcell⟩ := World.cells?_some h1
      obtain ⟨s, e, _, hs⟩ := DataW.trod_string Tryz.underlying9 h2
      have h3 := hcell 0 (by omega)
      rw [e, add_add] at h3
      refine ⟨s, ?_, hs⟩
      simpa using h3
    obtain ⟨sl, hsl⟩ := choose_lt each
    refine ⟨len, sl, some a, m, hc, hl, by omega, ⟨fun hl0 => ?_⟩, fun i hi => (hsl i (by omega)).2⟩
    obtain ⟨b, o, sp⟩ := a
    have h0 := (hsl 0 (by omega)).1
    have hspot : sp = none := by simpa [Addr.add] using World.cell?_spot h0
    subst hspot
    refine ⟨b, o, rfl, by simpa [Addr.add] using World.block_lt_of_cell? W _ h0, fun i hi j hj => ?_⟩
    obtain rfl : j = 0 := by omega
    have := (hsl i (by omega)).1
    rw [add_plain] at this
    rw [Nat.mul_one, Nat.add_zero]
    exact this
end Go.Proofs.YtbkpoepacjinlaaGreat
