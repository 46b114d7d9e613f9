/- Several texts of this claim in one. -/
import Derived.Test.YtbkpoepacjinlaaEv6
import Derived.Test.YtbkpoepacjinlaaEv2
import Derived.Test.YtbkpoepacjinlaaEv3
import Derived.Test.YtbkpoepacjinlaaEv5
import Derived.Laws.StructEq
import Derived.Test.YtbkpoepacjinlaaRows
import Derived.ProofKit
import Derived.OpenShut
import Derived.Lib.SmallJoins
import Derived.Carry
import Derived.ChangeMaps5
import Derived.WalkKit
/- Gear: Swaps of the program. -/
namespace Go.Proofs.Ytbkpoepacjinlaa
open Go.RowKit Go.BigFrame
open Gar (chk)
open Cir (Perm SwI)

def swapErr (g : Gar) (n : Nat) (sl : Nat → ByteArray) (most : Int) : Int := if chk g ≠ 0 then chk g else swErr g n sl most
set_option maxHeartbeats 4000000 in
set_option maxRecDepth 100000 in
theorem swaps_err (g : Gar) (a0 a1 a2 a3 : Option Addr) (c0 c1 c2 c3 : Nat) (n : Nat) (sl : Nat → ByteArray) (a : Option Addr) (cap : Nat) (most : Int) (w : World) (h : GarIn w g a0 a1 a2 a3) (hr : RowK w a n 1 (fun j => [.string (sl j)])) (hcap : n ≤ cap) (hn : (n : Int) ≤ 9223372036854775807) (hz : swapErr g n sl most ≠ 0) :
    Calls Try.prog 42 #[garV g a0 a1 a2 a3 c0 c1 c2 c3, .slice a n cap, .int .i64 most] w fun e w' => e = .returned (.tuple #[.slice none 0 0, .int .i64 (swapErr g n sl most)]) ∧ Below w.heap.size w w' := by
  have HG := Lib.hid h
  have HR := Lib.hid hr
  have HZ := Lib.hid hz
  obtain ⟨V, hV, hb, hs, hq⟩ := alloc_block w #[.slice a0 g.np c0, .slice a1 g.ns c1, .slice a2 g.nm c2, .slice a3 g.nu c3] 27
  have HV := Lib.hid hV
  have HB := Lib.hid hb
  have hsV : w.heap.size ≤ V.heap.size := hb.size
  have G0 := Ext.ex (block_cell (i := 0) hq rfl)
  have G1 := Ext.ex (block_cell (i := 1) hq rfl)
  have G2 := Ext.ex (block_cell (i := 2) hq rfl)
  have G3 := Ext.ex (block_cell (i := 3) hq rfl)
  have DC := Lib.hid (fun (Y : Ext V) => Y.calls (gCheck_any g a0 a1 a2 a3 c0 c1 c2 c3 Y.1 (HG.out.below (Y.down HB.out hsV))))
  have DS := Lib.hid (fun (Y : Ext V) => Y.calls (checkSwaps_any g a0 a1 a2 a3 c0 c1 c2 c3 n sl a cap most Y.1 (HG.out.below (Y.down HB.out hsV)) (HR.out.below (Y.down HB.out hsV) (Nat.le_refl _)) hcap hn))
  obtain ⟨E, hE⟩ : ∃ E, swapErr g n sl most = E := ⟨_, rfl⟩
  rw [hE] at hz ⊢
  unfold swapErr at hE
  have HE := Lib.hid hE
  unfold garV at DC DS ⊢
  clear h hr hV hb hq hE HZ
  by_cases k0 : chk g = 0
  · have x0 : (chk g != 0) = false := by simpa using k0
    have HX := Lib.hid (show swErr g n sl most = E by rw [← HE.out, if_neg (by simpa using k0)])
    generalize swErr g n sl most = e2 at DS HX
    have hx2 : e2 ≠ 0 := by rw [HX.out]; exact hz
    have x2 : (e2 != 0) = true := by simpa using hx2
    rw [k0] at DC
    clear x0
    go_enter Try.func42, Try.ntmps42
    go_upto_region 1 with (fail)
    rw [HV.out]
    refine ext_wp fun Y => ?_
    go_wp2_with (first | (go_at_call 15; refine ((DC.out _).mono ?_); rintro e w3 ⟨rfl, Y3, rfl⟩) | (go_at_call 95; refine ((DS.out _).mono ?_); rintro e w4 ⟨rfl, Y4, rfl⟩))
    go_ret2
    exact ⟨by rw [← HX.out]; rfl, Y4.down HB.out hsV⟩
  · have x0 : (chk g != 0) = true := by simpa using k0
    have HX := Lib.hid (show chk g = E by rw [← HE.out, if_pos k0])
    go_enter Try.func42, Try.ntmps42
    go_upto_region 1 with (fail)
    rw [HV.out]
    refine ext_wp fun Y => ?_
    go_wp2_with (go_at_call 15; refine ((DC.out _).mono ?_); rintro e w3 ⟨rfl, Y3, rfl⟩)
    go_ret2
    exact ⟨by rw [← HX.out]; rfl, Y3.down HB.out hsV⟩
end Go.Proofs.Ytbkpoepacjinlaa

/- Gear: Swaps of the program, where it has no error. -/
namespace Go.Proofs.Ytbkpoepacjinlaa
open Go.RowKit Go.BigFrame
open Gar (chk)
open Cir (Perm SwI)

/-- what Swaps hands back -/
def SwpR (g : Gar) (n : Nat) (sl : Nat → ByteArray) (most : Nat) (w : World) (v : Value) (w' : World) : Prop :=
  Below w.heap.size w w' ∧ ∃ ps : List (Nat × Nat), (∃ base, w.heap.size ≤ base ∧ w'.ownsRow base 85 2 v ps.length (pairCs sl ps)) ∧ (n = 0 → ps = []) ∧
    (0 < n → ∃ tt bs bp : Nat → Nat, Swd n most tt ps ∧ Ords n (fun j => sumK Ev.s (evG g g.nu) (sl j)) (fun j => sumK Ev.p (evG g g.nu) (partF g sl j)) (partF g sl) tt bs bp)
theorem NumRow.row {w : World} {q n : Nat} {p : Nat → Nat} (h : NumRow w q n p) : RowK w (some ⟨q, 0, none⟩) n 1 (fun j => [.int .i64 (p j : Nat)]) :=
  ⟨fun _ => ⟨q, 0, rfl, h.lt, fun i hi j hj => by
    obtain rfl : j = 0 := by omega
    rw [Nat.mul_one, Nat.zero_add, Nat.add_zero]
    exact h.cell hi⟩⟩
theorem NumRow.same {w w' : World} {q n : Nat} {p : Nat → Nat} (h : NumRow w q n p) (e : w'.heap[q]? = w.heap[q]?) : NumRow w' q n p := by
  obtain ⟨cs, h1, h2, h3⟩ := h.ex
  exact ⟨cs, e.trans h1, h2, h3⟩
theorem Kept.far {O O' : Nat → Prop} {a b c : World} (h : Kept O a b) (h' : Kept O' b c) (hO : ∀ k, k < a.heap.size → ¬ O' k) : Kept O a c :=
  ⟨h'.os.trans h.os, h'.tape.trans h.tape, h'.output.trans h.output, Nat.le_trans h.size h'.size, fun k hk hno => (h'.block k (Nat.lt_of_lt_of_le hk h.size) (hO k hk)).trans (h.block k hk hno)⟩
/-- the loop of Swaps -/
structure SwL (w5 wr : World) (q n most : Nat) (sl : Nat → ByteArray) (tt : Nat → Nat) (v : Value) (l : Nat) (t : Nat → Nat) (ps : List (Nat × Nat)) (i : Nat) : Prop where
  kept : Kept (fun b => b = q) w5 wr
  num : NumRow wr q n t
  len : ps.length = l
  own : wr.ownsRow w5.heap.size 85 2 v l (pairCs sl ps)
  swi : 0 < n → SwI n tt t (foldS ps) i l
  sws : Swps n tt ps t
  lts : ∀ x, x ∈ ps → x.1 < n ∧ x.2 < n
section
variable {w5 wr : World} {q n most l i : Nat} {sl : Nat → ByteArray} {tt t : Nat → Nat} {v : Value} {ps : List (Nat × Nat)}
theorem SwL.start (h : NumRow w5 q n tt) (hp : Perm tt n) : SwL w5 w5 q n most sl tt (.slice none 0 0) 0 tt [] 0 :=
  ⟨Kept.refl _ _, h, rfl, World.ownsRow_nil _ _ _ _, fun h0 => SwI.start hp h0, .nil, fun x hx => by simp at hx⟩
theorem SwL.pass (h : SwL w5 wr q n most sl tt v l t ps i) (hi : i < n) (e : t i = i) : SwL w5 wr q n most sl tt v l t ps (i + 1) :=
  ⟨h.kept, h.num, h.len, h.own, fun h0 => (h.swi h0).pass hi e, h.sws, h.lts⟩
theorem SwL.done (h : SwL w5 wr q n most sl tt v l t ps i) (hl : l ≤ most) (he : i = n ∨ l = most) {g : Gar} {w : World} {bs bp : Nat → Nat} (hb : Below w.heap.size w w5) (hq : w.heap.size ≤ q)
    (ho : Ords n (fun j => sumK Ev.s (evG g g.nu) (sl j)) (fun j => sumK Ev.p (evG g g.nu) (partF g sl j)) (partF g sl) tt bs bp) : SwpR g n sl most w v wr := by
  refine ⟨Kept.below hb h.kept hb.size (fun k hk e => by omega), ps, ⟨w5.heap.size, hb.size, by rw [h.len]; exact h.own⟩, fun h0 => ?_, fun h0 => ⟨tt, bs, bp, ⟨h.lts, t, i, by rw [h.len]; exact h.swi h0, h.sws, by rw [h.len]; exact hl, ?_⟩, ho⟩⟩
  · cases ps with
    | nil => rfl
    | cons x ps => have := (h.lts x (by simp)).1; omega
  · rw [h.len]
    rcases he with e | e
    · exact Or.inl (fun j hj => (h.swi h0).fix j (by omega))
    · exact Or.inr e
theorem SwL.swap {k : Nat} {v' : Value} {W6 W7 : World} (h : SwL w5 wr q n most sl tt v l t ps i) (hi : i < n) (hne : t i ≠ i) (hk : Cir.IsP t i k) (hq : q < w5.heap.size) (ho : W6.ownsRow w5.heap.size 85 2 v' (l + 1) (pairCs sl ps ++ [.string (sl i), .string (sl k)]))
    (hn : NumRow W7 q n (Cir.swp t i k)) (hk6 : Kept (fun b => b = q) w5 W6) (hk7 : Kept (fun b => b = q) W6 W7) : SwL w5 W7 q n most sl tt v' (l + 1) (Cir.swp t i k) (ps ++ [(i, k)]) i := by
  have hsi := h.swi (by omega)
  have hkn : k < n := IsP.lt hsi.perm hi hk
  refine ⟨hk6.trans hk7, hn, by simp [h.len], ?_, fun h0 => ?_, .snoc h.sws hi hsi.fix hne hk, fun x hx => ?_⟩
  · rw [pairCs_snoc]
    refine ho.kept (row := some q) ⟨hk7.os, hk7.tape, hk7.output, hk7.size, fun b hb hne => hk7.block b hb (fun e => hne (by rw [e]))⟩ (Or.inr (fun e => ?_))
    have := (ho.lt q e).1
    omega
  · rw [foldS_snoc]
    exact (h.swi h0).swap hi hk
  · rcases List.mem_append.1 hx with hx | hx
    · exact h.lts x hx
    · simp only [List.mem_singleton] at hx
      subst hx
      exact ⟨hi, hkn⟩
end
theorem swErr_zero {g : Gar} {n : Nat} {sl : Nat → ByteArray} {most : Int} (h : swapErr g n sl most = 0) : chk g = 0 ∧ swErr g n sl most = 0 ∧ n ≤ 20 ∧ inB most 0 100 = true ∧ swL g sl n 0 = 0 := by
  unfold swapErr at h
  split at h
  · rename_i h0
    exact absurd h h0
  · rename_i h0
    have h1 := h
    unfold swErr at h
    split at h
    · cases h
    · split at h
      · rename_i h3
        exact absurd h h3
      · rename_i h2 h3
        split at h
        · cases h
        · rename_i h4
          exact ⟨by simpa using h0, h1, by omega, by simpa using h4, by simpa using h3⟩
set_option maxHeartbeats 4000000 in
set_option maxRecDepth 100000 in
theorem swaps_any (g : Gar) (a0 a1 a2 a3 : Option Addr) (c0 c1 c2 c3 : Nat) (n : Nat) (sl : Nat → ByteArray) (a : Option Addr) (cap : Nat) (most : Nat) (w : World) (h : GarIn w g a0 a1 a2 a3) (hr : RowK w a n 1 (fun j => [.string (sl j)])) (hcap : n ≤ cap) (hn : (n : Int) ≤ 9223372036854775807) (hsz : ∀ j, j < n → (sl j).size ≤ maxLen) (hz : swapErr g n sl most = 0) :
    Calls Try.prog 42 #[garV g a0 a1 a2 a3 c0 c1 c2 c3, .slice a n cap, .int .i64 most] w fun e w' => ∃ v, e = .returned (.tuple #[v, .int .i64 0]) ∧ SwpR g n sl most w v w' := by
  obtain ⟨hchk, hse, hn20, hmo, -⟩ := swErr_zero hz
  have HG := Lib.hid h
  have HR := Lib.hid hr
  obtain ⟨V, hV, hb, hs, hq⟩ := alloc_block w #[.slice a0 g.np c0, .slice a1 g.ns c1, .slice a2 g.nm c2, .slice a3 g.nu c3] 27
  have HV := Lib.hid hV
  have HB := Lib.hid hb
  have hsV : w.heap.size ≤ V.heap.size := hb.size
  have G0 := Ext.ex (block_cell (i := 0) hq rfl)
  have G1 := Ext.ex (block_cell (i := 1) hq rfl)
  have G2 := Ext.ex (block_cell (i := 2) hq rfl)
  have G3 := Ext.ex (block_cell (i := 3) hq rfl)
  have DC := Lib.hid (fun (Y : Ext V) => Y.calls (gCheck_any g a0 a1 a2 a3 c0 c1 c2 c3 Y.1 (HG.out.below (Y.down HB.out hsV))))
  have DS := Lib.hid (fun (Y : Ext V) => Y.calls (checkSwaps_any g a0 a1 a2 a3 c0 c1 c2 c3 n sl a cap most Y.1 (HG.out.below (Y.down HB.out hsV)) (HR.out.below (Y.down HB.out hsV) (Nat.le_refl _)) hcap hn))
  have DW := Lib.hid (fun (Y : Ext V) => wanted_any g a0 a1 a2 a3 c0 c1 c2 c3 n sl a cap Y.1 (HG.out.below (Y.down HB.out hsV)) hchk (HR.out.below (Y.down HB.out hsV) (Nat.le_refl _)) hn20 hsz)
  rw [hchk] at DC
  rw [hse] at DS
  unfold garV at DC DS DW ⊢
  clear h hr hV hb hq hz hse hchk
  go_enter Try.func42, Try.ntmps42
  go_upto_region 1 with (fail)
  rw [HV.out]
  refine ext_wp fun Y => ?_
  go_upto_region 10 with (first | (go_at_call 15; refine ((DC.out _).mono ?_); rintro e w3 ⟨rfl, Y3, rfl⟩) | (go_at_call 95; refine ((DS.out _).mono ?_); rintro e w4 ⟨rfl, Y4, rfl⟩) | (go_at_call 96; refine ((DW.out _).mono ?_); rintro e w5 ⟨q, rfl, hwt⟩))
  obtain ⟨hq, hb5, tt, bs, bp, hnr, hord⟩ := hwt
  have HBW := Lib.hid ((Y4.down HB.out hsV).trans (hb5.mono (Y4.down HB.out hsV).size))
  have HORD := Lib.hid hord
  have HPT := Lib.hid (Cir.wanted_perm hord.pp hord.ps hord.tt)
  have hql := hnr.lt
  have hqw : w.heap.size ≤ q := Nat.le_trans (Y4.down HB.out hsV).size hq
  have HST := Lib.hid (SwL.start (most := most) (sl := sl) hnr HPT.out)
  obtain ⟨hm0, hm1⟩ : 0 ≤ (most : Int) ∧ most ≤ 100 := by
    simp only [inB, Bool.and_eq_true, decide_eq_true_eq] at hmo
    omega
  have hpi := pair_info
  obtain ⟨i0, hi0, hz0, hz1, hz2⟩ := info_parts hpi
  have HI0 := Lib.hid hi0
  have HZ0 := Lib.hid hz0
  have HZ1 := Lib.hid hz1
  have HZ2 := Lib.hid hz2
  have hnl : (n : Int) ≤ 20 := by omega
  clear hq hb5 hnr hord hmo hpi hi0 hz0 hz1 hz2 Y4 Y3 Y DC DS DW G0 G1 G2 G3 HB HV
  go_loopg [11, 12] (n + n) (fun g v iv wr => ∃ (av : Option Addr) (cv l i : Nat) (t : Nat → Nat) (ps : List (Nat × Nat)), v = .slice av l cv ∧ iv = .int .i64 i ∧ i ≤ n ∧ l ≤ n ∧ l ≤ most ∧ g + i + l = n + n ∧ Hid (SwL w5 wr q n most sl tt (.slice av l cv) l t ps i))
  case atStart => exact ⟨none, 0, 0, 0, tt, [], rfl, rfl, by omega, by omega, by omega, by omega, HST⟩
  case round =>
    obtain ⟨av, cv, l, i, t, ps, rfl, rfl, hi, hln, hlm, hg, HL⟩ := hrel
    by_cases hlt : i < n
    case neg =>
      have t1 : decide ((i : Int) < (n : Int)) = false := by rw [decide_eq_false_iff_not]; omega
      have t1' : decide (i < n) = false := by simpa using hlt
      have HEND : Hid (SwpR g n sl most w (.slice av l cv) wr) := Lib.hid (HL.out.done hlm (Or.inl (by omega)) HBW.out hqw HORD.out)
      clear hlt
      go_wp2_with fail
      go_ret2
      exact ⟨_, rfl, HEND.out⟩
    case pos =>
      have t1 : decide ((i : Int) < (n : Int)) = true := by rw [decide_eq_true_eq]; omega
      have t1' : decide (i < n) = true := by simpa using hlt
      by_cases hll : l < most
      case neg =>
        have t2 : decide ((l : Int) < (most : Int)) = false := by rw [decide_eq_false_iff_not]; omega
        have t2' : decide (l < most) = false := by simpa using hll
        have HEND : Hid (SwpR g n sl most w (.slice av l cv) wr) := Lib.hid (HL.out.done hlm (Or.inr (by omega)) HBW.out hqw HORD.out)
        clear hlt hll
        go_wp2_with fail
        go_ret2
        exact ⟨_, rfl, HEND.out⟩
      case pos =>
        have t2 : decide ((l : Int) < (most : Int)) = true := by rw [decide_eq_true_eq]; omega
        have t2' : decide (l < most) = true := by simpa using hll
        have hii : (i : Int) < (n : Int) := by omega
        have HSI := Lib.hid (HL.out.swi (by omega))
        have hlf : l + 1 ≤ n := HSI.out.few
        have c0 := HL.out.num.cell hlt
        obtain ⟨ti, hti⟩ : ∃ ti, t i = ti := ⟨_, rfl⟩
        rw [hti] at c0
        by_cases he : ti = i
        · have t3 : ((ti : Int) == (i : Int)) = true := by rw [he]; simp
          have t3' : (ti == i) = true := by rw [he]; simp
          have HN := Lib.hid (HL.out.pass hlt (hti.trans he))
          clear he hti hlt hll
          go_wp2_with fail
          go_roundg (n + n - (i + 1) - l)
          case rel => exact ⟨av, cv, l, i + 1, t, ps, rfl, int_eq (by omega), by omega, by omega, by omega, by omega, HN⟩
          case measure => omega
        · have t3 : ((ti : Int) == (i : Int)) = false := by rw [beq_eq_false_iff_ne]; omega
          have t3' : (ti == i) = false := by rw [beq_eq_false_iff_ne]; exact he
          have HNE := Lib.hid (show t i ≠ i by rw [hti]; exact he)
          have DP := Lib.hid (partner_any n t (some ⟨q, 0, none⟩) n i wr HL.out.num.row HSI.out.perm hlt (Cir.some_behind HSI.out.perm hlt HNE.out HSI.out.fix) hn20)
          clear he hti
          go_upto_region 14 with (go_at_call 97; refine DP.out.mono ?_; rintro e w2 ⟨⟨k, rfl, hk⟩, rfl⟩)
          have HK := Lib.hid hk
          have hkn : k < n := IsP.lt HSI.out.perm hlt hk
          have hki : (k : Int) < (n : Int) := by omega
          clear hk DP c0
          have HWR := Lib.hid (Kept.below HBW.out HL.out.kept HBW.out.size (fun b hb e => by omega))
          obtain ⟨b, off, rfl, hbl, hcr⟩ := HR.out.here (by omega)
          have hcell : ∀ j, j < n → wr.cell? ⟨b, off + j, none⟩ = some (.string (sl j)) := fun j hj => by
            have := hcr j hj 0 (by omega)
            rw [Nat.mul_one, Nat.add_zero] at this
            exact (HWR.out.cell (p := ⟨b, off + j, none⟩) hbl).trans this
          have hnb : ¬ (Value.slice av l cv).ownBlock = some b := fun e => by
            have := (HL.out.own.lt b e).1
            have := HBW.out.size
            omega
          have hnq : ¬ (Value.slice av l cv).ownBlock = some q := fun e => by
            have := (HL.out.own.lt q e).1
            omega
          have S1 : ∀ X : ExtO (fun b => (Value.slice av l cv).ownBlock = some b) wr, X.1.cell? ⟨b, off + i, none⟩ = some (.string (sl i)) := ExtO.ex hnb (hcell i hlt)
          have S2 : ∀ X : ExtO (fun b => (Value.slice av l cv).ownBlock = some b) wr, X.1.cell? ⟨b, off + k, none⟩ = some (.string (sl k)) := ExtO.ex hnb (hcell k hkn)
          have hwr5 : w5.heap.size ≤ wr.heap.size := HL.out.kept.size
          clear hcr hcell hnb t1 t1' t2 t2' t3 t3'
          refine held_start (C := fun w' => ∃ Z : ExtO (fun b => (Value.slice av l cv).ownBlock = some b) wr, w' = Z.1) (by kernel_rfl) ?_
          obtain ⟨Y0, hY0, hy0⟩ : ∃ Z : ExtO (fun b => (Value.slice av l cv).ownBlock = some b) wr, ({ wr with drawn := wr.drawn + 1 } : World) = Z.1 ∧ Below wr.heap.size wr Z.1 := ⟨⟨{ wr with drawn := wr.drawn + 1 }, ⟨rfl, rfl, rfl, Nat.le_refl _, fun _ _ _ => rfl⟩⟩, rfl, ⟨rfl, rfl, rfl, Nat.le_refl _, fun _ _ => rfl⟩⟩
          rw [hY0]
          have HVY := Lib.hid hy0
          clear hY0 hy0
          refine held_quiet (by kernel_rfl) (fun _ _ d _ _ h => by cases d <;> exact h) ⟨Y0, rfl⟩ [0, 1, 2, 3, 4, 5, 6, 7, 8, 9] 3 _ _ (by kernel_rfl) ?_
          change wpQuiet _ _ _ _ (_ :: _ :: _ :: _ :: _ :: _ :: _ :: _ :: _ :: _ :: []) _
          repeat go_big_quiet_step (fail)
          refine wpQuiet_nil ?_
          refine held_do (i := 10) _ rfl (by kernel_rfl) rfl (fun K hK => ?_)
          go_simp
          obtain ⟨Wb, hWb, hwb1, hwb2, hwq⟩ := alloc_block Y0.1 #[.string (sl i), .string (sl k)] 85
          rw [hWb]
          have hvz := below_step HVY.out hwb1
          obtain ⟨Zb, rfl⟩ : ∃ Z : ExtO (fun b => (Value.slice av l cv).ownBlock = some b) wr, Wb = Z.1 := ⟨⟨Wb, Kept.of_below hvz⟩, rfl⟩
          have HVZ := Lib.hid hvz
          have HWQ := Lib.hid hwq
          refine hK _ _ ⟨Zb, rfl⟩ ?_
          clear hWb hwb1 hwb2 hwq hvz hK K
          refine held_do (i := 11) _ rfl (by kernel_rfl) rfl (fun K hK => ?_)
          have HOW := Lib.hid (ownsRow_below HL.out.own HVZ.out)
          refine wp_append_lies Zb.1 (.tmp 50) (.tmp 60) 80 rfl w5.heap.size 85 i0 (.agg #[.string ⟨#[]⟩, .string ⟨#[]⟩]) 2 32 pair_under HI0.out HZ0.out HZ1.out HZ2.out rfl (by decide) (.slice av l cv) l (pairCs sl ps) rfl HOW.out ⟨Y0.1.heap.size, 0, none⟩ 1 1 [.string (sl i), .string (sl k)] rfl rfl (fun j u hu => by rw [addr_add0]; exact block_cell HWQ.out (by simpa using hu)) (fun u hu => by simp only [List.mem_cons, List.not_mem_nil, or_false] at hu; rcases hu with rfl | rfl <;> rfl) (by omega) (by unfold maxLen; omega) (by omega) (Nat.le_trans hwr5 HVZ.out.size) _ rfl (fun g6 cap6 w6 hown6 hg6 hat6 hlt6 => ?_)
          obtain ⟨Z6, hZ6⟩ : ∃ Z : ExtO (fun b => (Value.slice av l cv).ownBlock = some b) wr, w6 = Z.1 := ⟨⟨w6, Zb.2.grown hg6 (fun q hq _ => hq)⟩, rfl⟩
          rw [hZ6] at hown6 ⊢
          have HO6 := Lib.hid hown6
          refine hK _ _ ⟨Z6, rfl⟩ ?_
          clear hg6 hat6 hlt6 hown6 hZ6 hK K w6
          simp only [Act.put, List.setIfInBounds_toArray, List.set_cons_zero, List.set_cons_succ]
          refine held_quiet (by kernel_rfl) (fun _ _ d _ _ h => by cases d <;> exact h) ⟨Z6, rfl⟩ [12] 0 _ _ (by kernel_rfl) ?_
          change wpQuiet _ _ _ _ (_ :: []) _
          go_big_quiet_step (fail)
          refine wpQuiet_nil ?_
          refine wpAnyH_done (by kernel_rfl) ?_ _
          have HK6 := Lib.hid (HL.out.kept.far Z6.2 (fun j hj e => by have := (HL.out.own.lt j e).1; omega))
          have hn6 : NumRow Z6.1 q n t := HL.out.num.same (Z6.2.block q HL.out.num.lt hnq)
          have c1 := hn6.cell hlt
          have c2 := hn6.cell hkn
          have f1 := hn6.free i
          have f2 := hn6.free k
          have HN6 := Lib.hid hn6
          have hik : i ≠ k := by have := HK.out.gt; omega
          obtain ⟨W6, hW6⟩ : ∃ W, Z6.1 = W := ⟨_, rfl⟩
          rw [hW6] at c1 c2 f1 f2 HN6 HK6 HO6 ⊢
          obtain ⟨x1, hx1⟩ : ∃ x, t i = x := ⟨_, rfl⟩
          obtain ⟨x2, hx2⟩ : ∃ x, t k = x := ⟨_, rfl⟩
          rw [hx1] at c1
          rw [hx2] at c2
          have HX1 := Lib.hid hx1
          have HX2 := Lib.hid hx2
          clear hn6 hW6 HVZ HWQ HOW S1 S2 hnq hx1 hx2 HWR
          go_wp2_with fail
          go_region
          go_wp2
          have HEND : Hid (SwL w5 ((W6.setCell ⟨q, i, none⟩ (.int .i64 (x2 : Nat))).setCell ⟨q, k, none⟩ (.int .i64 (x1 : Nat))).drew q n most sl tt (.slice (some ⟨g6, 0, none⟩) (l + 1) cap6) (l + 1) (Cir.swp t i k) (ps ++ [(i, k)]) i) := Lib.hid (by
            have hs := HN6.out.swap hlt hkn
            rw [HX1.out, HX2.out] at hs
            exact HL.out.swap hlt HNE.out HK.out hql HO6.out (hs.same rfl) HK6.out (((Kept.put (O := fun b => b = q) (b := q) rfl).trans (Kept.put rfl)).trans ⟨rfl, rfl, rfl, Nat.le_refl _, fun _ _ _ => rfl⟩))
          go_roundg (n + n - i - (l + 1))
          case rel => exact ⟨some ⟨g6, 0, none⟩, cap6, l + 1, i, Cir.swp t i k, ps ++ [(i, k)], rfl, rfl, by omega, by omega, by omega, by omega, HEND⟩
          case measure => omega
end Go.Proofs.Ytbkpoepacjinlaa

/- Gear: the small garage of the laws. -/
namespace Go.Proofs.Ytbkpoepacjinlaa
open Go.RowKit Go.BigFrame
open Gar (chk)

def bs (l : List UInt8) : ByteArray := ⟨l.toArray⟩
/-- the small garage -/
def smallG : Gar where
  np := 2
  ns := 1
  nm := 2
  nu := 1
  pn i := if i = 0 then bs [99, 49] else bs [99, 50]
  pc i := if i = 0 then 100 else 0
  sn _ := bs [99, 104, 97, 105, 110]
  sr _ := bs [98, 105, 107, 101]
  ms _ := bs [99, 104, 97, 105, 110]
  mp i := if i = 0 then bs [99, 49] else bs [99, 50]
  mf i := if i = 0 then 0 else 1000
  mt i := if i = 0 then 1000 else -1
  un _ := bs [117]
  ur _ := bs [98, 105, 107, 101]
  uf _ := 900
  us _ := 200
  uw _ := 1001
set_option maxHeartbeats 2000000 in
set_option maxRecDepth 100000 in
theorem small_any (w : World) : Calls Try.prog 58 #[] w fun e w' => ∃ a0 a1 a2 a3 c0 c1 c2 c3, e = .returned (garV smallG a0 a1 a2 a3 c0 c1 c2 c3) ∧ GarIn w' smallG a0 a1 a2 a3 ∧ Below w.heap.size w w' := by
  obtain ⟨V0, h0, b0, s0, q0⟩ := alloc_block w #[.slice (some ⟨w.heap.size + 1, 0, none⟩) 2 2, .slice (some ⟨w.heap.size + 1 + 1, 0, none⟩) 1 1, .slice (some ⟨w.heap.size + 1 + 1 + 1, 0, none⟩) 2 2, .slice (some ⟨w.heap.size + 1 + 1 + 1 + 1, 0, none⟩) 1 1] 27
  obtain ⟨V1, h1, b1, s1, q1⟩ := alloc_block V0 #[.string ⟨#[99, 49]⟩, .int .i64 100, .string ⟨#[99, 50]⟩, .int .i64 0] 94
  obtain ⟨V2, h2, b2, s2, q2⟩ := alloc_block V1 #[.string ⟨#[99, 104, 97, 105, 110]⟩, .string ⟨#[98, 105, 107, 101]⟩] 40
  obtain ⟨V3, h3, b3, s3, q3⟩ := alloc_block V2 #[.string ⟨#[99, 104, 97, 105, 110]⟩, .string ⟨#[99, 49]⟩, .int .i64 0, .int .i64 1000, .string ⟨#[99, 104, 97, 105, 110]⟩, .string ⟨#[99, 50]⟩, .int .i64 1000, .int .i64 (-1)] 54
  obtain ⟨V4, h4, b4, s4, q4⟩ := alloc_block V3 #[.string ⟨#[117]⟩, .string ⟨#[98, 105, 107, 101]⟩, .int .i64 900, .int .i64 200, .int .i64 1001] 38
  have HE : Hid (((((w.alloc (.cells #[.slice (some ⟨w.heap.size + 1, 0, none⟩) 2 2, .slice (some ⟨w.heap.size + 1 + 1, 0, none⟩) 1 1, .slice (some ⟨w.heap.size + 1 + 1 + 1, 0, none⟩) 2 2, .slice (some ⟨w.heap.size + 1 + 1 + 1 + 1, 0, none⟩) 1 1] 27)).alloc (.cells #[.string ⟨#[99, 49]⟩, .int .i64 100, .string ⟨#[99, 50]⟩, .int .i64 0] 94)).alloc (.cells #[.string ⟨#[99, 104, 97, 105, 110]⟩, .string ⟨#[98, 105, 107, 101]⟩] 40)).alloc (.cells #[.string ⟨#[99, 104, 97, 105, 110]⟩, .string ⟨#[99, 49]⟩, .int .i64 0, .int .i64 1000, .string ⟨#[99, 104, 97, 105, 110]⟩, .string ⟨#[99, 50]⟩, .int .i64 1000, .int .i64 (-1)] 54)).alloc (.cells #[.string ⟨#[117]⟩, .string ⟨#[98, 105, 107, 101]⟩, .int .i64 900, .int .i64 200, .int .i64 1001] 38) = V4) := Lib.hid (by rw [h0, h1, h2, h3, h4])
  have r0 := below_block b4 (below_block b3 (below_block b2 (below_block b1 q0)))
  have r1 := below_block b4 (below_block b3 (below_block b2 q1))
  have r2 := below_block b4 (below_block b3 q2)
  have r3 := below_block b4 q3
  rw [s0] at r1 s1
  rw [s1] at r2 s2
  rw [s2] at r3 s3
  rw [s3] at q4 s4
  have hb : Below w.heap.size w V4 := b0.trans ((b1.mono (by omega)).trans ((b2.mono (by omega)).trans ((b3.mono (by omega)).trans (b4.mono (by omega)))))
  have g0 : V4.cell? ⟨w.heap.size, 0, none⟩ = some (.slice (some ⟨w.heap.size + 1, 0, none⟩) 2 2) := block_cell r0 rfl
  have g1 : V4.cell? ⟨w.heap.size, 1, none⟩ = some (.slice (some ⟨w.heap.size + 1 + 1, 0, none⟩) 1 1) := block_cell r0 rfl
  have g2 : V4.cell? ⟨w.heap.size, 2, none⟩ = some (.slice (some ⟨w.heap.size + 1 + 1 + 1, 0, none⟩) 2 2) := block_cell r0 rfl
  have g3 : V4.cell? ⟨w.heap.size, 3, none⟩ = some (.slice (some ⟨w.heap.size + 1 + 1 + 1 + 1, 0, none⟩) 1 1) := block_cell r0 rfl
  have HGI : Hid (GarIn V4 smallG (some ⟨w.heap.size + 1, 0, none⟩) (some ⟨w.heap.size + 1 + 1, 0, none⟩) (some ⟨w.heap.size + 1 + 1 + 1, 0, none⟩) (some ⟨w.heap.size + 1 + 1 + 1 + 1, 0, none⟩)) := Lib.hid
    ⟨⟨fun _ => ⟨_, 0, rfl, lt_of_block r1, fun i hi j hj => by
        have hi : i < 2 := hi
        match i, hi, j, hj with
        | 0, _, 0, _ => exact block_cell r1 rfl
        | 0, _, 1, _ => exact block_cell r1 rfl
        | 1, _, 0, _ => exact block_cell r1 rfl
        | 1, _, 1, _ => exact block_cell r1 rfl⟩⟩,
     ⟨fun _ => ⟨_, 0, rfl, lt_of_block r2, fun i hi j hj => by
        have hi : i < 1 := hi
        match i, hi, j, hj with
        | 0, _, 0, _ => exact block_cell r2 rfl
        | 0, _, 1, _ => exact block_cell r2 rfl⟩⟩,
     ⟨fun _ => ⟨_, 0, rfl, lt_of_block r3, fun i hi j hj => by
        have hi : i < 2 := hi
        match i, hi, j, hj with
        | 0, _, 0, _ => exact block_cell r3 rfl
        | 0, _, 1, _ => exact block_cell r3 rfl
        | 0, _, 2, _ => exact block_cell r3 rfl
        | 0, _, 3, _ => exact block_cell r3 rfl
        | 1, _, 0, _ => exact block_cell r3 rfl
        | 1, _, 1, _ => exact block_cell r3 rfl
        | 1, _, 2, _ => exact block_cell r3 rfl
        | 1, _, 3, _ => exact block_cell r3 rfl⟩⟩,
     ⟨fun _ => ⟨_, 0, rfl, lt_of_block q4, fun i hi j hj => by
        have hi : i < 1 := hi
        match i, hi, j, hj with
        | 0, _, 0, _ => exact block_cell q4 rfl
        | 0, _, 1, _ => exact block_cell q4 rfl
        | 0, _, 2, _ => exact block_cell q4 rfl
        | 0, _, 3, _ => exact block_cell q4 rfl
        | 0, _, 4, _ => exact block_cell q4 rfl⟩⟩,
     fun i _ => by show (if i = 0 then bs [99, 49] else bs [99, 50]).size ≤ maxLen; split <;> decide, fun _ _ => by show (bs [99, 104, 97, 105, 110]).size ≤ maxLen ∧ (bs [98, 105, 107, 101]).size ≤ maxLen; decide, fun i _ => ⟨by show (bs [99, 104, 97, 105, 110]).size ≤ maxLen; decide, by show (if i = 0 then bs [99, 49] else bs [99, 50]).size ≤ maxLen; split <;> decide⟩, fun _ _ => by show (bs [117]).size ≤ maxLen ∧ (bs [98, 105, 107, 101]).size ≤ maxLen; decide, by decide, by decide, by decide, by decide⟩
  have HB := Lib.hid hb
  clear hb h0 h1 h2 h3 h4 b0 b1 b2 b3 b4 s0 s1 s2 s3 s4 q0 q1 q2 q3 q4 r0 r1 r2 r3
  go_enter Try.func58, Try.ntmps58
  go_wp2_with fail
  rw [HE.out]
  exact bodyPost_ret (v := .agg #[.slice (some ⟨w.heap.size + 1, 0, none⟩) 2 2, .slice (some ⟨w.heap.size + 1 + 1, 0, none⟩) 1 1, .slice (some ⟨w.heap.size + 1 + 1 + 1, 0, none⟩) 2 2, .slice (some ⟨w.heap.size + 1 + 1 + 1 + 1, 0, none⟩) 1 1]) (by simp [results, Try.results58, go_sem, g0, g1, g2, g3]) rfl ⟨_, _, _, _, 2, 1, 2, 1, rfl, HGI.out, HB.out⟩
end Go.Proofs.Ytbkpoepacjinlaa

/- Gear: two rows of pieces are equal (the library's Equal at pieces). -/
namespace Go.Proofs.Ytbkpoepacjinlaa
open Go.RowKit Go.BigFrame

/-- a row of pieces, as functions -/
structure PRow where
  n : Nat
  u : Nat → ByteArray
  s : Nat → ByteArray
  p : Nat → ByteArray
  c : Nat → Int
  y : Nat → Int
def PRow.cells (r : PRow) (i : Nat) : List Value := [.string (r.u i), .string (r.s i), .string (r.p i), .int .i64 (r.c i), .int .i64 (r.y i)]
def PRow.eqAt (r q : PRow) (i : Nat) : Bool := decide (r.u i = q.u i) && decide (r.s i = q.s i) && decide (r.p i = q.p i) && decide (r.c i = q.c i) && decide (r.y i = q.y i)
def PRow.eq (r q : PRow) : Bool := decide (r.n = q.n) && (List.range r.n).all fun i => r.eqAt q i
set_option maxHeartbeats 2000000 in
theorem eqPiece (a b c a' b' c' : ByteArray) (d e d' e' : Int) (w : World) :
    (Op.equalIn 10000 42 (.agg #[.string a, .string b, .string c, .int .i64 d, .int .i64 e]) (.agg #[.string a', .string b', .string c', .int .i64 d', .int .i64 e'])).run Try.prog w = .ok (decide (a = a') && decide (b = b') && decide (c = c') && decide (d = d') && decide (e = e')) w := by
  have u3 := Try.underlying3
  have a3 := Try.isAgg3
  have z3 := Try.sizeOf3
  have u9 := Try.underlying9
  have a9 := Try.isAgg9
  have z9 := Try.sizeOf9
  have hS : Try.prog.underlying 42 = some (.struct (Try.prog.fieldsOf 42)) := by kernel_rfl
  have hp : Try.prog.stoodInHeld 42 = false := by kernel_rfl
  have h1 := str_eq a a'
  have h2 := str_eq b b'
  have h3 := str_eq c c'
  rw [show (10000 : Nat) = 9999 + 1 from rfl, run_equalIn_agg w 9999 42 _ _ hS hp]
  simp only [Program.fieldsOf, Try.underlying42]
  generalize decide (a = a') = b1 at h1 ⊢
  generalize decide (b = b') = b2 at h2 ⊢
  generalize decide (c = c') = b3 at h3 ⊢
  have h4 : (d == d') = decide (d = d') := rfl
  have h5 : (e == e') = decide (e = e') := rfl
  generalize decide (d = d') = b4 at h4 ⊢
  generalize decide (e = e') = b5 at h5 ⊢
  cases b1 <;> cases b2 <;> cases b3 <;> cases b4 <;> cases b5 <;> go_simp
set_option maxHeartbeats 2000000 in
set_option maxRecDepth 100000 in
theorem equalP_any (r q : PRow) (a b : Option Addr) (c d : Nat) (w : World) (hr : RowK w a r.n 5 r.cells) (hq : RowK w b q.n 5 q.cells) (hl : (r.n : Int) ≤ 9223372036854775807) (hl' : (q.n : Int) ≤ 9223372036854775807) :
    Calls Try.prog 30 #[.slice a r.n c, .slice b q.n d] w fun e w' => e = .returned (.bool (r.eq q)) ∧ ∃ m, w' = w.drewN m := by
  by_cases hn : r.n = q.n
  · have hneq : ((r.n : Int) != (q.n : Int)) = false := by rw [hn]; simp
    have HR := Lib.hid hr
    have HQ := Lib.hid hq
    have HN := Lib.hid hn
    clear hr hq hn
    go_enter Try.func30, Try.ntmps30
    go_wp2_with fail
    go_loopw [13] (fun iv wr => ∃ (k : Nat), iv = .int .i64 k ∧ k ≤ r.n ∧ (∃ m, wr = w.drewN m) ∧ Hid (∀ i, i < k → r.eqAt q i = true)) (fun iv _ => r.n - (intOf iv).toNat)
    case atStart => exact ⟨0, rfl, by omega, ⟨0, rfl⟩, Lib.hid (fun i hi => by omega)⟩
    case round =>
      obtain ⟨k, rfl, hk, ⟨m, rfl⟩, HE⟩ := hrel
      by_cases hlt : k < r.n
      · have t1 : decide ((k : Int) < (r.n : Int)) = true := by rw [decide_eq_true_eq]; omega
        have t1' : decide (k < r.n) = true := by simpa using hlt
        have hkq : k < q.n := by have := HN.out; omega
        have t2 : (k : Int) < (q.n : Int) := by omega
        obtain ⟨b1, o1, rfl, hb1, hc1⟩ := HR.out.here (by omega)
        obtain ⟨b2, o2, rfl, hb2, hc2⟩ := HQ.out.here (by omega)
        have e0 : w.cell? ⟨b1, o1 + k * 5, none⟩ = some (.string (r.u k)) := hc1 k hlt 0 (by omega)
        have e1 : w.cell? ⟨b1, o1 + k * 5 + 1, none⟩ = some (.string (r.s k)) := hc1 k hlt 1 (by omega)
        have e2 : w.cell? ⟨b1, o1 + k * 5 + 2, none⟩ = some (.string (r.p k)) := hc1 k hlt 2 (by omega)
        have e3 : w.cell? ⟨b1, o1 + k * 5 + 3, none⟩ = some (.int .i64 (r.c k)) := hc1 k hlt 3 (by omega)
        have e4 : w.cell? ⟨b1, o1 + k * 5 + 4, none⟩ = some (.int .i64 (r.y k)) := hc1 k hlt 4 (by omega)
        have f0 : w.cell? ⟨b2, o2 + k * 5, none⟩ = some (.string (q.u k)) := hc2 k hkq 0 (by omega)
        have f1 : w.cell? ⟨b2, o2 + k * 5 + 1, none⟩ = some (.string (q.s k)) := hc2 k hkq 1 (by omega)
        have f2 : w.cell? ⟨b2, o2 + k * 5 + 2, none⟩ = some (.string (q.p k)) := hc2 k hkq 2 (by omega)
        have f3 : w.cell? ⟨b2, o2 + k * 5 + 3, none⟩ = some (.int .i64 (q.c k)) := hc2 k hkq 3 (by omega)
        have f4 : w.cell? ⟨b2, o2 + k * 5 + 4, none⟩ = some (.int .i64 (q.y k)) := hc2 k hkq 4 (by omega)
        clear hc1 hc2
        have hgd : Try.prog.eqGuardType Try.prog.depth 42 = false := by kernel_rfl
        have hq : ∀ W, (Op.equalIn 10000 42 (.agg #[.string (r.u k), .string (r.s k), .string (r.p k), .int .i64 (r.c k), .int .i64 (r.y k)]) (.agg #[.string (q.u k), .string (q.s k), .string (q.p k), .int .i64 (q.c k), .int .i64 (q.y k)])).run Try.prog W = .ok (r.eqAt q k) W := fun W => eqPiece _ _ _ _ _ _ _ _ _ _ W
        cases hb : r.eqAt q k
        · rw [hb] at hq
          have HF : Hid (r.eq q = false) := Lib.hid (by
            unfold PRow.eq
            rw [Bool.and_eq_false_iff]
            exact Or.inr (by rw [List.all_eq_false]; exact ⟨k, List.mem_range.2 hlt, by rw [hb]; simp⟩))
          clear hb
          go_wp2_with fail
          go_quiet (fail)
          go_wp2_with fail
          go_ret
          exact ⟨ret_bool HF.out.symm, m + nq, by rw [World.drewN_drewN]⟩
        · rw [hb] at hq
          have HE2 : Hid (∀ i, i < k + 1 → r.eqAt q i = true) := Lib.hid (fun i hi => by
            by_cases e : i = k
            · subst e; exact hb
            · exact HE.out i (by omega))
          clear hb
          go_wp2_with fail
          go_quiet (fail)
          go_wp2_with fail
          go_roundw
          case rel => exact ⟨k + 1, by go_num, by omega, ⟨_, rfl⟩, HE2⟩
          case measure => simp [intOf]; omega
      · have t1 : decide ((k : Int) < (r.n : Int)) = false := by rw [decide_eq_false_iff_not]; omega
        have t1' : decide (k < r.n) = false := by simpa using hlt
        have HF : Hid (r.eq q = true) := Lib.hid (by
          unfold PRow.eq
          rw [Bool.and_eq_true, decide_eq_true_eq, List.all_eq_true]
          exact ⟨HN.out, fun i hi => HE.out i (by have := List.mem_range.1 hi; omega)⟩)
        clear hlt
        go_wp2_with fail
        go_ret
        exact ⟨ret_bool HF.out.symm, _, rfl⟩
  · have hneq : ((r.n : Int) != (q.n : Int)) = true := by rw [bne_iff_ne]; omega
    go_enter Try.func30, Try.ntmps30
    go_wp2_with fail
    go_ret
    exact ⟨ret_bool (by unfold PRow.eq; simp [hn]), 0, rfl⟩
end Go.Proofs.Ytbkpoepacjinlaa

/- Gear: the small garage has the pieces that are told. -/
namespace Go.Proofs.Ytbkpoepacjinlaa
open Go.RowKit Go.BigFrame
open Gar (chk)

theorem small_chk : chk smallG = 0 := by kernel_rfl
def smallL : List Pcs.Pc := [(bs [99, 49], 100), (bs [99, 50], 100)]
theorem small_pcs : pcsOf smallG 0 0 = smallL := by kernel_rfl
theorem small_ord : ordL (Shr.rst 1001 200 (secW smallL)) 2 = [0, 1] := by
  refine Shr.IsOrd.unique (ordL_ord _ _) ⟨List.Perm.refl _, ?_⟩
  refine List.Pairwise.cons (fun b hb => ?_) (List.Pairwise.cons (fun b hb => by simp at hb) List.Pairwise.nil)
  simp only [List.mem_singleton] at hb
  subst hb
  exact Or.inr ⟨by kernel_rfl, by decide⟩
theorem small_way (i : Nat) (h : i = 0 ∨ i = 1) : wayG 1001 200 (secW smallL) 2 i = if i = 0 then 501 else 500 := by
  unfold wayG
  rw [small_ord]
  rcases h with rfl | rfl
  · kernel_rfl
  · kernel_rfl
theorem small_evs : evG smallG smallG.nu = [⟨0, bs [99, 104, 97, 105, 110], bs [99, 49], 100, 501⟩, ⟨0, bs [99, 104, 97, 105, 110], bs [99, 50], 100, 500⟩] := by
  show evG smallG 1 = _
  rw [evG, evG, List.nil_append]
  show evS smallG 0 1 = _
  rw [evS, evS, List.nil_append, if_pos (by rfl), small_pcs]
  show evQ smallG 0 0 2 = _
  rw [evQ, evQ, evQ]
  simp only [List.nil_append, List.singleton_append, evP, small_pcs]
  have h0 := small_way 0 (Or.inl rfl)
  have h1 := small_way 1 (Or.inr rfl)
  rw [show wayG (smallG.uw 0) (smallG.us 0) (secW smallL) smallL.length 0 = 501 from h0, show wayG (smallG.uw 0) (smallG.us 0) (secW smallL) smallL.length 1 = 500 from h1]
  rfl
def smallR : PRow where
  n := 2
  u _ := bs [117]
  s _ := bs [99, 104, 97, 105, 110]
  p i := if i = 0 then bs [99, 49] else bs [99, 50]
  c _ := 100
  y i := if i = 0 then 501 else 500
theorem small_cells : evCs smallG (evG smallG smallG.nu) = [.string (bs [117]), .string (bs [99, 104, 97, 105, 110]), .string (bs [99, 49]), .int .i64 100, .int .i64 501, .string (bs [117]), .string (bs [99, 104, 97, 105, 110]), .string (bs [99, 50]), .int .i64 100, .int .i64 500] := by
  rw [small_evs]
  rfl
theorem smallR_row {w : World} {g : Nat} (h : ∀ j u, ([.string (bs [117]), .string (bs [99, 104, 97, 105, 110]), .string (bs [99, 49]), .int .i64 100, .int .i64 501, .string (bs [117]), .string (bs [99, 104, 97, 105, 110]), .string (bs [99, 50]), .int .i64 100, .int .i64 500] : List Value)[j]? = some u → w.cell? ⟨g, j, none⟩ = some u) (hl : g < w.heap.size) : RowK w (some ⟨g, 0, none⟩) smallR.n 5 smallR.cells :=
  ⟨fun _ => ⟨g, 0, rfl, hl, fun i hi j hj => by
    have hi : i < 2 := hi
    match i, hi, j, hj with
    | 0, _, 0, _ => exact h 0 _ rfl
    | 0, _, 1, _ => exact h 1 _ rfl
    | 0, _, 2, _ => exact h 2 _ rfl
    | 0, _, 3, _ => exact h 3 _ rfl
    | 0, _, 4, _ => exact h 4 _ rfl
    | 1, _, 0, _ => exact h 5 _ rfl
    | 1, _, 1, _ => exact h 6 _ rfl
    | 1, _, 2, _ => exact h 7 _ rfl
    | 1, _, 3, _ => exact h 8 _ rfl
    | 1, _, 4, _ => exact h 9 _ rfl⟩⟩
theorem smallR_eq : smallR.eq smallR = true := by kernel_rfl
set_option maxHeartbeats 2000000 in
set_option maxRecDepth 100000 in
theorem told_any (w : World) : Calls Try.prog 17 #[] w fun e w' => e = .returned (.bool true) ∧ Below w.heap.size w w' := by
  have HS := Lib.hid (small_any w)
  go_enter Try.func17, Try.ntmps17
  go_wp2_with fail
  refine HS.out.mono ?_
  rintro e w1 ⟨a0, a1, a2, a3, c0, c1, c2, c3, rfl, hg, hb⟩
  have HP := Lib.hid (gPieces_any smallG a0 a1 a2 a3 c0 c1 c2 c3 w1 hg)
  have HB := Lib.hid hb
  clear hg hb HS
  unfold garV at HP ⊢
  go_wp2_with fail
  refine HP.out.mono ?_
  rintro e w2 ⟨hb2, hcase⟩
  have HB2 := Lib.hid (HB.out.trans (hb2.mono HB.out.size))
  clear hb2
  rcases hcase with ⟨hne, _⟩ | ⟨_, v, base, hbase, rfl, hown⟩
  · exact absurd small_chk hne
  rw [small_cells, show (evG smallG smallG.nu).length = 2 by rw [small_evs]; rfl] at hown
  obtain ⟨g, cap, rfl, hg1, hg2⟩ := hown.form (by omega)
  have HR : Hid (RowK w2 (some ⟨g, 0, none⟩) smallR.n 5 smallR.cells) := Lib.hid (smallR_row (fun j u hu => by
    have := hown.cells (g := g) rfl j u hu
    rwa [addr_add0] at this) hg2)
  clear hown
  obtain ⟨W, hW, hbW, hsW, hqW⟩ := alloc_block w2 #[.string ⟨#[117]⟩, .string ⟨#[99, 104, 97, 105, 110]⟩, .string ⟨#[99, 49]⟩, .int .i64 100, .int .i64 501, .string ⟨#[117]⟩, .string ⟨#[99, 104, 97, 105, 110]⟩, .string ⟨#[99, 50]⟩, .int .i64 100, .int .i64 500] 42
  have HE := Lib.hid (equalP_any smallR smallR (some ⟨g, 0, none⟩) (some ⟨w2.heap.size, 0, none⟩) cap 2 W (HR.out.below hbW (Nat.le_refl _)) (smallR_row (fun j u hu => block_cell hqW (by rw [← Array.getElem?_toList]; exact hu)) (by omega)) (by decide) (by decide))
  rw [smallR_eq] at HE
  have HW := Lib.hid hW
  have HBW := Lib.hid (HB2.out.trans (hbW.mono HB2.out.size))
  clear hW hbW hsW hqW
  go_wp2_with fail
  rw [HW.out]
  refine HE.out.mono ?_
  rintro e w3 ⟨rfl, m, rfl⟩
  go_wp2_with fail
  go_ret
  exact ⟨rfl, below_drewN HBW.out m⟩
end Go.Proofs.Ytbkpoepacjinlaa

/- The law GearPiecesFollowMounts: its walk. -/
namespace Go.Proofs.Ytbkpoepacjinlaa
open Go.RowKit Go.BigFrame
open Gar (chk)

theorem Ext.up {W V : World} (h : Below W.heap.size W V) (Y : Ext V) : ∃ X : Ext W, Y.1 = X.1 := ⟨⟨Y.1, h.trans (Y.2.mono h.size)⟩, rfl⟩
set_option maxHeartbeats 8000000 in
set_option maxRecDepth 100000 in
theorem follow_any (g : Gar) (a0 a1 a2 a3 : Option Addr) (c0 c1 c2 c3 : Nat) (x : Int) (w : World) (h : GarIn w g a0 a1 a2 a3) :
    Calls Try.prog 4 #[garV g a0 a1 a2 a3 c0 c1 c2 c3, .int .i64 x] w fun e w' => e = .returned (.bool true) ∧ Below w.heap.size w w' := by
  have HG := Lib.hid h
  have hl1 := h.l1
  have hl3 := h.l3
  clear h
  have DP0 := Lib.hid (fun (W : World) (hb : Below w.heap.size w W) => gPieces_any g a0 a1 a2 a3 c0 c1 c2 c3 W (HG.out.below hb))
  have DI0 := Lib.hid (fun (s : ByteArray) (m : Int) (W : World) (hb : Below w.heap.size w W) => gIn_any g a0 a1 a2 a3 c0 c1 c2 c3 s m W (HG.out.below hb))
  have DT := Lib.hid (fun W => told_any W)
  unfold garV at DP0 DI0 ⊢
  obtain ⟨W0, hW0, hb0, hs0, hl0'⟩ := alloc_cells w #[.slice a0 g.np c0, .slice a1 g.ns c1, .slice a2 g.nm c2, .slice a3 g.nu c3] 27
  have e0 := hl0' 0 _ rfl
  have e1 := hl0' 1 _ rfl
  have e2 := hl0' 2 _ rfl
  have e3 := hl0' 3 _ rfl
  have HW0 := Lib.hid hW0
  have HB0 := Lib.hid hb0
  have hs0' : w.heap.size ≤ W0.heap.size := by omega
  clear hl0' hW0 hb0 hs0
  go_enter Try.func4, Try.ntmps4
  go_upto_region 1 with (fail)
  rw [HW0.out]
  go_wp2_with fail
  refine (DP0.out _ HB0.out).mono ?_
  rintro e W1 ⟨hb1, hcase⟩
  have HB1 := Lib.hid (HB0.out.trans (hb1.mono hs0'))
  have f0 := below_cell hb1 e0
  have f1 := below_cell hb1 e1
  have f2 := below_cell hb1 e2
  have f3 := below_cell hb1 e3
  clear hb1 e0 e1 e2 e3
  rcases hcase with ⟨hne, rfl⟩ | ⟨hc, v, base, hbase, rfl, hown⟩
  · have n1 : (chk g != 0) = true := by rw [bne_iff_ne]; exact hne
    generalize chk g = ck at n1
    clear hne
    go_wp2_with fail
    refine (DT.out _).mono ?_
    rintro e w3 ⟨rfl, hb3⟩
    go_wp2_with fail
    go_ret
    exact ⟨rfl, HB1.out.trans (hb3.mono HB1.out.size)⟩
  · obtain ⟨am, cm, rfl, hrow⟩ := evRow hown
    have hrow : RowK W1 am (evG g g.nu).length 5 (fun i => evC g (evA g i)) := hrow
    have hel := evG_len hc g.nu (Nat.le_refl _)
    have hpt := Gar.chk_parts hc
    have hnu := hpt.2.2.2.1
    have HST := Lib.hid (fun (u s : ByteArray) (q : Nat) (hq : q < (evG g g.nu).length) => stN_succ g u s x hq)
    have HSB := Lib.hid (fun (u s : ByteArray) (h0 : 0 ≤ x) (h1 : x ≤ 1000000) => stN_bound hc u s h0 h1)
    have HSE := Lib.hid (fun (k j : Nat) (hk : k < g.nu) (hj : j < g.ns) (hr : g.sr j = g.ur k) (h0 : 0 ≤ x) (h1 : x < g.us k) (h2 : g.uf k + x ≤ 86399999999) => stN_end hc hk hj hr h0 h1 h2)
    have HEA := Lib.hid (fun (q : Nat) (hq : q < (evG g g.nu).length) => evA_sec hc hq)
    obtain ⟨n, hn⟩ : ∃ n, (evG g g.nu).length = n := ⟨_, rfl⟩
    rw [hn] at hrow hel HST HSE HEA ⊢
    have hnl : (n : Int) ≤ 9223372036854775807 := by omega
    have HROW := Lib.hid hrow
    have HUR := Lib.hid (fun (i : Nat) (hi : i < g.nu) => Gar.use_right hpt.2.2.2.2.2.2.2.2 hi)
    have HB1S := Lib.hid HB1.out.size
    have G0 := Ext.ex f0
    have G1 := Ext.ex f1
    have G2 := Ext.ex f2
    have G3 := Ext.ex f3
    have n1 : ((0 : Int) != 0) = false := rfl
    clear hrow hown hpt hn hc hel
    go_wp2_with fail
    clear f0 f1 f2 f3
    go_loopw [30] (fun iv wr => ∃ (i : Nat), iv = .int .i64 i ∧ i ≤ g.nu ∧ ∃ X : Ext W1, wr = X.1) (fun iv _ => g.nu - (intOf iv).toNat)
    case atStart => exact ⟨0, rfl, by omega, ⟨W1, Below.refl _ _⟩, rfl⟩
    case round =>
      obtain ⟨i, rfl, hi, X, rfl⟩ := hrel
      by_cases hlt : i < g.nu
      · have t1 : decide ((i : Int) < (g.nu : Int)) = true := by rw [decide_eq_true_eq]; omega
        obtain ⟨b, off, rfl, hbl, hc⟩ := (HG.out.r3.below (X.down HB1.out HB1S.out) (Nat.le_refl _)).here (by omega)
        have e0 : X.1.cell? ⟨b, off + i * 5, none⟩ = some (.string (g.un i)) := hc i hlt 0 (by omega)
        have e1 : X.1.cell? ⟨b, off + i * 5 + 1, none⟩ = some (.string (g.ur i)) := hc i hlt 1 (by omega)
        have e2 : X.1.cell? ⟨b, off + i * 5 + 2, none⟩ = some (.int .i64 (g.uf i)) := hc i hlt 2 (by omega)
        have e3 : X.1.cell? ⟨b, off + i * 5 + 3, none⟩ = some (.int .i64 (g.us i)) := hc i hlt 3 (by omega)
        have e4 : X.1.cell? ⟨b, off + i * 5 + 4, none⟩ = some (.int .i64 (g.uw i)) := hc i hlt 4 (by omega)
        obtain ⟨V1, hV1, hvb, hvs, hvl⟩ := alloc_cells X.1 #[.string (g.un i), .string (g.ur i), .int .i64 (g.uf i), .int .i64 (g.us i), .int .i64 (g.uw i)] 38
        have U0 := Ext.ex (hvl 0 _ rfl)
        have U1 := Ext.ex (hvl 1 _ rfl)
        have U2 := Ext.ex (hvl 2 _ rfl)
        have U3 := Ext.ex (hvl 3 _ rfl)
        have hWV : Below W1.heap.size W1 V1 := X.2.trans (hvb.mono X.2.size)
        have G0' := Ext.re hWV G0
        have G1' := Ext.re hWV G1
        have G2' := Ext.re hWV G2
        have G3' := Ext.re hWV G3
        have HWV := Lib.hid hWV
        have HV1 := Lib.hid hV1
        have HV1S : Hid (w.heap.size ≤ V1.heap.size) := Lib.hid (Nat.le_trans HB1S.out hWV.size)
        have HBV := Lib.hid (HB1.out.trans (hWV.mono HB1S.out))
        have hur := HUR.out i hlt
        have HU := Lib.hid hur
        have hf0 : 0 ≤ g.uf i ∧ g.uf i ≤ 86399999999 := by omega
        have hus : 1 ≤ g.us i ∧ g.us i ≤ 1000000 := by omega
        clear hc hV1 hvb hvs hvl hWV hur
        obtain ⟨p6, hp6⟩ : ∃ p6, X.1.heap.size = p6 := ⟨_, rfl⟩
        rw [hp6] at U0 U1 U2 U3
        have HP6 := Lib.hid hp6
        clear hp6
        go_upto_region 7 with (fail)
        rw [HV1.out, HP6.out]
        refine ext_wp fun X1 => ?_
        clear e0 e1 e2 e3 e4 HP6 HV1 hbl X
        by_cases hgo : 0 ≤ x ∧ x < g.us i ∧ g.uf i + x ≤ 86399999999
        · have d1 : decide (x < 0) = false := by rw [decide_eq_false_iff_not]; omega
          have d2 : decide (g.us i ≤ x) = false := by rw [decide_eq_false_iff_not]; omega
          have d3 : decide (86399999999 < g.uf i + x) = false := by rw [decide_eq_false_iff_not]; omega
          obtain ⟨hg0, hg1, hg2⟩ := hgo
          go_upto_region 8 with (fail)
          go_wp2_with fail
          go_loopw [52] (fun iv wr => ∃ (j : Nat), iv = .int .i64 j ∧ j ≤ g.ns ∧ ∃ X : Ext V1, wr = X.1) (fun iv _ => g.ns - (intOf iv).toNat)
          case atStart => exact ⟨0, rfl, by omega, X1, rfl⟩
          case round =>
            obtain ⟨j, rfl, hj, Y, rfl⟩ := hrel
            by_cases hltj : j < g.ns
            · have t2 : decide ((j : Int) < (g.ns : Int)) = true := by rw [decide_eq_true_eq]; omega
              obtain ⟨b1, off1, rfl, hbl1, hc1⟩ := (HG.out.r1.below (Y.down HBV.out HV1S.out) (Nat.le_refl _)).here (by omega)
              have s0 : Y.1.cell? ⟨b1, off1 + j * 2, none⟩ = some (.string (g.sn j)) := hc1 j hltj 0 (by omega)
              have s1 : Y.1.cell? ⟨b1, off1 + j * 2 + 1, none⟩ = some (.string (g.sr j)) := hc1 j hltj 1 (by omega)
              obtain ⟨V2, hV2, hvb2, hvs2, hvl2⟩ := alloc_cells Y.1 #[.string (g.sn j), .string (g.sr j)] 40
              have S0 := Ext.ex (hvl2 0 _ rfl)
              have S1 := Ext.ex (hvl2 1 _ rfl)
              have hWV2 : Below V1.heap.size V1 V2 := Y.2.trans (hvb2.mono Y.2.size)
              have G0'' := Ext.re hWV2 G0'
              have G1'' := Ext.re hWV2 G1'
              have G2'' := Ext.re hWV2 G2'
              have G3'' := Ext.re hWV2 G3'
              have U0' := Ext.re hWV2 U0
              have U1' := Ext.re hWV2 U1
              have U2' := Ext.re hWV2 U2
              have HWV2 := Lib.hid hWV2
              have HV2 := Lib.hid hV2
              have HV2S : Hid (w.heap.size ≤ V2.heap.size) := Lib.hid (Nat.le_trans HV1S.out hWV2.size)
              have HBV2 := Lib.hid (HBV.out.trans (hWV2.mono HV1S.out))
              have HR2 := Lib.hid (HROW.out.below (HWV.out.trans (hWV2.mono HWV.out.size)) (Nat.le_refl _))
              have hse := str_eq (g.sr j) (g.ur i)
              clear hc1 hV2 hvb2 hvs2 hvl2 hWV2
              obtain ⟨p7, hp7⟩ : ∃ p7, Y.1.heap.size = p7 := ⟨_, rfl⟩
              rw [hp7] at S0 S1
              have HP7 := Lib.hid hp7
              clear hp7
              by_cases hrig : g.sr j = g.ur i
              · rw [show decide (g.sr j = g.ur i) = true by simpa using hrig] at hse
                have hne : ((g.sr j).toList != (g.ur i).toList) = false := by rw [bne, hse]; rfl
                obtain ⟨pf, bf, hend, hin⟩ := HSE.out i j hlt hltj hrig hg0 hg1 hg2
                have DI := Lib.hid (fun (Z : Ext V2) => DI0.out (g.sn j) (g.uf i + x) Z.1 (Z.down HBV2.out HV2S.out))
                rw [hin] at DI
                have hbd := fun q => HSB.out (g.un i) (g.sn j) hg0 (by omega) q
                have hsuc := HST.out (g.un i) (g.sn j)
                obtain ⟨st, hst⟩ : ∃ st : Nat → Int × ByteArray × Bool, stN g (g.un i) (g.sn j) x = st := ⟨_, rfl⟩
                have hst0 : st 0 = (x, ⟨#[]⟩, false) := by rw [← hst]; rfl
                rw [hst] at hend hbd hsuc
                have HEND := Lib.hid hend
                have HSUC := Lib.hid hsuc
                have HBD := Lib.hid hbd
                have HST0 := Lib.hid hst0
                clear hend hin hbd hsuc hst hst0 hrig
                go_upto_region 11 with (fail)
                rw [HV2.out, HP7.out]
                refine ext_wp fun X2 => ?_
                clear s0 s1 hbl1 Y HP7 HV2
                go_wp2_with fail
                clear hne hse
                go_loopw [11, 12, 13, 64] (fun lv pv bv iv wr => ∃ (q : Nat), lv = .int .i64 (st q).1 ∧ pv = .string (st q).2.1 ∧ bv = .bool (st q).2.2 ∧ iv = .int .i64 q ∧ q ≤ n ∧ ∃ X : Ext V2, wr = X.1) (fun _ _ _ iv _ => n - (intOf iv).toNat)
                case atStart => exact ⟨0, by rw [HST0.out], by rw [HST0.out], by rw [HST0.out], rfl, by omega, X2, rfl⟩
                case round =>
                  obtain ⟨q, rfl, rfl, rfl, rfl, hq, Z, rfl⟩ := hrel
                  have hb := HBD.out q
                  by_cases hltq : q < n
                  · have t3 : decide ((q : Int) < (n : Int)) = true := by rw [decide_eq_true_eq]; omega
                    have hs := HSUC.out q hltq
                    have hsec := HEA.out q hltq
                    obtain ⟨bq, offq, rfl, hblq, hcq⟩ := (HR2.out.below Z.2 (Nat.le_refl _)).here (by omega)
                    have z0 : Z.1.cell? ⟨bq, offq + q * 5, none⟩ = some (.string (g.un (evA g q).i)) := hcq q hltq 0 (by omega)
                    have z1 : Z.1.cell? ⟨bq, offq + q * 5 + 1, none⟩ = some (.string (evA g q).s) := hcq q hltq 1 (by omega)
                    have z2 : Z.1.cell? ⟨bq, offq + q * 5 + 2, none⟩ = some (.string (evA g q).p) := hcq q hltq 2 (by omega)
                    have z3 : Z.1.cell? ⟨bq, offq + q * 5 + 3, none⟩ = some (.int .i64 (evA g q).sec) := hcq q hltq 3 (by omega)
                    have z4 : Z.1.cell? ⟨bq, offq + q * 5 + 4, none⟩ = some (.int .i64 (evA g q).way) := hcq q hltq 4 (by omega)
                    generalize evA g q = ev at hs hsec z0 z1 z2 z3 z4
                    obtain ⟨sq, hsq⟩ : ∃ sq, st q = sq := ⟨_, rfl⟩
                    rw [hsq] at hs hb ⊢
                    obtain ⟨l, p, bo⟩ := sq
                    obtain ⟨V3, hV3, hvb3, hvs3, hvl3⟩ := alloc_cells Z.1 #[.string (g.un ev.i), .string ev.s, .string ev.p, .int .i64 ev.sec, .int .i64 ev.way] 42
                    have Q0 := Ext.ex (hvl3 0 _ rfl)
                    have Q1 := Ext.ex (hvl3 1 _ rfl)
                    have Q2 := Ext.ex (hvl3 2 _ rfl)
                    have Q3 := Ext.ex (hvl3 3 _ rfl)
                    have hWV3 : Below V2.heap.size V2 V3 := Z.2.trans (hvb3.mono Z.2.size)
                    have U0'' := Ext.re hWV3 U0'
                    have S0' := Ext.re hWV3 S0
                    have HWV3 := Lib.hid hWV3
                    have HV3 := Lib.hid hV3
                    have hs1 := str_eq (g.un ev.i) (g.un i)
                    have hs2 := str_eq ev.s (g.sn j)
                    clear hcq hV3 hvb3 hvs3 hvl3 hWV3 hsq
                    obtain ⟨p8, hp8⟩ : ∃ p8, Z.1.heap.size = p8 := ⟨_, rfl⟩
                    rw [hp8] at Q0 Q1 Q2 Q3
                    have HP8 := Lib.hid hp8
                    clear hp8
                    unfold stE at hs
                    have hl1' : -1000000 ≤ l ∧ l ≤ 1000000 := ⟨hb.2, hb.1⟩
                    by_cases hm : g.un ev.i = g.un i ∧ ev.s = g.sn j ∧ bo = false
                    · rw [if_pos hm] at hs
                      obtain ⟨m1, m2, rfl⟩ := hm
                      rw [show decide (g.un ev.i = g.un i) = true by simpa using m1] at hs1
                      rw [show decide (ev.s = g.sn j) = true by simpa using m2] at hs2
                      have hn1 : ((g.un ev.i).toList != (g.un i).toList) = false := by rw [bne, hs1]; rfl
                      have hn2 : (ev.s.toList != (g.sn j).toList) = false := by rw [bne, hs2]; rfl
                      clear m1 m2
                      by_cases hls : l < ev.sec
                      · have t4 : decide (l < ev.sec) = true := by simpa using hls
                        rw [if_pos hls, t4] at hs
                        have HS := Lib.hid hs
                        clear hs
                        go_upto_region 16 with (fail)
                        rw [HV3.out, HP8.out]
                        refine ext_wp fun X3 => ?_
                        clear z0 z1 z2 z3 z4 HP8 HV3 hblq Z
                        go_wp2_with fail
                        go_roundw
                        case rel => exact ⟨q + 1, by rw [HS.out], by rw [HS.out], by rw [HS.out], by go_num, by omega, Ext.up HWV3.out X3⟩
                        case measure => simp [intOf]; omega
                      · have t4 : decide (l < ev.sec) = false := by simpa using hls
                        rw [if_neg hls, t4] at hs
                        have HS := Lib.hid hs
                        clear hs
                        go_upto_region 16 with (fail)
                        rw [HV3.out, HP8.out]
                        refine ext_wp fun X3 => ?_
                        clear z0 z1 z2 z3 z4 HP8 HV3 hblq Z
                        go_wp2_with fail
                        go_roundw
                        case rel => exact ⟨q + 1, by rw [HS.out], by rw [HS.out], by rw [HS.out], by go_num, by omega, Ext.up HWV3.out X3⟩
                        case measure => simp [intOf]; omega
                    · rw [if_neg hm] at hs
                      have HS := Lib.hid hs
                      clear hs
                      by_cases m1 : g.un ev.i = g.un i
                      · rw [show decide (g.un ev.i = g.un i) = true by simpa using m1] at hs1
                        have hn1 : ((g.un ev.i).toList != (g.un i).toList) = false := by rw [bne, hs1]; rfl
                        by_cases m2 : ev.s = g.sn j
                        · obtain rfl : bo = true := by
                            cases bo
                            · exact absurd ⟨m1, m2, rfl⟩ hm
                            · rfl
                          rw [show decide (ev.s = g.sn j) = true by simpa using m2] at hs2
                          have hn2 : (ev.s.toList != (g.sn j).toList) = false := by rw [bne, hs2]; rfl
                          clear m1 m2 hm
                          go_upto_region 16 with (fail)
                          rw [HV3.out, HP8.out]
                          refine ext_wp fun X3 => ?_
                          clear z0 z1 z2 z3 z4 HP8 HV3 hblq Z
                          go_wp2_with fail
                          go_roundw
                          case rel => exact ⟨q + 1, by rw [HS.out], by rw [HS.out], by rw [HS.out], by go_num, by omega, Ext.up HWV3.out X3⟩
                          case measure => simp [intOf]; omega
                        · rw [show decide (ev.s = g.sn j) = false by simpa using m2] at hs2
                          have hn2 : (ev.s.toList != (g.sn j).toList) = true := by rw [bne, hs2]; rfl
                          clear m1 m2 hm
                          go_upto_region 16 with (fail)
                          rw [HV3.out, HP8.out]
                          refine ext_wp fun X3 => ?_
                          clear z0 z1 z2 z3 z4 HP8 HV3 hblq Z
                          go_wp2_with fail
                          go_roundw
                          case rel => exact ⟨q + 1, by rw [HS.out], by rw [HS.out], by rw [HS.out], by go_num, by omega, Ext.up HWV3.out X3⟩
                          case measure => simp [intOf]; omega
                      · rw [show decide (g.un ev.i = g.un i) = false by simpa using m1] at hs1
                        have hn1 : ((g.un ev.i).toList != (g.un i).toList) = true := by rw [bne, hs1]; rfl
                        clear hs2 m1 hm
                        go_upto_region 16 with (fail)
                        rw [HV3.out, HP8.out]
                        refine ext_wp fun X3 => ?_
                        clear z0 z1 z2 z3 z4 HP8 HV3 hblq Z
                        go_wp2_with fail
                        go_roundw
                        case rel => exact ⟨q + 1, by rw [HS.out], by rw [HS.out], by rw [HS.out], by go_num, by omega, Ext.up HWV3.out X3⟩
                        case measure => simp [intOf]; omega
                  · have t3 : decide ((q : Int) < (n : Int)) = false := by rw [decide_eq_false_iff_not]; omega
                    have t3' : decide (q < n) = false := by simpa using hltq
                    obtain rfl : q = n := by omega
                    clear hltq
                    have he := HEND.out
                    obtain ⟨sq, hsq⟩ : ∃ sq, st q = sq := ⟨_, rfl⟩
                    rw [hsq] at he ⊢
                    obtain ⟨l, p, bo⟩ := sq
                    simp only [Prod.mk.injEq] at he
                    obtain ⟨rfl, rfl⟩ := he
                    have hpp : (p.toList != p.toList) = false := by simp
                    have n2 : ((0 : Int) != 0) = false := rfl
                    clear hsq hb
                    go_wp2_with fail
                    refine (Ext.calls _ (DI.out _)).mono ?_
                    rintro e w2 ⟨rfl, Z2, rfl⟩
                    unfold tri
                    go_wp2_with fail
                    go_roundw
                    case rel => exact ⟨j + 1, by go_num, by omega, Ext.up HWV2.out Z2⟩
                    case measure => simp [intOf]; omega
              · rw [show decide (g.sr j = g.ur i) = false by simpa using hrig] at hse
                have hne : ((g.sr j).toList != (g.ur i).toList) = true := by rw [bne, hse]; rfl
                go_upto_region 11 with (fail)
                rw [HV2.out, HP7.out]
                refine ext_wp fun X2 => ?_
                clear s0 s1 hbl1 Y HP7 HV2
                go_wp2_with fail
                go_roundw
                case rel => exact ⟨j + 1, by go_num, by omega, Ext.up HWV2.out X2⟩
                case measure => simp [intOf]; omega
            · have t2 : decide ((j : Int) < (g.ns : Int)) = false := by rw [decide_eq_false_iff_not]; omega
              have t2' : decide (j < g.ns) = false := by simpa using hltj
              obtain rfl : j = g.ns := by omega
              clear hltj
              go_wp2_with fail
              go_roundw
              case rel => exact ⟨i + 1, by go_num, by omega, Ext.up HWV.out Y⟩
              case measure => simp [intOf]; omega
        · by_cases k1 : x < 0
          · have d1 : decide (x < 0) = true := by rw [decide_eq_true_eq]; omega
            go_wp2_with fail
            go_roundw
            case rel => exact ⟨i + 1, by go_num, by omega, Ext.up HWV.out X1⟩
            case measure => simp [intOf]; omega
          · have d1 : decide (x < 0) = false := by rw [decide_eq_false_iff_not]; omega
            by_cases k2 : g.us i ≤ x
            · have d2 : decide (g.us i ≤ x) = true := by rw [decide_eq_true_eq]; omega
              go_wp2_with fail
              go_roundw
              case rel => exact ⟨i + 1, by go_num, by omega, Ext.up HWV.out X1⟩
              case measure => simp [intOf]; omega
            · have d2 : decide (g.us i ≤ x) = false := by rw [decide_eq_false_iff_not]; omega
              have d3 : decide (86399999999 < g.uf i + x) = true := by rw [decide_eq_true_eq]; omega
              go_wp2_with fail
              go_roundw
              case rel => exact ⟨i + 1, by go_num, by omega, Ext.up HWV.out X1⟩
              case measure => simp [intOf]; omega
      · have t1 : decide ((i : Int) < (g.nu : Int)) = false := by rw [decide_eq_false_iff_not]; omega
        have t1' : decide (i < g.nu) = false := by simpa using hlt
        obtain rfl : i = g.nu := by omega
        clear hlt
        go_wp2_with fail
        refine (DT.out _).mono ?_
        rintro e w3 ⟨rfl, hb3⟩
        go_wp2_with fail
        go_ret
        exact ⟨rfl, (X.down HB1.out HB1S.out).trans (hb3.mono (X.down HB1.out HB1S.out).size)⟩
end Go.Proofs.Ytbkpoepacjinlaa

/- Gear: the law GearSwapsMakeEven: what it sums up and what it follows, in memory. -/
namespace Go.Proofs.Ytbkpoepacjinlaa
open Go.RowKit Go.BigFrame
open Gar (chk hasS)

/-- maps of strings -/
def strR : Value → Option (DataW Unit × List MemPlace)
  | .string s => some (.lit (.string s.data.toList), [])
  | _ => none
theorem strR_inv : ∀ v x ps, strR v = some (.lit (.string (x : ByteArray).data.toList), ps) → v = .string x := by
  intro v x ps h
  cases v <;> simp [strR] at h
  rename_i s
  have : s.data = x.data := h.1
  rw [show s = x by cases s; cases x; simpa using this]
/-- the three maps of the law -/
structure Maps3 (w : World) (bS bP bI n m : Nat) (fS fP : ByteArray → Int) (fI : ByteArray → ByteArray) : Prop where
  s : StrMap w Try.prog 9 intR bS n (fun x : Int => .lit (.int .i64 x)) (.lit (.int .i64 0)) fS
  p : StrMap w Try.prog 9 intR bP n (fun x : Int => .lit (.int .i64 x)) (.lit (.int .i64 0)) fP
  i : StrMap w Try.prog 9 strR bI m (fun x : ByteArray => .lit (.string x.data.toList)) (.lit (.string [])) fI
theorem Maps3.below {w w' : World} {bS bP bI n m : Nat} {fS fP : ByteArray → Int} {fI : ByteArray → ByteArray} (h : Maps3 w bS bP bI n m fS fP fI) (hb : Below w.heap.size w w') : Maps3 w' bS bP bI n m fS fP fI :=
  ⟨h.s.kept (grown_of_below hb) (by simp), h.p.kept (grown_of_below hb) (by simp), h.i.kept (grown_of_below hb) (by simp)⟩
theorem three_maps (W : World) : ∃ V, ((W.alloc (.map #[] 0)).alloc (.map #[] 0)).alloc (.map #[] 0) = V ∧ Below W.heap.size W V ∧ V.heap.size = W.heap.size + 3 ∧ Maps3 V W.heap.size (W.heap.size + 1) (W.heap.size + 1 + 1) 0 0 (fun _ => 0) (fun _ => 0) (fun _ => ⟨#[]⟩) := by
  obtain ⟨V, hV, hb, hs, m1, m2⟩ := two_maps W Try.prog 9 intR (fun x : Int => .lit (.int .i64 x)) (.lit (.int .i64 0)) (fun _ => 0) (fun _ => rfl)
  rw [hV]
  have m3 := StrMap.made V Try.prog 9 strR (dat := fun x : ByteArray => .lit (.string x.data.toList)) (zd := .lit (.string [])) (f := fun _ => ⟨#[]⟩) (fun _ => rfl)
  rw [show V.heap.size = W.heap.size + 1 + 1 by omega] at m3
  refine ⟨_, rfl, below_step hb (below_al V _), by rw [World.size_alloc, hs], ⟨m1.kept (World.grownBy_alloc _ _ none) (by simp), m2.kept (World.grownBy_alloc _ _ none) (by simp), m3⟩⟩
/-- the row of the swaps, as it is read -/
theorem pairRow {W : World} {base : Nat} {T : TypeId} {v : Value} {sl : Nat → ByteArray} {ps : List (Nat × Nat)} (hr : W.ownsRow base T 2 v ps.length (pairCs sl ps)) :
    ∃ (am : Option Addr) (cm : Nat), v = .slice am ps.length cm ∧ RowK W am ps.length 2 (fun q => [.string (sl (ps.getD q (0, 0)).1), .string (sl (ps.getD q (0, 0)).2)]) := by
  rcases hr.2 with ⟨e, hn⟩ | ⟨q, cap, cur, e, _, h3, _⟩
  · exact ⟨none, 0, by rw [e, hn], ⟨fun h => by omega⟩⟩
  · refine ⟨some ⟨q, 0, none⟩, cap, e, ⟨fun hl => ⟨q, 0, rfl, lt_of_block h3, fun i hi j hj => ?_⟩⟩⟩
    have hc := flatN (f := fun x : Nat × Nat => [Value.string (sl x.1), .string (sl x.2)]) (m := 2) (0, 0) (fun q => rfl) ps i j hi hj
    have hv : ∃ v, ([Value.string (sl (ps.getD i (0, 0)).1), .string (sl (ps.getD i (0, 0)).2)])[j]? = some v := ⟨_, List.getElem?_eq_getElem (by simpa using hj)⟩
    obtain ⟨v, hv⟩ := hv
    have h6 := hr.cells (g := q) (by rw [e]; rfl) (i * 2 + j) v (hc.trans hv)
    rw [addr_add0] at h6
    rw [Nat.zero_add, hv]
    exact h6
/-- the slots are distinct -/
theorem swL_zero {g : Gar} {sl : Nat → ByteArray} : ∀ (n k : Nat), swL g sl n k = 0 → ∀ i, k ≤ i → i < k + n → swStep g sl i = 0
  | 0, k, _, i, h1, h2 => by omega
  | n + 1, k, h, i, h1, h2 => by
    rw [swL] at h
    split at h
    · rename_i h3
      exact absurd h h3
    · rename_i h3
      by_cases e : i = k
      · subst e
        simpa using h3
      · exact swL_zero n (k + 1) h i (by omega) (by omega)
theorem sw_step {g : Gar} {sl : Nat → ByteArray} {k : Nat} (h : swStep g sl k = 0) : hasS g (sl k) = true ∧ (∀ j, j < k → sl j ≠ sl k) ∧ partF g sl k ≠ ⟨#[]⟩ := by
  unfold swStep at h
  split at h
  · omega
  · rename_i h1
    split at h
    · omega
    · rename_i h2
      split at h
      · omega
      · rename_i h3
        refine ⟨by simpa using h1, fun j hj e => h2 ?_, h3⟩
        rw [List.any_eq_true]
        exact ⟨j, List.mem_range.2 hj, by simpa using e⟩
theorem sl_inj {g : Gar} {n : Nat} {sl : Nat → ByteArray} (h : swL g sl n 0 = 0) {i j : Nat} (hi : i < n) (hj : j < n) (e : sl i = sl j) : i = j := by
  rcases Nat.lt_trichotomy i j with k | k | k
  · exact absurd e ((sw_step (swL_zero n 0 h j (by omega) (by omega))).2.1 i k)
  · exact k
  · exact absurd e.symm ((sw_step (swL_zero n 0 h i (by omega) (by omega))).2.1 j k)
/-- a swap of two entries -/
def swF (F : ByteArray → ByteArray) (s t : ByteArray) : ByteArray → ByteArray := setF (setF F s (F t)) t (F s)
theorem swF_swp {g : Gar} {n : Nat} {sl : Nat → ByteArray} (h : swL g sl n 0 = 0) {F : ByteArray → ByteArray} {c : Nat → Nat} {p : Nat → ByteArray} (hF : ∀ j, j < n → F (sl j) = p (c j)) {i k : Nat} (hi : i < n) (hk : k < n) :
    ∀ j, j < n → swF F (sl i) (sl k) (sl j) = p (Cir.swp c i k j) := by
  intro j hj
  unfold swF setF Cir.swp
  by_cases e1 : j = k
  · subst e1
    rw [if_pos rfl]
    by_cases e2 : j = i
    · subst e2
      rw [if_pos rfl]
      exact hF j hj
    · rw [if_neg e2, if_pos rfl]
      exact hF i hi
  · rw [if_neg (fun e => e1 (sl_inj h hj hk e))]
    by_cases e2 : j = i
    · subst e2
      rw [if_pos rfl, if_pos rfl]
      exact hF k hk
    · rw [if_neg (fun e => e2 (sl_inj h hj hi e)), if_neg e2, if_neg e1]
      exact hF j hj
theorem evA_take {g : Gar} {q : Nat} (hq : q < (evG g g.nu).length) : (evG g g.nu).take (q + 1) = (evG g g.nu).take q ++ [evA g q] := by
  rw [List.take_add_one, List.getElem?_eq_getElem hq]
  unfold evA
  rw [List.getD_eq_getElem?_getD, List.getElem?_eq_getElem hq]
  rfl
theorem evA_split {g : Gar} {q : Nat} (hq : q < (evG g g.nu).length) : evG g g.nu = (evG g g.nu).take q ++ evA g q :: (evG g g.nu).drop (q + 1) := by
  have h := List.take_append_drop (q + 1) (evG g g.nu)
  rw [evA_take hq, List.append_assoc] at h
  exact h.symm
theorem evA_mem {g : Gar} {q : Nat} (hq : q < (evG g g.nu).length) : evA g q ∈ evG g g.nu := by
  unfold evA
  rw [List.getD_eq_getElem?_getD, List.getElem?_eq_getElem hq]
  exact List.getElem_mem hq
end Go.Proofs.Ytbkpoepacjinlaa

/- Gear: the law GearSwapsMakeEven: its walk. -/
namespace Go.Proofs.Ytbkpoepacjinlaa
open Go.RowKit Go.BigFrame
open Gar (chk)

theorem rowO {W2 W3 : World} {O : Nat → Prop} {a : Option Addr} {n k : Nat} {V : Nat → List Value} (h : RowK W2 a n k V) (hb : Below W2.heap.size W2 W3) (hO : ∀ b, b < W2.heap.size → ¬ O b) (X : ExtO O W3) : RowK X.1 a n k V := by
  refine ⟨fun hl => ?_⟩
  obtain ⟨b, off, e, hlt, hc⟩ := h.here hl
  exact ⟨b, off, e, Nat.lt_of_lt_of_le hlt (Nat.le_trans hb.size X.2.size), fun i hi j hj => (World.cell?_of_block ((X.2.block b (Nat.lt_of_lt_of_le hlt hb.size) (hO b hlt)).trans (hb.block b hlt))).trans (hc i hi j hj)⟩
theorem row_one {w : World} {b off n i : Nat} {V : Nat → List Value} (h : ∀ i, i < n → ∀ j, j < 1 → w.cell? ⟨b, off + i * 1 + j, none⟩ = (V i)[j]?) (hi : i < n) : w.cell? ⟨b, off + i, none⟩ = (V i)[0]? := by
  have := h i hi 0 (by omega)
  rw [Nat.mul_one, Nat.add_zero] at this
  exact this
set_option maxHeartbeats 8000000 in
set_option maxRecDepth 100000 in
theorem even_law (g : Gar) (a0 a1 a2 a3 : Option Addr) (c0 c1 c2 c3 : Nat) (n : Nat) (sl : Nat → ByteArray) (a : Option Addr) (cap : Nat) (w : World) (h : GarIn w g a0 a1 a2 a3) (hr : RowK w a n 1 (fun j => [.string (sl j)])) (hcap : n ≤ cap) (hn : (n : Int) ≤ 9223372036854775807) (hsz : ∀ j, j < n → (sl j).size ≤ maxLen) :
    Calls Try.prog 12 #[garV g a0 a1 a2 a3 c0 c1 c2 c3, .slice a n cap] w fun e w' => e = .returned (.bool true) ∧ Below w.heap.size w w' := by
  have HG := Lib.hid h
  have HR := Lib.hid hr
  have HSZ := Lib.hid hsz
  have DE := Lib.hid (fun (hz : swapErr g n sl 100 ≠ 0) (W : World) (hb : Below w.heap.size w W) => swaps_err g a0 a1 a2 a3 c0 c1 c2 c3 n sl a cap 100 W (HG.out.below hb) (HR.out.below hb (Nat.le_refl _)) hcap hn hz)
  have DS := Lib.hid (fun (hz : swapErr g n sl 100 = 0) (W : World) (hb : Below w.heap.size w W) => show Calls Try.prog 42 #[garV g a0 a1 a2 a3 c0 c1 c2 c3, .slice a n cap, .int .i64 100] W fun e w' => ∃ v, e = .returned (.tuple #[v, .int .i64 0]) ∧ SwpR g n sl 100 W v w' from swaps_any g a0 a1 a2 a3 c0 c1 c2 c3 n sl a cap 100 W (HG.out.below hb) (HR.out.below hb (Nat.le_refl _)) hcap hn hsz hz)
  have DP0 := Lib.hid (fun (W : World) (hb : Below w.heap.size w W) => gPieces_any g a0 a1 a2 a3 c0 c1 c2 c3 W (HG.out.below hb))
  have DI0 := Lib.hid (fun (s : ByteArray) (W : World) (hb : Below w.heap.size w W) => gIn_any g a0 a1 a2 a3 c0 c1 c2 c3 s 86399999999 W (HG.out.below hb))
  have DT := Lib.hid (fun W => told_any W)
  unfold garV at DE DS DP0 DI0 ⊢
  obtain ⟨W0, hW0, hb0, hs0, hl0'⟩ := alloc_cells w #[.slice a0 g.np c0, .slice a1 g.ns c1, .slice a2 g.nm c2, .slice a3 g.nu c3] 27
  have e0 := hl0' 0 _ rfl
  have e1 := hl0' 1 _ rfl
  have e2 := hl0' 2 _ rfl
  have e3 := hl0' 3 _ rfl
  have HW0 := Lib.hid hW0
  have HB0 := Lib.hid hb0
  have hs0' : w.heap.size ≤ W0.heap.size := by omega
  clear hl0' hW0 hb0 h hr hsz
  by_cases hz : swapErr g n sl 100 = 0
  case neg =>
    have n1 : (swapErr g n sl 100 != 0) = true := by rw [bne_iff_ne]; exact hz
    have DE1 := Lib.hid (DE.out hz W0 HB0.out)
    clear hz DE DS
    generalize swapErr g n sl 100 = ck at n1 DE1
    go_enter Try.func12, Try.ntmps12
    go_upto_region 1 with (fail)
    rw [HW0.out]
    go_wp2_with (first | (go_at_call 42; refine (DE1.out).mono ?_; rintro e w2 ⟨rfl, hb2⟩) | (go_at_call 17; refine (DT.out _).mono ?_; rintro e w3 ⟨rfl, hb3⟩))
    go_ret
    exact ⟨rfl, (HB0.out.trans (hb2.mono hs0')).trans (hb3.mono (Nat.le_trans hs0' hb2.size))⟩
  have HZ := Lib.hid hz
  have DS1 := Lib.hid (DS.out hz W0 HB0.out)
  have n1 : ((0 : Int) != 0) = false := rfl
  clear hz DE DS
  by_cases hn0 : n = 0
  case pos =>
    subst hn0
    go_enter Try.func12, Try.ntmps12
    go_upto_region 1 with (fail)
    rw [HW0.out]
    go_wp2_with (first | (go_at_call 42; refine (DS1.out).mono ?_; rintro e w2 ⟨v, rfl, hb2⟩) | (go_at_call 17; refine (DT.out _).mono ?_; rintro e w3 ⟨rfl, hb3⟩))
    go_ret
    exact ⟨rfl, (HB0.out.trans (hb2.1.mono hs0')).trans (hb3.mono (Nat.le_trans hs0' hb2.1.size))⟩
  obtain ⟨hchk, _, hn20, _, hswl⟩ := swErr_zero HZ.out
  have t0 : ((n : Int) == 0) = false := by rw [beq_eq_false_iff_ne]; omega
  have t0' : (n == 0) = false := by rw [beq_eq_false_iff_ne]; exact hn0
  have hnpos : 0 < n := by omega
  have HSW := Lib.hid hswl
  have HCK := Lib.hid hchk
  clear hn0 hchk hswl
  go_enter Try.func12, Try.ntmps12
  go_upto_region 1 with (fail)
  rw [HW0.out]
  go_upto_region 4 with (go_at_call 42; refine (DS1.out).mono ?_; rintro e w1 ⟨v, rfl, hb1, ps, ⟨base1, hbase1, hown1⟩, -, hrest⟩)
  obtain ⟨al, cl, rfl, hrow1⟩ := pairRow hown1
  obtain ⟨tt, bs, bp, hswd, hord⟩ := hrest hnpos
  have HEV := Lib.hid (hswd.even (by omega) hord)
  have HLT := Lib.hid hswd.lt
  have HROW1 := Lib.hid hrow1
  have HB1 := Lib.hid (HB0.out.trans (hb1.mono hs0'))
  have hs1 : W0.heap.size ≤ w1.heap.size := hb1.size
  have f0 := below_cell hb1 e0
  have f1 := below_cell hb1 e1
  have f2 := below_cell hb1 e2
  have f3 := below_cell hb1 e3
  have hpl : ps.length < n := HEV.out.1
  clear hb1 hbase1 hown1 hrow1 hrest hswd hord e0 e1 e2 e3
  have DP1 := Lib.hid (show Calls Try.prog 18 #[.agg #[.slice a0 g.np c0, .slice a1 g.ns c1, .slice a2 g.nm c2, .slice a3 g.nu c3]] w1 fun e w' => ∃ v base, e = .returned (.tuple #[v, .int .i64 0]) ∧ Below w1.heap.size w1 w' ∧ w1.heap.size ≤ base ∧ w'.ownsRow base 42 5 v (evG g g.nu).length (evCs g (evG g g.nu)) from (DP0.out w1 HB1.out).mono (by
    rintro e w' ⟨hb, ⟨hne, _⟩ | ⟨_, v, base, hb2, rfl, ho⟩⟩
    · exact absurd HCK.out hne
    · exact ⟨v, base, rfl, hb, hb2, ho⟩))
  go_upto_region 5 with (go_at_call 18; refine DP1.out.mono ?_; rintro e w2 ⟨v2, base2, rfl, hb2, hbase2, hown2⟩)
  obtain ⟨am, cm, rfl, hrow2⟩ := evRow hown2
  have hrow2 : RowK w2 am (evG g g.nu).length 5 (fun i => evC g (evA g i)) := hrow2
  have hel := evG_len HCK.out g.nu (Nat.le_refl _)
  have hnu := (Gar.chk_parts HCK.out).2.2.2.1
  have HTK := Lib.hid (fun (q : Nat) (hq : q < (evG g g.nu).length) => evA_take hq)
  have HSP := Lib.hid (fun (q : Nat) (hq : q < (evG g g.nu).length) => evA_split hq)
  have HMEM := Lib.hid (fun (q : Nat) (hq : q < (evG g g.nu).length) => evG_sizes HG.out g.nu _ (evA_mem hq))
  have HTL : Hid ((evG g g.nu).take (evG g g.nu).length = evG g g.nu) := Lib.hid List.take_length
  obtain ⟨np, hnp⟩ : ∃ np, (evG g g.nu).length = np := ⟨_, rfl⟩
  rw [hnp] at hrow2 hel HTK HSP HMEM HTL ⊢
  have hnpl : np ≤ 1000000000000 := by omega
  have hnpi : (np : Int) ≤ 1000000000000 := by omega
  obtain ⟨V3, hV3, hb3, hs3, hm3⟩ := three_maps w2
  have HV3 := Lib.hid hV3
  have hs2 : w1.heap.size ≤ w2.heap.size := hb2.size
  have HB3 := Lib.hid ((HB1.out.trans (hb2.mono (Nat.le_trans hs0' hs1))).trans (hb3.mono (Nat.le_trans (Nat.le_trans hs0' hs1) hs2)))
  have k0 := below_cell hb3 (below_cell hb2 f0)
  have k1 := below_cell hb3 (below_cell hb2 f1)
  have k2 := below_cell hb3 (below_cell hb2 f2)
  have k3 := below_cell hb3 (below_cell hb2 f3)
  obtain ⟨B, hB⟩ : ∃ B, w2.heap.size = B := ⟨_, rfl⟩
  rw [hB] at hm3 hs3 hs2
  have hwB : w.heap.size < B := by omega
  have K0 : ∀ X : ExtO (fun b => b = B ∨ b = B + 1 ∨ b = B + 1 + 1) V3, X.1.cell? ⟨w.heap.size, 0, none⟩ = some (.slice a0 g.np c0) := ExtO.ex (by simp <;> omega) k0
  have K1 : ∀ X : ExtO (fun b => b = B ∨ b = B + 1 ∨ b = B + 1 + 1) V3, X.1.cell? ⟨w.heap.size, 1, none⟩ = some (.slice a1 g.ns c1) := ExtO.ex (by simp <;> omega) k1
  have K2 : ∀ X : ExtO (fun b => b = B ∨ b = B + 1 ∨ b = B + 1 + 1) V3, X.1.cell? ⟨w.heap.size, 2, none⟩ = some (.slice a2 g.nm c2) := ExtO.ex (by simp <;> omega) k2
  have K3 : ∀ X : ExtO (fun b => b = B ∨ b = B + 1 ∨ b = B + 1 + 1) V3, X.1.cell? ⟨w.heap.size, 3, none⟩ = some (.slice a3 g.nu c3) := ExtO.ex (by simp <;> omega) k3
  have HPR := Lib.hid (fun X : ExtO (fun b => b = B ∨ b = B + 1 ∨ b = B + 1 + 1) V3 => rowO hrow2 hb3 (by intro b hb; rw [hB] at hb; omega) X)
  have HWR := Lib.hid (fun X : ExtO (fun b => b = B ∨ b = B + 1 ∨ b = B + 1 + 1) V3 => rowO (HROW1.out.below hb2 (Nat.le_refl _)) hb3 (by intro b hb; rw [hB] at hb; omega) X)
  have HSR := Lib.hid (fun X : ExtO (fun b => b = B ∨ b = B + 1 ∨ b = B + 1 + 1) V3 => rowO (HR.out.below (HB1.out.trans (hb2.mono (Nat.le_trans hs0' hs1))) (Nat.le_refl _)) hb3 (by intro b hb; rw [hB] at hb; omega) X)
  have HDN := Lib.hid (fun X : ExtO (fun b => b = B ∨ b = B + 1 ∨ b = B + 1 + 1) V3 => X.down HB3.out (by omega) (fun k hk => by omega))
  have HM3 := Lib.hid hm3
  have HBW := Lib.hid hB
  have HIN := Lib.hid (fun (k : Nat) (hk : k < n) => show ∃ b, InS g (sl k) 86399999999 = (partF g sl k, b, 0) from by
    have h1 := sw_step (swL_zero n 0 HSW.out k (by omega) (by omega))
    unfold InS
    rw [if_neg (by rw [HCK.out]; simp), h1.1, if_neg (by simp), if_neg (by decide)]
    exact ⟨_, rfl⟩)
  have DI1 := Lib.hid (fun (s : ByteArray) (X : ExtO (fun b => b = B ∨ b = B + 1 ∨ b = B + 1 + 1) V3) => DI0.out s X.1 (HDN.out X))
  have HUS : Hid (Try.prog.underlying 9 = some .string) := Lib.hid Try.underlying9
  have HUI : Hid (Try.prog.underlying 83 = some (.map 9 3)) := Lib.hid (by kernel_rfl)
  have HUN : Hid (Try.prog.underlying 84 = some (.map 9 9)) := Lib.hid (by kernel_rfl)
  have HzI : Hid (∀ w, (zeroValue 3).run Try.prog w = .ok (.int .i64 0) w) := Lib.hid (fun w => by kernel_rfl)
  have HzS : Hid (∀ w, (zeroValue 9).run Try.prog w = .ok (.string ⟨#[]⟩) w) := Lib.hid (fun w => by kernel_rfl)
  clear hV3 hb2 hb3 hs3 hm3 k0 k1 k2 k3 f0 f1 f2 f3 hB hown2 hrow2 hbase2 hnp hel DP0 DP1 DI0 DS1 HB1 HB0 HW0
  have hmm := @run_makeMap Try.prog
  go_upto_region 6 with (fail)
  rw [HV3.out, HBW.out]
  clear hmm
  go_wp2_with fail
  go_loopw [46] (fun iv wr => ∃ (q : Nat), iv = .int .i64 q ∧ q ≤ np ∧ Hid (∃ X : ExtO (fun b => b = B ∨ b = B + 1 ∨ b = B + 1 + 1) V3, wr = X.1 ∧ Maps3 X.1 B (B + 1) (B + 1 + 1) q 0 (sumK Ev.s ((evG g g.nu).take q)) (sumK Ev.p ((evG g g.nu).take q)) (fun _ => ⟨#[]⟩))) (fun iv _ => np - (intOf iv).toNat)
  case atStart => exact ⟨0, rfl, by omega, Lib.hid ⟨⟨V3, Kept.refl _ _⟩, rfl, HM3.out⟩⟩
  case round =>
    obtain ⟨q, rfl, hq, HX⟩ := hrel
    obtain ⟨X, rfl, hmx⟩ := HX.out
    have HMX := Lib.hid hmx
    clear hmx HX
    by_cases hlt : q < np
    · have t1 : decide ((q : Int) < (np : Int)) = true := by rw [decide_eq_true_eq]; omega
      have t1' : decide (q < np) = true := by simpa using hlt
      obtain ⟨bq, offq, rfl, hblq, hcq⟩ := (HPR.out X).here (by omega)
      have z0 : X.1.cell? ⟨bq, offq + q * 5, none⟩ = some (.string (g.un (evA g q).i)) := hcq q hlt 0 (by omega)
      have z1 : X.1.cell? ⟨bq, offq + q * 5 + 1, none⟩ = some (.string (evA g q).s) := hcq q hlt 1 (by omega)
      have z2 : X.1.cell? ⟨bq, offq + q * 5 + 2, none⟩ = some (.string (evA g q).p) := hcq q hlt 2 (by omega)
      have z3 : X.1.cell? ⟨bq, offq + q * 5 + 3, none⟩ = some (.int .i64 (evA g q).sec) := hcq q hlt 3 (by omega)
      have z4 : X.1.cell? ⟨bq, offq + q * 5 + 4, none⟩ = some (.int .i64 (evA g q).way) := hcq q hlt 4 (by omega)
      have htk := HTK.out q hlt
      have hsp := HSP.out q hlt
      have hsm := ev_small HCK.out hsp
      have hx1 := sumK_small HCK.out Ev.s (evA g q).s hsp
      have hx2 := sumK_small HCK.out Ev.p (evA g q).p hsp
      have hme := HMEM.out q hlt
      obtain ⟨ev, hev⟩ : ∃ ev, evA g q = ev := ⟨_, rfl⟩
      obtain ⟨tk, htk0⟩ : ∃ tk, (evG g g.nu).take q = tk := ⟨_, rfl⟩
      rw [hev] at z0 z1 z2 z3 z4 htk hsm hx1 hx2 hme
      rw [htk0] at htk hx1 hx2 HMX
      have HT1 : Hid (sumK Ev.s ((evG g g.nu).take (q + 1)) = setF (sumK Ev.s tk) ev.s (sumK Ev.s tk ev.s + ev.way)) := Lib.hid (by rw [htk, sumK_snoc])
      have HT2 : Hid (sumK Ev.p ((evG g g.nu).take (q + 1)) = setF (sumK Ev.p tk) ev.p (sumK Ev.p tk ev.p + ev.way)) := Lib.hid (by rw [htk, sumK_snoc])
      obtain ⟨v1, hv1⟩ : ∃ x, sumK Ev.s tk ev.s = x := ⟨_, rfl⟩
      obtain ⟨v2, hv2⟩ : ∃ x, sumK Ev.p tk ev.p = x := ⟨_, rfl⟩
      rw [hv1] at hx1 HT1
      rw [hv2] at hx2 HT2
      obtain ⟨V4, hV4, hb4, hs4, hq4⟩ := alloc_block X.1 #[.string (g.un ev.i), .string ev.s, .string ev.p, .int .i64 ev.sec, .int .i64 ev.way] 42
      have HV4 := Lib.hid hV4
      have HM4 := Lib.hid (HMX.out.below hb4)
      have HB4 := Lib.hid hb4
      have p1 : V4.cell? ⟨X.1.heap.size, 1, none⟩ = some (.string ev.s) := block_cell hq4 rfl
      have p4 : V4.cell? ⟨X.1.heap.size, 4, none⟩ = some (.int .i64 ev.way) := block_cell hq4 rfl
      have HQ4 := Lib.hid hq4
      have hsX : B + 1 + 1 < X.1.heap.size := HMX.out.i.lt
      have kS : (Instr.lookup 83 (.map (some B)) (.string ev.s) false).run Try.prog V4 = .ok (.int .i64 v1) V4 := by
        have := StrMap.look (val := Value.int .i64) HM4.out.s HUS.out HUI.out (HzI.out _) (zp := []) rfl intR_inv hme.1
        rwa [hv1] at this
      have HV2 := Lib.hid hv2
      have hz1 := hme.1
      have hz2 := hme.2
      have hnq : q < 1000000000000 := by omega
      clear hV4 hb4 hq4 hcq htk hsp hev htk0 hme hv1 hv2
      go_upto_region 9 with (fail)
      rw [HV4.out]
      go_wp2_with (at_mapUpdate; refine wpList_update_str _ rfl (.tmp 50) (.tmp 52) (.tmp 56) 83 rfl 9 3 HUS.out HUI.out intR (fun x : Int => .lit (.int .i64 x)) (.lit (.int .i64 0)) B q (sumK Ev.s tk) rfl HM4.out.s (by unfold maxLen; omega) ev.s rfl hz1 (.int .i64 (v1 + ev.way)) (v1 + ev.way) rfl [] rfl ?_)
      intro w5 hs5 hg5
      have hbq := (hg5.block X.1.heap.size (lt_of_block HQ4.out) (fun e => by injection e with e; omega)).trans HQ4.out
      have hp5 := HM4.out.p.kept hg5 (fun e => by injection e with e; omega)
      have hi5 := HM4.out.i.kept hg5 (fun e => by injection e with e; omega)
      have q2 : w5.cell? ⟨X.1.heap.size, 2, none⟩ = some (.string ev.p) := block_cell hbq rfl
      have q4 : w5.cell? ⟨X.1.heap.size, 4, none⟩ = some (.int .i64 ev.way) := block_cell hbq rfl
      have kP : (Instr.lookup 83 (.map (some (B + 1))) (.string ev.p) false).run Try.prog w5 = .ok (.int .i64 v2) w5 := by
        have := StrMap.look (val := Value.int .i64) hp5 HUS.out HUI.out (HzI.out _) (zp := []) rfl intR_inv hz2
        rwa [HV2.out] at this
      have HS5 := Lib.hid hs5
      have HP5 := Lib.hid hp5
      have HI5 := Lib.hid hi5
      have HG5 := Lib.hid hg5
      clear hs5 hp5 hi5 hg5 hbq p1 p4 kS
      go_wp2_with (at_mapUpdate; refine wpList_update_str _ rfl (.tmp 57) (.tmp 59) (.tmp 63) 83 rfl 9 3 HUS.out HUI.out intR (fun x : Int => .lit (.int .i64 x)) (.lit (.int .i64 0)) (B + 1) q (sumK Ev.p tk) rfl HP5.out (by unfold maxLen; omega) ev.p rfl hz2 (.int .i64 (v2 + ev.way)) (v2 + ev.way) rfl [] rfl ?_)
      intro w6 hp6 hg6
      have HEND : Hid (∃ X : ExtO (fun b => b = B ∨ b = B + 1 ∨ b = B + 1 + 1) V3, w6 = X.1 ∧ Maps3 X.1 B (B + 1) (B + 1 + 1) (q + 1) 0 (sumK Ev.s ((evG g g.nu).take (q + 1))) (sumK Ev.p ((evG g g.nu).take (q + 1))) (fun _ => ⟨#[]⟩)) := Lib.hid ⟨⟨w6, ((X.2.trans (Kept.of_below HB4.out)).grown HG5.out (fun b hb _ => by injection hb with hb; exact Or.inl hb.symm)).grown hg6 (fun b hb _ => by injection hb with hb; exact Or.inr (Or.inl hb.symm))⟩, rfl, by
        rw [HT1.out, HT2.out]
        exact ⟨HS5.out.kept hg6 (fun e => by injection e with e; omega), hp6, HI5.out.kept hg6 (fun e => by injection e with e; omega)⟩⟩
      clear hp6 hg6 q2 q4 kP
      go_wp2_with fail
      go_roundw
      case rel => exact ⟨q + 1, by go_num, by omega, HEND⟩
      case measure => simp [intOf]; omega
    · have t1 : decide ((q : Int) < (np : Int)) = false := by rw [decide_eq_false_iff_not]; omega
      have t1' : decide (q < np) = false := by simpa using hlt
      obtain rfl : q = np := by omega
      rw [HTL.out] at HMX
      have HMA := Lib.hid HMX.out
      clear HMX hlt
      go_wp2_with fail
      go_loopw [67] (fun iv wr => ∃ (k : Nat), iv = .int .i64 k ∧ k ≤ n ∧ Hid (∃ (F : ByteArray → ByteArray) (X : ExtO (fun b => b = B ∨ b = B + 1 ∨ b = B + 1 + 1) V3), wr = X.1 ∧ Maps3 X.1 B (B + 1) (B + 1 + 1) q k (sumK Ev.s (evG g g.nu)) (sumK Ev.p (evG g g.nu)) F ∧ ∀ j, j < k → F (sl j) = partF g sl j)) (fun iv _ => n - (intOf iv).toNat)
      case atStart => exact ⟨0, rfl, by omega, Lib.hid ⟨_, X, rfl, HMA.out, fun j hj => by omega⟩⟩
      case round =>
        clear HMA X
        obtain ⟨k, rfl, hk, HX⟩ := hrel
        obtain ⟨F, X, rfl, hmx, hF⟩ := HX.out
        have HMX := Lib.hid hmx
        have HF := Lib.hid hF
        clear hmx hF HX
        by_cases hlt : k < n
        · have t2 : decide ((k : Int) < (n : Int)) = true := by rw [decide_eq_true_eq]; omega
          have t2' : decide (k < n) = true := by simpa using hlt
          obtain ⟨bq, offq, rfl, hblq, hcq⟩ := (HSR.out X).here (by omega)
          have z0 : X.1.cell? ⟨bq, offq + k, none⟩ = some (.string (sl k)) := row_one hcq hlt
          obtain ⟨bo, hin⟩ := HIN.out k hlt
          have DI2 := DI1.out (sl k) X
          rw [hin] at DI2
          have DI3 := Lib.hid DI2
          have hzk := HSZ.out k hlt
          have e0 := K0 X
          have e1 := K1 X
          have e2 := K2 X
          have e3 := K3 X
          have hkn : k < 1000 := by omega
          have hkni : (k : Int) < 1000 := by omega
          have HB7 : Hid (∀ j, j < k + 1 → setF F (sl k) (partF g sl k) (sl j) = partF g sl j) := Lib.hid (by
            intro j hj
            unfold setF
            by_cases e : j = k
            · subst e
              rw [if_pos rfl]
            · rw [if_neg (fun e2 => e (sl_inj HSW.out (by omega) hlt e2))]
              exact HF.out j (by omega))
          obtain ⟨sk, hsk⟩ : ∃ s, sl k = s := ⟨_, rfl⟩
          obtain ⟨pk, hpk⟩ : ∃ s, partF g sl k = s := ⟨_, rfl⟩
          rw [hsk, hpk] at HB7
          rw [hsk] at z0 DI3 hzk
          rw [hpk] at DI3
          clear hcq hin DI2 hsk hpk
          unfold tri at DI3
          go_wp2_with (first | (go_at_call 13; refine DI3.out.mono ?_; rintro e w4 ⟨rfl, hb4⟩) | (at_mapUpdate; refine wpList_update_str _ rfl (.tmp 72) (.tmp 73) (.tmp 77) 84 rfl 9 9 HUS.out HUN.out strR (fun x : ByteArray => .lit (.string x.data.toList)) (.lit (.string [])) (B + 1 + 1) k F rfl (HMX.out.below hb4).i (by unfold maxLen; omega) sk rfl hzk (.string pk) pk rfl [] rfl ?_))
          intro w5 hi5 hg5
          have HEND : Hid (∃ (F : ByteArray → ByteArray) (X : ExtO (fun b => b = B ∨ b = B + 1 ∨ b = B + 1 + 1) V3), w5 = X.1 ∧ Maps3 X.1 B (B + 1) (B + 1 + 1) q (k + 1) (sumK Ev.s (evG g g.nu)) (sumK Ev.p (evG g g.nu)) F ∧ ∀ j, j < k + 1 → F (sl j) = partF g sl j) := Lib.hid ⟨_, ⟨w5, (X.2.trans (Kept.of_below hb4)).grown hg5 (fun b hb _ => by injection hb with hb; exact Or.inr (Or.inr hb.symm))⟩, rfl, ⟨(HMX.out.below hb4).s.kept hg5 (fun e => by injection e with e; omega), (HMX.out.below hb4).p.kept hg5 (fun e => by injection e with e; omega), hi5⟩, HB7.out⟩
          clear hi5 hg5 hb4
          go_wp2_with fail
          go_roundw
          case rel => exact ⟨k + 1, by go_num, by omega, HEND⟩
          case measure => simp [intOf]; omega
        · have t2 : decide ((k : Int) < (n : Int)) = false := by rw [decide_eq_false_iff_not]; omega
          have t2' : decide (k < n) = false := by simpa using hlt
          obtain rfl : k = n := by omega
          have HST : Hid (∃ (F : ByteArray → ByteArray) (Y : ExtO (fun b => b = B ∨ b = B + 1 ∨ b = B + 1 + 1) V3), X.1 = Y.1 ∧ Maps3 Y.1 B (B + 1) (B + 1 + 1) q (k + 2 * 0) (sumK Ev.s (evG g g.nu)) (sumK Ev.p (evG g g.nu)) F ∧ ∀ j, j < k → F (sl j) = partF g sl (foldS (ps.take 0) j)) := Lib.hid ⟨F, X, rfl, HMX.out, HF.out⟩
          clear HMX HF hlt
          go_wp2_with fail
          go_loopw [83] (fun iv wr => ∃ (m : Nat), iv = .int .i64 m ∧ m ≤ ps.length ∧ Hid (∃ (F : ByteArray → ByteArray) (X : ExtO (fun b => b = B ∨ b = B + 1 ∨ b = B + 1 + 1) V3), wr = X.1 ∧ Maps3 X.1 B (B + 1) (B + 1 + 1) q (k + 2 * m) (sumK Ev.s (evG g g.nu)) (sumK Ev.p (evG g g.nu)) F ∧ ∀ j, j < k → F (sl j) = partF g sl (foldS (ps.take m) j))) (fun iv _ => ps.length - (intOf iv).toNat)
          case atStart => exact ⟨0, rfl, by omega, HST⟩
          case round =>
            clear HST X
            obtain ⟨m, rfl, hm, HX⟩ := hrel
            obtain ⟨F, X, rfl, hmx, hF⟩ := HX.out
            have HMX := Lib.hid hmx
            have HF := Lib.hid hF
            clear hmx hF HX
            by_cases hlt : m < ps.length
            · have t3 : decide ((m : Int) < (ps.length : Int)) = true := by rw [decide_eq_true_eq]; omega
              have t3' : decide (m < ps.length) = true := by simpa using hlt
              obtain ⟨bq, offq, rfl, hblq, hcq⟩ := (HWR.out X).here (by omega)
              obtain ⟨xi, xk, hxq⟩ : ∃ xi xk, ps.getD m (0, 0) = (xi, xk) := ⟨_, _, rfl⟩
              have hmem : (xi, xk) ∈ ps := by
                rw [← hxq, List.getD_eq_getElem?_getD, List.getElem?_eq_getElem hlt]
                exact List.getElem_mem hlt
              have htk : ps.take (m + 1) = ps.take m ++ [(xi, xk)] := by
                rw [List.take_add_one, List.getElem?_eq_getElem hlt, ← hxq, List.getD_eq_getElem?_getD, List.getElem?_eq_getElem hlt]
                rfl
              have hlx := HLT.out _ hmem
              have hxi : xi < k := hlx.1
              have hxk : xk < k := hlx.2
              have z0 : X.1.cell? ⟨bq, offq + m * 2, none⟩ = some (.string (sl xi)) := by
                have := hcq m hlt 0 (by omega)
                simp only [hxq] at this
                exact this
              have z1 : X.1.cell? ⟨bq, offq + m * 2 + 1, none⟩ = some (.string (sl xk)) := by
                have := hcq m hlt 1 (by omega)
                simp only [hxq] at this
                exact this
              have HF2 : Hid (∀ j, j < k → swF F (sl xi) (sl xk) (sl j) = partF g sl (foldS (ps.take (m + 1)) j)) := Lib.hid (by
                rw [htk, foldS_snoc]
                exact swF_swp (p := partF g sl) HSW.out HF.out hxi hxk)
              have hzi := HSZ.out xi hxi
              have hzk := HSZ.out xk hxk
              obtain ⟨V5, hV5, hb5, hs5, hq5⟩ := alloc_block X.1 #[.string (sl xi), .string (sl xk)] 85
              have HV5 := Lib.hid hV5
              have HK5 : Hid (Kept (fun b => b = B ∨ b = B + 1 ∨ b = B + 1 + 1) V3 V5) := Lib.hid (X.2.trans (Kept.of_below hb5))
              have hsX : B + 1 + 1 < X.1.heap.size := HMX.out.i.lt
              have HM5 := Lib.hid (HMX.out.below hb5)
              have P0 : ∀ Z : ExtO (fun b => b = B ∨ b = B + 1 ∨ b = B + 1 + 1) V5, Z.1.cell? ⟨X.1.heap.size, 0, none⟩ = some (.string (sl xi)) := ExtO.ex (by simp <;> omega) (block_cell hq5 rfl)
              have P1 : ∀ Z : ExtO (fun b => b = B ∨ b = B + 1 ∨ b = B + 1 + 1) V5, Z.1.cell? ⟨X.1.heap.size, 1, none⟩ = some (.string (sl xk)) := ExtO.ex (by simp <;> omega) (block_cell hq5 rfl)
              obtain ⟨si, hsi⟩ : ∃ s, sl xi = s := ⟨_, rfl⟩
              obtain ⟨sk, hsk⟩ : ∃ s, sl xk = s := ⟨_, rfl⟩
              rw [hsi] at z0 HF2 hzi P0 HV5
              rw [hsk] at z1 HF2 hzk P1 HV5
              have hm2 : k + 2 * m < 1000 := by omega
              have HZI := Lib.hid hzi
              have HZK := Lib.hid hzk
              clear hcq hxq hmem htk hlx hV5 hb5 hq5 hsi hsk hzi hzk t1 t1' t2 t2'
              go_upto_region 20 with (fail)
              rw [HV5.out]
              refine held_start (C := fun w' => ∃ Z : ExtO (fun b => b = B ∨ b = B + 1 ∨ b = B + 1 + 1) V5, w' = Z.1) (by kernel_rfl) ?_
              obtain ⟨Y0, hY0, hy0⟩ : ∃ Z : ExtO (fun b => b = B ∨ b = B + 1 ∨ b = B + 1 + 1) V5, ({ V5 with drawn := V5.drawn + 1 } : World) = Z.1 ∧ Below V5.heap.size V5 Z.1 := ⟨⟨{ V5 with drawn := V5.drawn + 1 }, ⟨rfl, rfl, rfl, Nat.le_refl _, fun _ _ _ => rfl⟩⟩, rfl, ⟨rfl, rfl, rfl, Nat.le_refl _, fun _ _ => rfl⟩⟩
              have HM6 := Lib.hid (HM5.out.below hy0)
              rw [hY0]
              clear hY0 hy0
              refine held_quiet (by kernel_rfl) (fun _ _ d _ _ h => by cases d <;> exact h) ⟨Y0, rfl⟩ [0, 1, 2, 3, 4, 5, 6, 7, 8, 10, 11, 12] 4 _ _ (by kernel_rfl) ?_
              change wpQuiet _ _ _ _ (_ :: _ :: _ :: _ :: _ :: _ :: _ :: _ :: _ :: _ :: _ :: _ :: []) _
              repeat go_big_quiet_step (fail)
              refine wpQuiet_nil ?_
              refine held_two (i := 9) (j := 13) _ _ rfl rfl (by kernel_rfl) rfl rfl (fun K hK => ?_) (fun K hK => ?_)
              · refine wp_lookup_str (.tmp 93) (.tmp 95) rfl HUS.out HUN.out (HzS.out _) (zp := []) rfl Value.string strR_inv rfl HM6.out.i rfl HZK.out ?_
                refine hK _ _ ⟨Y0, rfl⟩ ?_
                clear hK K
                simp only [Act.put, List.setIfInBounds_toArray, List.set_cons_zero, List.set_cons_succ]
                refine held_do (i := 13) _ rfl (by kernel_rfl) rfl (fun K hK => ?_)
                refine wp_lookup_str (.tmp 97) (.tmp 99) rfl HUS.out HUN.out (HzS.out _) (zp := []) rfl Value.string strR_inv rfl HM6.out.i rfl HZI.out ?_
                refine hK _ _ ⟨Y0, rfl⟩ ?_
                clear hK K
                simp only [Act.put, List.setIfInBounds_toArray, List.set_cons_zero, List.set_cons_succ]
                refine held_do (i := 14) _ rfl (by kernel_rfl) rfl (fun K hK => ?_)
                refine wp_update_str (.tmp 87) (.tmp 89) (.tmp 96) rfl HUS.out HUN.out rfl HM6.out.i (by unfold maxLen; omega) rfl HZI.out rfl (y := F sk) rfl (fun w7 hm7 hg7 => ?_)
                have HM7 : Hid (Maps3 w7 B (B + 1) (B + 1 + 1) q (k + 2 * m + 1) (sumK Ev.s (evG g g.nu)) (sumK Ev.p (evG g g.nu)) (setF F si (F sk))) := Lib.hid ⟨HM6.out.s.kept hg7 (fun e => by injection e with e; omega), HM6.out.p.kept hg7 (fun e => by injection e with e; omega), hm7⟩
                obtain ⟨Y7, rfl⟩ : ∃ Z : ExtO (fun b => b = B ∨ b = B + 1 ∨ b = B + 1 + 1) V5, w7 = Z.1 := ⟨⟨w7, Y0.2.grown hg7 (fun b hb _ => by injection hb with hb; exact Or.inr (Or.inr hb.symm))⟩, rfl⟩
                refine hK _ _ ⟨Y7, rfl⟩ ?_
                clear hK K hm7 hg7
                simp only [Act.put]
                refine held_do (i := 15) _ rfl (by kernel_rfl) rfl (fun K hK => ?_)
                refine wp_update_str (.tmp 90) (.tmp 92) (.tmp 100) rfl HUS.out HUN.out rfl HM7.out.i (by unfold maxLen; omega) rfl HZK.out rfl (y := F si) rfl (fun w8 hm8 hg8 => ?_)
                have HM8 : Hid (Maps3 w8 B (B + 1) (B + 1 + 1) q (k + 2 * (m + 1)) (sumK Ev.s (evG g g.nu)) (sumK Ev.p (evG g g.nu)) (swF F si sk)) := Lib.hid ⟨HM7.out.s.kept hg8 (fun e => by injection e with e; omega), HM7.out.p.kept hg8 (fun e => by injection e with e; omega), hm8⟩
                obtain ⟨Y8, rfl⟩ : ∃ Z : ExtO (fun b => b = B ∨ b = B + 1 ∨ b = B + 1 + 1) V5, w8 = Z.1 := ⟨⟨w8, Y7.2.grown hg8 (fun b hb _ => by injection hb with hb; exact Or.inr (Or.inr hb.symm))⟩, rfl⟩
                refine hK _ _ ⟨Y8, rfl⟩ ?_
                clear hK K hm8 hg8
                simp only [Act.put]
                refine wpAnyH_done (by kernel_rfl) ?_ _
                have HEND : Hid (∃ (F : ByteArray → ByteArray) (X : ExtO (fun b => b = B ∨ b = B + 1 ∨ b = B + 1 + 1) V3), Y8.1 = X.1 ∧ Maps3 X.1 B (B + 1) (B + 1 + 1) q (k + 2 * (m + 1)) (sumK Ev.s (evG g g.nu)) (sumK Ev.p (evG g g.nu)) F ∧ ∀ j, j < k → F (sl j) = partF g sl (foldS (ps.take (m + 1)) j)) := Lib.hid ⟨_, ⟨Y8.1, HK5.out.trans Y8.2⟩, rfl, HM8.out, HF2.out⟩
                go_wp2_with fail
                go_roundw
                case rel => exact ⟨m + 1, by go_num, by omega, HEND⟩
                case measure => simp [intOf]; omega
              · refine wp_lookup_str (.tmp 97) (.tmp 99) rfl HUS.out HUN.out (HzS.out _) (zp := []) rfl Value.string strR_inv rfl HM6.out.i rfl HZI.out ?_
                refine hK _ _ ⟨Y0, rfl⟩ ?_
                clear hK K
                simp only [Act.put, List.setIfInBounds_toArray, List.set_cons_zero, List.set_cons_succ]
                refine held_do (i := 9) _ rfl (by kernel_rfl) rfl (fun K hK => ?_)
                refine wp_lookup_str (.tmp 93) (.tmp 95) rfl HUS.out HUN.out (HzS.out _) (zp := []) rfl Value.string strR_inv rfl HM6.out.i rfl HZK.out ?_
                refine hK _ _ ⟨Y0, rfl⟩ ?_
                clear hK K
                simp only [Act.put, List.setIfInBounds_toArray, List.set_cons_zero, List.set_cons_succ]
                refine held_do (i := 14) _ rfl (by kernel_rfl) rfl (fun K hK => ?_)
                refine wp_update_str (.tmp 87) (.tmp 89) (.tmp 96) rfl HUS.out HUN.out rfl HM6.out.i (by unfold maxLen; omega) rfl HZI.out rfl (y := F sk) rfl (fun w7 hm7 hg7 => ?_)
                have HM7 : Hid (Maps3 w7 B (B + 1) (B + 1 + 1) q (k + 2 * m + 1) (sumK Ev.s (evG g g.nu)) (sumK Ev.p (evG g g.nu)) (setF F si (F sk))) := Lib.hid ⟨HM6.out.s.kept hg7 (fun e => by injection e with e; omega), HM6.out.p.kept hg7 (fun e => by injection e with e; omega), hm7⟩
                obtain ⟨Y7, rfl⟩ : ∃ Z : ExtO (fun b => b = B ∨ b = B + 1 ∨ b = B + 1 + 1) V5, w7 = Z.1 := ⟨⟨w7, Y0.2.grown hg7 (fun b hb _ => by injection hb with hb; exact Or.inr (Or.inr hb.symm))⟩, rfl⟩
                refine hK _ _ ⟨Y7, rfl⟩ ?_
                clear hK K hm7 hg7
                simp only [Act.put]
                refine held_do (i := 15) _ rfl (by kernel_rfl) rfl (fun K hK => ?_)
                refine wp_update_str (.tmp 90) (.tmp 92) (.tmp 100) rfl HUS.out HUN.out rfl HM7.out.i (by unfold maxLen; omega) rfl HZK.out rfl (y := F si) rfl (fun w8 hm8 hg8 => ?_)
                have HM8 : Hid (Maps3 w8 B (B + 1) (B + 1 + 1) q (k + 2 * (m + 1)) (sumK Ev.s (evG g g.nu)) (sumK Ev.p (evG g g.nu)) (swF F si sk)) := Lib.hid ⟨HM7.out.s.kept hg8 (fun e => by injection e with e; omega), HM7.out.p.kept hg8 (fun e => by injection e with e; omega), hm8⟩
                obtain ⟨Y8, rfl⟩ : ∃ Z : ExtO (fun b => b = B ∨ b = B + 1 ∨ b = B + 1 + 1) V5, w8 = Z.1 := ⟨⟨w8, Y7.2.grown hg8 (fun b hb _ => by injection hb with hb; exact Or.inr (Or.inr hb.symm))⟩, rfl⟩
                refine hK _ _ ⟨Y8, rfl⟩ ?_
                clear hK K hm8 hg8
                simp only [Act.put]
                refine wpAnyH_done (by kernel_rfl) ?_ _
                have HEND : Hid (∃ (F : ByteArray → ByteArray) (X : ExtO (fun b => b = B ∨ b = B + 1 ∨ b = B + 1 + 1) V3), Y8.1 = X.1 ∧ Maps3 X.1 B (B + 1) (B + 1 + 1) q (k + 2 * (m + 1)) (sumK Ev.s (evG g g.nu)) (sumK Ev.p (evG g g.nu)) F ∧ ∀ j, j < k → F (sl j) = partF g sl (foldS (ps.take (m + 1)) j)) := Lib.hid ⟨_, ⟨Y8.1, HK5.out.trans Y8.2⟩, rfl, HM8.out, HF2.out⟩
                go_wp2_with fail
                go_roundw
                case rel => exact ⟨m + 1, by go_num, by omega, HEND⟩
                case measure => simp [intOf]; omega
            · have t3 : decide ((m : Int) < (ps.length : Int)) = false := by rw [decide_eq_false_iff_not]; omega
              have t3' : decide (m < ps.length) = false := by simpa using hlt
              obtain rfl : m = ps.length := by omega
              have HFE : Hid (∀ j, j < k → F (sl j) = partF g sl (foldS ps j)) := Lib.hid (by have h := HF.out; rw [List.take_length] at h; exact h)
              have kW : ∀ j, j < k → (Instr.lookup 83 (.map (some B)) (.string (sl j)) false).run Try.prog X.1 = .ok (.int .i64 (sumK Ev.s (evG g g.nu) (sl j))) X.1 := fun j hj => StrMap.look (val := Value.int .i64) HMX.out.s HUS.out HUI.out (HzI.out _) (zp := []) rfl intR_inv (HSZ.out j hj)
              have kI : ∀ j, j < k → (Instr.lookup 84 (.map (some (B + 1 + 1))) (.string (sl j)) false).run Try.prog X.1 = .ok (.string (partF g sl (foldS ps j))) X.1 := fun j hj => by
                have := StrMap.look (val := Value.string) HMX.out.i HUS.out HUN.out (HzS.out _) (zp := []) rfl strR_inv (HSZ.out j hj)
                rwa [HFE.out j hj] at this
              have hpz : ∀ j, (partF g sl j).size ≤ maxLen := fun j => inF_small (R := fun x => x.size ≤ maxLen) (by decide) g (sl j) _ g.nm 0 (fun i hi => (HG.out.z2 i (by omega)).2)
              have kP : ∀ j, (Instr.lookup 83 (.map (some (B + 1))) (.string (partF g sl j)) false).run Try.prog X.1 = .ok (.int .i64 (sumK Ev.p (evG g g.nu) (partF g sl j))) X.1 := fun j => StrMap.look (val := Value.int .i64) HMX.out.p HUS.out HUI.out (HzI.out _) (zp := []) rfl intR_inv (hpz j)
              have HKW := Lib.hid kW
              have HKI := Lib.hid kI
              have HKP := Lib.hid kP
              have HS := Lib.hid (fun j : Nat => sumK_small HCK.out Ev.s (sl j) (done := evG g g.nu) (rest := []) (by simp))
              have HP := Lib.hid (fun j : Nat => sumK_small HCK.out Ev.p (partF g sl j) (done := evG g g.nu) (rest := []) (by simp))
              have hpl2 : (ps.length : Int) < (k : Int) := by omega
              have t4 : decide ((ps.length : Int) < (k : Int)) = true := by rw [decide_eq_true_eq]; omega
              have t4' : decide (ps.length < k) = true := by simpa using hpl
              have HDX := Lib.hid (HDN.out X)
              have HDT := Lib.hid (DT.out X.1)
              clear kW kI kP hpz hlt HMX HF HFE
              obtain ⟨lp, hlp⟩ : ∃ lp, ps.length = lp := ⟨_, rfl⟩
              rw [hlp] at t4 t4' hpl2 ⊢
              clear hlp
              go_wp2_with fail
              go_loopw [104] (fun iv wr => ∃ (i : Nat), iv = .int .i64 i ∧ i ≤ k ∧ X.1 = wr) (fun iv _ => k - (intOf iv).toNat)
              case atStart => exact ⟨0, rfl, by omega, rfl⟩
              case round =>
                obtain ⟨i, rfl, hi, rfl⟩ := hrel
                by_cases hlt : i < k
                · have t5 : decide ((i : Int) < (k : Int)) = true := by rw [decide_eq_true_eq]; omega
                  have t5' : decide (i < k) = true := by simpa using hlt
                  obtain ⟨bq, offq, rfl, hblq, hcq⟩ := (HSR.out X).here (by omega)
                  have z0 : X.1.cell? ⟨bq, offq + i, none⟩ = some (.string (sl i)) := row_one hcq hlt
                  have HCQ := Lib.hid (fun (j : Nat) (hj : j < k) => row_one hcq hj)
                  have kWi := HKW.out i hlt
                  have kIi := HKI.out i hlt
                  have kPi := HKP.out (foldS ps i)
                  have hSi := HS.out i
                  have hPi := HP.out (foldS ps i)
                  have HEVI := Lib.hid (fun (j : Nat) (hj : j < k) => HEV.out.2 i j hlt hj)
                  obtain ⟨wsi, hwsi⟩ : ∃ x, sumK Ev.s (evG g g.nu) (sl i) = x := ⟨_, rfl⟩
                  obtain ⟨wpi, hwpi⟩ : ∃ x, sumK Ev.p (evG g g.nu) (partF g sl (foldS ps i)) = x := ⟨_, rfl⟩
                  rw [hwsi] at kWi hSi
                  rw [hwpi] at kPi hPi
                  simp only [hwsi, hwpi] at HEVI
                  obtain ⟨pi, hpi⟩ : ∃ x, partF g sl (foldS ps i) = x := ⟨_, rfl⟩
                  rw [hpi] at kIi kPi
                  clear hcq hwsi hwpi hpi
                  go_wp2_with fail
                  go_loopw [110] (fun iv wr => ∃ (j : Nat), iv = .int .i64 j ∧ j ≤ k ∧ X.1 = wr) (fun iv _ => k - (intOf iv).toNat)
                  case atStart => exact ⟨0, rfl, by omega, rfl⟩
                  case round =>
                    obtain ⟨j, rfl, hj, rfl⟩ := hrel
                    by_cases hltj : j < k
                    · have t6 : decide ((j : Int) < (k : Int)) = true := by rw [decide_eq_true_eq]; omega
                      have t6' : decide (j < k) = true := by simpa using hltj
                      have z1 : X.1.cell? ⟨bq, offq + j, none⟩ = some (.string (sl j)) := HCQ.out j hltj
                      have kWj := HKW.out j hltj
                      have kIj := HKI.out j hltj
                      have kPj := HKP.out (foldS ps j)
                      have hSj := HS.out j
                      have hPj := HP.out (foldS ps j)
                      have hev := HEVI.out j hltj
                      obtain ⟨wsj, hwsj⟩ : ∃ x, sumK Ev.s (evG g g.nu) (sl j) = x := ⟨_, rfl⟩
                      obtain ⟨wpj, hwpj⟩ : ∃ x, sumK Ev.p (evG g g.nu) (partF g sl (foldS ps j)) = x := ⟨_, rfl⟩
                      rw [hwsj] at kWj hSj hev
                      rw [hwpj] at kPj hPj hev
                      obtain ⟨pj, hpj⟩ : ∃ x, partF g sl (foldS ps j) = x := ⟨_, rfl⟩
                      rw [hpj] at kIj kPj
                      clear hwsj hwpj hpj
                      by_cases hgt : wsj < wsi
                      · have t7 : decide (wsj < wsi) = true := by simpa using hgt
                        have t8 : decide (wpj < wpi) = false := by simpa using hev hgt
                        clear hev
                        go_wp2_with fail
                        go_roundw
                        case rel => exact ⟨j + 1, by go_num, by omega, trivial⟩
                        case measure => simp [intOf]; omega
                      · have t7 : decide (wsj < wsi) = false := by simpa using hgt
                        clear hev
                        go_wp2_with fail
                        go_roundw
                        case rel => exact ⟨j + 1, by go_num, by omega, trivial⟩
                        case measure => simp [intOf]; omega
                    · have t6 : decide ((j : Int) < (k : Int)) = false := by rw [decide_eq_false_iff_not]; omega
                      have t6' : decide (j < k) = false := by simpa using hltj
                      obtain rfl : j = k := by omega
                      go_wp2_with fail
                      go_roundw
                      case rel => exact ⟨i + 1, by go_num, by omega, trivial⟩
                      case measure => simp [intOf]; omega
                · have t5 : decide ((i : Int) < (k : Int)) = false := by rw [decide_eq_false_iff_not]; omega
                  have t5' : decide (i < k) = false := by simpa using hlt
                  obtain rfl : i = k := by omega
                  go_wp2_with (go_at_call 17; refine (HDT.out).mono ?_; rintro e w9 ⟨rfl, hb9⟩)
                  go_ret
                  exact ⟨rfl, HDX.out.trans (hb9.mono HDX.out.size)⟩
end Go.Proofs.Ytbkpoepacjinlaa

/- A garage that came in by value: how it reads. -/
namespace Go.Proofs.Ytbkpoepacjinlaa
open Go.ChangeShapes Go.WideShapes Go.ChangeAt Go.RowKit Go.Deep

theorem laidOut : laidOutB Try.prog = true := by kernel_rfl
theorem readGarage : Try.prog.readableRec 27 = true := by kernel_rfl
theorem rowGarage : 27 < Try.prog.types.size := of_decide_eq_true (by kernel_rfl)
def intV : Value → Int
  | .int _ n => n
  | _ => 0
def strV : Value → ByteArray
  | .string s => s
  | _ => ByteArray.empty
theorem RowK.congr {w : World} {a : Option Addr} {len k : Nat} {V V' : Nat → List Value} (h : RowK w a len k V) (he : ∀ i, i < len → V i = V' i) : RowK w a len k V' :=
  ⟨fun h0 => by
    obtain ⟨b, off, e, hb, hc⟩ := h.here h0
    exact ⟨b, off, e, hb, fun i hi j hj => by rw [hc i hi j hj, he i hi]⟩⟩
section
variable {H : Type} {enc : TypeId × Value → H} {P : Program} {w : World} {base : Nat}
theorem field_str {V : List Value} {j : Nat} {t : TypeId} (ht : P.underlying t = some .string) (h : ∃ u n y, V[j]? = some u ∧ DataW.trod enc P w base (fun _ => true) true n t [u] = some y) :
    V[j]? = some (.string (strV (V.getD j (.bool false)))) ∧ (strV (V.getD j (.bool false))).size ≤ maxLen := by
  obtain ⟨u, n, y, hu, hd⟩ := h
  obtain ⟨s, e, _, hs⟩ := DataW.trod_string ht hd
  simp only [List.cons.injEq, and_true] at e
  subst e
  rw [List.getD_eq_getElem?_getD, hu]
  exact ⟨rfl, hs⟩
theorem field_int {V : List Value} {j : Nat} {t : TypeId} (ht : P.underlying t = some (.int .i64)) (h : ∃ u n y, V[j]? = some u ∧ DataW.trod enc P w base (fun _ => true) true n t [u] = some y) :
    V[j]? = some (.int .i64 (intV (V.getD j (.bool false)))) := by
  obtain ⟨u, n, y, hu, hd⟩ := h
  obtain ⟨s, e, _, hs⟩ := DataW.trod_int ht hd
  simp only [List.cons.injEq, and_true] at e
  subst e
  rw [List.getD_eq_getElem?_getD, hu]
  rfl
end
theorem list2 {V : List Value} {a b : Value} (hl : V.length = 2) (h0 : V[0]? = some a) (h1 : V[1]? = some b) : V = [a, b] := by
  match V, hl with
  | [x, y], _ => simp at h0 h1; rw [h0, h1]
theorem list4 {V : List Value} {a b c d : Value} (hl : V.length = 4) (h0 : V[0]? = some a) (h1 : V[1]? = some b) (h2 : V[2]? = some c) (h3 : V[3]? = some d) : V = [a, b, c, d] := by
  match V, hl with
  | [x, y, z, u], _ => simp at h0 h1 h2 h3; rw [h0, h1, h2, h3]
theorem list5 {V : List Value} {a b c d e : Value} (hl : V.length = 5) (h0 : V[0]? = some a) (h1 : V[1]? = some b) (h2 : V[2]? = some c) (h3 : V[3]? = some d) (h4 : V[4]? = some e) : V = [a, b, c, d, e] := by
  match V, hl with
  | [x, y, z, u, v], _ => simp at h0 h1 h2 h3 h4; rw [h0, h1, h2, h3, h4]

set_option maxRecDepth 100000 in
theorem open_garage {H : Type} {enc : TypeId × Value → H} {W : World} {r : Reach} {b0 base : Nat} {v : Value} {d : DataW H} {p : List MemPlace}
    (hv : Value.okWide Try.prog W r b0 27 v) (h : DataW.Trod enc Try.prog W base (fun _ => true) true 27 v d p) :
    ∃ (g : Gar) (a0 a1 a2 a3 : Option Addr) (c0 c1 c2 c3 : Nat), v = garV g a0 a1 a2 a3 c0 c1 c2 c3 ∧ GarIn W g a0 a1 a2 a3 ∧ g.nm ≤ c2 ∧ g.nu ≤ c3 := by
  obtain ⟨v0, v1, v2, v3, y0, y1, y2, y3, m, rfl, _, _, h0, h1, h2, h3⟩ := Go.Joins.open_agg4 Try.underlying27 (by kernel_rfl) (by kernel_rfl) hv h
  obtain ⟨a0, n0, c0, V0, rfl, l0, m0, R0, F0⟩ := open_rowK Try.underlying22 Try.underlying94 (by kernel_rfl) (by decide) (hone_of (by kernel_rfl)) h0
  obtain ⟨a1, n1, c1, V1, rfl, l1, m1, R1, F1⟩ := open_rowK Try.underlying23 Try.underlying40 (by kernel_rfl) (by decide) (hone_of (by kernel_rfl)) h1
  obtain ⟨a2, n2, c2, V2, rfl, l2, m2, R2, F2⟩ := open_rowK Try.underlying24 Try.underlying54 (by kernel_rfl) (by decide) (hone_of (by kernel_rfl)) h2
  obtain ⟨a3, n3, c3, V3, rfl, l3, m3, R3, F3⟩ := open_rowK Try.underlying25 Try.underlying38 (by kernel_rfl) (by decide) (hone_of (by kernel_rfl)) h3
  have hm : maxLen = 9223372036854775807 := rfl
  have S := Try.underlying9
  have I := Try.underlying3
  refine ⟨{ np := n0, ns := n1, nm := n2, nu := n3,
            pn := fun i => strV ((V0 i).getD 0 (.bool false)), pc := fun i => intV ((V0 i).getD 1 (.bool false)),
            sn := fun i => strV ((V1 i).getD 0 (.bool false)), sr := fun i => strV ((V1 i).getD 1 (.bool false)),
            ms := fun i => strV ((V2 i).getD 0 (.bool false)), mp := fun i => strV ((V2 i).getD 1 (.bool false)), mf := fun i => intV ((V2 i).getD 2 (.bool false)), mt := fun i => intV ((V2 i).getD 3 (.bool false)),
            un := fun i => strV ((V3 i).getD 0 (.bool false)), ur := fun i => strV ((V3 i).getD 1 (.bool false)), uf := fun i => intV ((V3 i).getD 2 (.bool false)), us := fun i => intV ((V3 i).getD 3 (.bool false)), uw := fun i => intV ((V3 i).getD 4 (.bool false)) },
    a0, a1, a2, a3, c0, c1, c2, c3, rfl, ⟨?_, ?_, ?_, ?_, ?_, ?_, ?_, ?_, ?_, ?_, ?_, ?_⟩, l2, l3⟩
  · exact R0.congr fun i hi => list2 (F0 i hi).1 (field_str S ((F0 i hi).2 0 _ rfl)).1 (field_int I ((F0 i hi).2 1 _ rfl))
  · exact R1.congr fun i hi => list2 (F1 i hi).1 (field_str S ((F1 i hi).2 0 _ rfl)).1 (field_str S ((F1 i hi).2 1 _ rfl)).1
  · exact R2.congr fun i hi => list4 (F2 i hi).1 (field_str S ((F2 i hi).2 0 _ rfl)).1 (field_str S ((F2 i hi).2 1 _ rfl)).1 (field_int I ((F2 i hi).2 2 _ rfl)) (field_int I ((F2 i hi).2 3 _ rfl))
  · exact R3.congr fun i hi => list5 (F3 i hi).1 (field_str S ((F3 i hi).2 0 _ rfl)).1 (field_str S ((F3 i hi).2 1 _ rfl)).1 (field_int I ((F3 i hi).2 2 _ rfl)) (field_int I ((F3 i hi).2 3 _ rfl)) (field_int I ((F3 i hi).2 4 _ rfl))
  · exact fun i hi => (field_str S ((F0 i hi).2 0 _ rfl)).2
  · exact fun i hi => ⟨(field_str S ((F1 i hi).2 0 _ rfl)).2, (field_str S ((F1 i hi).2 1 _ rfl)).2⟩
  · exact fun i hi => ⟨(field_str S ((F2 i hi).2 0 _ rfl)).2, (field_str S ((F2 i hi).2 1 _ rfl)).2⟩
  · exact fun i hi => ⟨(field_str S ((F3 i hi).2 0 _ rfl)).2, (field_str S ((F3 i hi).2 1 _ rfl)).2⟩
  · show ((n0 : Nat) : Int) ≤ _; omega
  · show ((n1 : Nat) : Int) ≤ _; omega
  · show ((n2 : Nat) : Int) ≤ _; omega
  · show ((n3 : Nat) : Int) ≤ _; omega
end Go.Proofs.Ytbkpoepacjinlaa

/- Names that came in: how they read. -/
namespace Go.Proofs.Ytbkpoepacjinlaa
open Go.ChangeShapes Go.WideShapes Go.ChangeAt Go.RowKit Go.ChangeMaps Go.Deep

theorem readStrs : Try.prog.readableRec 79 = true := by kernel_rfl
theorem rowStrs : 79 < Try.prog.types.size := of_decide_eq_true (by kernel_rfl)
set_option maxRecDepth 100000 in
theorem open_strs {H : Type} {enc : TypeId × Value → H} {W : World} {r : Reach} {b0 base : Nat} {v : Value} {d : DataW H} {p : List MemPlace}
    (hv : Value.okWide Try.prog W r b0 79 v) (h : DataW.Trod enc Try.prog W base (fun _ => true) true 79 v d p) :
    ∃ (n : Nat) (sl : Nat → ByteArray) (a : Option Addr) (cap : Nat), v = .slice a n cap ∧ n ≤ cap ∧ (n : Int) ≤ 9223372036854775807 ∧ RowK W a n 1 (fun j => [.string (sl j)]) ∧ ∀ j, j < n → (sl j).size ≤ maxLen := by
  obtain ⟨fuel, hf⟩ := h
  obtain ⟨a', l', c', hv'⟩ := okWide_slice Try.underlying79 hv
  rw [show v.cells.toList = [v] by rw [hv']; rfl] at hf
  rcases open_slice Try.underlying79 hf with ⟨hc, _⟩ | ⟨a, len, cap, m, n, D, Pl, hc, _, hl, hm, hmm, _, hx⟩
  · simp only [List.cons.injEq, and_true] at hc
    exact ⟨0, fun _ => ⟨#[]⟩, none, 0, hc, by omega, by omega, ⟨fun h => by omega⟩, fun j hj => by omega⟩
  · simp only [List.cons.injEq, and_true] at hc
    simp only [if_true] at hmm
    subst hmm
    have hmx : maxLen = 9223372036854775807 := rfl
    have each : ∀ i, i < m → ∃ s : ByteArray, W.cell? (a.add i) = some (.string s) ∧ s.size ≤ maxLen := by
      intro i hi
      obtain ⟨cs, h1, h2⟩ := hx i hi
      rw [show Try.prog.cellsOf 9 = 1 by kernel_rfl] at h1
      obtain ⟨_, hlen, hcell⟩ := World.cells?_some h1
      obtain ⟨s, e, _, hs⟩ := DataW.trod_string Try.underlying9 h2
      have h3 := hcell 0 (by omega)
      rw [e, add_add] at h3
      refine ⟨s, ?_, hs⟩
      simpa using h3
    obtain ⟨sl, hsl⟩ := choose_lt each
    refine ⟨len, sl, some a, m, hc, hl, by omega, ⟨fun hl0 => ?_⟩, fun i hi => (hsl i (by omega)).2⟩
    obtain ⟨b, o, sp⟩ := a
    have h0 := (hsl 0 (by omega)).1
    have hspot : sp = none := by simpa [Addr.add] using World.cell?_spot h0
    subst hspot
    refine ⟨b, o, rfl, by simpa [Addr.add] using World.block_lt_of_cell? W _ h0, fun i hi j hj => ?_⟩
    obtain rfl : j = 0 := by omega
    have := (hsl i (by omega)).1
    rw [add_plain] at this
    rw [Nat.mul_one, Nat.add_zero]
    exact this
end Go.Proofs.Ytbkpoepacjinlaa
