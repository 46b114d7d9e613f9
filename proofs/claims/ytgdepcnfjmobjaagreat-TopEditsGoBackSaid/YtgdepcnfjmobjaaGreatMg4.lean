/- Several texts of this claim in one. -/
import Derived.Test.YtgdepcnfjmobjaaGreatMg3
import Derived.BigQuiet
import Derived.Test.YtgdepcnfjmobjaaGreatShelf2
import Derived.Sort.Row
import Derived.Sort.Grow
import Derived.Lib.SlicesCompact
import Derived.Maps.RangeWalk
import Derived.Maps.OwnSet
import Derived.Laws.StructEq
import Derived.Deep.Draws
import Derived.Deep.RegionLaw
import Derived.Lib.AppendZeros
import Derived.Lib.Overlaps
/- A text of this claim. -/
namespace Go.Proofs.YtgdepcnfjmobjaaGreat
open Go.RowKit Go.BigFrame
open Tr (Ed)
theorem edZero : ∀ w, (zeroValue 36).run Tryz.prog w = .ok (.agg #[.int .i64 0, .int .i64 0, .int .i64 0, .int .i64 0, .string ⟨#[]⟩]) w := fun w => by kernel_rfl
theorem clear_end {W : World} {base q n cap tot : Nat} {L l : List Ed} (hro : EdOwn W base (.slice (some ⟨q, 0, none⟩) n cap) L) (ht : tot < n) (hL : L.take tot = l) :
 ∃ W2, (Builtin.clear_ #[27] 0 #[.slice (some ⟨q, tot * 5, none⟩) (n - tot) (cap - tot)]).run Tryz.prog W = .ok (.tuple #[]) W2 ∧ EdOwn W2 base (.slice (some ⟨q, 0, none⟩) tot cap) l ∧ Kept (fun b => b = q) W W2 := by
 obtain ⟨e1, e2, _, _⟩ := hro.facts
 obtain ⟨vs, hvs⟩ := run_clear_rowE (P := Tryz.prog) W 27 36 0 (.agg #[.int .i64 0, .int .i64 0, .int .i64 0, .int .i64 0, .string ⟨#[]⟩]) Tryz.underlying27 edZero (by decide) q (tot * 5) (n - tot) (cap - tot) (by omega)
  (fun i (hi : i < (n - tot) * 5) => (hro.cellE (i := tot * 5 + i) (by omega)).1) (fun i (hi : i < (n - tot) * 5) => (hro.cellE (i := tot * 5 + i) (by omega)).2)
 refine ⟨_, hvs, ?_, kept_lay q vs (tot * 5) _⟩
 have h3 := hro.less tot (by omega)
 rw [hL] at h3
 exact h3.cleared vs (tot * 5) (by rw [← hL, List.length_take]; omega)
theorem ERow.src {w : World} {a : Option Addr} {m : List Ed} (h : ERow w a m) : 0 < m.length → ∃ ad, a = some ad ∧ ∀ j v, (m.flatMap edC)[j]? = some v → w.cell? (ad.add j) = some v := fun h0 => by
 obtain ⟨b, off, e, _, _⟩ := h.here h0
 subst e
 exact ⟨_, rfl, h.flat⟩
set_option maxHeartbeats 4000000 in
set_option maxRecDepth 100000 in
theorem replaceA_any (l m : List Ed) (base q cap i n k cm : Nat) (am : Option Addr) (w : World) (hown : EdOwn w base (.slice (some ⟨q, 0, none⟩) n cap) l) (hm : ERow w am m) (hk : m.length = k) (hk1 : k ≤ 1) (hi : n = i + 2) :
 Calls Tryz.prog 41 #[.slice (some ⟨q, 0, none⟩) n cap, .int .i64 i, .int .i64 n, .slice am k cm] w fun e w' =>
  ∃ r, r = i + k ∧ e = .returned (.slice (some ⟨q, 0, none⟩) r cap) ∧ EdOwn w' base (.slice (some ⟨q, 0, none⟩) r cap) (l.take i ++ (m ++ l.drop (i + 2))) ∧ Kept (fun b => b = q) w w' := by
 obtain ⟨hln, hnc, hcm, hbq⟩ := hown.facts
 unfold maxLen at hcm
 have hel : Tryz.prog.elem 27 = 36 := by kernel_rfl
 have hso := Tryz.sizeOf36
 have U := Tryz.underlying27
 obtain ⟨tot, htot⟩ : ∃ tot, i + k = tot := ⟨_, rfl⟩
 have hne : ((i : Int) == (n : Int)) = false := by rw [beq_eq_false_iff_ne]; omega
 have s1 := slice_lh_any U hel hso q n cap i n (i : Int) (n : Int) rfl rfl (by omega) (by omega) (by omega)
 have s2 := slice_h_any U hel hso q n cap i (i : Int) rfl (by omega) (by omega)
 have s3 := slice_l_any U hel hso q n cap tot (tot : Int) rfl (by omega) (by omega)
 obtain ⟨W1, hW1⟩ : ∃ W, w.setCells q (i * 5) (m.flatMap edC) = W := ⟨_, rfl⟩
 have hro : EdOwn W1 base (.slice (some ⟨q, 0, none⟩) n cap) (l.take i ++ m ++ l.drop (i + m.length)) := by rw [← hW1]; exact hown.lay m i (by omega)
 have hk1' : Kept (fun b => b = q) w W1 := by rw [← hW1]; exact kept_lay q _ _ _
 obtain ⟨W2, hcl, hr2, hk2⟩ := clear_end (tot := tot) (l := l.take i ++ (m ++ l.drop (i + 2))) hro (by omega) (by
  rw [List.take_append_of_le_length (by simp; omega), List.take_of_length_le (by simp; omega), List.drop_eq_nil_of_le (by omega), List.append_nil])
 have tlt : decide ((tot : Int) < (n : Int)) = true := by rw [decide_eq_true_eq]; omega
 have tlt' : decide (tot < n) = true := by rw [decide_eq_true_eq]; omega
 obtain ⟨i0, hi0, hz0, hz1, hz2⟩ := info_parts (show (Tryz.prog.info? 36).map (fun i => (i.zero, i.size, i.bytes)) = some (some (.agg #[.int .i64 0, .int .i64 0, .int .i64 0, .int .i64 0, .string ⟨#[]⟩]), 5, 48) by kernel_rfl)
 have HI := Lib.hid (And.intro hi0 hz1)
 have HM := Lib.hid (show 0 < k → _ from hk ▸ hm.src)
 have HL := Lib.hid (show (m.flatMap edC).length = k * 5 by rw [flatEd_len, hk])
 have H1 := Lib.hid (flatEd_one m)
 have HS := Lib.hid (fun (i : Nat) (hi : i < cap * 5) => hown.cellE hi)
 have HW1 := Lib.hid hW1
 have HR := Lib.hid (And.intro hr2 (hk1'.trans hk2))
 have HT := Lib.hid htot
 have HB := Lib.hid (And.intro (show tot ≤ cap by omega) (show i ≤ cap by omega))
 clear hown hm hk hk1 hi hln hW1 hro hk1' hr2 hk2 hi0 hz0 hz1 hz2 htot hbq
 generalize m.flatMap edC = news at *
 go_enter Tryz.func41, Tryz.ntmps41
 go_wp2_with (at_builtin; refine wpList_append_roomE rfl (.tmp 32) (.tmp 33) 27 rfl 36 i0 U HI.out.1 HI.out.2 q i cap rfl am k cm rfl HB.out.2 news HL.out HM.out H1.out tot HT.out HB.out.1 HS.out ?_)
 rw [HW1.out]
 go_wp2_with fail
 rw [hcl]
 go_wp2_with fail
 go_ret
 exact ⟨tot, HT.out.symm, rfl, HR.out.1, HR.out.2⟩
end Go.Proofs.YtgdepcnfjmobjaaGreat

/- A text of this claim. -/
namespace Go.Proofs.YtgdepcnfjmobjaaGreat
open Go.RowKit Go.BigFrame
open Tr (Ed)
theorem rep_stage {w : World} {base q cap i j n k r tot : Nat} {l m : List Ed} (hown : EdOwn w base (.slice (some ⟨q, 0, none⟩) n cap) l) (hk : m.length = k) (hk1 : k ≤ 1) (hj : j = i + 2) (hn : n = j + r) (htot : tot = i + k + r) :
 ∃ W2 W3 W4, w.setCells q (i * 5) (m.flatMap edC) = W2 ∧ W2.drew.setCells q ((i + k) * 5) ((l.drop j).flatMap edC) = W3 ∧
  (Builtin.clear_ #[27] 0 #[.slice (some ⟨q, tot * 5, none⟩) (n - tot) (cap - tot)]).run Tryz.prog W3 = .ok (.tuple #[]) W4 ∧
  EdOwn W4 base (.slice (some ⟨q, 0, none⟩) tot cap) (l.take i ++ (m ++ l.drop j)) ∧ Kept (fun b => b = q) w W4 ∧
  (∀ t v, ((l.drop j).flatMap edC)[t]? = some v → W2.drew.cell? ((⟨q, j * 5, none⟩ : Addr).add t) = some v) ∧
  (∀ t, t < cap * 5 → (w.cell? ⟨q, t, none⟩).isSome = true ∧ w.frozen? ⟨q, t, none⟩ = false) ∧
  (∀ t, t < cap * 5 → (W2.drew.cell? ⟨q, t, none⟩).isSome = true ∧ W2.drew.frozen? ⟨q, t, none⟩ = false) := by
 obtain ⟨hln, hnc, _, _⟩ := hown.facts
 obtain ⟨W2, hW2⟩ : ∃ W, w.setCells q (i * 5) (m.flatMap edC) = W := ⟨_, rfl⟩
 have h2 : EdOwn W2 base (.slice (some ⟨q, 0, none⟩) n cap) (l.take i ++ m ++ l.drop (i + m.length)) := by rw [← hW2]; exact hown.lay m i (by omega)
 have h2d : EdOwn W2.drew base (.slice (some ⟨q, 0, none⟩) n cap) (l.take i ++ m ++ l.drop (i + m.length)) := h2.below (Below.refl _ _).drew
 have hlen : (l.take i ++ m).length = i + k := by simp; omega
 have hL : (l.take i ++ m ++ l.drop (i + m.length)).length = n := by simp; omega
 have hdr : (l.take i ++ m ++ l.drop (i + m.length)).drop j = l.drop j := by
  rw [List.drop_append, List.drop_eq_nil_of_le (by omega), List.nil_append, List.drop_drop, hlen, hk]
  congr 1
  omega
 obtain ⟨W3, hW3⟩ : ∃ W, W2.drew.setCells q ((i + k) * 5) ((l.drop j).flatMap edC) = W := ⟨_, rfl⟩
 have hld : (l.drop j).length = r := by rw [List.length_drop]; omega
 have h3 := h2d.lay (l.drop j) (i + k) (by rw [hL, hld]; omega)
 rw [hW3] at h3
 obtain ⟨W4, hcl, h4, hk4⟩ := clear_end (tot := tot) (l := l.take i ++ (m ++ l.drop j)) h3 (by omega) (by
  have hA : ((l.take i ++ m ++ l.drop (i + m.length)).take (i + k)).length = i + k := by rw [List.length_take, hL]; omega
  rw [List.take_append_of_le_length (by rw [List.length_append, hA, hld]; omega), List.take_of_length_le (by rw [List.length_append, hA, hld]; omega)]
  rw [List.take_append_of_le_length (by omega), List.take_of_length_le (by omega), List.append_assoc])
 refine ⟨W2, W3, W4, hW2, hW3, hcl, h4, ?_, ?_, fun t ht => hown.cellE ht, fun t ht => h2d.cellE ht⟩
 · have a : Kept (fun b => b = q) w W2 := by rw [← hW2]; exact kept_lay q _ _ _
   have b : Kept (fun b => b = q) W2 W3 := by rw [← hW3]; exact (Kept.of_below (Below.refl _ W2).drew).trans (kept_lay q _ _ _)
   exact (a.trans b).trans hk4
 · intro t v hv
   rw [addr_plus]
   refine h2d.at ?_
   rw [← hdr, ← flatEd_drop, List.getElem?_drop] at hv
   exact hv
set_option maxHeartbeats 4000000 in
set_option maxRecDepth 100000 in
theorem replaceB_any (l m : List Ed) (base q cap i j r n k cm : Nat) (am : Option Addr) (w : World) (hown : EdOwn w base (.slice (some ⟨q, 0, none⟩) n cap) l) (hm : ERow w am m) (hk : m.length = k) (hk1 : k ≤ 1) (hj : j = i + 2) (hn : n = j + r) (hr : 0 < r) (hl : l.length ≤ 200) :
 Calls Tryz.prog 41 #[.slice (some ⟨q, 0, none⟩) n cap, .int .i64 i, .int .i64 j, .slice am k cm] w fun e w' =>
  ∃ r, r = i + k + (l.length - j) ∧ e = .returned (.slice (some ⟨q, 0, none⟩) r cap) ∧ EdOwn w' base (.slice (some ⟨q, 0, none⟩) r cap) (l.take i ++ (m ++ l.drop j)) ∧ Kept (fun b => b = q) w w' := by
 obtain ⟨hln, hnc, hcm, hbq⟩ := hown.facts
 unfold maxLen at hcm
 have hel : Tryz.prog.elem 27 = 36 := by kernel_rfl
 have hso := Tryz.sizeOf36
 have U := Tryz.underlying27
 obtain ⟨tot, htot⟩ : ∃ tot, tot = i + k + r := ⟨_, rfl⟩
 have hne : ((i : Int) == (j : Int)) = false := by rw [beq_eq_false_iff_ne]; omega
 have hne2 : ((j : Int) == (n : Int)) = false := by rw [beq_eq_false_iff_ne]; omega
 have s1 := slice_lh_any U hel hso q n cap i j (i : Int) (j : Int) rfl rfl (by omega) (by omega) (by omega)
 have s2 := slice_h_any U hel hso q n cap i (i : Int) rfl (by omega) (by omega)
 have s3 := slice_l_any U hel hso q n cap j (j : Int) rfl (by omega) (by omega)
 rw [show n - j = r by omega] at s3
 have s4 := slice_h_any U hel hso q n cap tot ((i : Int) + (k : Int) + (r : Int)) (by omega) (by omega) (by omega)
 have s5 := slice_l_any U hel hso q tot cap i (i : Int) rfl (by omega) (by omega)
 have s6 := slice_l_any U hel hso q tot cap (i + k) ((i : Int) + (k : Int)) (by omega) (by omega) (by omega)
 have s7 := slice_l_any U hel hso q n cap tot ((i : Int) + (k : Int) + (r : Int)) (by omega) (by omega) (by omega)
 have t1 : decide ((cap : Int) < (i : Int) + (k : Int) + (r : Int)) = false := by rw [decide_eq_false_iff_not]; omega
 have t2 : decide ((i : Int) + (k : Int) ≤ (j : Int)) = true := by rw [decide_eq_true_eq]; omega
 have hwr : IntKind.i64.wrap ((i : Int) + (k : Int)) = (i : Int) + (k : Int) := by rw [IntKind.wrap_i64]; omega
 have hb1 : (i : Int) ≤ 200 := by omega
 have hb2 : (k : Int) ≤ 1 := by omega
 have hb3 : (r : Int) ≤ 200 := by omega
 have HST := Lib.hid (fun (W : World) (hb : Below w.heap.size w W) => rep_stage (hown.below hb) hk hk1 hj hn htot)
 have HM := Lib.hid (fun (W : World) (hb : Below w.heap.size w W) => show 0 < k → _ from hk ▸ (hm.below hb).src)
 obtain ⟨i0, hi0, hz0, hz1, hz2⟩ := info_parts (show (Tryz.prog.info? 36).map (fun i => (i.zero, i.size, i.bytes)) = some (some (.agg #[.int .i64 0, .int .i64 0, .int .i64 0, .int .i64 0, .string ⟨#[]⟩]), 5, 48) by kernel_rfl)
 have HI := Lib.hid (And.intro hi0 hz1)
 have HL := Lib.hid (show (m.flatMap edC).length = k * i0.size by rw [flatEd_len, hk, hz1])
 have HL2 := Lib.hid (show ((l.drop j).flatMap edC).length = r * i0.size by rw [flatEd_len, List.length_drop, hz1]; congr 1; omega)
 have H1 := Lib.hid (flatEd_one m)
 have H2 := Lib.hid (flatEd_one (l.drop j))
 have HT := Lib.hid (show tot = i + k + (l.length - j) by omega)
 have HN1 := Lib.hid (show k = Nat.min k (tot - i) from (Nat.min_eq_left (show k ≤ tot - i by omega)).symm)
 have HN2 := Lib.hid (show r = Nat.min r (tot - (i + k)) from (Nat.min_eq_left (show r ≤ tot - (i + k) by omega)).symm)
 have HB1 := Lib.hid (fun (t : Nat) (ht : t < (m.flatMap edC).length) => show i * 5 + t < cap * 5 by rw [flatEd_len] at ht; omega)
 have HB2 := Lib.hid (fun (t : Nat) (ht : t < ((l.drop j).flatMap edC).length) => show (i + k) * 5 + t < cap * 5 by rw [flatEd_len, List.length_drop] at ht; omega)
 clear hown hm hk hk1 hj hn hr hl hln hnc htot hi0 hz0 hz1 hz2 hbq
 go_enter Tryz.func41, Tryz.ntmps41
 go_wp2_with fail
 go_quiet (fail)
 have HBQ := Lib.hid (below_drewN (Below.refl w.heap.size w) nq)
 obtain ⟨w1, hw1⟩ : ∃ W, w.drewN nq = W := ⟨_, rfl⟩
 rw [hw1]
 rw [hw1] at HBQ
 obtain ⟨W2, W3, W4, hW2, hW3, hcl, hr4, hk4, hsrc, hsp1, hsp2⟩ := HST.out w1 HBQ.out
 have HM1 := Lib.hid (HM.out w1 HBQ.out)
 have HW2 := Lib.hid hW2
 have HW3 := Lib.hid hW3
 have HCL := Lib.hid hcl
 have HR4 := Lib.hid (And.intro hr4 ((Kept.of_below HBQ.out).trans hk4))
 have HSRC := Lib.hid hsrc
 have HSP1 := Lib.hid hsp1
 have HSP2 := Lib.hid hsp2
 clear hw1 hW2 hW3 hcl hr4 hk4 hsrc hsp1 hsp2 HST HM
 generalize m.flatMap edC = newsM at *
 generalize (l.drop j).flatMap edC = newsL at *
 go_wp2_with fail
 rw [run_copyE w1 _ _ _ 36 i0 q (i * 5) (tot - i) (cap - i) am k cm k newsM U HI.out.1 HN1.out HL.out HM1.out H1.out (fun t ht => (HSP1.out _ (HB1.out t ht)).1) (fun t ht => (HSP1.out _ (HB1.out t ht)).2)]
 rw [HW2.out]
 go_wp2_with fail
 refine held_start (C := fun _ => True) (by kernel_rfl) ?_
 obtain ⟨Wd, hWd⟩ : ∃ W, ({ W2 with drawn := W2.drawn + 1 } : World) = W := ⟨_, rfl⟩
 have HWD := Lib.hid (show W2.drew = Wd from hWd)
 rw [hWd]
 rw [HWD.out] at HSRC HSP2 HW3
 clear hWd
 refine held_quiet (by kernel_rfl) (fun _ _ d _ _ h => by cases d <;> exact h) trivial [0, 1, 2, 6, 7, 8] 4 _ _ (by kernel_rfl) ?_
 change wpQuiet _ _ _ _ (_ :: _ :: _ :: _ :: _ :: _ :: []) _
 repeat go_big_quiet_step (fail)
 refine wpQuiet_nil ?_
 refine held_do (i := 3) _ rfl (by kernel_rfl) rfl (fun K hK => ?_)
 go_simp
 refine hK _ _ trivial ?_
 clear hK K
 try simp only [Act.put, List.setIfInBounds_toArray, List.set_cons_zero, List.set_cons_succ]
 refine held_quiet (by kernel_rfl) (fun _ _ d _ _ h => by cases d <;> exact h) trivial [4, 5] 1 _ _ (by kernel_rfl) ?_
 change wpQuiet _ _ _ _ (_ :: _ :: []) _
 repeat go_big_quiet_step (fail)
 refine wpQuiet_nil ?_
 refine held_do (i := 9) _ rfl (by kernel_rfl) rfl (fun K hK => ?_)
 refine wp_copyE (.tmp 103) (.tmp 106) 27 27 rfl 36 i0 U HI.out.1 q ((i + k) * 5) (tot - (i + k)) (cap - (i + k)) (some ⟨q, j * 5, none⟩) r (cap - j) r rfl rfl newsL HN2.out HL2.out (fun _ => ⟨_, rfl, HSRC.out⟩) H2.out (fun t ht => (HSP2.out _ (HB2.out t ht)).1) (fun t ht => (HSP2.out _ (HB2.out t ht)).2) ?_
 refine hK _ _ trivial ?_
 clear hK K
 refine wpAnyH_done (by kernel_rfl) ?_ _
 all_goals
  rw [HW3.out]
  go_wp2_with fail
  rw [HCL.out]
  go_wp2_with fail
  go_ret
  exact ⟨tot, HT.out, rfl, HR4.out.1, HR4.out.2⟩
end Go.Proofs.YtgdepcnfjmobjaaGreat

/- A text of this claim. -/
namespace Go.Proofs.YtgdepcnfjmobjaaGreat
open Go.RowKit Go.BigFrame
open Tr (Ed)
theorem replaceE_any (l m : List Ed) (base q cap i j n k cm : Nat) (am : Option Addr) (w : World) (hown : EdOwn w base (.slice (some ⟨q, 0, none⟩) n cap) l) (hm : ERow w am m) (hk : m.length = k) (hk1 : k ≤ 1) (hj : j = i + 2) (hn : j ≤ n) (hl : l.length ≤ 200) :
 Calls Tryz.prog 41 #[.slice (some ⟨q, 0, none⟩) n cap, .int .i64 i, .int .i64 j, .slice am k cm] w fun e w' =>
  ∃ r, e = .returned (.slice (some ⟨q, 0, none⟩) r cap) ∧ EdOwn w' base (.slice (some ⟨q, 0, none⟩) r cap) (l.take i ++ (m ++ l.drop j)) ∧ Kept (fun b => b = q) w w' := by
 subst hj
 by_cases h : i + 2 = n
 · subst h
   exact (replaceA_any l m base q cap i (i + 2) k cm am w hown hm hk hk1 rfl).mono fun e w' ⟨r, _, h1, h2, h3⟩ => ⟨r, h1, h2, h3⟩
 · exact (replaceB_any l m base q cap i (i + 2) (n - (i + 2)) n k cm am w hown hm hk hk1 rfl (by omega) (by omega) hl).mono fun e w' ⟨r, _, h1, h2, h3⟩ => ⟨r, h1, h2, h3⟩
theorem flatEd_set : ∀ (l : List Ed) (i : Nat) (u : Ed), i < l.length →
 ((((((l.flatMap edC).set (i * 5) (.int .i64 u.k)).set (i * 5 + 1) (.int .i64 u.n)).set (i * 5 + 2) (.int .i64 u.f)).set (i * 5 + 3) (.int .i64 u.t)).set (i * 5 + 4) (.string u.s)) = (l.set i u).flatMap edC
 | [], _, _, h => absurd h (by simp)
 | a :: l, 0, u, _ => by simp [edC]
 | a :: l, i + 1, u, h => by
  have ih := flatEd_set l i u (by simpa using h)
  rw [List.set_cons_succ, List.flatMap_cons, List.flatMap_cons, ← ih, show (i + 1) * 5 = i * 5 + 1 + 1 + 1 + 1 + 1 by omega]
  simp [edC, List.set_cons_succ]
theorem EdOwn.set {w : World} {base q n cap : Nat} {l : List Ed} (h : EdOwn w base (.slice (some ⟨q, 0, none⟩) n cap) l) (i : Nat) (hi : i < l.length) (u : Ed) :
 ∃ W, (((((w.setCell ⟨q, i * 5, none⟩ (.int .i64 u.k)).setCell ⟨q, i * 5 + 1, none⟩ (.int .i64 u.n)).setCell ⟨q, i * 5 + 2, none⟩ (.int .i64 u.f)).setCell ⟨q, i * 5 + 3, none⟩ (.int .i64 u.t)).setCell ⟨q, i * 5 + 4, none⟩ (.string u.s)) = W ∧
  EdOwn W base (.slice (some ⟨q, 0, none⟩) n cap) (l.set i u) ∧ Kept (fun b => b = q) w W := by
 obtain ⟨e, _⟩ := h.facts
 subst e
 unfold EdOwn at h ⊢
 have h1 := (h.stored (i * 5) (.int .i64 u.k)).1
 have h2 := (h1.stored (i * 5 + 1) (.int .i64 u.n)).1
 have h3 := (h2.stored (i * 5 + 2) (.int .i64 u.f)).1
 have h4 := (h3.stored (i * 5 + 3) (.int .i64 u.t)).1
 have h5 := (h4.stored (i * 5 + 4) (.string u.s)).1
 rw [flatEd_set l i u hi] at h5
 refine ⟨_, rfl, by rw [List.length_set]; exact h5, kept_setE (kept_setE (kept_setE (kept_setE (kept_setE (Kept.refl _ _) rfl) rfl) rfl) rfl) rfl⟩
end Go.Proofs.YtgdepcnfjmobjaaGreat

/- A text of this claim. -/
namespace Go.Proofs.YtgdepcnfjmobjaaGreat
open Go.RowKit Go.BigFrame
open Tr (Ed isZero united bef rule1 rule2 rule3 fstIdx)
def TidR (base : Nat) (w : World) (l : List Ed) (e : Ending) (w' : World) : Prop :=
 ∃ v b l', e = .returned (.tuple #[v, .bool b]) ∧ EdOwn w' base v l' ∧ Kept (fun k => base ≤ k) w w' ∧ (Tr.step l = if b = true then Option.some l' else Option.none) ∧ (b = false → l' = l)
theorem Kept.wide {O O' : Nat → Prop} {w w' : World} (h : Kept O w w') (hO : ∀ k, O k → O' k) : Kept O' w w' := ⟨h.os, h.tape, h.output, h.size, fun k hk hn => h.block k hk (fun e => hn (hO k e))⟩
theorem step1 {l m : List Ed} (h : rule1 l = some m) : Tr.step l = some m := by unfold Tr.step; rw [h]; rfl
theorem step2 {l m : List Ed} (h1 : rule1 l = none) (h : rule2 l = some m) : Tr.step l = some m := by unfold Tr.step; rw [h1, h]; rfl
theorem step3 {l : List Ed} (h1 : rule1 l = none) (h2 : rule2 l = none) : Tr.step l = rule3 l := by unfold Tr.step; rw [h1, h2]; rfl
theorem EdOwn.cells {w : World} {base q n cap : Nat} {l : List Ed} (h : EdOwn w base (.slice (some ⟨q, 0, none⟩) n cap) l) {i : Nat} {x : Ed} (hx : l[i]? = some x) :
 w.cell? ⟨q, i * 5, none⟩ = some (.int .i64 x.k) ∧ w.cell? ⟨q, i * 5 + 1, none⟩ = some (.int .i64 x.n) ∧ w.cell? ⟨q, i * 5 + 2, none⟩ = some (.int .i64 x.f) ∧ w.cell? ⟨q, i * 5 + 3, none⟩ = some (.int .i64 x.t) ∧ w.cell? ⟨q, i * 5 + 4, none⟩ = some (.string x.s) :=
 ⟨h.at (flatEd_get l i x hx 0 _ rfl), h.at (flatEd_get l i x hx 1 _ rfl), h.at (flatEd_get l i x hx 2 _ rfl), h.at (flatEd_get l i x hx 3 _ rfl), h.at (flatEd_get l i x hx 4 _ rfl)⟩
theorem swap_list : ∀ {l : List Ed} (k : Nat) {x y : Ed}, l[k]? = some x → l[k + 1]? = some y → (l.set k y).set (k + 1) x = l.take k ++ (y :: x :: l.drop (k + 2))
 | [], _, _, _, h, _ => by simp at h
 | [_], 0, _, _, _, h => by simp at h
 | a :: b :: l, 0, x, y, h1, h2 => by
  simp only [List.getElem?_cons_zero, Option.some.injEq] at h1
  simp only [Nat.zero_add, List.getElem?_cons_succ, List.getElem?_cons_zero, Option.some.injEq] at h2
  subst h1 h2
  rfl
 | a :: l, k + 1, x, y, h1, h2 => by
  have ih := swap_list (l := l) k (by simpa using h1) (by simpa using h2)
  rw [List.set_cons_succ, List.set_cons_succ, ih]
  rfl
set_option maxHeartbeats 4000000 in
set_option maxRecDepth 100000 in
theorem tidied_any (l : List Ed) (base q cap n : Nat) (w : World) (hown : EdOwn w base (.slice (some ⟨q, 0, none⟩) n cap) l) (hl : l.length ≤ 200) (hn0 : 0 < n) (hc : ∀ x, x ∈ l → chkE x = 0) :
 Calls Tryz.prog 24 #[.slice (some ⟨q, 0, none⟩) n cap] w fun e w' => TidR base w l e w' := by
 obtain ⟨hln, hnc, hcm, hbq⟩ := hown.facts
 unfold maxLen at hcm
 obtain ⟨a0, c0, e0, hlc, hrow, _⟩ := hown.row
 injection e0 with e1 e2 e3
 subst e1 e3
 have DI := indexE_any (some ⟨q, 0, none⟩) l cap w hrow (by omega)
 rw [← hln] at DI
 have HO := Lib.hid hown
 have HC := Lib.hid hc
 have hq : ∀ b, b = q → base ≤ b := fun b e => by omega
 have HQ := Lib.hid hq
 rcases Tr.rule1_idx l 0 with ⟨i1, r1⟩ | ⟨j, hj, i1, r1⟩
 case inr =>
  rw [i1, Nat.zero_add] at DI
  have HDI := Lib.hid DI
  have hst := Lib.hid (step1 r1)
  obtain ⟨n1, hn1⟩ : ∃ n1, n = n1 + 1 := ⟨n - 1, by omega⟩
  have DD := fun (W : World) (hb : Below w.heap.size w W) => deleteE_any l base q cap j (j + 1) n n1 W (hown.below hb) hl (by omega) rfl hn1
  simp only [Int.natCast_add, Int.natCast_one] at DD
  have HDD := Lib.hid DD
  have t0 : decide ((0 : Int) ≤ (j : Int)) = true := by rw [decide_eq_true_eq]; omega
  have hj2 : (j : Int) ≤ 200 := by omega
  clear hown hc DI DD i1 r1 hn1 hj hl hln hrow hlc e2 hq
  go_enter Tryz.func24, Tryz.ntmps24
  go_wp2_with fail
  refine HDI.out.mono ?_
  rintro e w1 ⟨rfl, hb1⟩
  have HB1 := Lib.hid hb1
  clear hb1
  go_wp2_with fail
  refine (HDD.out w1 HB1.out).mono ?_
  rintro e w2 ⟨rfl, ho2, hk2⟩
  have HO2 := Lib.hid (And.intro ho2 hk2)
  clear ho2 hk2
  go_wp2_with fail
  go_ret2
  exact ⟨_, true, _, rfl, HO2.out.1, (Kept.of_below HB1.out).trans (HO2.out.2.wide HQ.out), hst.out, fun h => by cases h⟩
 case inl =>
  rw [i1] at DI
  have HDI := Lib.hid DI
  have HR1 := Lib.hid r1
  have HLN := Lib.hid (And.intro hln hl)
  clear DI i1 r1 hown hc hq hln hrow hlc e2 hl
  go_enter Tryz.func24, Tryz.ntmps24
  go_wp2_with fail
  refine HDI.out.mono ?_
  rintro e w1 ⟨rfl, hb1⟩
  obtain ⟨X0, rfl⟩ : ∃ X : Ext w, w1 = X.1 := ⟨⟨w1, hb1⟩, rfl⟩
  clear hb1
  go_wp2_with fail
  go_loopw [5] (fun iv wr => ∃ (k : Nat), iv = .int .i64 ((k : Int) + 1) ∧ k + 1 ≤ n ∧ Hid (rule2 l = (rule2 (l.drop k)).map (l.take k ++ ·)) ∧ ∃ X : Ext w, wr = X.1) (fun iv _ => n - (intOf iv).toNat)
  case atStart => exact ⟨0, rfl, by omega, Lib.hid (Tr.rule2_start l), X0, rfl⟩
  case round =>
   obtain ⟨k, rfl, hk, HE, X, rfl⟩ := hrel
   by_cases hlt : k + 1 < n
   · have t1 : decide ((k : Int) + 1 < (n : Int)) = true := by rw [decide_eq_true_eq]; omega
     obtain ⟨x, hx⟩ : ∃ x, l[k]? = some x := ⟨_, List.getElem?_eq_getElem (by have := HLN.out.1; omega)⟩
     obtain ⟨y, hy⟩ : ∃ y, l[k + 1]? = some y := ⟨_, List.getElem?_eq_getElem (by have := HLN.out.1; omega)⟩
     obtain ⟨hg1, hg2⟩ := Tr.rule2_go hx hy HE.out
     obtain ⟨x0, x1, x2, x3, x4⟩ := (HO.out.below X.2).cells hx
     obtain ⟨y0, y1, y2, y3, y4⟩ := (HO.out.below X.2).cells hy
     have X0 := Ext.ex x0
     have X1 := Ext.ex x1
     have X2 := Ext.ex x2
     have X3 := Ext.ex x3
     have X4 := Ext.ex x4
     have Y0 := Ext.ex y0
     have Y1 := Ext.ex y1
     have Y2 := Ext.ex y2
     have Y3 := Ext.ex y3
     have Y4 := Ext.ex y4
     have DU := Lib.hid (fun W => united_any x y W (HC.out x (List.mem_of_getElem? hx)) (HC.out y (List.mem_of_getElem? hy)))
     have hn200 : n ≤ 200 := by have := HLN.out; omega
     have hwr : IntKind.i64.wrap ((k : Int) + 1 - 1) = (k : Int) := by rw [IntKind.wrap_i64]; omega
     have hsub : (k : Int) + 1 - 1 = (k : Int) := by omega
     have HG := Lib.hid (And.intro hg1 hg2)
     clear x0 x1 x2 x3 x4 y0 y1 y2 y3 y4 hx hy hg1 hg2 HE
     unfold edV at DU
     go_wp2_with fail
     refine held_start (C := fun w' => ∃ Z : Ext X.1, w' = Z.1) (by kernel_rfl) ?_
     obtain ⟨Z0, hZ0⟩ : ∃ Z : Ext X.1, ({ X.1 with drawn := X.1.drawn + 1 } : World) = Z.1 := ⟨⟨{ X.1 with drawn := X.1.drawn + 1 }, ⟨rfl, rfl, rfl, Nat.le_refl _, fun _ _ => rfl⟩⟩, rfl⟩
     rw [hZ0]
     clear hZ0
     refine held_quiet (by kernel_rfl) (fun _ _ d _ _ h => by cases d <;> exact h) ⟨Z0, rfl⟩ [0, 1, 2, 3, 4, 5, 6, 7, 8] 6 _ _ (by kernel_rfl) ?_
     change wpQuiet _ _ _ _ (_ :: _ :: _ :: _ :: _ :: _ :: _ :: _ :: _ :: []) _
     repeat go_big_quiet_step (fail)
     refine wpQuiet_nil ?_
     refine held_do (i := 9) _ rfl (by kernel_rfl) rfl (fun K hK => ?_)
     go_simp
     refine (DU.out _).mono ?_
     rintro e w2 ⟨⟨v, rfl, hv⟩, hb2⟩
     have HB2 := Lib.hid (below_step (below_step X.2 Z0.2) hb2)
     have HV := Lib.hid hv
     obtain ⟨Z2, rfl⟩ : ∃ Z : Ext X.1, w2 = Z.1 := ⟨⟨w2, below_step Z0.2 hb2⟩, rfl⟩
     refine hK _ _ ⟨Z2, rfl⟩ ?_
     clear hK K hb2 hv
     try simp only [Act.put, List.setIfInBounds_toArray, List.set_cons_zero, List.set_cons_succ]
     refine held_quiet (by kernel_rfl) (fun _ _ d _ _ h => by cases d <;> exact h) ⟨Z2, rfl⟩ [10, 11, 12, 13, 14] 0 _ _ (by kernel_rfl) ?_
     change wpQuiet _ _ _ _ (_ :: _ :: _ :: _ :: _ :: []) _
     repeat go_big_quiet_step (fail)
     refine wpQuiet_nil ?_
     refine wpAnyH_done (by kernel_rfl) ?_ _
     cases hu : united x y with
     | none =>
      have HN := Lib.hid (HG.out.2 hu)
      clear hu
      simp only [Option.isSome]
      go_wp2_with fail
      go_roundw
      case rel => exact ⟨k + 1, by go_num, by omega, HN, ⟨Z2.1, HB2.out⟩, rfl⟩
      case measure => simp [intOf]; omega
     | some m =>
      have HS := Lib.hid (step2 HR1.out (HG.out.1 m hu))
      obtain ⟨am, cm, rfl, _, hrm, _⟩ := (HV.out m hu).row
      have hml := Tr.united_len hu
      have DR := replaceE_any l m base q cap k (k + 2) n m.length cm am Z2.1 (HO.out.below HB2.out) hrm rfl hml rfl (by omega) HLN.out.2
      simp only [Int.natCast_add, Int.cast_ofNat_Int] at DR
      have HDR := Lib.hid DR
      have hwr2 : IntKind.i64.wrap ((k : Int) + 1 + 1) = (k : Int) + 2 := by rw [IntKind.wrap_i64]; omega
      clear hu hrm DR
      simp only [Option.isSome]
      go_wp2_with fail
      refine HDR.out.mono ?_
      rintro e w3 ⟨r, rfl, ho3, hk3⟩
      have HO3 := Lib.hid (And.intro ho3 hk3)
      clear ho3 hk3
      go_wp2_with fail
      go_ret2
      exact ⟨_, true, _, rfl, HO3.out.1, (Kept.of_below HB2.out).trans (HO3.out.2.wide HQ.out), HS.out, fun h => by cases h⟩
   · have t1 : decide ((k : Int) + 1 < (n : Int)) = false := by rw [decide_eq_false_iff_not]; omega
     have HR2 := Lib.hid (Tr.rule2_end (by have := HLN.out.1; omega) HE.out)
     clear HE hlt
     go_wp2_with fail
     go_loopw [8] (fun iv wr => ∃ (k : Nat), iv = .int .i64 ((k : Int) + 1) ∧ k + 1 ≤ n ∧ Hid (rule3 l = (rule3 (l.drop k)).map (l.take k ++ ·)) ∧ ∃ X : Ext w, wr = X.1) (fun iv _ => n - (intOf iv).toNat)
     case atStart => exact ⟨0, rfl, by omega, Lib.hid (Tr.rule3_start l), X, rfl⟩
     case round =>
      obtain ⟨k, rfl, hk, HE, X, rfl⟩ := hrel
      by_cases hlt : k + 1 < n
      · have t2 : decide ((k : Int) + 1 < (n : Int)) = true := by rw [decide_eq_true_eq]; omega
        obtain ⟨x, hx⟩ : ∃ x, l[k]? = some x := ⟨_, List.getElem?_eq_getElem (by have := HLN.out.1; omega)⟩
        obtain ⟨y, hy⟩ : ∃ y, l[k + 1]? = some y := ⟨_, List.getElem?_eq_getElem (by have := HLN.out.1; omega)⟩
        obtain ⟨hg1, hg2⟩ := Tr.rule3_go hx hy HE.out
        obtain ⟨x0, x1, x2, x3, x4⟩ := (HO.out.below X.2).cells hx
        obtain ⟨y0, y1, y2, y3, y4⟩ := (HO.out.below X.2).cells hy
        have X0 := Ext.ex x0
        have X1 := Ext.ex x1
        have X2 := Ext.ex x2
        have X3 := Ext.ex x3
        have X4 := Ext.ex x4
        have Y0 := Ext.ex y0
        have Y1 := Ext.ex y1
        have Y2 := Ext.ex y2
        have Y3 := Ext.ex y3
        have Y4 := Ext.ex y4
        have DO := Lib.hid (fun (Z : Ext X.1) => Z.calls (order_any y x Z.1 (chkE_kind (HC.out y (List.mem_of_getElem? hy))) (chkE_kind (HC.out x (List.mem_of_getElem? hx)))))
        have hn200 : n ≤ 200 := by have := HLN.out; omega
        have hwr : IntKind.i64.wrap ((k : Int) + 1 - 1) = (k : Int) := by rw [IntKind.wrap_i64]; omega
        have hsub : (k : Int) + 1 - 1 = (k : Int) := by omega
        have HG := Lib.hid (And.intro hg1 hg2)
        have hov := ordV_neg y x
        have HXY := Lib.hid (And.intro hx hy)
        generalize ordV y x = ov at *
        clear x0 x1 x2 x3 x4 y0 y1 y2 y3 y4 hx hy hg1 hg2 HE
        unfold edV at DO
        cases hb : bef y x
        · rw [hb] at hov
          have HN := Lib.hid (HG.out.2 hb)
          clear hb
          go_wp2_with fail
          refine wp_region_ext (W := X.1) ⟨X.1, Below.refl _ _⟩ (by kernel_rfl) (by kernel_rfl) ?_
          repeat go_big_quiet_step (exact DO.out _)
          refine wpQuiet_nil ?_
          intro _ hw'
          obtain ⟨Z2, rfl⟩ := hw'
          have HB2 := Lib.hid (below_step X.2 Z2.2)
          go_wp2_with fail
          go_roundw
          case rel => exact ⟨k + 1, by go_num, by omega, HN, ⟨Z2.1, HB2.out⟩, rfl⟩
          case measure => simp [intOf]; omega
        · rw [hb] at hov
          have HS := Lib.hid (HG.out.1 hb)
          have fz : ∀ (Z : Ext X.1) (t : Nat), t < cap * 5 → (Z.1.frozen? ⟨q, t, none⟩ = false) := fun Z t ht => ((HO.out.below (below_step X.2 Z.2)).cellE ht).2
          have HFZ := Lib.hid fz
          clear hb fz
          go_wp2_with fail
          refine wp_region_ext (W := X.1) ⟨X.1, Below.refl _ _⟩ (by kernel_rfl) (by kernel_rfl) ?_
          repeat go_big_quiet_step (exact DO.out _)
          refine wpQuiet_nil ?_
          intro _ hw'
          obtain ⟨Z2, rfl⟩ := hw'
          have HB2 := Lib.hid (below_step X.2 Z2.2)
          have f0 := HFZ.out Z2 (k * 5) (by omega)
          have f1 := HFZ.out Z2 (k * 5 + 1) (by omega)
          have f2 := HFZ.out Z2 (k * 5 + 2) (by omega)
          have f3 := HFZ.out Z2 (k * 5 + 3) (by omega)
          have f4 := HFZ.out Z2 (k * 5 + 4) (by omega)
          have g0 := HFZ.out Z2 ((k + 1) * 5) (by omega)
          have g1 := HFZ.out Z2 ((k + 1) * 5 + 1) (by omega)
          have g2 := HFZ.out Z2 ((k + 1) * 5 + 2) (by omega)
          have g3 := HFZ.out Z2 ((k + 1) * 5 + 3) (by omega)
          have g4 := HFZ.out Z2 ((k + 1) * 5 + 4) (by omega)
          go_wp2_with fail
          go_region
          obtain ⟨V1, hV1, ho1, hk1⟩ := (HO.out.below HB2.out).set k (by have := HLN.out.1; omega) y
          obtain ⟨V2, hV2, ho2, hk2⟩ := ho1.set (k + 1) (by rw [List.length_set]; have := HLN.out.1; omega) x
          rw [hV1, hV2]
          rw [swap_list k HXY.out.1 HXY.out.2] at ho2
          have HO2 := Lib.hid (And.intro ho2 (hk1.trans hk2))
          clear hV1 ho1 hk1 hV2 ho2 hk2
          go_wp2_with fail
          go_ret2
          exact ⟨_, true, _, rfl, HO2.out.1.below (Below.refl _ _).drew, ((Kept.of_below HB2.out).trans (HO2.out.2.wide HQ.out)).trans (Kept.of_below (Below.refl _ _).drew), by rw [step3 HR1.out HR2.out, HS.out]; rfl, fun h => by cases h⟩
      · have t2 : decide ((k : Int) + 1 < (n : Int)) = false := by rw [decide_eq_false_iff_not]; omega
        have HR3 := Lib.hid (Tr.rule3_end (by have := HLN.out.1; omega) HE.out)
        have HX := Lib.hid X.2
        clear HE hlt
        go_wp2_with fail
        go_ret2
        exact ⟨_, false, l, rfl, HO.out.below HX.out, Kept.of_below HX.out, by rw [step3 HR1.out HR2.out, HR3.out]; rfl, fun _ => rfl⟩
end Go.Proofs.YtgdepcnfjmobjaaGreat

/- A text of this claim. -/
namespace Go.Proofs.YtgdepcnfjmobjaaGreat
open Go.RowKit Go.BigFrame
open Tr (Ed isZero united bef rule1 rule2 rule3 fstIdx)
theorem edC_inj {x y : Ed} (h : edC x = edC y) : x = y := by
 unfold edC at h
 simp only [List.cons.injEq, Value.int.injEq, Value.string.injEq, true_and, and_true] at h
 exact Tr.Ed.ext' h.1 h.2.1 h.2.2.1 h.2.2.2.1 h.2.2.2.2
theorem flatEd_inj : ∀ {l m : List Ed}, l.flatMap edC = m.flatMap edC → l = m
 | [], [], _ => rfl
 | [], y :: m, h => by simp [edC] at h
 | x :: l, [], h => by simp [edC] at h
 | x :: l, y :: m, h => by
  rw [List.flatMap_cons, List.flatMap_cons] at h
  obtain ⟨h1, h2⟩ := List.append_inj h rfl
  rw [edC_inj h1, flatEd_inj h2]
theorem EdOwn.uniq {w : World} {base base' : Nat} {v : Value} {l m : List Ed} (h : EdOwn w base v l) (k : EdOwn w base' v m) : l = m := by
 rcases h.2 with ⟨e, h0⟩ | ⟨g, cap, cur, e, _, hg, _, _, _, ht⟩
 · subst e
   rcases k.2 with ⟨_, k0⟩ | ⟨g', cap', cur', e', _⟩
   · rw [List.length_eq_zero_iff.1 h0, List.length_eq_zero_iff.1 k0]
   · cases e'
 · subst e
   rcases k.2 with ⟨e', _⟩ | ⟨g', cap', cur', e', _, kg, _, _, _, kt⟩
   · cases e'
   · injection e' with e1 e2 e3
     injection e1 with e1
     injection e1 with e1
     subst e1
     rw [hg] at kg
     injection kg with kg
     injection kg with kg
     subst kg
     rw [← e2, ht] at kt
     exact flatEd_inj kt
set_option maxHeartbeats 1000000 in
theorem tidied_nil (a : Option Addr) (c base : Nat) (w : World) (hown : EdOwn w base (.slice a 0 c) []) :
 Calls Tryz.prog 24 #[.slice a 0 c] w fun e w' => TidR base w [] e w' := by
 have DI := indexE_any a [] c w ⟨fun h => by simp at h⟩ (by simp)
 change Calls _ _ _ _ (fun e w' => e = .returned (.int .i64 (-1)) ∧ _) at DI
 have HDI := Lib.hid DI
 have HO := Lib.hid hown
 clear DI hown
 simp only [List.length_nil] at HDI
 go_enter Tryz.func24, Tryz.ntmps24
 go_wp2_with fail
 refine HDI.out.mono ?_
 rintro e w1 ⟨rfl, hb1⟩
 have HB := Lib.hid hb1
 clear hb1
 go_wp2_with fail
 go_loopw [5] (fun iv wr => iv = .int .i64 1 ∧ w1 = wr) (fun _ _ => 0)
 case atStart => exact ⟨rfl, rfl⟩
 case round =>
  obtain ⟨rfl, rfl⟩ := hrel
  go_wp2_with fail
  go_loopw [8] (fun iv wr => iv = .int .i64 1 ∧ w1 = wr) (fun _ _ => 0)
  case atStart => exact ⟨rfl, rfl⟩
  case round =>
   obtain ⟨rfl, rfl⟩ := hrel
   go_wp2_with fail
   go_ret2
   exact ⟨_, false, [], rfl, HO.out.below HB.out, Kept.of_below HB.out, rfl, fun _ => rfl⟩
end Go.Proofs.YtgdepcnfjmobjaaGreat

/- A text of this claim. -/
namespace Go.Proofs.YtgdepcnfjmobjaaGreat
open Go.RowKit Go.BigFrame
open Tr (Ed)
def tidyR (l : List Ed) : List Ed := if chkEL l = 0 then Tr.tidyL l else []
theorem eps_own {w : World} {b : Nat} {v : Value} {l : List Ed} (h : EdOwn w b v l) : Classical.epsilon (fun l => ∃ b, EdOwn w b v l) = l := by
 obtain ⟨b', h'⟩ := Classical.epsilon_spec (p := fun l => ∃ b, EdOwn w b v l) ⟨l, b, h⟩
 exact h'.uniq h
theorem tidied_own (l : List Ed) (base : Nat) (v : Value) (w : World) (hown : EdOwn w base v l) (hl : l.length ≤ 200) (hc : ∀ x, x ∈ l → chkE x = 0) : Calls Tryz.prog 24 #[v] w fun e w' => TidR base w l e w' := by
 rcases hown.2 with ⟨rfl, h0⟩ | ⟨q, cap, cur, rfl, _⟩
 · obtain rfl := List.length_eq_zero_iff.1 h0
   exact tidied_nil none 0 base w hown
 · cases l with
   | nil => exact tidied_nil _ cap base w hown
   | cons x l => exact tidied_any (x :: l) base q cap _ w hown hl (by simp) hc
theorem kept_from {base : Nat} {w w1 w2 : World} (h : Below w.heap.size w w1) (hb : w.heap.size ≤ base) (hk : Kept (fun k => base ≤ k) w1 w2) : Below w.heap.size w w2 :=
 Kept.below h hk h.size (fun k hk e => by omega)
theorem tidy_next {l m m' : List Ed} {w wr w3 : World} {v v3 : Value} {b3 : Bool}
 (h : EdOwn wr w.heap.size v m ∧ Below w.heap.size w wr ∧ m.length ≤ 200 ∧ (∀ x, x ∈ m → chkE x = 0) ∧ Tr.tidyL l = Tr.tidyL m ∧ (true = false → Tr.step m = none))
 (k : EdOwn w3 w.heap.size v3 m' ∧ Kept (fun k => w.heap.size ≤ k) wr w3 ∧ (Tr.step m = if b3 = true then some m' else none) ∧ (b3 = false → m' = m)) :
 EdOwn w3 w.heap.size v3 m' ∧ Below w.heap.size w w3 ∧ m'.length ≤ 200 ∧ (∀ x, x ∈ m' → chkE x = 0) ∧ Tr.tidyL l = Tr.tidyL m' ∧ (b3 = false → Tr.step m' = none) := by
 obtain ⟨_, h2, h3, h4, h5, _⟩ := h
 obtain ⟨k1, k2, k3, k4⟩ := k
 refine ⟨k1, kept_from h2 (Nat.le_refl _) k2, ?_⟩
 cases b3
 · obtain rfl := k4 rfl
   exact ⟨h3, h4, h5, fun _ => k3⟩
 · exact ⟨Nat.le_trans (Tr.step_mu h3 k3).2 h3, Tr.step_all united_ok k3 h4, by rw [h5, Tr.tidyL_step h3 k3], fun h => by cases h⟩
set_option maxHeartbeats 2000000 in
theorem tidy_any (a : Option Addr) (l : List Ed) (c : Nat) (w : World) (hr : ERow w a l) (hs : ∀ x, x ∈ l → x.s.size ≤ maxLen) :
 Calls Tryz.prog 13 #[.slice a l.length c] w fun e w' => (∃ v, e = .returned (.tuple #[v, .int .i64 (chkEL l)]) ∧ EdOwn w' w.heap.size v (tidyR l)) ∧ Below w.heap.size w w' := by
 have DC := Lib.hid (checkEdits_any a l c w hr hs)
 have DK := Lib.hid (fun (hn : l.length ≤ 1000000) (X : Ext w) => cloneE_any a l c X.1 (hr.below X.2) hn)
 have HT : Hid (tidyR l = if chkEL l = 0 then Tr.tidyL l else []) := Lib.hid rfl
 have HCK := Lib.hid (fun (h : chkEL l = 0) => show l.length ≤ 200 ∧ ∀ x, x ∈ l → chkE x = 0 from by
  unfold chkEL at h
  split at h
  · cases h
  · exact ⟨by omega, chkEs_zero.1 h⟩)
 obtain ⟨n, hnn⟩ : ∃ n, l.length = n := ⟨_, rfl⟩
 rw [hnn] at DC DK ⊢
 have HNN := Lib.hid hnn
 generalize chkEL l = r at *
 clear hr hs hnn
 by_cases h0 : r = 0
 · subst h0
   have HT2 := Lib.hid (HT.out.trans (if_pos rfl))
   have HC := Lib.hid (HCK.out rfl)
   clear HT HCK
   go_enter Tryz.func13, Tryz.ntmps13
   go_wp2_with fail
   refine DC.out.mono ?_
   rintro e w1 ⟨rfl, hb1⟩
   obtain ⟨X, rfl⟩ : ∃ X : Ext w, w1 = X.1 := ⟨⟨w1, hb1⟩, rfl⟩
   clear hb1
   go_wp2_with fail
   refine (DK.out (by have := HC.out.1; have := HNN.out; omega) X).mono ?_
   rintro e w2 ⟨⟨v, rfl, ho⟩, hb2⟩
   have HO := Lib.hid (ho.weaken X.2.size)
   have HB := Lib.hid (X.2.trans (hb2.mono X.2.size))
   clear ho hb2 DC DK
   go_wp2_with fail
   go_loopw [5, 6] (fun vv bv wr => ∃ (b : Bool) (m : List Ed), bv = .bool b ∧ Hid (EdOwn wr w.heap.size vv m ∧ Below w.heap.size w wr ∧ m.length ≤ 200 ∧ (∀ x, x ∈ m → chkE x = 0) ∧ Tr.tidyL l = Tr.tidyL m ∧ (b = false → Tr.step m = none)))
    (fun vv bv wr => 2 * Tr.mu (Classical.epsilon (fun l => ∃ b, EdOwn wr b vv l)) + (match bv with | .bool true => 1 | _ => 0))
   case atStart => exact ⟨true, l, rfl, Lib.hid ⟨HO.out, HB.out, HC.out.1, HC.out.2, rfl, fun h => by cases h⟩⟩
   case round =>
    obtain ⟨b, m, rfl, HH⟩ := hrel
    cases b
    · have HF := Lib.hid (show tidyR l = m by
       obtain ⟨_, _, _, _, h5, h6⟩ := HH.out
       rw [HT2.out, h5, Tr.tidyL_none (h6 rfl)])
      go_wp2_with fail
      go_ret2
      exact ⟨⟨_, rfl, by rw [HF.out]; exact HH.out.1⟩, HH.out.2.1⟩
    · have DT := Lib.hid (tidied_own m w.heap.size _ wr HH.out.1 HH.out.2.2.1 HH.out.2.2.2.1)
      go_wp2_with fail
      refine DT.out.mono ?_
      rintro e w3 ⟨v3, b3, m3, rfl, ho3, hk3, hst3, hsm3⟩
      have HR3 := Lib.hid (And.intro ho3 (And.intro hk3 (And.intro hst3 hsm3)))
      clear ho3 hk3 hst3 hsm3
      go_wp2_with fail
      go_roundw
      case rel => exact ⟨b3, m3, rfl, Lib.hid (tidy_next HH.out HR3.out)⟩
      case measure =>
       obtain ⟨ho3, _, hst3, hsm3⟩ := HR3.out
       rw [eps_own HH.out.1, eps_own ho3]
       cases b3
       · rw [hsm3 rfl]
         simp
       · have := (Tr.step_mu HH.out.2.2.1 hst3).1
         simp only
         omega
 · have hne : (r != 0) = true := by rw [bne_iff_ne]; exact h0
   have HT2 := Lib.hid (HT.out.trans (if_neg h0))
   clear HT HCK DK h0
   go_enter Tryz.func13, Tryz.ntmps13
   go_wp2_with fail
   refine DC.out.mono ?_
   rintro e w1 ⟨rfl, hb1⟩
   have HB := Lib.hid hb1
   clear hb1
   go_wp2_with fail
   go_ret2
   exact ⟨⟨_, rfl, by rw [HT2.out]; exact EdOwn.nil _ _⟩, HB.out⟩
end Go.Proofs.YtgdepcnfjmobjaaGreat

/- A text of this claim. -/
namespace Go.Proofs.YtgdepcnfjmobjaaGreat
open Go.RowKit Go.BigFrame
open Tr (Ed inR)
end Go.Proofs.YtgdepcnfjmobjaaGreat

/- A text of this claim. -/
namespace Go.Proofs.YtgdepcnfjmobjaaGreat
open Go.RowKit Go.BigFrame
open Tr (inR)
open Ft (Mt)
theorem held_two {P : Program} {Q : Exit → Act → World → Prop} {C : World → Prop} {l : List Oper} {i j fuel : Nat} {listed : Array Bool} {a : Act} {w : World} (oi oj : Oper) (hi : nth l i = some oi) (hj : nth l j = some oj) (hr : Region.ready .any l.toArray listed = [i, j])
 (hwi : Region.wanted oi (yielded l.toArray a.tmps) = true) (hwj : Region.wanted oj (yielded l.toArray a.tmps) = true)
 (h1 : ∀ K : Act → World → Prop, (∀ a' w', C w' → wpAnyH P .any l.toArray Q C fuel (listed.setIfInBounds i true) a' w' → K a' w') → oi.wp P a w K Q)
 (h2 : ∀ K : Act → World → Prop, (∀ a' w', C w' → wpAnyH P .any l.toArray Q C fuel (listed.setIfInBounds j true) a' w' → K a' w') → oj.wp P a w K Q) : wpAnyH P .any l.toArray Q C (fuel + 1) listed a w := by
 rw [nth_eq] at hi hj
 refine wpAnyH_all hr (by simp) fun q hq => ?_
 simp only [List.mem_cons, List.not_mem_nil, or_false] at hq
 rcases hq with rfl | rfl
 · unfold wpOp
   simp only [hi, hwi, if_true]
   exact Or.inl (h1 _ fun a' w' h3 h4 => ⟨h3, h4⟩)
 · unfold wpOp
   simp only [hj, hwj, if_true]
   exact Or.inl (h2 _ fun a' w' h3 h4 => ⟨h3, h4⟩)
end Go.Proofs.YtgdepcnfjmobjaaGreat

/- A text of this claim. -/
namespace Go.Proofs.YtgdepcnfjmobjaaGreat
open Go.RowKit Go.BigFrame
def isCalm4 : Op → Bool
 | .nilCheck _ => true
 | op => isCalm3 op
theorem calm_value4 {P : Program} {o : Oper} {ρ : Operand → Value} {w w' : World} {n : Next} (hc : isCalm4 o.op = true) (h : (execOp ρ o).run P w = .ok n w') : n ≠ .skip ∧ ∀ f args, n ≠ .enter f args := by
 obtain ⟨dst, op, type, pos, after, guard⟩ := o
 cases op
 case nilCheck x =>
  simp only [execOp] at h
  split at h
  · simp [go_sem, goPanic] at h
  · simp [go_sem, goPanic] at h
  · simp [go_sem, goPanic] at h
  · split at h
    · simp [go_sem, goPanic] at h
    · simp only [Sem.run_bind] at h
      rename_i name first captured _ _ t v hf
      simp only [go_sem] at h
      rw [show Sem.run P program w = .ok P w from rfl] at h
      simp only [Result.andThen_ok] at h
      cases hr : (nilAhead (P.types.size + 100) t v name).run P w with
      | ok b w1 =>
       rw [hr] at h
       simp only [Result.andThen_ok] at h
       split at h
       · simp [go_sem, unsupported] at h
       · simp at h
         exact ⟨by rw [← h.1]; simp, by rw [← h.1]; simp⟩
      | halt e w1 =>
       rw [hr] at h
       simp at h
    · simp at h
      exact ⟨by rw [← h.1]; simp, by rw [← h.1]; simp⟩
  · simp at h
    exact ⟨by rw [← h.1]; simp, by rw [← h.1]; simp⟩
 all_goals
  obtain ⟨x, rfl⟩ := calm_value3 (by exact hc) h
  exact ⟨by simp, by simp⟩
section
variable {P : Program} {ops : Array Oper} {Q : Exit → Act → World → Prop} {C : World → Prop}
theorem yieldsIf_of_quiet4 {o : Oper} {a : Act} {v : Value} (hc : isCalm4 o.op = true) (hw : Region.wanted o (yielded ops a.tmps) = true) (h : ∀ w, C w → o.quietAt P a C w v) : YieldsIf P ops C o v a := by
 refine Or.inl ⟨hw, fun w hC => ?_⟩
 have h1 := h w hC
 unfold Oper.quietAt at h1
 cases hr : (execOp a.eval o).run P w with
 | ok n w' =>
  rw [hr] at h1
  obtain ⟨n1, n2⟩ := calm_value4 hc hr
  cases n with
  | value x =>
   simp only [Oper.quietUpon] at h1
   rw [h1.1, h1.2]
  | skip => exact absurd rfl n1
  | enter f args => exact absurd rfl (n2 f args)
  | _ => simp [Oper.quietUpon] at h1
 | halt e w' => rw [hr] at h1; simp [Oper.quietUpon] at h1
end
end Go.Proofs.YtgdepcnfjmobjaaGreat

/- A text of this claim. -/
namespace Go.Proofs.YtgdepcnfjmobjaaGreat
open Go.RowKit Go.BigFrame
section
variable {P : Program} {ops : Array Oper} {Q : Exit → Act → World → Prop} {C : World → Prop} {s : Nat}
def wpAnyS (P : Program) (ops : Array Oper) (Q : Exit → Act → World → Prop) (s : Nat) (C : World → Prop) : Nat → Array Bool → Act → World → Prop
 | 0, listed, a, w => Region.ready .any ops listed = [] ∧ Q .normal a w
 | fuel + 1, listed, a, w =>
  (Region.ready .any ops listed = [] → Q .normal a w) ∧
  ∀ i ∈ Region.ready .any ops listed, wpOp P ops Q i (fun a' w' => ((listed.setIfInBounds i true).getD s true = false → C w') ∧ wpAnyS P ops Q s C fuel (listed.setIfInBounds i true) a' w') a w
theorem wpAny_of_S : ∀ (fuel : Nat) (listed : Array Bool) (a : Act) (w : World), wpAnyS P ops Q s C fuel listed a w → wpAny P .any ops Q fuel listed a w
 | 0, _, _, _, h => h
 | fuel + 1, _, _, _, h => ⟨h.1, fun i hi => wpOp_mono (fun a' w' h' => wpAny_of_S fuel _ a' w' h'.2) (h.2 i hi)⟩
def Cl (ops : Array Oper) (listed : Array Bool) : Prop := ∀ j, listed.getD j true = true → ∀ oj, ops[j]? = some oj → ∀ e ∈ oj.after, Region.binds .any e = true → listed.getD e.on false = true
theorem Cl.step {listed : Array Bool} (h : Cl ops listed) {j : Nat} (hj : j ∈ Region.ready .any ops listed) : Cl ops (listed.setIfInBounds j true) := by
 intro s hs os ho e he hb
 obtain ⟨_, oj, hoj, hall⟩ := mem_ready.1 hj
 by_cases e1 : j = s
 · subst e1
   rw [ho] at hoj
   injection hoj with hoj
   subst hoj
   exact getD_set_true (hall e he hb)
 · rw [getD_set_ne true e1] at hs
   exact getD_set_true (h s hs os ho e he hb)
def waitsD (ops : Array Oper) (s i : Nat) : Bool := ((ops[s]?).map fun o => o.after.any fun e => Region.binds .any e && (e.on == i)).getD false
def waitsN (ops : Array Oper) (s : Nat) : Nat → Nat → Bool
 | 0, i => waitsD ops s i
 | n + 1, i => waitsD ops s i || (List.range ops.size).any fun m => waitsD ops m i && waitsN ops s n m
def waits (ops : Array Oper) (s i : Nat) : Bool := waitsN ops s 5 i
theorem Cl.dep {listed : Array Bool} (h : Cl ops listed) {j i : Nat} (hw : waitsD ops j i = true) (hi : listed.getD i true = false) : listed.getD j true = false := by
 cases hs : listed.getD j true with
 | false => rfl
 | true =>
  unfold waitsD at hw
  cases ho : ops[j]? with
  | none => rw [ho] at hw; simp at hw
  | some os =>
   rw [ho] at hw
   simp only [Option.map_some, Option.getD_some] at hw
   obtain ⟨e, he, h2⟩ := Array.any_eq_true'.1 hw
   rw [Bool.and_eq_true, beq_iff_eq] at h2
   have h3 := h j hs os ho e he h2.1
   rw [h2.2] at h3
   rw [Array.getD_eq_getD_getElem?] at hi h3
   cases hx : listed[i]? with
   | none => rw [hx] at hi; cases hi
   | some b => rw [hx] at hi h3; simp at hi h3; rw [hi] at h3; cases h3
theorem Cl.notN {listed : Array Bool} (h : Cl ops listed) : ∀ (n i : Nat), waitsN ops s n i = true → listed.getD i true = false → listed.getD s true = false
 | 0, i, hw, hi => h.dep hw hi
 | n + 1, i, hw, hi => by
  rw [waitsN, Bool.or_eq_true] at hw
  rcases hw with hw | hw
  · exact h.dep hw hi
  · obtain ⟨m, _, h2⟩ := List.any_eq_true.1 hw
    rw [Bool.and_eq_true] at h2
    exact Cl.notN h n m h2.2 (h.dep h2.1 hi)
theorem Cl.not {listed : Array Bool} (h : Cl ops listed) {i : Nat} (hw : waits ops s i = true) (hi : listed.getD i true = false) : listed.getD s true = false := h.notN 5 i hw hi
theorem wpAnyS_first {i : Nat} {oi : Oper} {v : Value} (hi : ops[i]? = some oi) (hsel : ∀ (j : Nat) (o : Oper) cs b, ops[j]? = some o → o.op ≠ .select cs b) (his : i ≠ s) (hwt : waits ops s i = true)
 (hQ : ∀ c a w, Q (.panic c) (a.put oi.dst v) w → Q (.panic c) a w) :
 ∀ (fuel : Nat) (listed : Array Bool) (a : Act) (w : World), Cl ops listed →
  (∀ j oj, ops[j]? = some oj → j ≠ i → listed.getD j true = false → (∀ e ∈ oj.after, Region.binds .any e = true → e.on ≠ i) → oi.apart ops oj = true) →
  i ∈ Region.ready .any ops listed → YieldsIf P ops C oi v a → (listed.getD s true = false → C w) →
  wpAnyS P ops Q s C fuel (listed.setIfInBounds i true) (a.put oi.dst v) w → wpAnyS P ops Q s C (fuel + 1) listed a w := by
 intro fuel
 induction fuel with
 | zero =>
  intro listed a w hcl _ hr hy hS H
  have h0 := hcl.not hwt (mem_ready.1 hr).1
  refine ⟨fun h => (by rw [h] at hr; cases hr), fun j hj => ?_⟩
  by_cases hji : j = i
  · subst hji; exact hy.wpOp hi (hS h0) ⟨fun _ => hS h0, H⟩
  · have := ready_mono hj hji
    rw [H.1] at this
    cases this
 | succ fuel ih =>
  intro listed a w hcl hfree hr hy hS H
  have h0 := hcl.not hwt (mem_ready.1 hr).1
  refine ⟨fun h => (by rw [h] at hr; cases hr), fun j hj => ?_⟩
  by_cases hji : j = i
  · subst hji; exact hy.wpOp hi (hS h0) ⟨fun _ => hS h0, H⟩
  · have h1 := H.2 j (ready_mono hj hji)
    obtain ⟨hjun, oj, hoj, hall⟩ := mem_ready.1 hj
    have hnot : ∀ e ∈ oj.after, Region.binds .any e = true → e.on ≠ i := fun e he hb heq => by
     have h1 := hall e he hb
     have h0 := (mem_ready.1 hr).1
     rw [heq] at h1
     rcases Nat.lt_or_ge i listed.size with h' | h'
     · simp [h'] at h0 h1; rw [h0] at h1; cases h1
     · simp [Array.getElem?_eq_none h'] at h1
    have h2 := wpOp_putIf hoj (hfree j oj hoj hji hjun hnot) (fun cs b => hsel i oi cs b hi) (fun cs b => hsel j oj cs b hoj) hQ hy h1
    have hfree' : ∀ k ok, ops[k]? = some ok → k ≠ i → (listed.setIfInBounds j true).getD k true = false →
     (∀ e ∈ ok.after, Region.binds .any e = true → e.on ≠ i) → oi.apart ops ok = true := fun k ok hk hki hun hno => by
     refine hfree k ok hk hki ?_ hno
     by_cases hjk : j = k
     · subst hjk; exact hjun
     · rw [getD_set_ne true hjk] at hun; exact hun
    refine wpOp_mono (fun a' w' h3 => ?_) h2
    have hS' : (listed.setIfInBounds j true).getD s true = false → C w' := fun hs => h3.2.1 (by rw [Array.setIfInBounds_comm _ _ (Ne.symm hji), getD_set_ne true his]; exact hs)
    refine ⟨hS', ih (listed.setIfInBounds j true) a' w' (hcl.step hj) hfree' (ready_mono hr (Ne.symm hji)) h3.1 hS' ?_⟩
    rw [Array.setIfInBounds_comm _ _ hji]
    exact h3.2.2
def calmS (ops : Array Oper) (s : Nat) : List Nat → Array Bool → Bool
 | [], _ => true
 | i :: is, listed => (((ops[i]?).map fun o => isCalm4 o.op).getD false && Region.free .any ops listed i && (Region.ready .any ops listed).contains i && (i != s) && waits ops s i) && calmS ops s is (listed.setIfInBounds i true)
def clB (ops : Array Oper) (_s : Nat) (listed : Array Bool) : Bool := (List.range ops.size).all fun j => !listed.getD j true || ((ops[j]?).map fun o => o.after.all fun e => !Region.binds .any e || listed.getD e.on false).getD true
theorem cl_of {listed : Array Bool} (h : clB ops s listed = true) : Cl ops listed := fun j hj oj ho e he hb => by
 have hlt : j < ops.size := (Array.getElem?_eq_some_iff.1 ho).1
 have h1 := List.all_eq_true.1 h j (List.mem_range.2 hlt)
 rw [hj, ho] at h1
 simp only [Bool.not_true, Bool.false_or, Option.map_some, Option.getD_some] at h1
 have h2 := Array.all_eq_true'.1 h1 e he
 rw [hb] at h2
 simpa using h2
theorem held_calmS (hsel : Region.noSelect ops = true) (hQ : ∀ c a d v w, Q (.panic c) (Act.put a d v) w → Q (.panic c) a w) {w : World} (hC : C w) : ∀ (is : List Nat) (fuel : Nat) (listed : Array Bool) (a : Act), Cl ops listed →
 calmS ops s is listed = true → wpQuiet P ops C (fun a' => wpAnyS P ops Q s C fuel (listAll is listed) a' w) (is.filterMap fun i => ops[i]?) a → wpAnyS P ops Q s C (fuel + is.length) listed a w
 | [], _, _, _, _, _, h => h
 | i :: is, fuel, listed, a, hcl, hB, h => by
  simp only [calmS, Bool.and_eq_true] at hB
  obtain ⟨⟨⟨⟨⟨h1, h2⟩, h3⟩, h5⟩, h6⟩, h4⟩ := hB
  have hr : i ∈ Region.ready .any ops listed := by simpa using h3
  cases ho : ops[i]? with
  | none => rw [ho] at h1; simp at h1
  | some o =>
   rw [ho] at h1
   simp only [Option.map_some, Option.getD_some] at h1
   rw [List.filterMap_cons, ho] at h
   simp only [wpQuiet] at h
   have e : fuel + (i :: is).length = (fuel + is.length) + 1 := by simp; omega
   rw [e]
   by_cases hw : Region.wanted o (yielded ops a.tmps) = true
   · rw [if_pos hw] at h
     obtain ⟨v, hv, hn⟩ := h
     exact wpAnyS_first ho (Region.noSelect_spec hsel) (by simpa using h5) h6 (fun c a w => hQ c a _ _ w) _ _ _ _ hcl (Region.free_spec ho h2) hr (yieldsIf_of_quiet4 h1 hw hv) (fun _ => hC) (held_calmS hsel hQ hC is fuel _ _ (hcl.step hr) h4 hn)
   · rw [if_neg hw] at h
     exact wpAnyS_first ho (Region.noSelect_spec hsel) (by simpa using h5) h6 (fun c a w => hQ c a _ _ w) _ _ _ _ hcl (Region.free_spec ho h2) hr (Or.inr ⟨by simpa using hw, rfl⟩) (fun _ => hC) (held_calmS hsel hQ hC is fuel _ _ (hcl.step hr) h4 h)
theorem late_quiet {l : List Oper} (hsel : Region.noSelect l.toArray = true) (hQ : ∀ c a d v w, Q (.panic c) (Act.put a d v) w → Q (.panic c) a w) {w : World} (hC : C w) (is : List Nat) (fuel : Nat) (listed : Array Bool) (a : Act)
 (hcl : clB l.toArray s listed = true) (hB : calmS l.toArray s is listed = true) (h : wpQuiet P l.toArray C (fun a' => wpAnyS P l.toArray Q s C fuel (listAll is listed) a' w) (is.filterMap (nth l)) a) : wpAnyS P l.toArray Q s C (fuel + is.length) listed a w :=
 held_calmS hsel hQ hC is fuel listed a (cl_of hcl) hB (by rw [show (fun i => l.toArray[i]?) = nth l from funext fun i => (nth_eq l i).symm]; exact h)
theorem late_do {l : List Oper} {i fuel : Nat} {listed : Array Bool} {a : Act} {w : World} (o : Oper) (hi : nth l i = some o) (hr : Region.ready .any l.toArray listed = [i]) (hw : Region.wanted o (yielded l.toArray a.tmps) = true)
 (h : ∀ K : Act → World → Prop, (∀ a' w', ((listed.setIfInBounds i true).getD s true = false → C w') → wpAnyS P l.toArray Q s C fuel (listed.setIfInBounds i true) a' w' → K a' w') → o.wp P a w K Q) : wpAnyS P l.toArray Q s C (fuel + 1) listed a w := by
 rw [nth_eq] at hi
 refine ⟨fun h0 => absurd (hr ▸ h0) (by simp), fun j hj => ?_⟩
 rw [hr] at hj
 simp only [List.mem_singleton] at hj
 subst hj
 unfold wpOp
 simp only [hi, hw, if_true]
 exact Or.inl (h _ fun a' w' h1 h2 => ⟨h1, h2⟩)
theorem late_done {listed : Array Bool} {a : Act} {w : World} (hr : Region.ready .any ops listed = []) (h : Q .normal a w) : ∀ fuel, wpAnyS P ops Q s C fuel listed a w
 | 0 => ⟨hr, h⟩
 | _ + 1 => ⟨fun _ => h, by rw [hr]; simp⟩
theorem late_start {id : Nat} {a : Act} {w : World} {l : List Oper} (hm : P.follows .mixedOrders = true)
 (h : wpAnyS P l.toArray Q s C l.length (Array.replicate l.length false) a { w with drawn := w.drawn + 1 }) : (Code.region id l.toArray true).wp P Q a w :=
 wp_region_any hm (by simpa using wpAny_of_S _ _ _ _ h)
end
end Go.Proofs.YtgdepcnfjmobjaaGreat

/- A text of this claim. -/
namespace Go.Proofs.YtgdepcnfjmobjaaGreat
open Go.RowKit Go.BigFrame
def AcB (w : World) (g : Nat) (nm : ByteArray) (sp st : Int) (vs vl vt : Value) : Prop := w.heap[g]? = some (.cells #[.string nm, .int .i64 sp, .int .i64 st, vs, vl, vt] 26 (0, 0))
section
variable {w w' : World} {g : Nat} {nm : ByteArray} {sp st : Int} {vs vl vt : Value}
theorem AcB.cell (h : AcB w g nm sp st vs vl vt) : w.cell? ⟨g, 0, none⟩ = some (.string nm) ∧ w.cell? ⟨g, 1, none⟩ = some (.int .i64 sp) ∧ w.cell? ⟨g, 2, none⟩ = some (.int .i64 st) ∧ w.cell? ⟨g, 3, none⟩ = some vs ∧ w.cell? ⟨g, 4, none⟩ = some vl ∧ w.cell? ⟨g, 5, none⟩ = some vt := by
 unfold AcB at h
 simp [World.cell?, h]
theorem AcB.free (h : AcB w g nm sp st vs vl vt) (i : Nat) : w.frozen? ⟨g, i, none⟩ = false := by
 unfold AcB at h
 simp [World.frozen?, h]
theorem AcB.lt (h : AcB w g nm sp st vs vl vt) : g < w.heap.size := lt_of_block h
theorem AcB.below (h : AcB w g nm sp st vs vl vt) (hb : Below w.heap.size w w') : AcB w' g nm sp st vs vl vt := (hb.block g h.lt).trans h
theorem AcB.kept {O : Nat → Prop} (h : AcB w g nm sp st vs vl vt) (hk : Kept O w w') (ho : ¬ O g) : AcB w' g nm sp st vs vl vt := (hk.block g h.lt ho).trans h
theorem AcB.set2 (h : AcB w g nm sp st vs vl vt) (x : Int) : AcB (w.setCell ⟨g, 2, none⟩ (.int .i64 x)) g nm sp x vs vl vt := set_cells h
theorem AcB.set3 (h : AcB w g nm sp st vs vl vt) (x : Value) : AcB (w.setCell ⟨g, 3, none⟩ x) g nm sp st x vl vt := set_cells h
theorem AcB.set4 (h : AcB w g nm sp st vs vl vt) (x : Value) : AcB (w.setCell ⟨g, 4, none⟩ x) g nm sp st vs x vt := set_cells h
theorem AcB.set5 (h : AcB w g nm sp st vs vl vt) (x : Value) : AcB (w.setCell ⟨g, 5, none⟩ x) g nm sp st vs vl x := set_cells h
theorem AcB.store (h : AcB w g nm sp st vs vl vt) (nm' : ByteArray) (sp' st' : Int) (vs' vl' vt' : Value) :
 ∃ W, (((((w.setCell ⟨g, 0, none⟩ (.string nm')).setCell ⟨g, 1, none⟩ (.int .i64 sp')).setCell ⟨g, 2, none⟩ (.int .i64 st')).setCell ⟨g, 3, none⟩ vs').setCell ⟨g, 4, none⟩ vl').setCell ⟨g, 5, none⟩ vt' = W ∧
  AcB W g nm' sp' st' vs' vl' vt' ∧ ∀ O : Nat → Prop, O g → Kept O w W :=
 ⟨_, rfl, set_cells (set_cells (set_cells (set_cells (set_cells (set_cells h))))), fun _ ho => (keep_set ho).trans ((keep_set ho).trans ((keep_set ho).trans ((keep_set ho).trans ((keep_set ho).trans (keep_set ho)))))⟩
end
theorem alloc_ac (w : World) (nm : ByteArray) (sp st : Int) (vs vl vt : Value) : ∃ W, w.alloc (.cells #[.string nm, .int .i64 sp, .int .i64 st, vs, vl, vt] 26) = W ∧ Below w.heap.size w W ∧ W.heap.size = w.heap.size + 1 ∧ AcB W w.heap.size nm sp st vs vl vt :=
 ⟨_, rfl, below_al _ _, by simp, heap_alloc_new w _⟩
structure Own3 (w : World) (base : Nat) (A : Acv) (vs vl vt : Value) : Prop where
 ex : ∃ B1 B2, base ≤ B1 ∧ B1 ≤ B2 ∧ Own smC 7 54 w base vs A.sm ∧ (∀ b, vs.ownBlock = some b → b < B1) ∧ Own lpC 3 57 w B1 vl A.lp ∧ (∀ b, vl.ownBlock = some b → b < B2) ∧ Own tgC 1 9 w B2 vt A.tg
def CloneRet (A : Acv) (w : World) (e : Ending) (w' : World) : Prop :=
 (∃ a b c ca cb cc, e = .returned (actV A a b c ca cb cc) ∧ Own3 w' w.heap.size A (.slice a A.sm.length ca) (.slice b A.lp.length cb) (.slice c A.tg.length cc)) ∧ Below w.heap.size w w'
set_option maxHeartbeats 4000000 in
set_option maxRecDepth 100000 in
theorem cloneA_any (A : Acv) (a b c : Option Addr) (ca cb cc : Nat) (w : World) (h : ActIn w A a b c) (h1 : A.sm.length ≤ 1000000) (h2 : A.lp.length ≤ 1000000) (h3 : A.tg.length ≤ 1000000) :
 Calls Tryz.prog 15 #[actV A a b c ca cb cc] w fun e w' => CloneRet A w e w' := by
 unfold CloneRet actV
 obtain ⟨V0, hV0, hb0, hs0, ha0⟩ := alloc_ac w A.name A.sport A.start (.slice a A.sm.length ca) (.slice b A.lp.length cb) (.slice c A.tg.length cc)
 obtain ⟨V1, hV1, hb1, hs1, ha1⟩ := alloc_ac V0 ⟨#[]⟩ 0 0 (.slice none 0 0) (.slice none 0 0) (.slice none 0 0)
 rw [hs0] at ha1
 have ha0 := ha0.below hb1
 obtain ⟨T, hT⟩ : ∃ T, w.heap.size = T := ⟨_, rfl⟩
 rw [hT] at ha0 ha1 hs0
 have HB := Lib.hid (below_step hb0 hb1)
 have DS := Lib.hid (fun Z : Ext V1 => cloneSm_any a A.sm ca Z.1 ((h.sm.below HB.out).below Z.2) h1)
 have DL := Lib.hid (fun Z : Ext V1 => cloneLp_any b A.lp cb Z.1 ((h.lp.below HB.out).below Z.2) h2)
 have DT := Lib.hid (fun Z : Ext V1 => cloneTg_any c A.tg cc Z.1 ((h.tg.below HB.out).below Z.2) h3)
 have HT := Lib.hid (And.intro hT (And.intro hs0 hs1))
 have HA0 := Lib.hid ha0
 have HA1 := Lib.hid ha1
 obtain ⟨g0, g1, g2, g3, g4, g5⟩ := ha0.cell
 have G3 := Ext.ex g3
 have G4 := Ext.ex g4
 have G5 := Ext.ex g5
 have F0 : ∀ (Z : Ext V1) i, Z.1.frozen? ⟨T, i, none⟩ = false := fun Z i => (HA0.out.below Z.2).free i
 clear h h1 h2 h3 hb0 hb1 hs0 hs1 ha0 ha1 hT g0 g1 g2 g3 g4 g5
 go_enter Tryz.func15, Tryz.ntmps15
 go_upto_region 1 with (fail)
 rw [HT.out.1]
 refine late_start (s := 10) (C := fun w' => ∃ Z : Ext V1, w' = Z.1) (by kernel_rfl) ?_
 obtain ⟨Z0, hZ0⟩ : ∃ Z : Ext V1, ({ V1 with drawn := V1.drawn + 1 } : World) = Z.1 := ⟨⟨{ V1 with drawn := V1.drawn + 1 }, ⟨rfl, rfl, rfl, Nat.le_refl _, fun _ _ => rfl⟩⟩, rfl⟩
 rw [hZ0]
 clear hZ0
 refine late_quiet (by kernel_rfl) (fun _ _ d _ _ h => by cases d <;> exact h) ⟨Z0, rfl⟩ [0, 1, 3, 4, 6, 7] 9 _ _ (by kernel_rfl) (by kernel_rfl) ?_
 change wpQuiet _ _ _ _ (_ :: _ :: _ :: _ :: _ :: _ :: []) _
 repeat go_big_quiet_step (fail)
 refine wpQuiet_nil ?_
 refine late_do (i := 2) _ rfl (by kernel_rfl) rfl (fun K hK => ?_)
 go_simp
 refine (DS.out Z0).mono ?_
 rintro e Y1 ⟨⟨v1, rfl, ho1⟩, hk1⟩
 obtain ⟨a1, c1, rfl, _, _, _⟩ := ho1.row smEl
 obtain ⟨Z1, rfl⟩ : ∃ Z : Ext V1, Y1 = Z.1 := ⟨⟨Y1, below_step Z0.2 hk1⟩, rfl⟩
 have HO1 := Lib.hid ho1
 refine hK _ _ (fun _ => ⟨Z1, rfl⟩) ?_
 clear hK K hk1 ho1
 try simp only [Act.put, List.setIfInBounds_toArray, List.set_cons_zero, List.set_cons_succ]
 refine late_quiet (by kernel_rfl) (fun _ _ d _ _ h => by cases d <;> exact h) ⟨Z1, rfl⟩ [9] 7 _ _ (by kernel_rfl) (by kernel_rfl) ?_
 change wpQuiet _ _ _ _ (_ :: []) _
 repeat go_big_quiet_step (fail)
 refine wpQuiet_nil ?_
 refine late_do (i := 5) _ rfl (by kernel_rfl) rfl (fun K hK => ?_)
 go_simp
 refine (DL.out Z1).mono ?_
 rintro e Y2 ⟨⟨v2, rfl, ho2⟩, hk2⟩
 obtain ⟨a2, c2, rfl, _, _, _⟩ := ho2.row lpEl
 obtain ⟨Z2, rfl⟩ : ∃ Z : Ext V1, Y2 = Z.1 := ⟨⟨Y2, below_step Z1.2 hk2⟩, rfl⟩
 have HO2 := Lib.hid ho2
 have HK2 := Lib.hid hk2
 refine hK _ _ (fun _ => ⟨Z2, rfl⟩) ?_
 clear hK K hk2 ho2
 try simp only [Act.put, List.setIfInBounds_toArray, List.set_cons_zero, List.set_cons_succ]
 refine late_do (i := 8) _ rfl (by kernel_rfl) rfl (fun K hK => ?_)
 go_simp
 refine (DT.out Z2).mono ?_
 rintro e Y3 ⟨⟨v3, rfl, ho3⟩, hk3⟩
 obtain ⟨a3, c3, rfl, _, _, _⟩ := ho3.row tgEl
 obtain ⟨Z3, rfl⟩ : ∃ Z : Ext V1, Y3 = Z.1 := ⟨⟨Y3, below_step Z2.2 hk3⟩, rfl⟩
 have HO3 := Lib.hid ho3
 have HK3 := Lib.hid hk3
 refine hK _ _ (fun _ => ⟨Z3, rfl⟩) ?_
 clear hK K hk3 ho3
 try simp only [Act.put, List.setIfInBounds_toArray, List.set_cons_zero, List.set_cons_succ]
 have hA3 := HA0.out.below Z3.2
 have hA4 := hA3.set3 (.slice a1 A.sm.length c1)
 have hA5 := hA4.set4 (.slice a2 A.lp.length c2)
 have hA6 := hA5.set5 (.slice a3 A.tg.length c3)
 obtain ⟨W4, hW4⟩ : ∃ W, Z3.1.setCell ⟨T, 3, none⟩ (.slice a1 A.sm.length c1) = W := ⟨_, rfl⟩
 obtain ⟨W5, hW5⟩ : ∃ W, W4.setCell ⟨T, 4, none⟩ (.slice a2 A.lp.length c2) = W := ⟨_, rfl⟩
 obtain ⟨W6, hW6⟩ : ∃ W, W5.setCell ⟨T, 5, none⟩ (.slice a3 A.tg.length c3) = W := ⟨_, rfl⟩
 rw [hW4] at hA4 hA5 hA6
 rw [hW5] at hA5 hA6
 rw [hW6] at hA6
 have hk4 : Kept (fun b => b = T) Z3.1 W6 := by
  rw [← hW6, ← hW5, ← hW4]
  exact (keep_set (O := fun b => b = T) rfl).trans ((keep_set (O := fun b => b = T) rfl).trans (keep_set (O := fun b => b = T) rfl))
 have j3 := hA3.cell.2.2.2.1
 have j4 := hA4.cell.2.2.2.2.1
 have j5 := hA5.cell.2.2.2.2.2
 have f3 := hA3.free 3
 have f4 := hA4.free 4
 have f5 := hA5.free 5
 have HA6 := Lib.hid hA6
 have HK4 := Lib.hid hk4
 clear hA3 hA4 hA5 hA6 hk4
 refine late_do (i := 10) _ rfl (by kernel_rfl) rfl (fun K hK => ?_)
 go_simp
 refine hK _ _ (fun h => nomatch (show true = false from h)) ?_
 clear hK K
 try simp only [Act.put, List.setIfInBounds_toArray, List.set_cons_zero, List.set_cons_succ]
 refine late_do (i := 11) _ rfl (by kernel_rfl) rfl (fun K hK => ?_)
 go_simp
 refine hK _ _ (fun h => nomatch (show true = false from h)) ?_
 clear hK K
 try simp only [Act.put, List.setIfInBounds_toArray, List.set_cons_zero, List.set_cons_succ]
 refine late_do (i := 12) _ rfl (by kernel_rfl) rfl (fun K hK => ?_)
 go_simp
 refine hK _ _ (fun h => nomatch (show true = false from h)) ?_
 clear hK K
 try simp only [Act.put, List.setIfInBounds_toArray, List.set_cons_zero, List.set_cons_succ]
 refine late_do (i := 13) _ rfl (by kernel_rfl) rfl (fun K hK => ?_)
 go_simp
 refine hK _ _ (fun h => nomatch (show true = false from h)) ?_
 clear hK K
 try simp only [Act.put, List.setIfInBounds_toArray, List.set_cons_zero, List.set_cons_succ]
 refine late_do (i := 14) _ rfl (by kernel_rfl) rfl (fun K hK => ?_)
 go_simp
 refine hK _ _ (fun h => nomatch (show true = false from h)) ?_
 clear hK K
 try simp only [Act.put, List.setIfInBounds_toArray, List.set_cons_zero, List.set_cons_succ]
 refine late_done (by kernel_rfl) ?_ _
 clear j3 j4 j5 f3 f4 f5 hW4 hW5 hW6 G3 G4 G5 F0
 obtain ⟨k0, k1, k2, k3, k4, k5⟩ := HA6.out.cell
 have hT1 : ¬ (T + 1 = T) := by omega
 have hA7 := (HA1.out.below Z3.2).kept HK4.out hT1
 obtain ⟨m0, m1, m2, m3, m4, m5⟩ := hA7.cell
 have f7 := hA7.free
 obtain ⟨W7, hW7, hA8, hk7⟩ := hA7.store A.name A.sport A.start (.slice a1 A.sm.length c1) (.slice a2 A.lp.length c2) (.slice a3 A.tg.length c3)
 have HA8 := Lib.hid hA8
 have HK7 := Lib.hid hk7
 clear hA7 hA8 hk7
 rw [HT.out.2.1]
 go_wp2_with fail
 have r := HA8.out.cell
 have HKO := Lib.hid (show Kept (fun b => b = T ∨ b = T + 1) Z3.1 W7 from Kept.trans (O := fun b => b = T ∨ b = T + 1) ⟨HK4.out.os, HK4.out.tape, HK4.out.output, HK4.out.size, fun k hk ho => HK4.out.block k hk (fun e => ho (Or.inl e))⟩ (HK7.out _ (Or.inr rfl)))
 have HWL := Lib.hid (show Below w.heap.size w W7 from
  have hk : Kept (fun b => b = T ∨ b = T + 1) Z3.1 W7 := Kept.trans (O := fun b => b = T ∨ b = T + 1) ⟨HK4.out.os, HK4.out.tape, HK4.out.output, HK4.out.size, fun k hk ho => HK4.out.block k hk (fun e => ho (Or.inl e))⟩ (HK7.out _ (Or.inr rfl))
  Kept.below (below_step HB.out Z3.2) hk (below_step HB.out Z3.2).size (fun k hk e => by have := HT.out.1; omega))
 refine bodyPost_ret (v := .agg #[.string A.name, .int .i64 A.sport, .int .i64 A.start, .slice a1 A.sm.length c1, .slice a2 A.lp.length c2, .slice a3 A.tg.length c3]) (by simp [results, Tryz.results15, go_sem, r]) rfl ⟨⟨a1, a2, a3, c1, c2, c3, rfl, ⟨Z1.1.heap.size, Z2.1.heap.size, ?_, HK2.out.size, ?_, ?_, ?_, ?_, ?_⟩⟩, HWL.out⟩
 · have := HB.out.size
   have := Z1.2.size
   omega
 · refine (((HO1.out.weaken ?_).below HK2.out).below HK3.out).keepO HKO.out (fun b hb => ?_)
   · have := HB.out.size
     have := Z0.2.size
     omega
   · have := (HO1.out.lt b hb).1
     have := Z0.2.size
     have := HT.out.2
     omega
 · exact fun b hb => (HO1.out.lt b hb).2
 · refine (HO2.out.below HK3.out).keepO HKO.out (fun b hb => ?_)
   have := (HO2.out.lt b hb).1
   have := Z1.2.size
   have := HT.out.2
   omega
 · exact fun b hb => (HO2.out.lt b hb).2
 · refine HO3.out.keepO HKO.out (fun b hb => ?_)
   have := (HO3.out.lt b hb).1
   have := Z2.2.size
   have := HT.out.2
   omega
end Go.Proofs.YtgdepcnfjmobjaaGreat

/- A text of this claim. -/
namespace Go.Proofs.YtgdepcnfjmobjaaGreat
open Go.RowKit Go.BigFrame
theorem append_Sm {ops : Array Oper} {rest : List Oper} {o : Oper} {a : Act} {Q : Exit → Act → World → Prop} {w : World} (hgd : o.guard = none) (s x : Operand)
 (ho : o.op = .call { callee := .builtin .append, args := #[s, x], argTypes := #[22, 22] }) {base : Nat} {v : Value} {l : List Sm} (hs : a.eval s = v) (hown : Own smC 7 54 w base v l)
 {g : Nat} {p : Sm} (hx : a.eval x = .slice (some ⟨g, 0, none⟩) 1 1) (h0 : ∀ j u, (smC p)[j]? = some u → w.cell? ⟨g, j, none⟩ = some u) (hn : l.length ≤ 1000000) (hb : base ≤ w.heap.size)
 (h : ∀ g' c' w', Own smC 7 54 w' base (.slice (some ⟨g', 0, none⟩) (l.length + 1) c') (l ++ [p]) → w.grownBy w' v.ownBlock → (v.ownBlock = some g' ∨ g' = w.heap.size) → wpList Tryz.prog ops Q rest (a.put o.dst (.slice (some ⟨g', 0, none⟩) (l.length + 1) c')) w') : wpList Tryz.prog ops Q (o :: rest) a w := by
 obtain ⟨i0, hi0, hy0, hy1, hy2⟩ := info_parts infoSm.out
 refine wpList_append_lies w hgd s x 22 ho base 54 i0 (.agg #[.int .i64 0, .int .i64 0, .int .i64 0, .int .i64 0, .int .i64 0, .int .i64 0, .int .i64 0]) 7 56 underSm.out hi0 hy0 hy1 hy2 rfl (by decide) v l.length (l.flatMap smC) hs hown ⟨g, 0, none⟩ 1 1 (smC p) hx rfl (fun j u hu => ?_) (smEl.one p) (by decide) (by unfold maxLen; omega) (by omega) hb _ rfl ?_
 · rw [addr_plus, Nat.zero_add]
   exact h0 j u hu
 · intro g' c' w' k1 k2 k3 _
   refine h g' c' w' ?_ k2 k3
   unfold Own
   rw [List.length_append, List.flatMap_append, show ([p].flatMap smC) = smC p from List.append_nil _]
   exact k1
theorem append_Lp {ops : Array Oper} {rest : List Oper} {o : Oper} {a : Act} {Q : Exit → Act → World → Prop} {w : World} (hgd : o.guard = none) (s x : Operand)
 (ho : o.op = .call { callee := .builtin .append, args := #[s, x], argTypes := #[23, 23] }) {base : Nat} {v : Value} {l : List Lp} (hs : a.eval s = v) (hown : Own lpC 3 57 w base v l)
 {g : Nat} {p : Lp} (hx : a.eval x = .slice (some ⟨g, 0, none⟩) 1 1) (h0 : ∀ j u, (lpC p)[j]? = some u → w.cell? ⟨g, j, none⟩ = some u) (hn : l.length ≤ 1000000) (hb : base ≤ w.heap.size)
 (h : ∀ g' c' w', Own lpC 3 57 w' base (.slice (some ⟨g', 0, none⟩) (l.length + 1) c') (l ++ [p]) → w.grownBy w' v.ownBlock → (v.ownBlock = some g' ∨ g' = w.heap.size) → wpList Tryz.prog ops Q rest (a.put o.dst (.slice (some ⟨g', 0, none⟩) (l.length + 1) c')) w') : wpList Tryz.prog ops Q (o :: rest) a w := by
 obtain ⟨i0, hi0, hy0, hy1, hy2⟩ := info_parts infoLp.out
 refine wpList_append_lies w hgd s x 23 ho base 57 i0 (.agg #[.int .i64 0, .int .i64 0, .string ⟨#[]⟩]) 3 32 underLp.out hi0 hy0 hy1 hy2 rfl (by decide) v l.length (l.flatMap lpC) hs hown ⟨g, 0, none⟩ 1 1 (lpC p) hx rfl (fun j u hu => ?_) (lpEl.one p) (by decide) (by unfold maxLen; omega) (by omega) hb _ rfl ?_
 · rw [addr_plus, Nat.zero_add]
   exact h0 j u hu
 · intro g' c' w' k1 k2 k3 _
   refine h g' c' w' ?_ k2 k3
   unfold Own
   rw [List.length_append, List.flatMap_append, show ([p].flatMap lpC) = lpC p from List.append_nil _]
   exact k1
theorem tm_wrap {x : Int} (h1 : -9223372036854775808 ≤ x) (h2 : x ≤ 9223372036854775807) : IntKind.i64.wrap x = x := by rw [IntKind.wrap_i64]; omega
def mvL (by_ span : Int) (x : Lp) : Lp := ⟨min (max (x.f - by_) 0) span, min (max (x.t - by_) 0) span, x.s⟩
def movedF (l : List Lp) (by_ span : Int) : List Lp := (l.map (mvL by_ span)).filter fun x => decide (x.f < x.t)
theorem movedF_snoc {l : List Lp} {k : Nat} {x : Lp} {by_ span : Int} (hx : l[k]? = some x) : movedF (l.take (k + 1)) by_ span = if (mvL by_ span x).f < (mvL by_ span x).t then movedF (l.take k) by_ span ++ [mvL by_ span x] else movedF (l.take k) by_ span := by
 unfold movedF
 rw [List.take_add_one, hx, List.map_append, List.filter_append]
 simp only [Option.toList_some, List.map_cons, List.map_nil]
 split
 · rename_i h
   rw [List.filter_cons_of_pos (by simpa using h), List.filter_nil]
 · rename_i h
   rw [List.filter_cons_of_neg (by simpa using h), List.filter_nil, List.append_nil]
theorem movedF_len (l : List Lp) (by_ span : Int) : (movedF l by_ span).length ≤ l.length := by
 unfold movedF
 exact Nat.le_trans (List.length_filter_le _ _) (by rw [List.length_map]; exact Nat.le_refl _)
set_option maxHeartbeats 4000000 in
set_option maxRecDepth 100000 in
theorem moved_any (l : List Lp) (a : Option Addr) (cp : Nat) (by_ span : Int) (w : World) (hr : Rw lpC 3 w a l) (hl : l.length ≤ 1000) (hx : ∀ x, x ∈ l → (0 ≤ x.f ∧ x.f ≤ 1000000) ∧ 0 ≤ x.t ∧ x.t ≤ 1000000) (h0 : 0 ≤ by_) (h1 : by_ ≤ 1000000) :
 Calls Tryz.prog 149 #[.slice a l.length cp, .int .i64 by_, .int .i64 span] w fun e w' => ∃ v, e = .returned v ∧ Own lpC 3 57 w' w.heap.size v (movedF l by_ span) ∧ Below w.heap.size w w' := by
 obtain ⟨n, hn⟩ : ∃ n, l.length = n := ⟨_, rfl⟩
 have HR := Lib.hid hr
 have HX := Lib.hid (fun (i : Nat) (hi : i < n) => show ∃ x, l[i]? = some x ∧ (0 ≤ x.f ∧ x.f ≤ 1000000) ∧ 0 ≤ x.t ∧ x.t ≤ 1000000 from by
  have hg : i < l.length := by rw [hn]; exact hi
  exact ⟨_, List.getElem?_eq_getElem hg, hx _ (List.getElem_mem hg)⟩)
 have HN := Lib.hid hn
 rw [hn] at hl ⊢
 clear hr hx hn
 go_enter Tryz.func149, Tryz.ntmps149
 go_wp2_with fail
 go_loopw [7, 12] (fun ov iv wr => ∃ (k : Nat), iv = .int .i64 k ∧ k ≤ n ∧ Hid (Own lpC 3 57 wr w.heap.size ov (movedF (l.take k) by_ span)) ∧ ∃ X : Ext w, wr = X.1) (fun _ iv _ => n - (intOf iv).toNat)
 case atStart => exact ⟨0, rfl, by omega, Lib.hid (Own.nil _ _ _ _ _), ⟨w, Below.refl _ _⟩, rfl⟩
 case round =>
  obtain ⟨k, rfl, hk, HO, X, rfl⟩ := hrel
  by_cases hlt : k < n
  · have t2 : decide ((k : Int) < (n : Int)) = true := by rw [decide_eq_true_eq]; omega
    have t2' : decide (k < n) = true := by simpa using hlt
    obtain ⟨x, hx, ⟨x0, x1⟩, x2, x3⟩ := HX.out k hlt
    obtain ⟨b3, o3, rfl, hb3, hd⟩ := (HR.out.below X.2).at hx
    have e0 : X.1.cell? ⟨b3, o3 + k * 3, none⟩ = some (.int .i64 x.f) := hd 0 _ rfl
    have e1 : X.1.cell? ⟨b3, o3 + k * 3 + 1, none⟩ = some (.int .i64 x.t) := hd 1 _ rfl
    have e2 : X.1.cell? ⟨b3, o3 + k * 3 + 2, none⟩ = some (.string x.s) := hd 2 _ rfl
    have HST := Lib.hid (movedF_snoc (by_ := by_) (span := span) hx)
    have hml : (movedF (l.take k) by_ span).length ≤ 1000 := by have := movedF_len (l.take k) by_ span; rw [List.length_take] at this; omega
    have HML := Lib.hid hml
    obtain ⟨T, hT⟩ : ∃ T, X.1.heap.size = T := ⟨_, rfl⟩
    obtain ⟨V0, hV0, hb0, hs0, hl0⟩ := alloc_cells X.1 #[.int .i64 x.f, .int .i64 x.t, .string x.s] 57
    have hk0 : V0.heap[T]? = some (.cells #[.int .i64 x.f, .int .i64 x.t, .string x.s] 57 (0, 0)) := by rw [← hV0, ← hT]; exact heap_alloc_new X.1 _
    have hmv : mvL by_ span x = ⟨min (max (x.f - by_) 0) span, min (max (x.t - by_) 0) span, x.s⟩ := rfl
    have w1 : IntKind.i64.wrap (x.f - by_) = x.f - by_ := tm_wrap (by omega) (by omega)
    have w2 : IntKind.i64.wrap (x.t - by_) = x.t - by_ := tm_wrap (by omega) (by omega)
    obtain ⟨f', hf'⟩ : ∃ z, min (max (x.f - by_) 0) span = z := ⟨_, rfl⟩
    obtain ⟨t', ht'⟩ : ∃ z, min (max (x.t - by_) 0) span = z := ⟨_, rfl⟩
    rw [hf', ht'] at hmv
    have hk1 := set_cells (i := 0) (v := .int .i64 f') hk0
    obtain ⟨W1, hW1⟩ : ∃ W, V0.setCell ⟨T, 0, none⟩ (.int .i64 f') = W := ⟨_, rfl⟩
    rw [hW1] at hk1
    have hk2 := set_cells (i := 1) (v := .int .i64 t') hk1
    obtain ⟨W2, hW2⟩ : ∃ W, W1.setCell ⟨T, 1, none⟩ (.int .i64 t') = W := ⟨_, rfl⟩
    rw [hW2] at hk2
    have hkk : Kept (fun b => b = T) V0 W2 := by rw [← hW2, ← hW1]; exact (keep_set (O := fun b => b = T) rfl).trans (keep_set (O := fun b => b = T) rfl)
    have r0 : V0.cell? ⟨T, 0, none⟩ = some (.int .i64 x.f) := by simp [World.cell?, hk0]
    have r1 : V0.cell? ⟨T, 1, none⟩ = some (.int .i64 x.t) := by simp [World.cell?, hk0]
    have r2 : W1.cell? ⟨T, 1, none⟩ = some (.int .i64 x.t) := by simp [World.cell?, hk1]
    have f0 : V0.frozen? ⟨T, 0, none⟩ = false := by simp [World.frozen?, hk0]
    have f1 : W1.frozen? ⟨T, 1, none⟩ = false := by simp [World.frozen?, hk1]
    have p0 : W2.cell? ⟨T, 0, none⟩ = some (.int .i64 f') := by simp [World.cell?, hk2]
    have p1 : W2.cell? ⟨T, 1, none⟩ = some (.int .i64 t') := by simp [World.cell?, hk2]
    have p2 : W2.cell? ⟨T, 2, none⟩ = some (.string x.s) := by simp [World.cell?, hk2]
    have HB2 := Lib.hid (show Below X.1.heap.size X.1 W2 from Kept.below hb0 hkk hb0.size (fun k hk e => by omega))
    rw [hmv] at HST
    have HO2 := Lib.hid (HO.out.below HB2.out)
    clear hx hd hb3 hmv hb0 hs0 hl0 hk0 hk1 hk2 hkk hml HO x0 x1 x2 x3
    generalize x.s = xs at *
    by_cases hft : f' < t'
    · have t3 : decide (f' < t') = true := by rw [decide_eq_true_eq]; exact hft
      have HS2 := Lib.hid (show movedF (l.take (k + 1)) by_ span = movedF (l.take k) by_ span ++ [⟨f', t', xs⟩] by rw [HST.out, if_pos hft])
      obtain ⟨V6, hV6, hb6, hs6, hl6⟩ := alloc_cells W2 #[.int .i64 f', .int .i64 t', .string xs] 57
      have HC6 := Lib.hid (fun j u (hj : (lpC ⟨f', t', xs⟩)[j]? = some u) => show V6.cell? ⟨W2.heap.size, j, none⟩ = some u from hl6 j u (by rw [← hj]; simp [lpC]))
      have HO6 := Lib.hid (HO2.out.below hb6)
      have H6 := Lib.hid (below_step (below_step X.2 HB2.out) hb6)
      clear HST hb6 hs6 hl6 hft
      go_wp2_with (at_builtin; refine append_Lp rfl _ _ rfl rfl HO6.out (p := ⟨f', t', xs⟩) rfl HC6.out (by have := HML.out; omega) H6.out.size (fun g' c' w7 ho7 hg7 hor => ?_))
      have HO7 := Lib.hid ho7
      have H7 := Lib.hid (Kept.below (O := fun b => w.heap.size ≤ b) H6.out (Kept.of_grown hg7 (fun g e _ => (HO6.out.lt g e).1)) H6.out.size (fun k hk e => by omega))
      clear ho7 hg7 hor hV6 p0 p1 p2
      go_wp2_with fail
      go_roundw
      case rel => exact ⟨k + 1, by go_num, by omega, Lib.hid (by rw [HS2.out]; exact HO7.out), ⟨w7, H7.out⟩, rfl⟩
      case measure => simp [intOf]; omega
    · have t3 : decide (f' < t') = false := by rw [decide_eq_false_iff_not]; exact hft
      have HS2 := Lib.hid (show movedF (l.take (k + 1)) by_ span = movedF (l.take k) by_ span by rw [HST.out, if_neg hft])
      clear HST hft
      go_wp2_with fail
      go_roundw
      case rel => exact ⟨k + 1, by go_num, by omega, Lib.hid (by rw [HS2.out]; exact HO2.out), ⟨W2, below_step X.2 HB2.out⟩, rfl⟩
      case measure => simp [intOf]; omega
  · have t2 : decide ((k : Int) < (n : Int)) = false := by rw [decide_eq_false_iff_not]; omega
    have t2' : decide (k < n) = false := by simpa using hlt
    obtain rfl : k = n := by omega
    have HF := Lib.hid (show l.take k = l from by rw [← HN.out]; exact List.take_length)
    clear hlt hk
    go_wp2_with fail
    go_ret
    exact ⟨_, rfl, by rw [← HF.out]; exact HO.out, X.2⟩
end Go.Proofs.YtgdepcnfjmobjaaGreat

/- A text of this claim. -/
namespace Go.Proofs.YtgdepcnfjmobjaaGreat
open Go.RowKit Go.BigFrame
open Tr (inR)
open Ft (Mt)
set_option maxHeartbeats 1000000 in
theorem orE_any (l : List Int) (g c : Nat) (w : World) (hl : l.length ≤ 1000) (hc : ∀ i v, l[i]? = some v → w.cell? ⟨g, i, none⟩ = some (.int .i64 v)) :
 Calls Tryz.prog 32 #[.slice (some ⟨g, 0, none⟩) l.length c] w fun e w' => e = .returned (.int .i64 (orL l)) ∧ w = w' := by
 obtain ⟨n, hn⟩ : ∃ n, l.length = n := ⟨_, rfl⟩
 have HN := Lib.hid hn
 have HC := Lib.hid hc
 rw [hn] at hl ⊢
 clear hn hc
 go_enter Tryz.func32, Tryz.ntmps32
 go_wp2_with fail
 go_loop [8] (fun iv => ∃ (k : Nat), iv = .int .i64 k ∧ k ≤ n ∧ Hid (orL l = orL (l.drop k))) (fun iv => n - (intOf iv).toNat)
 case atStart => exact ⟨0, rfl, by omega, Lib.hid rfl⟩
 case round =>
  obtain ⟨k, rfl, hk, HE⟩ := hrel
  by_cases hlt : k < n
  · have t1 : decide ((k : Int) < (n : Int)) = true := by rw [decide_eq_true_eq]; omega
    have t1' : decide (k < n) = true := by simpa using hlt
    obtain ⟨x, hx⟩ : ∃ x, l[k]? = some x := ⟨_, List.getElem?_eq_getElem (by rw [HN.out]; exact hlt)⟩
    have hcx := HC.out k x hx
    obtain ⟨h1, h2⟩ := orL_drop hx HE.out
    clear hx HE
    by_cases h0 : x = 0
    · subst h0
      have HE := Lib.hid (h2 rfl)
      clear h1 h2
      go_wp2_with fail
      go_round
      case rel => exact ⟨k + 1, by go_num, by omega, HE⟩
      case measure => simp [intOf]; omega
    · have HE := Lib.hid (h1 h0)
      have hb : (x != 0) = true := by rw [bne_iff_ne]; exact h0
      clear h1 h2 h0
      go_wp2_with fail
      go_ret
      exact ⟨by rw [HE.out]; rfl, rfl⟩
  · have t1 : decide ((k : Int) < (n : Int)) = false := by rw [decide_eq_false_iff_not]; omega
    have t1' : decide (k < n) = false := by simpa using hlt
    have HF := Lib.hid (show orL l = 0 by rw [HE.out, List.drop_eq_nil_of_le (by rw [HN.out]; omega)]; rfl)
    clear hlt HE
    go_wp2_with fail
    go_ret
    exact ⟨by rw [HF.out]; rfl, rfl⟩
end Go.Proofs.YtgdepcnfjmobjaaGreat

/- A text of this claim. -/
namespace Go.Proofs.YtgdepcnfjmobjaaGreat
open Go.RowKit Go.BigFrame
open Tr (inR)
open Ft (Mt)
theorem orL_two (a b : Int) : orL [a, b] = if a ≠ 0 then a else b := by
 by_cases h : a = 0
 · by_cases h2 : b = 0
   · simp [orL, h, h2]
   · simp [orL, h, h2]
 · simp [orL, h]
end Go.Proofs.YtgdepcnfjmobjaaGreat

/- A text of this claim. -/
namespace Go.Proofs.YtgdepcnfjmobjaaGreat
open Tr (inR)
structure LpOk (span : Int) (l : List Lp) : Prop where
 each : ∀ (i : Nat) (p : Lp), l[i]? = some p → 0 ≤ p.f ∧ p.f < p.t ∧ p.t ≤ span ∧ titleB p.s = true
 next : ∀ (i : Nat) (p q : Lp), l[i]? = some p → l[i + 1]? = some q → p.t ≤ q.f
structure TgOk (l : List ByteArray) : Prop where
 each : ∀ (i : Nat) (s : ByteArray), l[i]? = some s → nameB s = true
 next : ∀ (i : Nat) (p s : ByteArray), l[i]? = some p → l[i + 1]? = some s → Op.bytesLess p.toList s.toList = true
theorem errS_zero {start : Int} {l : List Sm} : firstE (errS start l) l.length 0 = 0 ↔ SmOk start l := by
 refine ⟨smOk_of, fun h => firstE_zero.2 fun i _ hi => ?_⟩
 obtain ⟨s, hs⟩ : ∃ s, l[i]? = some s := ⟨_, List.getElem?_eq_getElem (by omega)⟩
 obtain ⟨u1, u2, u3⟩ := h.upto i s hs
 have ho : ordS l i s.tm = false := by
  unfold ordS
  by_cases h0 : i = 0
  · subst h0
    rw [if_pos rfl, h.first s hs]
    rfl
  · rw [if_neg h0]
    obtain ⟨p, hp⟩ : ∃ p, l[i - 1]? = some p := ⟨_, List.getElem?_eq_getElem (by omega)⟩
    rw [hp]
    have := h.next (i - 1) p s hp (by rw [show i - 1 + 1 = i by omega]; exact hs)
    show decide (s.tm ≤ p.tm) = false
    rw [decide_eq_false_iff_not]
    omega
 unfold errS
 rw [hs]
 show (if ordS l i s.tm = true then (10 : Int) else _) = 0
 rw [ho, if_neg (by decide), if_neg (fun hh => by rcases hh with h | h | h <;> first | omega | (rw [u3] at h; cases h))]
theorem errL_zero {span : Int} {l : List Lp} : firstE (errL span l) l.length 0 = 0 ↔ LpOk span l := by
 rw [firstE_zero]
 have key : ∀ (i : Nat) (p : Lp), l[i]? = some p → (errL span l i = 0 ↔ (¬ (p.f < 0 ∨ p.t ≤ p.f ∨ span < p.t)) ∧ ordL l i p.f = false ∧ titleB p.s = true) := by
  intro i p hp
  unfold errL
  rw [hp]
  show (if p.f < 0 ∨ p.t ≤ p.f ∨ span < p.t then (9 : Int) else if ordL l i p.f = true then 10 else if titleB p.s = true then 0 else 8) = 0 ↔ _
  by_cases h1 : p.f < 0 ∨ p.t ≤ p.f ∨ span < p.t
  · rw [if_pos h1]
    exact ⟨fun h => absurd h (by decide), fun h => absurd h1 h.1⟩
  · rw [if_neg h1]
    cases h2 : ordL l i p.f
    · cases h3 : titleB p.s
      · simp
      · simp [h1]
    · simp
 constructor
 · intro h
   refine ⟨fun i p hp => ?_, fun i p q hp hq => ?_⟩
   · have := (key i p hp).1 (h i (Nat.zero_le _) (by have := (List.getElem?_eq_some_iff.1 hp).1; omega))
     exact ⟨by omega, by omega, by omega, this.2.2⟩
   · have := ((key (i + 1) q hq).1 (h (i + 1) (Nat.zero_le _) (by have := (List.getElem?_eq_some_iff.1 hq).1; omega))).2.1
     unfold ordL at this
     rw [if_neg (by omega), Nat.add_sub_cancel, hp] at this
     have : decide (q.f < p.t) = false := this
     rw [decide_eq_false_iff_not] at this
     omega
 · intro h i _ hi
   obtain ⟨p, hp⟩ : ∃ p, l[i]? = some p := ⟨_, List.getElem?_eq_getElem (by omega)⟩
   obtain ⟨a1, a2, a3, a4⟩ := h.each i p hp
   refine (key i p hp).2 ⟨by omega, ?_, a4⟩
   unfold ordL
   by_cases h0 : i = 0
   · rw [if_pos h0]
   · rw [if_neg h0]
     obtain ⟨q, hq⟩ : ∃ p, l[i - 1]? = some p := ⟨_, List.getElem?_eq_getElem (by omega)⟩
     rw [hq]
     have := h.next (i - 1) q p hq (by rw [show i - 1 + 1 = i by omega]; exact hp)
     show decide (p.f < q.t) = false
     rw [decide_eq_false_iff_not]
     omega
theorem errT_zero {l : List ByteArray} : firstE (errT l) l.length 0 = 0 ↔ TgOk l := by
 rw [firstE_zero]
 have key : ∀ (i : Nat) (p : ByteArray), l[i]? = some p → (errT l i = 0 ↔ nameB p = true ∧ ordT l i p = false) := by
  intro i p hp
  unfold errT
  rw [hp]
  show (if nameB p = false then (8 : Int) else if ordT l i p = true then 10 else 0) = 0 ↔ _
  cases nameB p
  · simp
  · cases ordT l i p
    · simp
    · simp
 constructor
 · intro h
   refine ⟨fun i p hp => ((key i p hp).1 (h i (Nat.zero_le _) (by have := (List.getElem?_eq_some_iff.1 hp).1; omega))).1, fun i p q hp hq => ?_⟩
   have := ((key (i + 1) q hq).1 (h (i + 1) (Nat.zero_le _) (by have := (List.getElem?_eq_some_iff.1 hq).1; omega))).2
   unfold ordT at this
   rw [if_neg (by omega), Nat.add_sub_cancel, hp] at this
   have : (!Op.bytesLess p.toList q.toList) = false := this
   simpa using this
 · intro h i _ hi
   obtain ⟨p, hp⟩ : ∃ p, l[i]? = some p := ⟨_, List.getElem?_eq_getElem (by omega)⟩
   refine (key i p hp).2 ⟨h.each i p hp, ?_⟩
   unfold ordT
   by_cases h0 : i = 0
   · rw [if_pos h0]
   · rw [if_neg h0]
     obtain ⟨q, hq⟩ : ∃ p, l[i - 1]? = some p := ⟨_, List.getElem?_eq_getElem (by omega)⟩
     rw [hq]
     have := h.next (i - 1) q p hq (by rw [show i - 1 + 1 = i by omega]; exact hp)
     show (!Op.bytesLess q.toList p.toList) = false
     rw [this]
     rfl
structure AcOk (A : Acv) : Prop where
 name : nameB A.name = true
 sport : 1 ≤ A.sport ∧ A.sport ≤ 5
 start : 0 ≤ A.start ∧ A.start ≤ 86399999999
 nsm : A.sm.length ≤ 20000
 nlp : A.lp.length ≤ 200
 ntg : A.tg.length ≤ 20
 sm : SmOk A.start A.sm
 lp : LpOk (spanS A.sm) A.lp
 tg : TgOk A.tg
theorem chkA_zero {A : Acv} : chkA A = 0 ↔ AcOk A := by
 constructor
 · intro h
   unfold chkA at h
   split at h
   · cases h
   rename_i h1
   split at h
   · cases h
   rename_i h2
   split at h
   · cases h
   rename_i h3
   split at h
   · cases h
   rename_i h4
   unfold chkR at h
   split at h
   case isFalse h5 => exact absurd h h5
   rename_i h5
   split at h
   case isFalse h6 => exact absurd h h6
   rename_i h6
   exact ⟨by simpa using h1, inR_iff.1 (by simpa using h2), inR_iff.1 (by simpa using h3), by omega, by omega, by omega, errS_zero.1 h5, errL_zero.1 h6, errT_zero.1 h⟩
 · intro h
   unfold chkA
   rw [if_neg (by rw [h.name]; decide), if_neg (by rw [inR_iff.2 h.sport]; decide), if_neg (by rw [inR_iff.2 h.start]; decide), if_neg (by have := h.nsm; have := h.nlp; have := h.ntg; omega)]
   unfold chkR
   rw [if_pos (show chkSs A = 0 from errS_zero.2 h.sm), if_pos (show chkLs A = 0 from errL_zero.2 h.lp)]
   exact errT_zero.2 h.tg
theorem spanS_range {start : Int} {l : List Sm} (h : SmOk start l) : 0 ≤ spanS l ∧ spanS l ≤ 1000000 := by
 unfold spanS
 cases hx : l[l.length - 1]? with
 | none => exact ⟨by decide, by decide⟩
 | some s => exact ⟨h.nonneg hx, (h.upto _ s hx).1⟩
end Go.Proofs.YtgdepcnfjmobjaaGreat

/- A text of this claim. -/
namespace Go.Proofs.YtgdepcnfjmobjaaGreat
open Go.RowKit Go.BigFrame
def ac0 : Value := .agg #[.string ⟨#[]⟩, .int .i64 0, .int .i64 0, .slice none 0 0, .slice none 0 0, .slice none 0 0]
def ActRet (Z : Acv) (w : World) (e : Ending) (w' : World) : Prop :=
 Below w.heap.size w w' ∧ ∃ er, chkA Z = er ∧ ((er ≠ 0 ∧ e = .returned (.tuple #[ac0, .int .i64 er])) ∨ (er = 0 ∧ ∃ a b c ca cb cc, e = .returned (.tuple #[actV Z a b c ca cb cc, .int .i64 0]) ∧ ActIn w' Z a b c ∧ ∀ g, (a = some g ∨ b = some g ∨ c = some g) → w.heap.size ≤ g.block))
def backS (d : Int) (s : Sm) : Sm := { s with tm := s.tm - d }
def partA (A : Acv) (l : List Sm) (d : Int) : Acv := ⟨A.name, A.sport, A.start + d, l.map (backS d), movedF A.lp d (spanS (l.map (backS d))), A.tg⟩
theorem ActIn.kept {O : Nat → Prop} {w w' : World} {A : Acv} {a b c : Option Addr} (h : ActIn w A a b c) (hk : Kept O w w') (ho : ∀ g, (a = some g ∨ b = some g ∨ c = some g) → ¬ O g.block) : ActIn w' A a b c :=
 ⟨h.sm.kept hk (fun b off e => ho ⟨b, off, none⟩ (Or.inl e)), h.lp.kept hk (fun b off e => ho ⟨b, off, none⟩ (Or.inr (Or.inl e))), h.tg.kept hk (fun b off e => ho ⟨b, off, none⟩ (Or.inr (Or.inr e))), h.name, h.titles, h.tags, h.nsm, h.nlp, h.ntg⟩
theorem movedF_mem {l : List Lp} {by_ span : Int} {x : Lp} (h : x ∈ movedF l by_ span) : ∃ y, y ∈ l ∧ x.s = y.s := by
 unfold movedF at h
 obtain ⟨h1, _⟩ := List.mem_filter.1 h
 obtain ⟨y, hy, rfl⟩ := List.mem_map.1 h1
 exact ⟨y, hy, rfl⟩
set_option maxHeartbeats 8000000 in
set_option maxRecDepth 100000 in
theorem part_any (A : Acv) (a b c : Option Addr) (ca cb cc : Nat) (l : List Sm) (al : Option Addr) (cl : Nat) (d : Int) (w : World) (h : ActIn w A a b c) (hok : AcOk A) (hr : Rw smC 7 w al l) (hl : l.length ≤ 20000) (hx : ∀ s, s ∈ l → 0 ≤ s.tm ∧ s.tm ≤ 1000000) (h0 : 0 ≤ d) (h1 : d ≤ 1000000) :
 Calls Tryz.prog 143 #[actV A a b c ca cb cc, .slice al l.length cl, .int .i64 d] w fun e w' => ActRet (partA A l d) w e w' := by
 obtain ⟨n, hn⟩ : ∃ n, l.length = n := ⟨_, rfl⟩
 have HLN := Lib.hid hn
 rw [hn] at hl ⊢
 obtain ⟨V0, hV0, hb0, hs0, ha0⟩ := alloc_ac w A.name A.sport A.start (.slice a A.sm.length ca) (.slice b A.lp.length cb) (.slice c A.tg.length cc)
 obtain ⟨V1, hV1, hb1, hs1, ha1⟩ := alloc_ac V0 ⟨#[]⟩ 0 0 (.slice none 0 0) (.slice none 0 0) (.slice none 0 0)
 rw [hs0] at ha1
 have ha0 := ha0.below hb1
 have HB := Lib.hid (below_step hb0 hb1)
 have HIN := Lib.hid (h.below HB.out)
 have HOK := Lib.hid hok
 have HRL := Lib.hid (hr.below HB.out)
 have HXL := Lib.hid (fun (i : Nat) (hi : i < n) => show ∃ x, l[i]? = some x ∧ 0 ≤ x.tm ∧ x.tm ≤ 1000000 from by
  have hg : i < l.length := by rw [hn]; exact hi
  exact ⟨_, List.getElem?_eq_getElem hg, hx _ (List.getElem_mem hg)⟩)
 have HT := Lib.hid (And.intro hs0 hs1)
 have HA0 := Lib.hid ha0
 have HA1 := Lib.hid ha1
 have DC := Lib.hid (cloneA_any A a b c ca cb cc V1 HIN.out (by have := hok.nsm; omega) (by have := hok.nlp; omega) (by have := hok.ntg; omega))
 obtain ⟨g0, g1, g2, g3, g4, g5⟩ := ha0.cell
 clear h hok hr hx hb0 hb1 ha0 ha1 hn hs1
 unfold actV at DC ⊢
 go_enter Tryz.func143, Tryz.ntmps143
 go_wp2_with fail
 refine (DC.out).mono ?_
 unfold CloneRet
 rintro e w1 ⟨⟨a1, b1, c1, ca1, cb1, cc1, rfl, ho3⟩, hb1⟩
 obtain ⟨V3, hV3, hb3, hs3, ha3⟩ := alloc_ac w1 A.name A.sport A.start (.slice a1 A.sm.length ca1) (.slice b1 A.lp.length cb1) (.slice c1 A.tg.length cc1)
 obtain ⟨B, hB⟩ : ∃ B, w1.heap.size = B := ⟨_, rfl⟩
 have hA4 := ha3.set3 (.slice none 0 0)
 obtain ⟨W, hW⟩ : ∃ W, V3.setCell ⟨w1.heap.size, 3, none⟩ (.slice none 0 0) = W := ⟨_, rfl⟩
 rw [hW] at hA4
 have j3 := ha3.cell.2.2.2.1
 have f3 := ha3.free 3
 have HA4 := Lib.hid hA4
 have HBW := Lib.hid (show Below w1.heap.size w1 W from Kept.below hb3 (by rw [← hW]; exact keep_set (O := fun b => b = w1.heap.size) rfl) hb3.size (fun k hk e => by omega))
 have HB1 := Lib.hid hb1
 have HO3 := Lib.hid ho3
 have HBB := Lib.hid (And.intro hB hs3)
 clear hA4 ha3 hb3 hb1 ho3 hB
 unfold actV
 go_wp2_with fail
 rw [HBB.out.1]
 rw [HBB.out.1] at HA4
 clear j3 f3 hV3 hW g0 g1 g2 g3 g4 g5
 have HVB := Lib.hid (show w.heap.size + 2 ≤ B ∧ B < W.heap.size ∧ V1.heap.size ≤ B from by
  have := HB1.out.size
  have := HT.out
  have := HBB.out
  have := HBW.out.size
  have := HA4.out.lt
  omega)
 have HC := Lib.hid (fun (X : ExtO (fun b => b = B) W) (p : Addr) (v : Value) (hp : p.block < V1.heap.size) (h : V1.cell? p = some v) => show X.1.cell? p = some v from X.2.cell (by have := HVB.out; omega) (below_cell HBW.out (below_cell HB1.out h)))
 clear hs3
 go_loopw [17] (fun iv wr => ∃ k : Nat, iv = .int .i64 k ∧ k ≤ n ∧ Hid (∃ vs, AcB wr B A.name A.sport A.start vs (.slice b1 A.lp.length cb1) (.slice c1 A.tg.length cc1) ∧ Own smC 7 54 wr W.heap.size vs ((l.take k).map (backS d))) ∧ ∃ X : ExtO (fun b => b = B) W, wr = X.1) (fun iv _ => n - (intOf iv).toNat)
 case atStart => exact ⟨0, rfl, by omega, Lib.hid ⟨_, HA4.out, Own.nil _ _ _ _ _⟩, ⟨W, Kept.refl _ _⟩, rfl⟩
 case round =>
  obtain ⟨k, rfl, hk, HST, X, rfl⟩ := hrel
  obtain ⟨vs, hac, hown⟩ := HST.out
  obtain ⟨a', c', rfl, _, _, _⟩ := hown.row smEl
  rw [List.length_map, List.length_take, Nat.min_eq_left (by rw [HLN.out]; exact hk)] at hac hown
  by_cases hlt : k < n
  · have t2 : decide ((k : Int) < (n : Int)) = true := by rw [decide_eq_true_eq]; omega
    have t2' : decide (k < n) = true := by simpa using hlt
    obtain ⟨x, hx, hx0, hx1⟩ := HXL.out k hlt
    have HTK := Lib.hid (show (l.take (k + 1)).map (backS d) = (l.take k).map (backS d) ++ [backS d x] by rw [List.take_add_one, hx, List.map_append]; rfl)
    have HLK := Lib.hid (show ((l.take k).map (backS d)).length = k by rw [List.length_map, List.length_take, Nat.min_eq_left (by rw [HLN.out]; exact hk)])
    obtain ⟨b3, o3, rfl, hb3, hd⟩ := HRL.out.at hx
    have e0 := HC.out X ⟨b3, o3 + k * 7, none⟩ (.int .i64 x.tm) hb3 (hd 0 _ rfl)
    have e1 := HC.out X ⟨b3, o3 + k * 7 + 1, none⟩ (.int .i64 x.x) hb3 (hd 1 _ rfl)
    have e2 := HC.out X ⟨b3, o3 + k * 7 + 2, none⟩ (.int .i64 x.y) hb3 (hd 2 _ rfl)
    have e3 := HC.out X ⟨b3, o3 + k * 7 + 3, none⟩ (.int .i64 x.z) hb3 (hd 3 _ rfl)
    have e4 := HC.out X ⟨b3, o3 + k * 7 + 4, none⟩ (.int .i64 x.pu) hb3 (hd 4 _ rfl)
    have e5 := HC.out X ⟨b3, o3 + k * 7 + 5, none⟩ (.int .i64 x.po) hb3 (hd 5 _ rfl)
    have e6 := HC.out X ⟨b3, o3 + k * 7 + 6, none⟩ (.int .i64 x.st) hb3 (hd 6 _ rfl)
    have hy : smC (backS d x) = [.int .i64 (x.tm - d), .int .i64 x.x, .int .i64 x.y, .int .i64 x.z, .int .i64 x.pu, .int .i64 x.po, .int .i64 x.st] := rfl
    have hw : IntKind.i64.wrap (x.tm - d) = x.tm - d := tm_wrap (by omega) (by omega)
    obtain ⟨V6, hV6, hb6, hs6, hl6⟩ := alloc_cells X.1 #[.int .i64 x.tm, .int .i64 x.x, .int .i64 x.y, .int .i64 x.z, .int .i64 x.pu, .int .i64 x.po, .int .i64 x.st] 54
    have hk0 : V6.heap[X.1.heap.size]? = some (.cells #[.int .i64 x.tm, .int .i64 x.x, .int .i64 x.y, .int .i64 x.z, .int .i64 x.pu, .int .i64 x.po, .int .i64 x.st] 54 (0, 0)) := by rw [← hV6]; exact heap_alloc_new X.1 _
    have hk1 := set_cells (i := 0) (v := .int .i64 (x.tm - d)) hk0
    obtain ⟨W6, hW6⟩ : ∃ W, V6.setCell ⟨X.1.heap.size, 0, none⟩ (.int .i64 (x.tm - d)) = W := ⟨_, rfl⟩
    rw [hW6] at hk1
    have hB6 : Below X.1.heap.size X.1 W6 := Kept.below hb6 (by rw [← hW6]; exact keep_set (O := fun b => b = X.1.heap.size) rfl) hb6.size (fun k hk e => by omega)
    have r0 : V6.cell? ⟨X.1.heap.size, 0, none⟩ = some (.int .i64 x.tm) := by simp [World.cell?, hk0]
    have f0 : V6.frozen? ⟨X.1.heap.size, 0, none⟩ = false := by simp [World.frozen?, hk0]
    have p0 : W6.cell? ⟨X.1.heap.size, 0, none⟩ = some (.int .i64 (x.tm - d)) := by simp [World.cell?, hk1]
    have p1 : W6.cell? ⟨X.1.heap.size, 1, none⟩ = some (.int .i64 x.x) := by simp [World.cell?, hk1]
    have p2 : W6.cell? ⟨X.1.heap.size, 2, none⟩ = some (.int .i64 x.y) := by simp [World.cell?, hk1]
    have p3 : W6.cell? ⟨X.1.heap.size, 3, none⟩ = some (.int .i64 x.z) := by simp [World.cell?, hk1]
    have p4 : W6.cell? ⟨X.1.heap.size, 4, none⟩ = some (.int .i64 x.pu) := by simp [World.cell?, hk1]
    have p5 : W6.cell? ⟨X.1.heap.size, 5, none⟩ = some (.int .i64 x.po) := by simp [World.cell?, hk1]
    have p6 : W6.cell? ⟨X.1.heap.size, 6, none⟩ = some (.int .i64 x.st) := by simp [World.cell?, hk1]
    have q3 : W6.cell? ⟨B, 3, none⟩ = some (.slice a' k c') := (hac.below hB6).cell.2.2.2.1
    obtain ⟨V7, hV7, hb7, hs7, hl7⟩ := alloc_cells W6 #[.int .i64 (x.tm - d), .int .i64 x.x, .int .i64 x.y, .int .i64 x.z, .int .i64 x.pu, .int .i64 x.po, .int .i64 x.st] 54
    have HC7 := Lib.hid (fun j u (hj : (smC (backS d x))[j]? = some u) => show V7.cell? ⟨W6.heap.size, j, none⟩ = some u from hl7 j u (by rw [← hj, hy]; simp))
    have hB7 := below_step hB6 hb7
    have HO7 := Lib.hid (hown.below hB7)
    have HA7 := Lib.hid (hac.below hB7)
    have HK7 := Lib.hid (X.2.trans (Kept.of_below hB7))
    clear hac hown hb6 hs6 hl6 hk0 hk1 hB6 hb7 hs7 hl7 hB7 hx hd hb3 hy HST hx0 hx1
    go_wp2_with (at_builtin; refine append_Sm rfl _ _ rfl rfl HO7.out (p := backS d x) rfl HC7.out (by rw [HLK.out]; omega) HK7.out.size (fun g' c2 w8 ho8 hg8 hor => ?_); rw [HLK.out] at ho8 ⊢; have HA8 := Lib.hid (HA7.out.kept (O := fun b => W.heap.size ≤ b) (Kept.of_grown hg8 (fun g e _ => (HO7.out.lt g e).1)) (by have := HVB.out; omega)); have j8 := HA8.out.cell.2.2.2.1; have f8 := HA8.out.free 3; obtain ⟨W9, hW9⟩ : ∃ z, w8.setCell ⟨B, 3, none⟩ (.slice (some ⟨g', 0, none⟩) (k + 1) c2) = z := ⟨_, rfl⟩)
    have ha9 := HA8.out.set3 (.slice (some ⟨g', 0, none⟩) (k + 1) c2)
    rw [hW9] at ha9
    have hk9 : Kept (fun b => b = B) w8 W9 := by rw [← hW9]; exact keep_set (O := fun b => b = B) rfl
    have HO9 := Lib.hid (ho8.keepO hk9 (fun b hb e => by have := (ho8.lt b hb).1; have := HVB.out; omega))
    have HA9 := Lib.hid ha9
    have HK9 := Lib.hid ((HK7.out.grown hg8 (fun g e hlt => by have := (HO7.out.lt g e).1; omega)).trans hk9)
    clear ho8 hg8 hor ha9 hk9 hW9 j8 f8
    go_roundw
    case rel => exact ⟨k + 1, by go_num, by omega, Lib.hid ⟨_, HA9.out, by rw [HTK.out]; exact HO9.out⟩, ⟨W9, HK9.out⟩, rfl⟩
    case measure => simp [intOf]; omega
  · have t2 : decide ((k : Int) < (n : Int)) = false := by rw [decide_eq_false_iff_not]; omega
    have t2' : decide (k < n) = false := by simpa using hlt
    obtain rfl : k = n := by omega
    have hmap : l.take k = l := by rw [← HLN.out]; exact List.take_length
    rw [hmap] at hown
    obtain ⟨L, hL⟩ : ∃ L, l.map (backS d) = L := ⟨_, rfl⟩
    rw [hL] at hown
    have HL := Lib.hid hL
    have HLL := Lib.hid (show L.length = k by rw [← hL, List.length_map]; exact HLN.out)
    obtain ⟨u1, u2⟩ := HOK.out.start
    have hws : IntKind.i64.wrap (A.start + d) = A.start + d := tm_wrap (by omega) (by omega)
    have j2 := hac.cell.2.2.1
    have f2 := hac.free 2
    have ha9 := hac.set2 (A.start + d)
    obtain ⟨W9, hW9⟩ : ∃ z, X.1.setCell ⟨B, 2, none⟩ (.int .i64 (A.start + d)) = z := ⟨_, rfl⟩
    rw [hW9] at ha9
    have hk9 : Kept (fun b => b = B) X.1 W9 := by rw [← hW9]; exact keep_set (O := fun b => b = B) rfl
    have ho9 := hown.keepO hk9 (fun b hb e => by have := (hown.lt b hb).1; have := HVB.out; omega)
    have HK9 := Lib.hid (X.2.trans hk9)
    have HA9 := Lib.hid ha9
    have HO9 := Lib.hid ho9
    have HC9 := Lib.hid (fun (p : Addr) (v : Value) (hp : p.block < V1.heap.size) (h : V1.cell? p = some v) => HC.out ⟨W9, HK9.out⟩ p v hp h)
    have HIN9 := Lib.hid (show ActIn W9 A a b c from by
     have hlt := HVB.out
     have hv : ∀ {α : Type} {C : α → List Value} {m : Nat} {x : Option Addr} {ll : List α}, Rw C m V1 x ll → Rw C m W9 x ll := fun hr => ⟨fun hl => by
      obtain ⟨bb, off, e, hb, hc⟩ := hr.here hl
      exact ⟨bb, off, e, by have := HK9.out.size; omega, fun i x hx j v hv => HC9.out ⟨bb, off + i * _ + j, none⟩ v hb (hc i x hx j v hv)⟩⟩
     exact ⟨hv HIN.out.sm, hv HIN.out.lp, hv HIN.out.tg, HIN.out.name, HIN.out.titles, HIN.out.tags, HIN.out.nsm, HIN.out.nlp, HIN.out.ntg⟩)
    have g4' := HC9.out ⟨w.heap.size, 4, none⟩ _ (by simp only; have := HT.out; omega) HA0.out.cell.2.2.2.2.1
    have G4 := Ext.ex g4'
    obtain ⟨y0, y1, y2, y3, y4, y5⟩ := ha9.cell
    have Y0 := Ext.ex y0
    have Y1 := Ext.ex y1
    have Y2 := Ext.ex y2
    have Y3 := Ext.ex y3
    have Y4 := Ext.ex y4
    have Y5 := Ext.ex y5
    clear hmap hL hac hown ha9 hk9 ho9 HST g4' y0 y1 y2 y3 y4 y5 hlt hk
    go_upto_region 10 with (fail)
    clear j2 f2 hW9
    refine late_start (s := 7) (C := fun w' => ∃ Z : Ext W9, w' = Z.1) (by kernel_rfl) ?_
    obtain ⟨Z0, hZ0⟩ : ∃ Z : Ext W9, ({ W9 with drawn := W9.drawn + 1 } : World) = Z.1 := ⟨⟨{ W9 with drawn := W9.drawn + 1 }, ⟨rfl, rfl, rfl, Nat.le_refl _, fun _ _ => rfl⟩⟩, rfl⟩
    rw [hZ0]
    clear hZ0
    refine late_quiet (by kernel_rfl) (fun _ _ d _ _ h => by cases d <;> exact h) ⟨Z0, rfl⟩ [0, 1, 2, 3] 4 _ _ (by kernel_rfl) (by kernel_rfl) ?_
    change wpQuiet _ _ _ _ (_ :: _ :: _ :: _ :: []) _
    repeat go_big_quiet_step (fail)
    refine wpQuiet_nil ?_
    have DSP := Lib.hid (fun Z : Ext W9 => show Calls Tryz.prog 27 #[.agg #[.string A.name, .int .i64 A.sport, .int .i64 (A.start + d), .slice a' k c', .slice b1 A.lp.length cb1, .slice c1 A.tg.length cc1]] Z.1 fun e w' => e = .returned (.int .i64 (spanS L)) ∧ Below Z.1.heap.size Z.1 w' from by
     have h := span_any ⟨A.name, A.sport, A.start + d, L, A.lp, A.tg⟩ a' b1 c1 c' cb1 cc1 Z.1 ((HO9.out.rw_ smEl).1.below Z.2) (by show (L.length : Int) ≤ _; rw [HLL.out]; omega)
     unfold actV at h
     simp only [HLL.out] at h
     exact h)
    have hspan := spanS_range HOK.out.sm
    have DMV := Lib.hid (fun Z : Ext W9 => moved_any A.lp b cb d (spanS L) Z.1 (HIN9.out.lp.below Z.2) (by have := HOK.out.nlp; omega) (fun x hx => by
     obtain ⟨i, hi, rfl⟩ := List.getElem_of_mem hx
     obtain ⟨m1, m2, m3, _⟩ := HOK.out.lp.each i _ (List.getElem?_eq_getElem hi)
     omega) h0 h1)
    refine late_do (i := 4) _ rfl (by kernel_rfl) rfl (fun K hK => ?_)
    go_simp
    refine (DSP.out Z0).mono ?_
    rintro e Y1 ⟨rfl, hk1⟩
    obtain ⟨Z1, rfl⟩ : ∃ Z : Ext W9, Y1 = Z.1 := ⟨⟨Y1, below_step Z0.2 hk1⟩, rfl⟩
    refine hK _ _ (fun _ => ⟨Z1, rfl⟩) ?_
    clear hK K hk1
    try simp only [Act.put, List.setIfInBounds_toArray, List.set_cons_zero, List.set_cons_succ]
    refine late_do (i := 5) _ rfl (by kernel_rfl) rfl (fun K hK => ?_)
    go_simp
    refine (DMV.out Z1).mono ?_
    rintro e Y2 ⟨v2, rfl, ho2, hk2⟩
    obtain ⟨b2, cb2, rfl, _, _, _⟩ := ho2.row lpEl
    obtain ⟨Z2, rfl⟩ : ∃ Z : Ext W9, Y2 = Z.1 := ⟨⟨Y2, below_step Z1.2 hk2⟩, rfl⟩
    have HO2 := Lib.hid ho2
    refine hK _ _ (fun _ => ⟨Z2, rfl⟩) ?_
    clear hK K hk2 ho2
    try simp only [Act.put, List.setIfInBounds_toArray, List.set_cons_zero, List.set_cons_succ]
    refine late_do (i := 6) _ rfl (by kernel_rfl) rfl (fun K hK => ?_)
    go_simp
    refine hK _ _ (fun _ => ⟨Z2, rfl⟩) ?_
    clear hK K
    try simp only [Act.put, List.setIfInBounds_toArray, List.set_cons_zero, List.set_cons_succ]
    have hA2 := HA9.out.below Z2.2
    have y4 := hA2.cell.2.2.2.2.1
    have f4 := hA2.free 4
    obtain ⟨ML, hML⟩ : ∃ q, movedF A.lp d (spanS L) = q := ⟨_, rfl⟩
    rw [hML] at HO2 ⊢
    have HMLE := Lib.hid hML
    clear hML
    have hA3 := hA2.set4 (.slice b2 ML.length cb2)
    obtain ⟨W11, hW11⟩ : ∃ z, Z2.1.setCell ⟨B, 4, none⟩ (.slice b2 ML.length cb2) = z := ⟨_, rfl⟩
    rw [hW11] at hA3
    have hk11 : Kept (fun b => b = B) Z2.1 W11 := by rw [← hW11]; exact keep_set (O := fun b => b = B) rfl
    have HINX := Lib.hid (fun (WX : World) (hkx : Kept (fun b => b = B ∨ b = w.heap.size + 1) Z2.1 WX) => show ActIn WX ⟨A.name, A.sport, A.start + d, L, ML, A.tg⟩ a' b2 c1 from by
     have hlt := HVB.out
     obtain ⟨r1, _, r3⟩ := HO9.out.rw_ smEl
     obtain ⟨l1, _, l3⟩ := HO2.out.rw_ lpEl
     obtain ⟨B1, B2, hB1, hB2, _, _, _, _, hot⟩ := HO3.out.ex
     obtain ⟨t1, _, t3⟩ := hot.rw_ tgEl
     refine ⟨(r1.below Z2.2).kept hkx (fun b off e => by have hh : W.heap.size ≤ b := (r3 _ e).1; omega), l1.kept hkx (fun b off e => by have hh : Z1.1.heap.size ≤ b := (l3 _ e).1; have := Z1.2.size; have := HK9.out.size; omega), ?_, HIN.out.name, fun x hx => ?_, HIN.out.tags, ?_, ?_, HIN.out.ntg⟩
     · have hne : ∀ b off, c1 = some ⟨b, off, none⟩ → ¬ b = B := fun b off e => by have hh : b < w1.heap.size := (t3 _ e).2; have := HBB.out.1; omega
       exact (((t1.below HBW.out).kept HK9.out hne).below Z2.2).kept hkx (fun b off e => by have hh : B2 ≤ b := (t3 _ e).1; have := hne b off e; have := HT.out; omega)
     · rw [← HMLE.out] at hx
       obtain ⟨y, hy, e⟩ := movedF_mem hx
       rw [e]
       exact HIN.out.titles y hy
     · show (L.length : Int) ≤ _
       rw [HLL.out]
       omega
     · have hm := movedF_len A.lp d (spanS L)
       have := HOK.out.nlp
       rw [HMLE.out] at hm
       show (ML.length : Int) ≤ _
       omega)
    have HIN11 := Lib.hid (HINX.out W11 ⟨hk11.os, hk11.tape, hk11.output, hk11.size, fun k hk ho => hk11.block k hk (fun e => ho (Or.inl e))⟩)
    have HA11 := Lib.hid hA3
    have HB11 := Lib.hid hk11
    clear hA2 hA3 hk11
    refine late_do (i := 7) _ rfl (by kernel_rfl) rfl (fun K hK => ?_)
    go_simp
    refine hK _ _ (fun h => nomatch (show true = false from h)) ?_
    clear hK K
    try simp only [Act.put, List.setIfInBounds_toArray, List.set_cons_zero, List.set_cons_succ]
    refine late_done (by kernel_rfl) ?_ _
    clear y4 f4 hW11 G4 Y0 Y1 Y2 Y3 Y4 Y5 hspan
    have DCK := Lib.hid (show Calls Tryz.prog 14 #[.agg #[.string A.name, .int .i64 A.sport, .int .i64 (A.start + d), .slice a' k c', .slice b2 ML.length cb2, .slice c1 A.tg.length cc1]] W11 fun e w' => e = .returned (.int .i64 (chkA ⟨A.name, A.sport, A.start + d, L, ML, A.tg⟩)) ∧ Below W11.heap.size W11 w' from by
     have h := check_any ⟨A.name, A.sport, A.start + d, L, ML, A.tg⟩ a' b2 c1 c' cb2 cc1 W11 HIN11.out
     unfold ChkG actV at h
     simp only [HLL.out] at h
     exact h)
    have HPA := Lib.hid (show partA A l d = ⟨A.name, A.sport, A.start + d, L, ML, A.tg⟩ by unfold partA; rw [HL.out, HMLE.out])
    obtain ⟨er, her⟩ : ∃ z, chkA ⟨A.name, A.sport, A.start + d, L, ML, A.tg⟩ = z := ⟨_, rfl⟩
    have HER := Lib.hid her
    rw [her] at DCK
    clear her
    have z := HA11.out.cell
    obtain ⟨z0, z1, z2, z3, z4, z5⟩ := z
    go_wp2_with fail
    refine (DCK.out).mono ?_
    rintro e W12 ⟨rfl, hb12⟩
    have hA12 := HA11.out.below hb12
    have HA12 := Lib.hid hA12
    have HWL := Lib.hid (show Below w.heap.size w W12 from by
     have h1 := below_step (below_step HB.out HB1.out) HBW.out
     have h2 : Below w.heap.size w W9 := Kept.below h1 HK9.out h1.size (fun k hk e => by have := HVB.out; omega)
     have h3 := below_step h2 Z2.2
     exact below_step (Kept.below h3 HB11.out h3.size (fun k hk e => by have := HVB.out; omega)) hb12)
    have HR12 := Lib.hid (show AcB W12 (w.heap.size + 1) ⟨#[]⟩ 0 0 (.slice none 0 0) (.slice none 0 0) (.slice none 0 0) from by
     have hlt := HVB.out
     have hne : ¬ (w.heap.size + 1 = B) := by omega
     exact ((((((HA1.out.below HB1.out).below HBW.out).kept HK9.out hne).below Z2.2).kept HB11.out hne).below hb12))
    have HK12 := Lib.hid (show Kept (fun b => b = B ∨ b = w.heap.size + 1) Z2.1 W12 from Kept.trans ⟨HB11.out.os, HB11.out.tape, HB11.out.output, HB11.out.size, fun k hk ho => HB11.out.block k hk (fun e => ho (Or.inl e))⟩ (Kept.of_below hb12))
    obtain ⟨r0, r1, r2, r3, r4, r5⟩ := HR12.out.cell
    have fr := HR12.out.free
    clear hb12 hA12 z0 z1 z2 z3 z4 z5 DCK
    by_cases h0' : er = 0
    · subst h0'
      obtain ⟨z0, z1, z2, z3, z4, z5⟩ := HA12.out.cell
      obtain ⟨WF, hWF, haF, hkF⟩ := HR12.out.store A.name A.sport (A.start + d) (.slice a' k c') (.slice b2 ML.length cb2) (.slice c1 A.tg.length cc1)
      have HAF := Lib.hid haF
      have HKF := Lib.hid hkF
      clear haF hkF
      go_wp2_with fail
      have q := HAF.out.cell
      have HBF := Lib.hid (show Below w.heap.size w WF from Kept.below HWL.out (HKF.out (fun b => b = w.heap.size + 1) rfl) HWL.out.size (fun k hk e => by omega))
      refine bodyPost_ret (v := .tuple #[.agg #[.string A.name, .int .i64 A.sport, .int .i64 (A.start + d), .slice a' k c', .slice b2 ML.length cb2, .slice c1 A.tg.length cc1], .int .i64 0]) (by simp [results, Tryz.results143, go_sem, q]) rfl ⟨HBF.out, 0, by rw [HPA.out]; exact HER.out, Or.inr ⟨rfl, a', b2, c1, c', cb2, cc1, ?_, ?_, ?_⟩⟩
      · rw [HPA.out]
        unfold actV
        simp only [HLL.out]
      · rw [HPA.out]
        exact HINX.out WF (HK12.out.trans (HKF.out _ (Or.inr rfl)))
      · obtain ⟨B1, B2, hB1, hB2, _, _, _, _, hot⟩ := HO3.out.ex
        have hlt := HVB.out
        have hsz := HT.out
        rintro g (e | e | e)
        · have := ((HO9.out.rw_ smEl).2.2 _ e).1
          omega
        · have := ((HO2.out.rw_ lpEl).2.2 _ e).1
          have := Z1.2.size
          have := HK9.out.size
          omega
        · have := ((hot.rw_ tgEl).2.2 _ e).1
          omega
    · have b0 : (er != 0) = true := by rw [bne_iff_ne]; exact h0'
      obtain ⟨WF, hWF, haF, hkF⟩ := HR12.out.store ⟨#[]⟩ 0 0 (.slice none 0 0) (.slice none 0 0) (.slice none 0 0)
      have HAF := Lib.hid haF
      have HKF := Lib.hid hkF
      have H0 := Lib.hid h0'
      clear haF hkF h0'
      go_wp2_with fail
      have q := HAF.out.cell
      have HBF := Lib.hid (show Below w.heap.size w WF from Kept.below HWL.out (HKF.out (fun b => b = w.heap.size + 1) rfl) HWL.out.size (fun k hk e => by omega))
      refine bodyPost_ret (v := .tuple #[ac0, .int .i64 er]) (by simp [results, Tryz.results143, go_sem, q, ac0]) rfl ⟨HBF.out, er, by rw [HPA.out]; exact HER.out, Or.inl ⟨H0.out, rfl⟩⟩
end Go.Proofs.YtgdepcnfjmobjaaGreat

/- A text of this claim. -/
namespace Go.Proofs.YtgdepcnfjmobjaaGreat
open Go.RowKit Go.BigFrame
open Tr (inR)
theorem kin_any (n lo hi : Int) (w : World) : Calls Tryz.prog 108 #[.int .i64 n, .int .i64 lo, .int .i64 hi] w fun e w' => e = .returned (.bool (inR n lo hi)) ∧ w = w' := by
 cases h : decide (lo ≤ n)
 all_goals
  go_enter Tryz.func108, Tryz.ntmps108
  go_wp2
  go_ret
  exact ⟨ret_bool (by unfold inR; simp [h]), rfl⟩
end Go.Proofs.YtgdepcnfjmobjaaGreat

/- A text of this claim. -/
namespace Go.Proofs.YtgdepcnfjmobjaaGreat
open Go.RowKit Go.BigFrame
end Go.Proofs.YtgdepcnfjmobjaaGreat

/- A text of this claim. -/
namespace Go.Proofs.YtgdepcnfjmobjaaGreat
open Go.RowKit Go.BigFrame
section sorted
open Go.Sort
variable {α : Type} {enc : α → List Value} {k : Nat}
variable [Inhabited α]
theorem heap_sortedK {w : World} {g n : Nat} {os : Array Obj} {cur F : Array Value} {e : TypeId} {fr : Nat × Nat} (hb : w.heap[g]? = some (.cells cur e fr)) :
 (grow (putRow id (Sort.ahead w n) g 0 F) os).heap[g]? = some (.cells (putCells id 0 F cur) e fr) := by
 have hg : g < w.heap.size := (Array.getElem?_eq_some_iff.1 hb).1
 rw [heap_grow_old _ _ (by simpa using hg)]
 simp [putRow, mapBlock, Sort.ahead, Array.getElem?_modify, hb, onCells]
theorem take_putCellsK (cur F : Array Value) (h : F.size ≤ cur.size) : (putCells id 0 F cur).toList.take F.size = F.toList := by
 apply List.ext_getElem?
 intro j
 by_cases hj : j < F.size
 · rw [List.getElem?_take_of_lt hj, Array.getElem?_toList]
   simp [putCells, hj, show j < cur.size by omega]
 · rw [List.getElem?_take_eq_none (by omega), List.getElem?_eq_none (by simp; omega)]
end sorted
end Go.Proofs.YtgdepcnfjmobjaaGreat

/- A text of this claim. -/
namespace Go.Proofs.YtgdepcnfjmobjaaGreat
open Go.RowKit Go.BigFrame
open Go.Sort Go.Lib
theorem putCells_map {α : Type} [Inhabited α] (enc : α → Value) (d : Array α) (c : Array Value) : putCells enc 0 d c = putCells id 0 (d.map enc) c := by
 unfold putCells
 apply Array.ext
 · simp
 · intro i h1 h2
   simp only [Array.getElem_mapIdx, Array.size_map]
   split
   · rename_i h
     have hi : i - 0 < d.size := by omega
     rw [getElem!_pos d _ hi, getElem!_pos (d.map enc) _ (by simpa using hi), Array.getElem_map]
     rfl
   · rfl
theorem putRow_map {α : Type} [Inhabited α] (enc : α → Value) (w : World) (b : Nat) (d : Array α) : putRow enc w b 0 d = putRow id w b 0 (d.map enc) := by
 unfold putRow
 congr 1
 funext c
 exact putCells_map enc d c
theorem own_put {w : World} {base g n cap : Nat} {e : TypeId} {xs : List Value} (h : w.ownsRow base e 1 (.slice (some ⟨g, 0, none⟩) n cap) n xs) (F : Array Value) (hF : F.size = n) (m : Nat) (os : Array Obj) :
 (grow (putRow id (Sort.ahead w m) g 0 F) os).ownsRow base e 1 (.slice (some ⟨g, 0, none⟩) n cap) n F.toList ∧ w.grownBy (grow (putRow id (Sort.ahead w m) g 0 F) os) (some g) := by
 refine ⟨⟨by rw [Array.length_toList, hF, Nat.mul_one], ?_⟩, ⟨rfl, rfl, rfl, by simp [size_grow], fun q hq hne => ?_⟩⟩
 · rcases h.2 with ⟨h0, _⟩ | ⟨g', cap', cur, hv, hg, hb, hn, hcap, hcs, _⟩
   · cases h0
   · injection hv with h1 h2 h3
     injection h1 with h1
     injection h1 with h1
     subst h1
     subst h3
     refine Or.inr ⟨g, cap, putCells id 0 F cur, rfl, hg, heap_sortedK hb, hn, hcap, by simp [putCells, hcs], ?_⟩
     have := take_putCellsK cur F (by rw [hcs, hF]; omega)
     rw [hF] at this
     rw [Nat.mul_one]
     exact this
 · rw [heap_grow_old _ _ (by simpa using hq)]
   have : g ≠ q := fun e => hne (by rw [e])
   simp [putRow, mapBlock, Sort.ahead, Array.getElem?_modify, this]
theorem own_less {w : World} {base e k n n' cap q : Nat} {xs : List Value} (h : w.ownsRow base e k (.slice (some ⟨q, 0, none⟩) n cap) n xs) (hn : n' ≤ n) : w.ownsRow base e k (.slice (some ⟨q, 0, none⟩) n' cap) n' (xs.take (n' * k)) := by
 have hm : n' * k ≤ n * k := Nat.mul_le_mul_right _ hn
 refine ⟨by rw [List.length_take, h.1]; omega, ?_⟩
 rcases h.2 with ⟨h0, _⟩ | ⟨g', cap', cur, hv, hg, hb, h1, h2, h3, h4⟩
 · cases h0
 · injection hv with e1 e2 e3
   injection e1 with e1
   injection e1 with e1
   subst e1
   subst e3
   exact Or.inr ⟨q, cap, cur, rfl, hg, hb, Nat.le_trans hn h1, h2, h3, by rw [← h4, List.take_take, Nat.min_eq_left hm]⟩
def bL (s : ByteArray) : List UInt8 := s.data.toList
def lB (l : List UInt8) : ByteArray := ⟨l.toArray⟩
theorem lB_bL (s : ByteArray) : lB (bL s) = s := by cases s; simp [lB, bL]
theorem bL_inj {s t : ByteArray} (h : bL s = bL t) : s = t := by rw [← lB_bL s, ← lB_bL t, h]
theorem append_noneT {P : Program} {t e : TypeId} {i : TypeInfo} (ht : P.underlying t = some (.slice e)) (hi : P.info? e = some i) (ty : TypeId) (base : Option Addr) (l c : Nat) (hlc : l ≤ c) (a : Option Addr) (k : Nat) (w : World) :
 (Builtin.append_ #[t, t] ty #[.slice base l c, .slice a 0 k]).run P w = .ok (.slice base l c) w := by
 cases base <;> cases a <;> simp [Builtin.append_, run_underlying ht, sizeOf, typeInfo, hi, Builtin.lenOf, Builtin.firstCells, hlc, loadCells, loadCellsFrom, storeCells]
theorem append_Tgs {ops : Array Oper} {rest : List Oper} {o : Oper} {a : Act} {Q : Exit → Act → World → Prop} {w : World} (hgd : o.guard = none) (s x : Operand)
 (ho : o.op = .call { callee := .builtin .append, args := #[s, x], argTypes := #[24, 24] }) {base : Nat} {v : Value} {l : List ByteArray} (hs : a.eval s = v) (hown : Own tgC 1 9 w base v l)
 {ad : Option Addr} {m : List ByteArray} {n k : Nat} (hx : a.eval x = .slice ad n k) (hm : m.length = n) (hr : Rw tgC 1 w ad m) (hn : l.length + n ≤ 1000000) (hb : base ≤ w.heap.size)
 (h : ∀ v' w', Own tgC 1 9 w' base v' (l ++ m) → w.grownBy w' v.ownBlock → wpList Tryz.prog ops Q rest (a.put o.dst v') w') : wpList Tryz.prog ops Q (o :: rest) a w := by
 obtain ⟨i0, hi0, hy0, hy1, hy2⟩ := info_parts infoTg.out
 rcases Nat.eq_zero_or_pos n with h0 | h0
 · subst h0
   have hm0 : m = [] := List.length_eq_zero_iff.1 hm
   subst hm0
   obtain ⟨av, cv, rfl, hlc, _, _⟩ := hown.row tgEl
   refine Lib.wpList_append_run _ hgd s x _ _ ho _ _ hs hx _ _ (append_noneT underTg.out hi0 _ av l.length cv hlc ad k w) (h _ _ ?_ (grown_self _ _))
   rw [List.append_nil]
   exact hown
 · obtain ⟨b, off, rfl, _, _⟩ := hr.here (by omega)
   refine wpList_append_own w hgd s x 24 ho base 9 i0 (.string ⟨#[]⟩) 1 16 underTg.out hi0 hy0 hy1 hy2 rfl (by decide) v l.length (l.flatMap tgC) hs hown ⟨b, off, none⟩ n k (m.flatMap tgC) hx (by rw [tgEl.flat, hm]) (hr.flat tgEl) (tgEl.ones m) (by unfold maxLen; omega) (by omega) hb ?_
   intro v' w' h1 h2 _
   refine h v' w' ?_ h2
   unfold Own
   rw [List.length_append, List.flatMap_append, hm]
   exact h1
end Go.Proofs.YtgdepcnfjmobjaaGreat

/- A text of this claim. -/
namespace Go.Proofs.YtgdepcnfjmobjaaGreat
open Go.RowKit Go.BigFrame
end Go.Proofs.YtgdepcnfjmobjaaGreat

/- A text of this claim. -/
namespace Go.Proofs.YtgdepcnfjmobjaaGreat
open Go.RowKit Go.BigFrame
open Tr (inR)
theorem map_upto {α : Type} (f : α → α) (l : List α) (k : Nat) (x : α) (hx : l[k]? = some x) : ((l.take k).map f ++ l.drop k).set k (f x) = (l.take (k + 1)).map f ++ l.drop (k + 1) := by
 obtain ⟨hk, e⟩ := List.getElem?_eq_some_iff.1 hx
 have hl : ((l.take k).map f).length = k := by rw [List.length_map, List.length_take]; omega
 rw [List.set_append_right _ _ (by rw [hl]; exact Nat.le_refl _), hl, Nat.sub_self, List.drop_eq_getElem_cons hk, List.set_cons_zero, List.take_add_one, hx, List.map_append, List.append_assoc]
 rfl
theorem at_upto {α : Type} (f : α → α) (l : List α) (k : Nat) (x : α) (hx : l[k]? = some x) : ((l.take k).map f ++ l.drop k)[k]? = some x := by
 obtain ⟨hk, e⟩ := List.getElem?_eq_some_iff.1 hx
 have hl : ((l.take k).map f).length = k := by rw [List.length_map, List.length_take]; omega
 rw [List.getElem?_append_right (by rw [hl]; exact Nat.le_refl _), hl, Nat.sub_self, List.getElem?_drop]
 exact hx
theorem len_upto {α : Type} (f : α → α) (l : List α) (k : Nat) (hk : k ≤ l.length) : ((l.take k).map f ++ l.drop k).length = l.length := by
 rw [List.length_append, List.length_map, List.length_take, List.length_drop]
 omega
theorem Own.typed {α : Type} {C : α → List Value} {k : Nat} {e : TypeId} {w : World} {base : Nat} {v : Value} {l : List α} (h : Own C k e w base v l) {b : Nat} (hb : v.ownBlock = some b) : ∃ cs fz, w.heap[b]? = some (.cells cs e fz) := by
 rcases h.2 with ⟨h0, _⟩ | ⟨g, cap, cur, hv, _, hg, _⟩
 · rw [h0] at hb
   cases hb
 · rw [hv] at hb
   injection hb with hb
   subst hb
   exact ⟨_, _, hg⟩
theorem AcB.ne' {w : World} {g : Nat} {nm : ByteArray} {sp st : Int} {vs vl vt : Value} (h : AcB w g nm sp st vs vl vt) {α : Type} {C : α → List Value} {k : Nat} {e : TypeId} {base : Nat} {v : Value} {l : List α} (ho : Own C k e w base v l) (he : e ≠ 26) : ∀ b, v.ownBlock = some b → b ≠ g := fun b hb hbg => by
 subst hbg
 obtain ⟨cs', fz', h1⟩ := ho.typed hb
 unfold AcB at h
 rw [h] at h1
 injection h1 with h1
 injection h1 with _ h1 _
 exact he h1.symm
end Go.Proofs.YtgdepcnfjmobjaaGreat

/- A text of this claim. -/
namespace Go.Proofs.YtgdepcnfjmobjaaGreat
open Tr (inR)
theorem tg_sorted {l : List ByteArray} (h : TgOk l) : l.Pairwise (fun x y => bL x < bL y) := by
 have h1 : ∀ i p s, l[i]? = some p → l[i + 1]? = some s → bL p < bL s := fun i p s hp hs => by
  have := h.next i p s hp hs
  rw [ByteArray.toList_eq, ByteArray.toList_eq, bytesLess_eq, decide_eq_true_eq] at this
  exact this
 have h2 : ∀ d i p s, l[i]? = some p → l[i + d + 1]? = some s → bL p < bL s := by
  intro d
  induction d with
  | zero => exact fun i p s hp hs => h1 i p s hp hs
  | succ d ih =>
   intro i p s hp hs
   obtain ⟨t, ht⟩ : ∃ t, l[i + d + 1]? = some t := ⟨_, List.getElem?_eq_getElem (by have := (List.getElem?_eq_some_iff.1 hs).1; omega)⟩
   exact List.lt_trans (ih i p t hp ht) (h1 _ t s ht hs)
 rw [List.pairwise_iff_getElem]
 intro i j hi hj hij
 exact h2 (j - i - 1) i _ _ (List.getElem?_eq_getElem hi) (by rw [show i + (j - i - 1) + 1 = j by omega]; exact List.getElem?_eq_getElem hj)
theorem bL_irr (x : ByteArray) : ¬ bL x < bL x := List.lt_irrefl _
end Go.Proofs.YtgdepcnfjmobjaaGreat

/- A text of this claim. -/
namespace Go.Proofs.YtgdepcnfjmobjaaGreat
open Tr (inR)
end Go.Proofs.YtgdepcnfjmobjaaGreat

/- A text of this claim. -/
namespace Go.Proofs.YtgdepcnfjmobjaaGreat
open Tr (inR)
def mergeT : List ByteArray → List ByteArray → List ByteArray
 | [], [] => []
 | a :: as_, [] => a :: mergeT as_ []
 | [], b :: bs => b :: mergeT [] bs
 | a :: as_, b :: bs => if Op.bytesLess (bL a) (bL b) = true then a :: mergeT as_ (b :: bs) else if a = b then b :: mergeT as_ bs else b :: mergeT (a :: as_) bs
termination_by as_ bs => as_.length + bs.length
theorem mergeT_mem : ∀ (n : Nat) (xs ys : List ByteArray), xs.length + ys.length = n → ∀ s, s ∈ mergeT xs ys ↔ s ∈ xs ∨ s ∈ ys := by
 intro n
 induction n using Nat.strongRecOn with
 | ind n ih =>
  intro xs ys hn s
  match xs, ys with
  | [], [] => rw [mergeT]; simp
  | x :: xs, [] =>
   rw [mergeT, List.mem_cons, ih (xs.length + 0) (by simp at hn; omega) xs [] rfl]
   simp
  | [], y :: ys =>
   rw [mergeT, List.mem_cons, ih (0 + ys.length) (by simp at hn; omega) [] ys (by simp)]
   simp
  | x :: xs, y :: ys =>
   simp only [List.length_cons] at hn
   rw [mergeT]
   by_cases h1 : Op.bytesLess (bL x) (bL y) = true
   · rw [if_pos h1, List.mem_cons, ih (xs.length + (y :: ys).length) (by simp; omega) xs (y :: ys) rfl]
     simp only [List.mem_cons]
     constructor
     · rintro (h | h | h) <;> simp [h]
     · rintro ((h | h) | h) <;> simp [h]
   · by_cases h2 : x = y
     · subst h2
       rw [if_neg h1, if_pos rfl, List.mem_cons, ih (xs.length + ys.length) (by omega) xs ys rfl]
       simp only [List.mem_cons]
       constructor
       · rintro (h | h | h) <;> simp [h]
       · rintro ((h | h) | (h | h)) <;> simp [h]
     · rw [if_neg h1, if_neg h2, List.mem_cons, ih ((x :: xs).length + ys.length) (by simp; omega) (x :: xs) ys rfl]
       simp only [List.mem_cons]
       constructor
       · rintro (h | (h | h) | h) <;> simp [h]
       · rintro ((h | h) | (h | h)) <;> simp [h]
theorem bL_tri {x y : ByteArray} (h : ¬ bL x < bL y) (hne : x ≠ y) : bL y < bL x := by
 refine Classical.byContradiction fun h2 => hne (bL_inj ?_)
 exact List.le_antisymm (List.not_lt.1 h2) (List.not_lt.1 h)
theorem mergeT_sorted : ∀ (n : Nat) (xs ys : List ByteArray), xs.length + ys.length = n → xs.Pairwise (fun x y => bL x < bL y) → ys.Pairwise (fun x y => bL x < bL y) → (mergeT xs ys).Pairwise (fun x y => bL x < bL y) := by
 intro n
 induction n using Nat.strongRecOn with
 | ind n ih =>
  intro xs ys hn hx hy
  match xs, ys with
  | [], [] =>
   rw [mergeT]
   exact List.Pairwise.nil
  | x :: xs, [] =>
   have hx' := List.pairwise_cons.1 hx
   rw [mergeT, List.pairwise_cons]
   refine ⟨fun s hs => ?_, ih (xs.length + 0) (by simp at hn; omega) xs [] rfl hx'.2 hy⟩
   rcases (mergeT_mem _ xs [] rfl s).1 hs with hs | hs
   · exact hx'.1 s hs
   · cases hs
  | [], y :: ys =>
   have hy' := List.pairwise_cons.1 hy
   rw [mergeT, List.pairwise_cons]
   refine ⟨fun s hs => ?_, ih (0 + ys.length) (by simp at hn; omega) [] ys (by simp) hx hy'.2⟩
   rcases (mergeT_mem _ [] ys rfl s).1 hs with hs | hs
   · cases hs
   · exact hy'.1 s hs
  | x :: xs, y :: ys =>
   have hx' := List.pairwise_cons.1 hx
   have hy' := List.pairwise_cons.1 hy
   simp only [List.length_cons] at hn
   rw [mergeT]
   by_cases h1 : Op.bytesLess (bL x) (bL y) = true
   · have hlt : bL x < bL y := by rw [bytesLess_eq, decide_eq_true_eq] at h1; exact h1
     rw [if_pos h1, List.pairwise_cons]
     refine ⟨fun s hs => ?_, ih (xs.length + (y :: ys).length) (by simp; omega) xs (y :: ys) rfl hx'.2 hy⟩
     rcases (mergeT_mem _ xs (y :: ys) rfl s).1 hs with hs | hs
     · exact hx'.1 s hs
     · rcases List.mem_cons.1 hs with rfl | hs
       · exact hlt
       · exact List.lt_trans hlt (hy'.1 s hs)
   · have hnlt : ¬ bL x < bL y := fun h => h1 (by rw [bytesLess_eq, decide_eq_true_eq]; exact h)
     by_cases h2 : x = y
     · subst h2
       rw [if_neg h1, if_pos rfl, List.pairwise_cons]
       refine ⟨fun s hs => ?_, ih (xs.length + ys.length) (by omega) xs ys rfl hx'.2 hy'.2⟩
       rcases (mergeT_mem _ xs ys rfl s).1 hs with hs | hs
       · exact hx'.1 s hs
       · exact hy'.1 s hs
     · have hyx := bL_tri hnlt h2
       rw [if_neg h1, if_neg h2, List.pairwise_cons]
       refine ⟨fun s hs => ?_, ih ((x :: xs).length + ys.length) (by simp; omega) (x :: xs) ys rfl hx hy'.2⟩
       rcases (mergeT_mem _ (x :: xs) ys rfl s).1 hs with hs | hs
       · rcases List.mem_cons.1 hs with rfl | hs
         · exact hyx
         · exact List.lt_trans hyx (hx'.1 s hs)
       · exact hy'.1 s hs
end Go.Proofs.YtgdepcnfjmobjaaGreat

/- A text of this claim. -/
namespace Go.Proofs.YtgdepcnfjmobjaaGreat
open Go.RowKit Go.BigFrame
open Tr (inR)
end Go.Proofs.YtgdepcnfjmobjaaGreat

/- A text of this claim. -/
namespace Go.Proofs.YtgdepcnfjmobjaaGreat
open Go.RowKit Go.BigFrame
open Tr (inR)
theorem append_Lps {ops : Array Oper} {rest : List Oper} {o : Oper} {a : Act} {Q : Exit → Act → World → Prop} {w : World} (hgd : o.guard = none) (s x : Operand)
 (ho : o.op = .call { callee := .builtin .append, args := #[s, x], argTypes := #[23, 23] }) {base : Nat} {v : Value} {l : List Lp} (hs : a.eval s = v) (hown : Own lpC 3 57 w base v l)
 {ad : Option Addr} {m : List Lp} {n k : Nat} (hx : a.eval x = .slice ad n k) (hm : m.length = n) (hr : Rw lpC 3 w ad m) (hn : l.length + n ≤ 1000000) (hb : base ≤ w.heap.size)
 (h : ∀ v' w', Own lpC 3 57 w' base v' (l ++ m) → w.grownBy w' v.ownBlock → wpList Tryz.prog ops Q rest (a.put o.dst v') w') : wpList Tryz.prog ops Q (o :: rest) a w := by
 obtain ⟨i0, hi0, hy0, hy1, hy2⟩ := info_parts infoLp.out
 rcases Nat.eq_zero_or_pos n with h0 | h0
 · subst h0
   have hm0 : m = [] := List.length_eq_zero_iff.1 hm
   subst hm0
   obtain ⟨av, cv, rfl, hlc, _, _⟩ := hown.row lpEl
   refine Lib.wpList_append_run _ hgd s x _ _ ho _ _ hs hx _ _ (append_noneT underLp.out hi0 _ av l.length cv hlc ad k w) (h _ _ ?_ (grown_self _ _))
   rw [List.append_nil]
   exact hown
 · obtain ⟨b, off, rfl, _, _⟩ := hr.here (by omega)
   refine wpList_append_own w hgd s x 23 ho base 57 i0 (.agg #[.int .i64 0, .int .i64 0, .string ⟨#[]⟩]) 3 32 underLp.out hi0 hy0 hy1 hy2 rfl (by decide) v l.length (l.flatMap lpC) hs hown ⟨b, off, none⟩ n k (m.flatMap lpC) hx (by rw [lpEl.flat, hm]) (hr.flat lpEl) (lpEl.ones m) (by unfold maxLen; omega) (by omega) hb ?_
   intro v' w' h1 h2 _
   refine h v' w' ?_ h2
   unfold Own
   rw [List.length_append, List.flatMap_append, hm]
   exact h1
end Go.Proofs.YtgdepcnfjmobjaaGreat

/- A text of this claim. -/
namespace Go.Proofs.YtgdepcnfjmobjaaGreat
open Go.RowKit Go.BigFrame
open Tr (inR)
end Go.Proofs.YtgdepcnfjmobjaaGreat

/- A text of this claim. -/
namespace Go.Proofs.YtgdepcnfjmobjaaGreat
open Go.RowKit Go.BigFrame
set_option maxHeartbeats 1000000 in
theorem eqSm_self (p : Sm) (w : World) : (Op.equalIn 10000 54 (.agg #[.int .i64 p.tm, .int .i64 p.x, .int .i64 p.y, .int .i64 p.z, .int .i64 p.pu, .int .i64 p.po, .int .i64 p.st]) (.agg #[.int .i64 p.tm, .int .i64 p.x, .int .i64 p.y, .int .i64 p.z, .int .i64 p.pu, .int .i64 p.po, .int .i64 p.st])).run Tryz.prog w = .ok true w := by
 have u3 := Tryz.underlying3
 have a3 := Tryz.isAgg3
 have z3 := Tryz.sizeOf3
 have hS : Tryz.prog.underlying 54 = some (.struct (Tryz.prog.fieldsOf 54)) := by kernel_rfl
 have hp : Tryz.prog.stoodInHeld 54 = false := by kernel_rfl
 obtain ⟨a, b, c, d, e, f, g⟩ := p
 simp only
 rw [show (10000 : Nat) = 9999 + 1 from rfl, run_equalIn_agg w 9999 54 _ _ hS hp]
 simp only [Program.fieldsOf, Tryz.underlying54]
 have h1 : (a == a) = true := by simp
 have h2 : (b == b) = true := by simp
 have h3 : (c == c) = true := by simp
 have h4 : (d == d) = true := by simp
 have h5 : (e == e) = true := by simp
 have h6 : (f == f) = true := by simp
 have h7 : (g == g) = true := by simp
 go_simp
set_option maxHeartbeats 4000000 in
set_option maxRecDepth 100000 in
theorem equalSm_self (l : List Sm) (a b : Option Addr) (c d : Nat) (w : World) (hr : Rw smC 7 w a l) (hq : Rw smC 7 w b l) (hl : l.length ≤ 1000000) :
 Calls Tryz.prog 19 #[.slice a l.length c, .slice b l.length d] w fun e w' => e = .returned (.bool true) ∧ ∃ q, w' = w.drewN q := by
 have HR := Lib.hid hr
 have HQ := Lib.hid hq
 have HLT := Lib.hid (fun (i : Nat) (h : i < l.length) => show ∃ x, l[i]? = some x from ⟨_, List.getElem?_eq_getElem h⟩)
 obtain ⟨nl, hnl⟩ : ∃ n, l.length = n := ⟨_, rfl⟩
 rw [hnl] at hl HLT ⊢
 have hneq : ((nl : Int) != (nl : Int)) = false := by simp
 clear hr hq hnl
 go_enter Tryz.func19, Tryz.ntmps19
 go_wp2_with fail
 go_loopw [13] (fun iv wr => ∃ (k : Nat), iv = .int .i64 k ∧ k ≤ nl ∧ (∃ q, wr = w.drewN q)) (fun iv _ => nl - (intOf iv).toNat)
 case atStart => exact ⟨0, rfl, by omega, ⟨0, rfl⟩⟩
 case round =>
  obtain ⟨k, rfl, hk, ⟨q, rfl⟩⟩ := hrel
  by_cases hlt : k < nl
  · have t1 : decide ((k : Int) < (nl : Int)) = true := by rw [decide_eq_true_eq]; omega
    have t1' : decide (k < nl) = true := by simpa using hlt
    obtain ⟨x, hx⟩ := HLT.out k hlt
    obtain ⟨b1, o1, rfl, hb1, e⟩ := HR.out.at hx
    obtain ⟨b2, o2, rfl, hb2, f⟩ := HQ.out.at hx
    have e0 : w.cell? ⟨b1, o1 + k * 7, none⟩ = some (.int .i64 x.tm) := e 0 _ rfl
    have e1 : w.cell? ⟨b1, o1 + k * 7 + 1, none⟩ = some (.int .i64 x.x) := e 1 _ rfl
    have e2 : w.cell? ⟨b1, o1 + k * 7 + 2, none⟩ = some (.int .i64 x.y) := e 2 _ rfl
    have e3 : w.cell? ⟨b1, o1 + k * 7 + 3, none⟩ = some (.int .i64 x.z) := e 3 _ rfl
    have e4 : w.cell? ⟨b1, o1 + k * 7 + 4, none⟩ = some (.int .i64 x.pu) := e 4 _ rfl
    have e5 : w.cell? ⟨b1, o1 + k * 7 + 5, none⟩ = some (.int .i64 x.po) := e 5 _ rfl
    have e6 : w.cell? ⟨b1, o1 + k * 7 + 6, none⟩ = some (.int .i64 x.st) := e 6 _ rfl
    have f0 : w.cell? ⟨b2, o2 + k * 7, none⟩ = some (.int .i64 x.tm) := f 0 _ rfl
    have f1 : w.cell? ⟨b2, o2 + k * 7 + 1, none⟩ = some (.int .i64 x.x) := f 1 _ rfl
    have f2 : w.cell? ⟨b2, o2 + k * 7 + 2, none⟩ = some (.int .i64 x.y) := f 2 _ rfl
    have f3 : w.cell? ⟨b2, o2 + k * 7 + 3, none⟩ = some (.int .i64 x.z) := f 3 _ rfl
    have f4 : w.cell? ⟨b2, o2 + k * 7 + 4, none⟩ = some (.int .i64 x.pu) := f 4 _ rfl
    have f5 : w.cell? ⟨b2, o2 + k * 7 + 5, none⟩ = some (.int .i64 x.po) := f 5 _ rfl
    have f6 : w.cell? ⟨b2, o2 + k * 7 + 6, none⟩ = some (.int .i64 x.st) := f 6 _ rfl
    have hgd : Tryz.prog.eqGuardType Tryz.prog.depth 54 = false := by kernel_rfl
    have hq := fun W => eqSm_self x W
    clear hx e f
    go_wp2_with fail
    go_quiet (fail)
    go_wp2_with fail
    go_roundw
    case rel => exact ⟨k + 1, by go_num, by omega, ⟨_, rfl⟩⟩
    case measure => simp [intOf]; omega
  · have t1 : decide ((k : Int) < (nl : Int)) = false := by rw [decide_eq_false_iff_not]; omega
    have t1' : decide (k < nl) = false := by simpa using hlt
    go_wp2_with fail
    go_ret
    exact ⟨rfl, _, rfl⟩
set_option maxHeartbeats 1000000 in
theorem eqLp_self (p : Lp) (w : World) : (Op.equalIn 10000 57 (.agg #[.int .i64 p.f, .int .i64 p.t, .string p.s]) (.agg #[.int .i64 p.f, .int .i64 p.t, .string p.s])).run Tryz.prog w = .ok true w := by
 have u3 := Tryz.underlying3
 have a3 := Tryz.isAgg3
 have z3 := Tryz.sizeOf3
 have u9 := Tryz.underlying9
 have a9 := Tryz.isAgg9
 have z9 := Tryz.sizeOf9
 have hS : Tryz.prog.underlying 57 = some (.struct (Tryz.prog.fieldsOf 57)) := by kernel_rfl
 have hp : Tryz.prog.stoodInHeld 57 = false := by kernel_rfl
 obtain ⟨a, b, c⟩ := p
 simp only
 rw [show (10000 : Nat) = 9999 + 1 from rfl, run_equalIn_agg w 9999 57 _ _ hS hp]
 simp only [Program.fieldsOf, Tryz.underlying57]
 have h1 : (a == a) = true := by simp
 have h2 : (b == b) = true := by simp
 have h3 : (c.toList == c.toList) = true := by simp
 go_simp
set_option maxHeartbeats 4000000 in
set_option maxRecDepth 100000 in
theorem equalLp_self (l : List Lp) (a b : Option Addr) (c d : Nat) (w : World) (hr : Rw lpC 3 w a l) (hq : Rw lpC 3 w b l) (hl : l.length ≤ 1000000) :
 Calls Tryz.prog 20 #[.slice a l.length c, .slice b l.length d] w fun e w' => e = .returned (.bool true) ∧ ∃ q, w' = w.drewN q := by
 have HR := Lib.hid hr
 have HQ := Lib.hid hq
 have HLT := Lib.hid (fun (i : Nat) (h : i < l.length) => show ∃ x, l[i]? = some x from ⟨_, List.getElem?_eq_getElem h⟩)
 obtain ⟨nl, hnl⟩ : ∃ n, l.length = n := ⟨_, rfl⟩
 rw [hnl] at hl HLT ⊢
 have hneq : ((nl : Int) != (nl : Int)) = false := by simp
 clear hr hq hnl
 go_enter Tryz.func20, Tryz.ntmps20
 go_wp2_with fail
 go_loopw [13] (fun iv wr => ∃ (k : Nat), iv = .int .i64 k ∧ k ≤ nl ∧ (∃ q, wr = w.drewN q)) (fun iv _ => nl - (intOf iv).toNat)
 case atStart => exact ⟨0, rfl, by omega, ⟨0, rfl⟩⟩
 case round =>
  obtain ⟨k, rfl, hk, ⟨q, rfl⟩⟩ := hrel
  by_cases hlt : k < nl
  · have t1 : decide ((k : Int) < (nl : Int)) = true := by rw [decide_eq_true_eq]; omega
    have t1' : decide (k < nl) = true := by simpa using hlt
    obtain ⟨x, hx⟩ := HLT.out k hlt
    obtain ⟨b1, o1, rfl, hb1, e⟩ := HR.out.at hx
    obtain ⟨b2, o2, rfl, hb2, f⟩ := HQ.out.at hx
    have e0 : w.cell? ⟨b1, o1 + k * 3, none⟩ = some (.int .i64 x.f) := e 0 _ rfl
    have e1 : w.cell? ⟨b1, o1 + k * 3 + 1, none⟩ = some (.int .i64 x.t) := e 1 _ rfl
    have e2 : w.cell? ⟨b1, o1 + k * 3 + 2, none⟩ = some (.string x.s) := e 2 _ rfl
    have f0 : w.cell? ⟨b2, o2 + k * 3, none⟩ = some (.int .i64 x.f) := f 0 _ rfl
    have f1 : w.cell? ⟨b2, o2 + k * 3 + 1, none⟩ = some (.int .i64 x.t) := f 1 _ rfl
    have f2 : w.cell? ⟨b2, o2 + k * 3 + 2, none⟩ = some (.string x.s) := f 2 _ rfl
    have hgd : Tryz.prog.eqGuardType Tryz.prog.depth 57 = false := by kernel_rfl
    have hq := fun W => eqLp_self x W
    clear hx e f
    go_wp2_with fail
    go_quiet (fail)
    go_wp2_with fail
    go_roundw
    case rel => exact ⟨k + 1, by go_num, by omega, ⟨_, rfl⟩⟩
    case measure => simp [intOf]; omega
  · have t1 : decide ((k : Int) < (nl : Int)) = false := by rw [decide_eq_false_iff_not]; omega
    have t1' : decide (k < nl) = false := by simpa using hlt
    go_wp2_with fail
    go_ret
    exact ⟨rfl, _, rfl⟩
set_option maxHeartbeats 4000000 in
set_option maxRecDepth 100000 in
theorem equalTg_self (l : List ByteArray) (a b : Option Addr) (c d : Nat) (w : World) (hr : Rw tgC 1 w a l) (hq : Rw tgC 1 w b l) (hl : l.length ≤ 1000000) :
 Calls Tryz.prog 21 #[.slice a l.length c, .slice b l.length d] w fun e w' => e = .returned (.bool true) ∧ ∃ q, w' = w.drewN q := by
 have HR := Lib.hid hr
 have HQ := Lib.hid hq
 have HLT := Lib.hid (fun (i : Nat) (h : i < l.length) => show ∃ x, l[i]? = some x from ⟨_, List.getElem?_eq_getElem h⟩)
 obtain ⟨nl, hnl⟩ : ∃ n, l.length = n := ⟨_, rfl⟩
 rw [hnl] at hl HLT ⊢
 have hneq : ((nl : Int) != (nl : Int)) = false := by simp
 clear hr hq hnl
 go_enter Tryz.func21, Tryz.ntmps21
 go_wp2_with fail
 go_loopw [13] (fun iv wr => ∃ (k : Nat), iv = .int .i64 k ∧ k ≤ nl ∧ (∃ q, wr = w.drewN q)) (fun iv _ => nl - (intOf iv).toNat)
 case atStart => exact ⟨0, rfl, by omega, ⟨0, rfl⟩⟩
 case round =>
  obtain ⟨k, rfl, hk, ⟨q, rfl⟩⟩ := hrel
  by_cases hlt : k < nl
  · have t1 : decide ((k : Int) < (nl : Int)) = true := by rw [decide_eq_true_eq]; omega
    have t1' : decide (k < nl) = true := by simpa using hlt
    obtain ⟨x, hx⟩ := HLT.out k hlt
    obtain ⟨b1, o1, rfl, hb1, e⟩ := HR.out.at hx
    obtain ⟨b2, o2, rfl, hb2, f⟩ := HQ.out.at hx
    have e0 : w.cell? ⟨b1, o1 + k, none⟩ = some (.string x) := by have h := e 0 _ rfl; simpa using h
    have f0 : w.cell? ⟨b2, o2 + k, none⟩ = some (.string x) := by have h := f 0 _ rfl; simpa using h
    have s1 : (x.toList == x.toList) = true := by simp
    have s2 : (x.toList != x.toList) = false := by simp
    clear hx e f
    go_wp2_with fail
    go_quiet (fail)
    go_wp2_with fail
    go_roundw
    case rel => exact ⟨k + 1, by go_num, by omega, ⟨_, rfl⟩⟩
    case measure => simp [intOf]; omega
  · have t1 : decide ((k : Int) < (nl : Int)) = false := by rw [decide_eq_false_iff_not]; omega
    have t1' : decide (k < nl) = false := by simpa using hlt
    go_wp2_with fail
    go_ret
    exact ⟨rfl, _, rfl⟩
set_option maxHeartbeats 4000000 in
set_option maxRecDepth 100000 in
theorem same_self (Z : Acv) (a b c a' b' c' : Option Addr) (ca cb cc ca' cb' cc' : Nat) (w : World) (h1 : Rw smC 7 w a Z.sm) (h2 : Rw lpC 3 w b Z.lp) (h3 : Rw tgC 1 w c Z.tg) (k1 : Rw smC 7 w a' Z.sm) (k2 : Rw lpC 3 w b' Z.lp) (k3 : Rw tgC 1 w c' Z.tg) (n1 : Z.sm.length ≤ 1000000) (n2 : Z.lp.length ≤ 1000000) (n3 : Z.tg.length ≤ 1000000) :
 Calls Tryz.prog 8 #[actV Z a b c ca cb cc, actV Z a' b' c' ca' cb' cc'] w fun e w' => e = .returned (.bool true) ∧ Below w.heap.size w w' := by
 obtain ⟨V0, hV0, hb0, hs0, ha0⟩ := alloc_ac w Z.name Z.sport Z.start (.slice a Z.sm.length ca) (.slice b Z.lp.length cb) (.slice c Z.tg.length cc)
 obtain ⟨V1, hV1, hb1, hs1, ha1⟩ := alloc_ac V0 Z.name Z.sport Z.start (.slice a' Z.sm.length ca') (.slice b' Z.lp.length cb') (.slice c' Z.tg.length cc')
 rw [hs0] at ha1
 have HB := Lib.hid (below_step hb0 hb1)
 have DS := Lib.hid (fun X : Ext V1 => X.calls ((equalSm_self Z.sm a a' ca ca' X.1 ((h1.below HB.out).below X.2) ((k1.below HB.out).below X.2) n1).mono fun _ _ h => ⟨h.1, by obtain ⟨_, q, rfl⟩ := h; exact (Below.refl _ _).trans ⟨rfl, rfl, rfl, Nat.le_refl _, fun _ _ => rfl⟩⟩))
 have DL := Lib.hid (fun X : Ext V1 => X.calls ((equalLp_self Z.lp b b' cb cb' X.1 ((h2.below HB.out).below X.2) ((k2.below HB.out).below X.2) n2).mono fun _ _ h => ⟨h.1, by obtain ⟨_, q, rfl⟩ := h; exact (Below.refl _ _).trans ⟨rfl, rfl, rfl, Nat.le_refl _, fun _ _ => rfl⟩⟩))
 have DT := Lib.hid (fun X : Ext V1 => X.calls ((equalTg_self Z.tg c c' cc cc' X.1 ((h3.below HB.out).below X.2) ((k3.below HB.out).below X.2) n3).mono fun _ _ h => ⟨h.1, by obtain ⟨_, q, rfl⟩ := h; exact (Below.refl _ _).trans ⟨rfl, rfl, rfl, Nat.le_refl _, fun _ _ => rfl⟩⟩))
 obtain ⟨z0, z1, z2, z3, z4, z5⟩ := (ha0.below hb1).cell
 obtain ⟨y0, y1, y2, y3, y4, y5⟩ := ha1.cell
 have A0 := Ext.ex z0
 have A1 := Ext.ex z1
 have A2 := Ext.ex z2
 have A3 := Ext.ex z3
 have A4 := Ext.ex z4
 have A5 := Ext.ex z5
 have B0 := Ext.ex y0
 have B1 := Ext.ex y1
 have B2 := Ext.ex y2
 have B3 := Ext.ex y3
 have B4 := Ext.ex y4
 have B5 := Ext.ex y5
 have s1 : (Z.name.toList == Z.name.toList) = true := by simp
 have s3 : (Z.sport == Z.sport) = true := by simp
 have s4 : (Z.start == Z.start) = true := by simp
 unfold actV
 clear h1 h2 h3 k1 k2 k3 hb0 hb1 hs1 ha0 ha1 z0 z1 z2 z3 z4 z5 y0 y1 y2 y3 y4 y5 n1 n2 n3
 go_enter Tryz.func8, Tryz.ntmps8
 go_upto_region 1 with (fail)
 clear hV0 hV1 hs0
 refine ext_wp (W := V1) fun X => ?_
 go_wp2_with fail
 refine (DS.out X).mono ?_
 rintro e _ ⟨rfl, Y1, rfl⟩
 go_wp2_with fail
 refine (DL.out Y1).mono ?_
 rintro e _ ⟨rfl, Y2, rfl⟩
 go_wp2_with fail
 refine (DT.out Y2).mono ?_
 rintro e _ ⟨rfl, Y, rfl⟩
 go_wp2_with fail
 go_ret
 exact ⟨rfl, below_step HB.out Y.2⟩
end Go.Proofs.YtgdepcnfjmobjaaGreat

/- A text of this claim. -/
namespace Go.Proofs.YtgdepcnfjmobjaaGreat
open Go.RowKit Go.BigFrame
open Tr (inR)
end Go.Proofs.YtgdepcnfjmobjaaGreat

/- A text of this claim. -/
namespace Go.Proofs.YtgdepcnfjmobjaaGreat
open Go.RowKit Go.BigFrame
open Tr (inR)
theorem wp_append_Sm {o : Oper} {a : Act} {K : Act → World → Prop} {Q : Exit → Act → World → Prop} {w : World} (s x : Operand)
 (ho : o.op = .call { callee := .builtin .append, args := #[s, x], argTypes := #[22, 22] }) {base : Nat} {v : Value} {l : List Sm} (hs : a.eval s = v) (hown : Own smC 7 54 w base v l)
 {g : Nat} {p : Sm} (hx : a.eval x = .slice (some ⟨g, 0, none⟩) 1 1) (h0 : ∀ j u, (smC p)[j]? = some u → w.cell? ⟨g, j, none⟩ = some u) (hn : l.length ≤ 1000000) (hb : base ≤ w.heap.size)
 (h : ∀ g' c' w', Own smC 7 54 w' base (.slice (some ⟨g', 0, none⟩) (l.length + 1) c') (l ++ [p]) → w.grownBy w' v.ownBlock → (v.ownBlock = some g' ∨ g' = w.heap.size) → K (a.put o.dst (.slice (some ⟨g', 0, none⟩) (l.length + 1) c')) w') : o.wp Tryz.prog a w K Q := by
 obtain ⟨i0, hi0, hy0, hy1, hy2⟩ := info_parts infoSm.out
 refine wp_append_lies w s x 22 ho base 54 i0 (.agg #[.int .i64 0, .int .i64 0, .int .i64 0, .int .i64 0, .int .i64 0, .int .i64 0, .int .i64 0]) 7 56 underSm.out hi0 hy0 hy1 hy2 rfl (by decide) v l.length (l.flatMap smC) hs hown ⟨g, 0, none⟩ 1 1 (smC p) hx rfl (fun j u hu => ?_) (smEl.one p) (by decide) (by unfold maxLen; omega) (by omega) hb _ rfl ?_
 · rw [addr_plus, Nat.zero_add]
   exact h0 j u hu
 · intro g' c' w' k1 k2 k3 _
   refine h g' c' w' ?_ k2 k3
   unfold Own
   rw [List.length_append, List.flatMap_append, show ([p].flatMap smC) = smC p from List.append_nil _]
   exact k1
theorem ok_each {start : Int} {l : List Sm} (h : SmOk start l) : ∀ s, s ∈ l → 0 ≤ s.tm ∧ s.tm ≤ 1000000 := fun s hs => by
 obtain ⟨i, hi⟩ := List.getElem?_of_mem hs
 exact ⟨h.nonneg hi, (h.upto i s hi).1⟩
theorem mergeT_len (xs ys : List ByteArray) : ∀ n, xs.length + ys.length = n → (mergeT xs ys).length ≤ n := by
 intro n
 induction n using Nat.strongRecOn generalizing xs ys with
 | ind n ih =>
  intro hn
  match xs, ys with
  | [], [] => rw [mergeT]; simp
  | x :: xs, [] =>
   have := ih (xs.length + 0) (by simp at hn; omega) xs [] rfl
   rw [mergeT]
   simp at hn ⊢
   omega
  | [], y :: ys =>
   have := ih (0 + ys.length) (by simp at hn; omega) [] ys (by simp)
   rw [mergeT]
   simp at hn ⊢
   omega
  | x :: xs, y :: ys =>
   simp only [List.length_cons] at hn
   rw [mergeT]
   by_cases h1 : Op.bytesLess (bL x) (bL y) = true
   · have := ih (xs.length + (y :: ys).length) (by simp; omega) xs (y :: ys) rfl
     rw [if_pos h1]
     simp at this ⊢
     omega
   · by_cases h2 : x = y
     · have := ih (xs.length + ys.length) (by omega) xs ys rfl
       rw [if_neg h1, if_pos h2]
       simp
       omega
     · have := ih ((x :: xs).length + ys.length) (by simp; omega) (x :: xs) ys rfl
       rw [if_neg h1, if_neg h2]
       simp at this ⊢
       omega
end Go.Proofs.YtgdepcnfjmobjaaGreat

/- A text of this claim. -/
namespace Go.Proofs.YtgdepcnfjmobjaaGreat
open Go.RowKit Go.BigFrame
section
variable {α : Type} {C : α → List Value} {k : Nat} {e : TypeId} {w : World} {base q n cap : Nat} {l : List α}
theorem flat_take (E : El C k) : ∀ (l : List α) (i : Nat), (l.flatMap C).take (i * k) = (l.take i).flatMap C
 | _, 0 => by simp
 | [], _ + 1 => by simp
 | x :: l, i + 1 => by
  rw [List.take_succ_cons, List.flatMap_cons, List.flatMap_cons, ← flat_take E l i, List.take_append, List.take_of_length_le (by rw [E.len, Nat.succ_mul]; omega), E.len, show (i + 1) * k - k = i * k by rw [Nat.succ_mul]; omega]
theorem flat_drop (E : El C k) : ∀ (l : List α) (i : Nat), (l.flatMap C).drop (i * k) = (l.drop i).flatMap C
 | _, 0 => by simp
 | [], _ + 1 => by simp
 | x :: l, i + 1 => by
  rw [List.drop_succ_cons, List.flatMap_cons, ← flat_drop E l i, List.drop_append, List.drop_eq_nil_of_le (by rw [E.len, Nat.succ_mul]; omega), E.len, show (i + 1) * k - k = i * k by rw [Nat.succ_mul]; omega, List.nil_append]
theorem Own.facts (h : Own C k e w base (.slice (some ⟨q, 0, none⟩) n cap) l) : n = l.length ∧ n ≤ cap ∧ cap ≤ maxLen ∧ base ≤ q := by
 rcases h.2 with ⟨h0, _⟩ | ⟨g', cap', cur, hv, hg, hb, h1, h2, h3, h4⟩
 · cases h0
 · injection hv with e1 e2 e3
   injection e1 with e1
   injection e1 with e1
   subst e1
   subst e3
   exact ⟨e2, by omega, h2, hg⟩
theorem Own.cellE (h : Own C k e w base (.slice (some ⟨q, 0, none⟩) n cap) l) {i : Nat} (hi : i < cap * k) : (w.cell? ⟨q, i, none⟩).isSome = true ∧ w.frozen? ⟨q, i, none⟩ = false := by
 rcases h.2 with ⟨h0, _⟩ | ⟨g', cap', cur, hv, hg, hb, h1, h2, h3, h4⟩
 · cases h0
 · injection hv with e1 e2 e3
   injection e1 with e1
   injection e1 with e1
   subst e1
   subst e3
   have : i < cur.size := by rw [h3]; exact hi
   constructor
   · simp [World.cell?, hb, this]
   · simp [World.frozen?, hb]
theorem Own.at (_ : El C k) (h : Own C k e w base (.slice (some ⟨q, 0, none⟩) n cap) l) {i : Nat} {v : Value} (hv : (l.flatMap C)[i]? = some v) : w.cell? ⟨q, i, none⟩ = some v := by
 have hc := World.ownsRow.cells h (g := q) rfl i v hv
 rwa [addr_plus, Nat.zero_add] at hc
theorem Own.shape (h : Own C k e w base (.slice (some ⟨q, 0, none⟩) n cap) l) : w.shape? q = some (e, cap * k) := by
 rcases h.2 with ⟨h0, _⟩ | ⟨g', cap', cur, hv, hg, hb, h1, h2, h3, h4⟩
 · cases h0
 · injection hv with e1 e2 e3
   injection e1 with e1
   injection e1 with e1
   subst e1
   subst e3
   simp [World.shape?, hb, h3]
theorem own_more {xs : List Value} (h : w.ownsRow base e k (.slice (some ⟨q, 0, none⟩) n cap) n xs) {n' : Nat} (hn : n ≤ n') (hc : n' ≤ cap) : ∃ ys, ys.length = (n' - n) * k ∧ w.ownsRow base e k (.slice (some ⟨q, 0, none⟩) n' cap) n' (xs ++ ys) := by
 rcases h.2 with ⟨h0, _⟩ | ⟨g', cap', cur, hv, hg, hb, h1, h2, h3, h4⟩
 · cases h0
 · injection hv with e1 e2 e3
   injection e1 with e1
   injection e1 with e1
   subst e1
   subst e3
   have hm : n * k ≤ n' * k := Nat.mul_le_mul_right _ hn
   have hm2 : n' * k ≤ cap * k := Nat.mul_le_mul_right _ hc
   have he : xs ++ (cur.toList.take (n' * k)).drop (n * k) = cur.toList.take (n' * k) := by
    rw [← h4]
    conv => rhs; rw [← List.take_append_drop (n * k) (cur.toList.take (n' * k))]
    rw [List.take_take, Nat.min_eq_left hm]
   refine ⟨(cur.toList.take (n' * k)).drop (n * k), ?_, ?_, Or.inr ⟨q, cap, cur, rfl, hg, hb, hc, h2, h3, he.symm⟩⟩
   · rw [List.length_drop, List.length_take, Array.length_toList, h3, Nat.min_eq_left hm2, Nat.sub_mul]
   · rw [he, List.length_take, Array.length_toList, h3, Nat.min_eq_left hm2]
theorem own_cleared {xs : List Value} (h : w.ownsRow base e k (.slice (some ⟨q, 0, none⟩) n cap) n xs) : ∀ (vs : List Value) (o : Nat), xs.length ≤ o → (w.setCells q o vs).ownsRow base e k (.slice (some ⟨q, 0, none⟩) n cap) n xs := by
 intro vs
 induction vs generalizing w with
 | nil => intro o _; exact h
 | cons v vs ih =>
  intro o ho
  have h1 := (World.ownsRow.stored h o v).1
  rw [List.set_eq_of_length_le ho] at h1
  exact ih h1 (o + 1) (by omega)
theorem own_flat (_ : El C k) {m : List α} (hm : m.length = n) (h : w.ownsRow base e k (.slice (some ⟨q, 0, none⟩) n cap) n (m.flatMap C)) : Own C k e w base (.slice (some ⟨q, 0, none⟩) n cap) m := by
 unfold Own
 rw [hm]
 exact h
end
end Go.Proofs.YtgdepcnfjmobjaaGreat
