/- Several texts of this claim in one. -/
import Derived.Test.YtbkpoepacjinlaaGreatEs6
import Derived.Test.YtbkpoepacjinlaaGreatEs5
import Derived.Laws.OwnMore
import Derived.Test.YtbkpoepacjinlaaGreatEs3
import Derived.Laws.StructEq
/- Gear: swaps of the reference. -/
namespace Go.Proofs.YtbkpoepacjinlaaGreat
open Go.RowKit Go.BigFrame
open Cir (Perm it To IsP)

/-- the loop of the reference's swaps -/
structure RwL (w wr : World) (q N n : Nat) (want : Nat → ByteArray) (sl : Nat → ByteArray) (tt : Nat → Nat) (v : Value) (l : Nat) (t : Nat → Nat) (ps : List (Nat × Nat)) : Prop where
  kept : Kept (fun b => b = q) w wr
  now : Part wr q N n 9 (fun j => .string (want (t j)))
  len : ps.length = l
  own : wr.ownsRow w.heap.size 34 2 v l (pairCs sl ps)
  sws : Swps n tt ps t
  lts : ∀ x, x ∈ ps → x.1 < n ∧ x.2 < n
section
variable {w wr : World} {q N n l i k : Nat} {want sl : Nat → ByteArray} {tt t : Nat → Nat} {v : Value} {ps : List (Nat × Nat)}
theorem RwL.start (h : Part w q N n 9 (fun j => .string (want (tt j)))) : RwL w w q N n want sl tt (.slice none 0 0) 0 tt [] :=
  ⟨Kept.refl _ _, h, rfl, World.ownsRow_nil _ _ _ _, .nil, fun x hx => by simp at hx⟩
theorem RwL.swap {v' : Value} {W7 : World} (h : RwL w wr q N n want sl tt v l t ps) (hp : Perm tt n) (hi : i < n) (hf : ∀ j, j < i → t j = j) (hne : t i ≠ i) (hk : IsP t i k) (ho : W7.ownsRow w.heap.size 34 2 v' (l + 1) (pairCs sl ps ++ [.string (sl i), .string (sl k)]))
    (hn : Part W7 q N n 9 (fun j => .string (want (Cir.swp t i k j)))) (hk7 : Kept (fun b => b = q) w W7) : RwL w W7 q N n want sl tt v' (l + 1) (Cir.swp t i k) (ps ++ [(i, k)]) := by
  have hkn : k < n := IsP.lt (h.sws.perm hp) hi hk
  refine ⟨hk7, hn, by simp [h.len], ?_, .snoc h.sws hi hf hne hk, fun x hx => ?_⟩
  · rw [pairCs_snoc]
    exact ho
  · rcases List.mem_append.1 hx with hx | hx
    · exact h.lts x hx
    · simp only [List.mem_singleton] at hx
      subst hx
      exact ⟨hi, hkn⟩
end
def lenS : Value → Nat
  | .slice _ l _ => l
  | _ => 0
/-- what swaps of the reference hands back -/
def RswR (q n : Nat) (sl : Nat → ByteArray) (tt : Nat → Nat) (most : Nat) (w : World) (v : Value) (w' : World) : Prop :=
  Kept (fun b => b = q) w w' ∧ ∃ (ps : List (Nat × Nat)) (t : Nat → Nat), w'.ownsRow w.heap.size 34 2 v ps.length (pairCs sl ps) ∧ Swps n tt ps t ∧ SwEnd n most ps t ∧ ∀ x, x ∈ ps → x.1 < n ∧ x.2 < n
set_option maxHeartbeats 4000000 in
set_option maxRecDepth 100000 in
theorem rswaps_any (n q N qw Nw c0 c1 c2 most : Nat) (a : Option Addr) (sl want : Nat → ByteArray) (tt : Nat → Nat) (w : World) (hn : n ≤ 20) (hN : n ≤ N) (hq : q ≠ qw) (hm : most ≤ 100) (hrow : RowK w a n 1 (fun j => [.string (sl j)])) (hqr : ∀ b off, a = some ⟨b, off, none⟩ → b ≠ q)
    (hnow : Part w q N n 9 (fun j => .string (want (tt j)))) (hwant : Part w qw Nw n 9 (fun j => .string (want j))) (hp : Perm tt n) (hw : ∀ x y, x < n → y < n → want x = want y → x = y) :
    Calls Tryz.prog 16 #[.slice a n c0, .slice (some ⟨q, 0, none⟩) n c1, .slice (some ⟨qw, 0, none⟩) n c2, .int .i64 most] w fun e w' => ∃ v, e = .returned v ∧ RswR q n sl tt most w v w' := by
  have HROW := Lib.hid hrow
  have HWANT := Lib.hid hwant
  have HP := Lib.hid hp
  have HIN := Lib.hid hw
  have HQR := Lib.hid hqr
  have HST := Lib.hid (RwL.start (sl := sl) hnow)
  have hnl : (n : Int) ≤ 20 := by omega
  have hql := hnow.lt
  have hqwl := hwant.lt
  obtain ⟨i0, hi0, hz0, hz1, hz2⟩ := info_parts pair_info
  have HI0 := Lib.hid hi0
  have HZ0 := Lib.hid hz0
  have HZ1 := Lib.hid hz1
  have HZ2 := Lib.hid hz2
  clear hrow hwant hp hw hqr hnow hi0 hz0 hz1 hz2
  go_enter Tryz.func16, Tryz.ntmps16
  go_wp2_with fail
  go_loopw [9] (fun v wr => ∃ (av : Option Addr) (cv l : Nat) (t : Nat → Nat) (ps : List (Nat × Nat)), v = .slice av l cv ∧ l ≤ most ∧ Hid (RwL w wr q N n want sl tt (.slice av l cv) l t ps)) (fun v _ => most - lenS v)
  case atStart => exact ⟨none, 0, 0, tt, [], rfl, by omega, HST⟩
  case round =>
    obtain ⟨av, cv, l, t, ps, rfl, hlm, HL⟩ := hrel
    by_cases hll : l < most
    case neg =>
      have t2 : decide ((l : Int) < (most : Int)) = false := by rw [decide_eq_false_iff_not]; omega
      have t2' : decide (l < most) = false := by simpa using hll
      have HEND : Hid (RswR q n sl tt most w (.slice av l cv) wr) := Lib.hid ⟨HL.out.kept, ps, t, by rw [HL.out.len]; exact HL.out.own, HL.out.sws, ⟨by rw [HL.out.len]; exact hlm, Or.inr (by rw [HL.out.len]; omega)⟩, HL.out.lts⟩
      clear hll
      go_wp2_with fail
      go_ret
      exact ⟨_, rfl, HEND.out⟩
    case pos =>
      have t2 : decide ((l : Int) < (most : Int)) = true := by rw [decide_eq_true_eq]; omega
      have t2' : decide (l < most) = true := by simpa using hll
      have HPT := Lib.hid (HL.out.sws.perm HP.out)
      have HWR := Lib.hid (HWANT.out.same (HL.out.kept.block qw hqwl (fun e => hq e.symm)))
      have HNC := Lib.hid (fun (j : Nat) (hj : j < n) => Ext.ex (HL.out.now.cell hj))
      have HWC := Lib.hid (fun (j : Nat) (hj : j < n) => Ext.ex (HWR.out.cell hj))
      have DT := Lib.hid (fun (i k : Nat) (hi : i < n) (hk : k < n) (X : Ext wr) => X.same (together_any n q N qw Nw c1 c2 i k want t X.1 hn (HL.out.now.below X.2) (HWR.out.below X.2) HPT.out HIN.out hi hk))
      go_wp2_with fail
      go_loopw [10, 11, 20] (fun xv yv iv wr' => ∃ (x y : Int) (i : Nat), xv = .int .i64 x ∧ yv = .int .i64 y ∧ iv = .int .i64 i ∧ i ≤ n ∧ Hid (Fnd n t i x y) ∧ ∃ X : Ext wr, wr' = X.1) (fun _ _ iv _ => n - (intOf iv).toNat)
      case atStart => exact ⟨-1, -1, 0, rfl, rfl, rfl, by omega, Lib.hid Fnd.start, ⟨wr, Below.refl _ _⟩, rfl⟩
      case round =>
        obtain ⟨x, y, i, rfl, rfl, rfl, hi, HF, X, rfl⟩ := hrel
        by_cases hlt : i < n
        · have t1 : decide ((i : Int) < (n : Int)) = true := by rw [decide_eq_true_eq]; omega
          have t1' : decide (i < n) = true := by simpa using hlt
          have hii : (i : Int) < (n : Int) := by omega
          have NI := HNC.out i hlt
          have WI := HWC.out i hlt
          have HTI := Lib.hid (fun (e : want (t i) = want i) => HIN.out (t i) i (HPT.out.lt i hlt) hlt e)
          obtain ⟨wti, hwti⟩ : ∃ s, want (t i) = s := ⟨_, rfl⟩
          obtain ⟨wi, hwi⟩ : ∃ s, want i = s := ⟨_, rfl⟩
          have HEQ : Hid (t i = i → wti = wi) := Lib.hid (fun e => by rw [← hwti, ← hwi, e])
          rw [hwti] at NI HTI
          rw [hwi] at WI HTI
          have hse := str_eq wti wi
          clear hwti hwi
          go_wp2_with fail
          go_loopw [10, 11, 13] (fun xv yv kv wr' => ∃ (x y : Int) (k : Nat), xv = .int .i64 x ∧ yv = .int .i64 y ∧ kv = .int .i64 k ∧ i < k ∧ k ≤ n ∧ Hid (Fnd3 n t i k x y) ∧ ∃ X : Ext wr, wr' = X.1) (fun _ _ kv _ => n - (intOf kv).toNat)
          case atStart => exact ⟨x, y, i + 1, rfl, rfl, by go_num, by omega, by omega, Lib.hid HF.out.enter, X, rfl⟩
          case round =>
            clear HF
            obtain ⟨x, y, k, rfl, rfl, rfl, hik, hk, HF, X, rfl⟩ := hrel
            have hxb : -1 ≤ x ∧ x ≤ 20 := by
              rcases HF.out with ⟨h1, _⟩ | ⟨x', y', h1, _, h3, _⟩
              · omega
              · omega
            by_cases hkn : k < n
            · have t3 : decide ((k : Int) < (n : Int)) = true := by rw [decide_eq_true_eq]; omega
              have t3' : decide (k < n) = true := by simpa using hkn
              by_cases hx : x < 0
              · have t4 : decide (x < 0) = true := by simpa using hx
                by_cases hfix : t i = i
                · have e1 : (wti.toList == wi.toList) = true := by rw [hse]; simpa using HEQ.out hfix
                  have e2 : (wti.toList != wi.toList) = false := by rw [bne, e1]; rfl
                  have HN := Lib.hid (HF.out.fixed hx hfix)
                  clear hfix hx HF hse
                  go_wp2_with fail
                  refine wp_region_ext (W := wr) _ (by kernel_rfl) (by kernel_rfl) ?_
                  repeat go_big_quiet_step (fail)
                  refine wpQuiet_nil ?_
                  intro _ hw'
                  obtain ⟨Y, rfl⟩ := hw'
                  go_wp2_with fail
                  go_roundw
                  case rel => exact ⟨x, y, k + 1, rfl, rfl, by go_num, by omega, by omega, HN, Y, rfl⟩
                  case measure => simp [intOf]; omega
                · have e1 : (wti.toList == wi.toList) = false := by
                    rw [hse, decide_eq_false_iff_not]
                    exact fun e => hfix (HTI.out e)
                  have e2 : (wti.toList != wi.toList) = true := by rw [bne, e1]; rfl
                  have DT1 := DT.out i k hlt hkn
                  have htb := toB_iff HPT.out hlt (show i ≠ k by omega)
                  obtain ⟨b, hb⟩ : ∃ b, toB t n i k = b := ⟨_, rfl⟩
                  rw [hb] at DT1 htb
                  have DT2 := Lib.hid DT1
                  clear DT1 hb
                  by_cases hto : To t i k
                  · rw [htb.2 hto] at DT2
                    have HN := Lib.hid (HF.out.found hx hlt hik hkn hfix hto)
                    clear hfix hx HF hto htb hse
                    go_wp2_with fail
                    refine wp_region_ext (W := wr) _ (by kernel_rfl) (by kernel_rfl) ?_
                    repeat go_big_quiet_step ((go_at_call 42; exact DT2.out _))
                    refine wpQuiet_nil ?_
                    intro _ hw'
                    obtain ⟨Y, rfl⟩ := hw'
                    go_wp2_with fail
                    go_roundw
                    case rel => exact ⟨i, k, k + 1, rfl, rfl, by go_num, by omega, by omega, HN, Y, rfl⟩
                    case measure => simp [intOf]; omega
                  · rw [show b = false by
                      cases b with
                      | false => rfl
                      | true => exact absurd (htb.1 rfl) hto] at DT2
                    have HN := Lib.hid (HF.out.pass hx hto)
                    clear hfix hx HF hto htb hse
                    go_wp2_with fail
                    refine wp_region_ext (W := wr) _ (by kernel_rfl) (by kernel_rfl) ?_
                    repeat go_big_quiet_step ((go_at_call 42; exact DT2.out _))
                    refine wpQuiet_nil ?_
                    intro _ hw'
                    obtain ⟨Y, rfl⟩ := hw'
                    go_wp2_with fail
                    go_roundw
                    case rel => exact ⟨x, y, k + 1, rfl, rfl, by go_num, by omega, by omega, HN, Y, rfl⟩
                    case measure => simp [intOf]; omega
              · have t4 : decide (x < 0) = false := by simpa using hx
                have HN := Lib.hid (HF.out.leave HPT.out hlt (Or.inr hx))
                clear hx HF
                go_wp2_with fail
                go_roundw
                case rel => exact ⟨x, y, i + 1, rfl, rfl, by go_num, by omega, HN, X, rfl⟩
                case measure => simp [intOf]; omega
            · have t3 : decide ((k : Int) < (n : Int)) = false := by rw [decide_eq_false_iff_not]; omega
              have t3' : decide (k < n) = false := by simpa using hkn
              have HN := Lib.hid (HF.out.leave HPT.out hlt (Or.inl (by omega)))
              clear HF
              go_wp2_with fail
              go_roundw
              case rel => exact ⟨x, y, i + 1, rfl, rfl, by go_num, by omega, HN, X, rfl⟩
              case measure => simp [intOf]; omega
        · have t1 : decide ((i : Int) < (n : Int)) = false := by rw [decide_eq_false_iff_not]; omega
          have t1' : decide (i < n) = false := by simpa using hlt
          obtain rfl : i = n := by omega
          have HLX : Hid (RwL w X.1 q N i want sl tt (.slice av l cv) l t ps) := Lib.hid ⟨HL.out.kept.trans (Kept.of_below X.2), HL.out.now.below X.2, HL.out.len, ownsRow_below HL.out.own X.2, HL.out.sws, HL.out.lts⟩
          rcases HF.out with ⟨hx, hfix⟩ | ⟨xi, xk, hx, hy, hxi, hxk, hfix, hne, hisp⟩
          · have HEND : Hid (RswR q i sl tt most w (.slice av l cv) X.1) := Lib.hid ⟨HLX.out.kept, ps, t, by rw [HLX.out.len]; exact HLX.out.own, HLX.out.sws, ⟨by rw [HLX.out.len]; exact hlm, Or.inl hfix⟩, HLX.out.lts⟩
            subst hx
            clear hfix hlt HF
            go_wp2_with fail
            go_ret
            exact ⟨_, rfl, HEND.out⟩
          · subst hx
            subst hy
            have hik : xi ≠ xk := by have := hisp.gt; omega
            have HISP := Lib.hid hisp
            have HFIX := Lib.hid hfix
            have HNE := Lib.hid hne
            have c1 := HLX.out.now.cell hxi
            have c2 := HLX.out.now.cell hxk
            have f1 := HLX.out.now.free xi
            have f2 := HLX.out.now.free xk
            have hxii : (xi : Int) < (i : Int) := by omega
            have hxki : (xk : Int) < (i : Int) := by omega
            obtain ⟨s1, hs1⟩ : ∃ x, want (t xi) = x := ⟨_, rfl⟩
            obtain ⟨s2, hs2⟩ : ∃ x, want (t xk) = x := ⟨_, rfl⟩
            rw [hs1] at c1
            rw [hs2] at c2
            have hN7 := HLX.out.now.swap hN hxi hxk
            rw [hs1, hs2] at hN7
            have HN7 := Lib.hid hN7
            clear hlt HF t1 t1' t2 t2' hisp hfix hne hs1 hs2 hN7 HNC HWC DT
            go_wp2_with fail
            go_region
            obtain ⟨W6, hW6⟩ : ∃ W, ((X.1.setCell ⟨q, xi, none⟩ (.string s2)).setCell ⟨q, xk, none⟩ (.string s1)).drew = W := ⟨_, rfl⟩
            have hk6 : Kept (fun b => b = q) X.1 W6 := by
              rw [← hW6]
              exact ((Kept.put (O := fun b => b = q) (b := q) rfl).trans (Kept.put rfl)).trans ⟨rfl, rfl, rfl, Nat.le_refl _, fun _ _ _ => rfl⟩
            have HK6 := Lib.hid hk6
            have HP6 : Hid (Part W6 q N i 9 (fun j => .string (want (Cir.swp t xi xk j)))) := Lib.hid (by rw [← hW6]; exact HN7.out.same rfl)
            have HO6 : Hid (W6.ownsRow w.heap.size 34 2 (.slice av l cv) l (pairCs sl ps)) := Lib.hid (HLX.out.own.kept (row := some q) ⟨hk6.os, hk6.tape, hk6.output, hk6.size, fun b hb hne => hk6.block b hb (fun e => hne (by rw [e]))⟩ (Or.inr (fun e => by
              have := (HLX.out.own.lt q e).1
              omega)))
            have HKW := Lib.hid (HLX.out.kept.trans hk6)
            obtain ⟨b, off, rfl, hbl, hcr⟩ := HROW.out.here (by omega)
            have hbq := HQR.out b off rfl
            have hcell : ∀ j, j < i → W6.cell? ⟨b, off + j, none⟩ = some (.string (sl j)) := fun j hj => HKW.out.cell (p := ⟨b, off + j, none⟩) hbq (by
              have := hcr j hj 0 (by omega)
              rw [Nat.mul_one, Nat.add_zero] at this
              exact this)
            have hnb : ¬ (Value.slice av l cv).ownBlock = some b := fun e => by
              have := (HO6.out.lt b e).1
              omega
            have hnq : ¬ (Value.slice av l cv).ownBlock = some q := fun e => by
              have := (HO6.out.lt q e).1
              omega
            have S1 : ∀ X : ExtO (fun b => (Value.slice av l cv).ownBlock = some b) W6, X.1.cell? ⟨b, off + xi, none⟩ = some (.string (sl xi)) := ExtO.ex hnb (hcell xi hxi)
            have S2 : ∀ X : ExtO (fun b => (Value.slice av l cv).ownBlock = some b) W6, X.1.cell? ⟨b, off + xk, none⟩ = some (.string (sl xk)) := ExtO.ex hnb (hcell xk hxk)
            have hwr5 : w.heap.size ≤ W6.heap.size := HKW.out.size
            rw [hW6]
            clear hcr hcell hnb c1 c2 f1 f2 hk6 hW6 HN7
            go_wp2_with fail
            refine held_start (C := fun w' => ∃ Z : ExtO (fun b => (Value.slice av l cv).ownBlock = some b) W6, w' = Z.1) (by kernel_rfl) ?_
            obtain ⟨Y0, hY0, hy0⟩ : ∃ Z : ExtO (fun b => (Value.slice av l cv).ownBlock = some b) W6, ({ W6 with drawn := W6.drawn + 1 } : World) = Z.1 ∧ Below W6.heap.size W6 Z.1 := ⟨⟨{ W6 with drawn := W6.drawn + 1 }, ⟨rfl, rfl, rfl, Nat.le_refl _, fun _ _ _ => rfl⟩⟩, rfl, ⟨rfl, rfl, rfl, Nat.le_refl _, fun _ _ => rfl⟩⟩
            rw [hY0]
            have HVY := Lib.hid hy0
            clear hY0 hy0
            refine held_quiet (by kernel_rfl) (fun _ _ d _ _ h => by cases d <;> exact h) ⟨Y0, rfl⟩ [0, 1, 2, 3, 4, 5, 6, 7, 8, 9] 3 _ _ (by kernel_rfl) ?_
            change wpQuiet _ _ _ _ (_ :: _ :: _ :: _ :: _ :: _ :: _ :: _ :: _ :: _ :: []) _
            repeat go_big_quiet_step (fail)
            refine wpQuiet_nil ?_
            refine held_do (i := 10) _ rfl (by kernel_rfl) rfl (fun K hK => ?_)
            go_simp
            obtain ⟨Wb, hWb, hwb1, hwb2, hwq⟩ := alloc_block Y0.1 #[.string (sl xi), .string (sl xk)] 34
            rw [hWb]
            have hvz := below_step HVY.out hwb1
            obtain ⟨Zb, rfl⟩ : ∃ Z : ExtO (fun b => (Value.slice av l cv).ownBlock = some b) W6, Wb = Z.1 := ⟨⟨Wb, Kept.of_below hvz⟩, rfl⟩
            have HVZ := Lib.hid hvz
            have HWQ := Lib.hid hwq
            refine hK _ _ ⟨Zb, rfl⟩ ?_
            clear hWb hwb1 hwb2 hwq hvz hK K
            refine held_do (i := 11) _ rfl (by kernel_rfl) rfl (fun K hK => ?_)
            have HOW := Lib.hid (ownsRow_below HO6.out HVZ.out)
            refine wp_append_lies Zb.1 (.tmp 70) (.tmp 80) 29 rfl w.heap.size 34 i0 (.agg #[.string ⟨#[]⟩, .string ⟨#[]⟩]) 2 32 pair_under HI0.out HZ0.out HZ1.out HZ2.out rfl (by decide) (.slice av l cv) l (pairCs sl ps) rfl HOW.out ⟨Y0.1.heap.size, 0, none⟩ 1 1 [.string (sl xi), .string (sl xk)] rfl rfl (fun j u hu => by rw [addr_add0]; exact block_cell HWQ.out (by simpa using hu)) (fun u hu => by simp only [List.mem_cons, List.not_mem_nil, or_false] at hu; rcases hu with rfl | rfl <;> rfl) (by omega) (by unfold maxLen; omega) (by omega) (Nat.le_trans hwr5 HVZ.out.size) _ rfl (fun g6 cap6 w6 hown6 hg6 hat6 hlt6 => ?_)
            obtain ⟨Z6, hZ6⟩ : ∃ Z : ExtO (fun b => (Value.slice av l cv).ownBlock = some b) W6, w6 = Z.1 := ⟨⟨w6, Zb.2.grown hg6 (fun q hq _ => hq)⟩, rfl⟩
            rw [hZ6] at hown6 ⊢
            have HO7 := Lib.hid hown6
            refine hK _ _ ⟨Z6, rfl⟩ ?_
            clear hg6 hat6 hlt6 hown6 hZ6 hK K w6
            simp only [Act.put, List.setIfInBounds_toArray, List.set_cons_zero, List.set_cons_succ]
            refine held_quiet (by kernel_rfl) (fun _ _ d _ _ h => by cases d <;> exact h) ⟨Z6, rfl⟩ [12] 0 _ _ (by kernel_rfl) ?_
            change wpQuiet _ _ _ _ (_ :: []) _
            go_big_quiet_step (fail)
            refine wpQuiet_nil ?_
            refine wpAnyH_done (by kernel_rfl) ?_ _
            have HEND : Hid (RwL w Z6.1 q N i want sl tt (.slice (some ⟨g6, 0, none⟩) (l + 1) cap6) (l + 1) (Cir.swp t xi xk) (ps ++ [(xi, xk)])) := Lib.hid (HLX.out.swap HP.out hxi HFIX.out HNE.out HISP.out HO7.out (HP6.out.same (Z6.2.block q HP6.out.lt hnq)) (HKW.out.far Z6.2 (fun j hj e => by have := (HO6.out.lt j e).1; omega)))
            go_wp2_with fail
            go_roundw
            case rel => exact ⟨some ⟨g6, 0, none⟩, cap6, l + 1, Cir.swp t xi xk, ps ++ [(xi, xk)], rfl, by omega, HEND⟩
            case measure => simp [lenS]; omega
end Go.Proofs.YtbkpoepacjinlaaGreat

/- Gear: Swaps: what the reference sums up, in plain lists. -/
namespace Go.Proofs.YtbkpoepacjinlaaGreat
open Go Shr
open Gar (chk)

theorem sumF_indE : ∀ (n : Nat) (l : List Nat), l.Nodup → (∀ i, i ∈ l → i < n) → sumF (fun i => if i ∈ l then 1 else 0) n = (l.length : Int)
  | 0, l, _, h => by
    have : l = [] := List.eq_nil_iff_forall_not_mem.2 fun i hi => by have := h i hi; omega
    subst this; rfl
  | n + 1, l, hd, h => by
    show sumF (fun i => if i ∈ l then 1 else 0) n + (if n ∈ l then 1 else 0) = (l.length : Int)
    by_cases hn : n ∈ l
    · rw [if_pos hn]
      have h1 := sumF_indE n (l.erase n) (hd.erase n) (fun i hi => by
        have h2 := h i (List.mem_of_mem_erase hi)
        have h3 : i ≠ n := fun e => by subst e; exact (List.Nodup.not_mem_erase hd) hi
        omega)
      have e : sumF (fun i => if i ∈ l then 1 else 0) n = sumF (fun i => if i ∈ l.erase n then 1 else 0) n := by
        have : ∀ k, k ≤ n → sumF (fun i => if i ∈ l then 1 else 0) k = sumF (fun i => if i ∈ l.erase n then 1 else 0) k := by
          intro k
          induction k with
          | zero => intro _; rfl
          | succ k ih =>
            intro hk
            show sumF (fun i => if i ∈ l then 1 else 0) k + (if k ∈ l then 1 else 0) = sumF (fun i => if i ∈ l.erase n then 1 else 0) k + (if k ∈ l.erase n then 1 else 0)
            rw [ih (by omega)]
            have : k ∈ l ↔ k ∈ l.erase n := by rw [List.mem_erase_of_ne (by omega)]
            by_cases hk2 : k ∈ l
            · rw [if_pos hk2, if_pos (this.1 hk2)]
            · rw [if_neg hk2, if_neg (fun h => hk2 (this.2 h))]
        exact this n (Nat.le_refl _)
      rw [e, h1, List.length_erase_of_mem hn]
      have := List.length_pos_of_mem hn
      omega
    · rw [if_neg hn]
      have := sumF_indE n l hd (fun i hi => by
        have h2 := h i hi
        have h3 : i ≠ n := fun e => by subst e; exact hn hi
        omega)
      omega
/-- the ways of the pieces add up to the way of the use -/
theorem way_all {T S : Int} {W : Nat → Int} {n : Nat} (hf : Fine T W n S) : sumF (wayG T S W n) n = T := by
  obtain ⟨b0, b1⟩ := Shr.left_bounds (T := T) (W := W) hf.s0 hf.sum
  have e : sumF (wayG T S W n) n = sumF (quo T S W) n + sumF (fun i => if i ∈ (ordL (rst T S W) n).take (T - sumF (quo T S W) n).toNat then 1 else 0) n := sumF_add _ _ n
  have ho := ordL_ord (rst T S W) n
  rw [e, sumF_indE n _ (List.Nodup.sublist (List.take_sublist _ _) ho.nodup) (fun i hi => ho.mem.1 (List.mem_of_mem_take hi)), List.length_take, ho.length]
  omega
theorem sumK_app (k : Ev → ByteArray) (a b : List Ev) (s : ByteArray) : sumK k (a ++ b) s = sumK k a s + sumK k b s := by
  unfold sumK
  rw [List.filter_append, List.map_append, List.sum_append]
theorem sumK_evQ (g : Gar) (i j : Nat) (s : ByteArray) : ∀ n, sumK Ev.s (evQ g i j n) s = if g.sn j = s then waySum (evQ g i j n) else 0
  | 0 => by simp [evQ, sumK, waySum]
  | n + 1 => by
    rw [evQ, sumK_app, waySum_app, sumK_evQ g i j s n]
    have e : sumK Ev.s [evP g i j n] s = if g.sn j = s then (evP g i j n).way else 0 := by
      have e2 : (evP g i j n).s = g.sn j := rfl
      by_cases h : g.sn j = s
      · simp [sumK, e2, h]
      · simp [sumK, e2, h]
    rw [e]
    by_cases h : g.sn j = s
    · simp [h, waySum]
    · simp [h]
theorem sumK_evS {g : Gar} (h : chk g = 0) {i j : Nat} (hi : i < g.nu) (hj : j < g.ns) : ∀ n, n ≤ g.ns → sumK Ev.s (evS g i n) (g.sn j) = if j < n ∧ g.sr j = g.ur i then g.uw i else 0
  | 0, _ => by simp [evS, sumK]
  | n + 1, hn => by
    rw [evS, sumK_app, sumK_evS h hi hj n (by omega)]
    have hw : waySum (evQ g i n (pcsOf g i n).length) = g.uw i := by
      rw [evQ_waySum]
      exact way_all (pcs_fine h hi n)
    by_cases e : n = j
    · subst e
      rw [if_neg (by omega)]
      by_cases hr : g.sr n = g.ur i
      · rw [if_pos hr, sumK_evQ, if_pos rfl, hw, if_pos ⟨by omega, hr⟩]
        omega
      · rw [if_neg hr, if_neg (fun x => hr x.2)]
        simp [sumK]
    · have h0 : sumK Ev.s (if g.sr n = g.ur i then evQ g i n (pcsOf g i n).length else []) (g.sn j) = 0 := by
        split
        · rw [sumK_evQ, if_neg (fun x => e (slot_inj h (by omega) hj x))]
        · simp [sumK]
      rw [h0]
      by_cases hr : g.sr j = g.ur i
      · by_cases hlt : j < n
        · rw [if_pos ⟨hlt, hr⟩, if_pos ⟨by omega, hr⟩]; omega
        · rw [if_neg (fun x => hlt x.1), if_neg (fun x => hlt (by omega))]; omega
      · rw [if_neg (fun x => hr x.2), if_neg (fun x => hr x.2)]; omega
/-- the ways of the uses of a rig -/
def swR (g : Gar) (rig : ByteArray) : Nat → Int
  | 0 => 0
  | n + 1 => swR g rig n + (if g.ur n = rig then g.uw n else 0)
theorem sumK_rig {g : Gar} (h : chk g = 0) {j : Nat} (hj : j < g.ns) : ∀ n, n ≤ g.nu → sumK Ev.s (evG g n) (g.sn j) = swR g (g.sr j) n
  | 0, _ => by simp [evG, sumK, swR]
  | n + 1, hn => by
    rw [evG, sumK_app, sumK_rig h hj n (by omega), sumK_evS h (by omega) hj g.ns (Nat.le_refl _), swR]
    by_cases e : g.ur n = g.sr j
    · rw [if_pos ⟨hj, e.symm⟩, if_pos e]
    · rw [if_neg (fun x => e x.2.symm), if_neg e]
theorem swR_bd {g : Gar} (h : chk g = 0) (rig : ByteArray) : ∀ n, n ≤ g.nu → 0 ≤ swR g rig n ∧ swR g rig n ≤ n * 1000000000
  | 0, _ => by simp [swR]
  | n + 1, hn => by
    have ih := swR_bd h rig n (by omega)
    have hu := Gar.use_right (Gar.chk_parts h).2.2.2.2.2.2.2.2 (i := n) (by omega)
    rw [swR]
    split <;> omega
theorem fold_way (g : Gar) (p : ByteArray) (f t : Int) : ∀ (l : List Ev) (st : WSt), (∀ e, e ∈ l → f ≤ g.uf e.i ∧ g.uf e.i < t) → (l.foldl (wearE g p f t) st).way = st.way + sumK Ev.p l p
  | [], st, _ => by simp [sumK]
  | e :: l, st, h => by
    rw [List.foldl_cons, fold_way g p f t l _ (fun x hx => h x (by simp [hx]))]
    have h0 := h e (by simp)
    have e1 : sumK Ev.p (e :: l) p = (if e.p = p then e.way else 0) + sumK Ev.p l p := by
      by_cases hp : e.p = p
      · simp [sumK, hp]
      · simp [sumK, hp]
    rw [e1]
    unfold wearE
    by_cases hp : e.p = p
    · rw [if_pos ⟨hp, h0.1, h0.2⟩, if_pos hp]
      show st.way + e.way + _ = _
      omega
    · rw [if_neg (fun x => hp x.1), if_neg hp]
      omega
theorem wear_sum {g : Gar} (h : chk g = 0) (p : ByteArray) : (wearL g p 0 86400000000 (evG g g.nu)).way = sumK Ev.p (evG g g.nu) p := by
  unfold wearL
  rw [fold_way g p 0 86400000000 _ wear0 (fun e he => by
    have h1 := ((evG_all h g.nu (Nat.le_refl _)).1 e he).2.2
    have hu := Gar.use_right (Gar.chk_parts h).2.2.2.2.2.2.2.2 (i := e.i) h1
    omega)]
  show (0 : Int) + _ = _
  omega
end Go.Proofs.YtbkpoepacjinlaaGreat

/- Gear: piecesOf of the reference. -/
namespace Go.Proofs.YtbkpoepacjinlaaGreat
open Go.RowKit Go.BigFrame
open Gar (mountsK)

def lookS (a : Int) (st : ByteArray × Int) (m : Pcs.Mnt) : ByteArray × Int := if m.f ≤ a ∧ a < Pcs.en m then (m.p, min st.2 (Pcs.en m)) else if a < m.f then (st.1, min st.2 m.f) else st
theorem look_snoc (a : Int) (m : Pcs.Mnt) : ∀ (ms : List Pcs.Mnt) (st : ByteArray × Int), Pcs.look a (ms ++ [m]) st = lookS a (Pcs.look a ms st) m
  | [], _ => rfl
  | x :: ms, st => by
    rw [List.cons_append, Pcs.look, Pcs.look, look_snoc a m ms]
theorem look_step (g : Gar) (slot : ByteArray) (a : Int) (st : ByteArray × Int) (k : Nat) : Pcs.look a (mountsK g slot (k + 1)) st = if g.ms k = slot then lookS a (Pcs.look a (mountsK g slot k) st) (g.mnt k) else Pcs.look a (mountsK g slot k) st := by
  rw [mountsK]
  split
  · exact look_snoc a _ _ _
  · rfl
theorem rp_next {last a : Int} {ms : List Pcs.Mnt} (h : a < last) : Pcs.rpieces last ms (last - a).toNat a = ((Pcs.look a ms (Pcs.em, last)).1, (Pcs.look a ms (Pcs.em, last)).2 - a) :: Pcs.rpieces last ms (last - (Pcs.look a ms (Pcs.em, last)).2).toNat (Pcs.look a ms (Pcs.em, last)).2 := by
  obtain ⟨n, hn⟩ : ∃ n, (last - a).toNat = n + 1 := ⟨(last - a).toNat - 1, by omega⟩
  have hg := Pcs.look_gt a ms (Pcs.em, last) h
  rw [hn, Pcs.rpieces, if_pos h]
  congr 1
  exact Pcs.rp_fuel _ _ _ (by omega) (by omega)
theorem isG_iff (g : Gar) (k : Nat) (a : Int) : isG (g.mf k) (g.mt k) a = true ↔ ((g.mnt k).f ≤ a ∧ a < Pcs.en (g.mnt k)) := by
  unfold isG
  rw [Bool.and_eq_true, decide_eq_true_eq, decide_eq_true_eq]
  rfl
set_option maxHeartbeats 8000000 in
set_option maxRecDepth 100000 in
theorem rpiecesOf_any (g : Gar) (a0 a1 a2 a3 : Option Addr) (c0 c1 c2 c3 : Nat) (un ur : ByteArray) (uf us uw : Int) (slot : ByteArray) (w : World) (h : GarIn w g a0 a1 a2 a3)
    (h0 : 0 ≤ uf) (h1 : uf ≤ 86399999999) (h2 : 1 ≤ us) (h3 : us ≤ 1000000) (h4 : 0 ≤ uw) (h5 : uw ≤ 1000000000) (hmf : ∀ k, k < g.nm → 0 ≤ g.mf k ∧ g.mf k ≤ 86399999999) (hmt : ∀ k, k < g.nm → g.mt k ≤ 86399999999) (ho : Pcs.Ord (g.mounts slot)) :
    Calls Tryz.prog 73 #[garV g a0 a1 a2 a3 c0 c1 c2 c3, useV un ur uf us uw, .string slot] w (PcsRet un slot (Pcs.pieces uf (uf + us) (g.mounts slot)) us uw w) := by
  have HG := Lib.hid h
  have HO := Lib.hid ho
  have HMF := Lib.hid hmf
  have HMT := Lib.hid hmt
  have hl2 := h.l2
  unfold garV useV
  obtain ⟨W0, hW0, hb0, hs0, hq0⟩ := allocs w [.cells #[.slice a0 g.np c0, .slice a1 g.ns c1, .slice a2 g.nm c2, .slice a3 g.nu c3] 27, .cells #[.string un, .string ur, .int .i64 uf, .int .i64 us, .int .i64 uw] 62]
  have hs0 : W0.heap.size = w.heap.size + 2 := hs0
  have f2 : W0.cell? ⟨w.heap.size, 2, none⟩ = some (.slice a2 g.nm c2) := block_cell (hq0 0 _ rfl) rfl
  have v0 : W0.cell? ⟨w.heap.size + 1, 0, none⟩ = some (.string un) := block_cell (hq0 1 _ rfl) rfl
  have v2 : W0.cell? ⟨w.heap.size + 1, 2, none⟩ = some (.int .i64 uf) := block_cell (hq0 1 _ rfl) rfl
  have v3 : W0.cell? ⟨w.heap.size + 1, 3, none⟩ = some (.int .i64 us) := block_cell (hq0 1 _ rfl) rfl
  have v4 : W0.cell? ⟨w.heap.size + 1, 4, none⟩ = some (.int .i64 uw) := block_cell (hq0 1 _ rfl) rfl
  have HW0 := Lib.hid (show (w.alloc (.cells #[.slice a0 g.np c0, .slice a1 g.ns c1, .slice a2 g.nm c2, .slice a3 g.nu c3] 27)).alloc (.cells #[.string un, .string ur, .int .i64 uf, .int .i64 us, .int .i64 uw] 62) = W0 from hW0)
  have HB := Lib.hid hb0
  obtain ⟨B0, hB0⟩ : ∃ B, W0.heap.size = B := ⟨_, rfl⟩
  have hbs : w.heap.size ≤ B0 := by omega
  have hws : w.heap.size ≤ W0.heap.size := by omega
  have HBE := Lib.hid hB0
  obtain ⟨ms, hms⟩ : ∃ ms, g.mounts slot = ms := ⟨_, rfl⟩
  have HMS : Hid (mountsK g slot g.nm = ms) := Lib.hid hms
  rw [hms] at HO ⊢
  obtain ⟨i0, hi0, hz0, hz1, hz2⟩ := info_parts (show (Tryz.prog.info? 54).map (fun i => (i.zero, i.size, i.bytes)) = some (some (.agg #[.string ⟨#[]⟩, .string ⟨#[]⟩, .string ⟨#[]⟩, .int .i64 0, .int .i64 0]), 5, 64) by kernel_rfl)
  have HI0 := Lib.hid hi0
  have HZ0 := Lib.hid hz0
  have HZ1 := Lib.hid hz1
  have HZ2 := Lib.hid hz2
  have HU := Lib.hid (show Tryz.prog.underlying 48 = some (.slice 54) by kernel_rfl)
  have nnil : ∀ b : Nat, ¬ (Value.slice none 0 0).ownBlock = some b := fun b => by simp [Value.ownBlock]
  have hst : OwnR W0 W0 B0 54 5 (.slice none 0 0) (.slice none 0 0) ([] : List Pcs.Pc).length (pcells un slot []) := OwnR.start (World.ownsRow_nil _ _ _ _)
  have HST := Lib.hid hst
  clear h ho hmf hmt hW0 hb0 hq0 hms hi0 hz0 hz1 hz2 hst hB0
  go_enter Tryz.func73, Tryz.ntmps73
  go_upto_region 1 with (fail)
  rw [HW0.out]
  go_wp2_with fail
  go_loopw [7, 8] (fun lv av wr => ∃ (a : Int) (done : List Pcs.Pc), av = .int .i64 a ∧ uf ≤ a ∧ a ≤ uf + us ∧ (done.length : Int) ≤ a - uf ∧ Hid (OwnR W0 wr B0 54 5 (.slice none 0 0) lv done.length (pcells un slot done)) ∧ Hid (Pcs.rpieces (uf + us) ms us.toNat uf = done ++ Pcs.rpieces (uf + us) ms (uf + us - a).toNat a)) (fun _ av _ => (uf + us - intOf av).toNat)
  case atStart => exact ⟨uf, [], rfl, by omega, by omega, by simp, HST, Lib.hid (by rw [show uf + us - uf = us by omega]; rfl)⟩
  case round =>
    obtain ⟨a, done, rfl, ha0, ha1, hdl, HR, HE⟩ := hrel
    have HDN := Lib.hid (HR.out.down HB.out hws hbs (World.ownsRow_nil _ _ _ _))
    have g2 := HR.out.cell (nnil _) f2
    have u0 := HR.out.cell (nnil _) v0
    have u2 := HR.out.cell (nnil _) v2
    have u3 := HR.out.cell (nnil _) v3
    have u4 := HR.out.cell (nnil _) v4
    by_cases hlt : a < uf + us
    · have t1 : decide (a < uf + us) = true := by simpa using hlt
      have hgt := Pcs.look_gt a ms (Pcs.em, uf + us) hlt
      have hle := Pcs.look_mono a ms (Pcs.em, uf + us)
      have he := HE.out
      rw [rp_next hlt] at he
      have HE2 := Lib.hid he
      have G2 := Ext.ex g2
      have U0 := Ext.ex u0
      have U2 := Ext.ex u2
      have U3 := Ext.ex u3
      have DC := Lib.hid (fun (k : Nat) (W : World) => covers_any (g.ms k) (g.mp k) (g.mf k) (g.mt k) a W)
      have DE := Lib.hid (fun (k : Nat) (W : World) => rend_any (g.ms k) (g.mp k) (g.mf k) (g.mt k) W)
      unfold mountV at DC DE
      clear he HE
      go_upto_region 4 with (fail)
      refine ext_wp fun Y0 => ?_
      refine wp_region_ext (W := wr) _ (by kernel_rfl) (by kernel_rfl) ?_
      repeat go_big_quiet_step (fail)
      refine wpQuiet_nil ?_
      intro _ hw'
      obtain ⟨Y, rfl⟩ := hw'
      go_wp2_with fail
      have hlen2 : done.length ≤ 1000000 := by omega
      go_loopw [9, 10, 35] (fun pv nv iv wr2 => ∃ (k : Nat), pv = .string (Pcs.look a (mountsK g slot k) (Pcs.em, uf + us)).1 ∧ nv = .int .i64 (Pcs.look a (mountsK g slot k) (Pcs.em, uf + us)).2 ∧ iv = .int .i64 k ∧ k ≤ g.nm ∧ ∃ X : Ext wr, wr2 = X.1) (fun _ _ iv _ => g.nm - (intOf iv).toNat)
      case atStart => exact ⟨0, rfl, rfl, rfl, by omega, Y, rfl⟩
      case round =>
        obtain ⟨k, rfl, rfl, rfl, hk, X, rfl⟩ := hrel
        by_cases hltk : k < g.nm
        · have t2 : decide ((k : Int) < (g.nm : Int)) = true := by rw [decide_eq_true_eq]; omega
          obtain ⟨b, off, rfl, hbl, hcc⟩ := (HG.out.r2.below (X.down HDN.out HDN.out.size) (Nat.le_refl _)).here (by omega)
          have e0 : X.1.cell? ⟨b, off + k * 4, none⟩ = some (.string (g.ms k)) := hcc k hltk 0 (by omega)
          have e1 : X.1.cell? ⟨b, off + k * 4 + 1, none⟩ = some (.string (g.mp k)) := hcc k hltk 1 (by omega)
          have e2 : X.1.cell? ⟨b, off + k * 4 + 2, none⟩ = some (.int .i64 (g.mf k)) := hcc k hltk 2 (by omega)
          have e3 : X.1.cell? ⟨b, off + k * 4 + 3, none⟩ = some (.int .i64 (g.mt k)) := hcc k hltk 3 (by omega)
          obtain ⟨V1, hV1, hvb, hvs, hvl⟩ := alloc_cells X.1 #[.string (g.ms k), .string (g.mp k), .int .i64 (g.mf k), .int .i64 (g.mt k)] 78
          have M0 := Ext.ex (hvl 0 _ rfl)
          have M1 := Ext.ex (hvl 1 _ rfl)
          have M2 := Ext.ex (hvl 2 _ rfl)
          have M3 := Ext.ex (hvl 3 _ rfl)
          have HWV := Lib.hid (X.2.trans (hvb.mono X.2.size))
          have HV1 := Lib.hid hV1
          have HL := Lib.hid (look_step g slot a (Pcs.em, uf + us) k)
          have hmf := HMF.out k hltk
          have hmt := HMT.out k hltk
          have hse := str_eq (g.ms k) slot
          have hlm := Pcs.look_mono a (mountsK g slot k) (Pcs.em, uf + us)
          have hlg := Pcs.look_gt a (mountsK g slot k) (Pcs.em, uf + us) hlt
          have DC1 := Lib.hid (DC.out k)
          have DE1 := Lib.hid (DE.out k)
          have hgi := isG_iff g k a
          have hen : Pcs.en (g.mnt k) = Gar.endG (g.mt k) := rfl
          have hfe : (g.mnt k).f = g.mf k := rfl
          have hpe : (g.mnt k).p = g.mp k := rfl
          have hege : -9223372036854775808 ≤ Gar.endG (g.mt k) ∧ Gar.endG (g.mt k) ≤ 9223372036854775807 := by unfold Gar.endG; split <;> omega
          unfold lookS at HL
          rw [hen, hfe, hpe] at HL
          rw [hen, hfe] at hgi
          obtain ⟨st, hstt⟩ : ∃ st, Pcs.look a (mountsK g slot k) (Pcs.em, uf + us) = st := ⟨_, rfl⟩
          rw [hstt] at HL hlm hlg ⊢
          obtain ⟨pp, nn⟩ := st
          generalize Gar.endG (g.mt k) = en at HL DE1 hege hgi
          have hnn : a < nn ∧ nn ≤ uf + us := ⟨hlg, hlm⟩
          obtain ⟨p6, hp6⟩ : ∃ p6, X.1.heap.size = p6 := ⟨_, rfl⟩
          rw [hp6] at M0 M1 M2 M3
          have HP6 := Lib.hid hp6
          clear hcc hV1 hvb hvs hvl hp6 hstt hen hfe hpe hlm hlg
          by_cases hss : g.ms k = slot
          · rw [if_pos hss] at HL
            rw [show decide (g.ms k = slot) = true by simpa using hss] at hse
            have hne : ((g.ms k).toList != slot.toList) = false := by rw [bne, hse]; rfl
            clear hss
            cases hcv : isG (g.mf k) (g.mt k) a
            · rw [hcv] at DC1
              rw [if_neg (fun h => by have := hgi.2 h; rw [hcv] at this; cases this)] at HL
              clear hcv hgi
              by_cases hfa : a < g.mf k
              · rw [if_pos hfa] at HL
                have t5 : decide (a < g.mf k) = true := by simpa using hfa
                go_upto_region 8 with (fail)
                rw [HV1.out, HP6.out]
                refine ext_wp fun X1 => ?_
                clear e0 e1 e2 e3 hbl HP6 HV1 X
                go_wp2_with fail
                refine (Ext.calls _ (DC1.out _)).mono ?_
                rintro e w2 ⟨rfl, Y1, rfl⟩
                go_wp2_with fail
                go_roundw
                case rel => exact ⟨k + 1, by rw [HL.out], by rw [HL.out], by go_num, by omega, Ext.rise HWV.out Y1⟩
                case measure => simp [intOf]; omega
              · rw [if_neg hfa] at HL
                have t5 : decide (a < g.mf k) = false := by simpa using hfa
                go_upto_region 8 with (fail)
                rw [HV1.out, HP6.out]
                refine ext_wp fun X1 => ?_
                clear e0 e1 e2 e3 hbl HP6 HV1 X
                go_wp2_with fail
                refine (Ext.calls _ (DC1.out _)).mono ?_
                rintro e w2 ⟨rfl, Y1, rfl⟩
                go_wp2_with fail
                go_roundw
                case rel => exact ⟨k + 1, by rw [HL.out], by rw [HL.out], by go_num, by omega, Ext.rise HWV.out Y1⟩
                case measure => simp [intOf]; omega
            · rw [hcv] at DC1
              rw [if_pos (hgi.1 hcv)] at HL
              clear hcv hgi
              go_upto_region 8 with (fail)
              rw [HV1.out, HP6.out]
              refine ext_wp fun X1 => ?_
              clear e0 e1 e2 e3 hbl HP6 HV1 X
              go_wp2_with fail
              refine (Ext.calls _ (DC1.out _)).mono ?_
              rintro e w2 ⟨rfl, Y1, rfl⟩
              go_wp2_with fail
              refine (Ext.calls _ (DE1.out _)).mono ?_
              rintro e w2 ⟨rfl, Y2, rfl⟩
              go_wp2_with fail
              go_roundw
              case rel => exact ⟨k + 1, by rw [HL.out], by rw [HL.out], by go_num, by omega, Ext.rise HWV.out Y2⟩
              case measure => simp [intOf]; omega
          · rw [if_neg hss] at HL
            rw [show decide (g.ms k = slot) = false by simpa using hss] at hse
            have hne : ((g.ms k).toList != slot.toList) = true := by rw [bne, hse]; rfl
            clear hss hgi
            go_upto_region 8 with (fail)
            rw [HV1.out, HP6.out]
            refine ext_wp fun X1 => ?_
            clear e0 e1 e2 e3 hbl HP6 HV1 X
            go_wp2_with fail
            go_roundw
            case rel => exact ⟨k + 1, by rw [HL.out], by rw [HL.out], by go_num, by omega, Ext.rise HWV.out X1⟩
            case measure => simp [intOf]; omega
        · have t2 : decide ((k : Int) < (g.nm : Int)) = false := by rw [decide_eq_false_iff_not]; omega
          have t2' : decide (k < g.nm) = false := by simpa using hltk
          obtain rfl : k = g.nm := by omega
          clear hltk
          rw [HMS.out]
          obtain ⟨st, hstt⟩ : ∃ st, Pcs.look a ms (Pcs.em, uf + us) = st := ⟨_, rfl⟩
          rw [hstt] at HE2 hgt hle ⊢
          obtain ⟨pp, nn⟩ := st
          have hnn : a < nn ∧ nn ≤ uf + us := ⟨hgt, hle⟩
          have HOW := Lib.hid (ownsRow_below HR.out.own X.2)
          have hxs : B0 ≤ X.1.heap.size := by have h1 := X.2.size; have h2 := HR.out.kept.size; have h3 := HBE.out; omega
          clear hstt hgt hle
          go_wp2_with (at_builtin; refine wpList_append_where _ rfl (.tmp 61) (.tmp 70) 48 rfl B0 54 i0 (.agg #[.string ⟨#[]⟩, .string ⟨#[]⟩, .string ⟨#[]⟩, .int .i64 0, .int .i64 0]) 5 64 HU.out HI0.out HZ0.out HZ1.out HZ2.out rfl (by decide) _ _ _ rfl (HOW.out.alloc _) ⟨X.1.heap.size, 0, none⟩ 1 1 (pcell un slot (pp, nn - a)) rfl (by decide) rfl ?c1 ?c2 ?c3 ?c4 ?c5 ?_)
          case c1 =>
            intro jj u hu
            first
              | (rw [addr_add0, World.cell?_alloc_at _ _ _ _ rfl]; simpa [pcell] using hu)
              | simpa [pcell] using hu
          case c2 =>
            intro u hu
            simp only [pcell, List.mem_cons, List.not_mem_nil, or_false] at hu
            rcases hu with rfl | rfl | rfl | rfl | rfl <;> rfl
          case c3 => unfold maxLen; omega
          case c4 => omega
          case c5 => first | (simp; omega) | omega
          intro v5 w5 hown5 hg5 hwh5
          have HN := Lib.hid (HR.out.append (X.2.trans ((below_al X.1 _).mono X.2.size)) hown5 hg5 (by rcases hwh5 with h | h; exact Or.inl h; exact Or.inr (by rw [h]; simp)))
          clear hown5 hg5 hwh5
          go_wp2_with fail
          go_roundw
          case rel =>
            refine ⟨nn, done ++ [(pp, nn - a)], rfl, by omega, by omega, by rw [List.length_append]; simp; omega, Lib.hid ?_, Lib.hid ?_⟩
            · rw [List.length_append, pcells_snoc]
              exact HN.out
            · rw [HE2.out, List.append_assoc]
              rfl
          case measure => simp [intOf]; omega
    · have t1 : decide (a < uf + us) = false := by simpa using hlt
      obtain rfl : a = uf + us := by omega
      have he := HE.out
      rw [show (uf + us - (uf + us)).toNat = 0 by omega, Pcs.rpieces, List.append_nil, Pcs.pieces_eq HO.out (n := us.toNat) (by omega)] at he
      have HPC := Lib.hid he
      have hgd : Good done us := by rw [← he]; exact good_pieces HO.out h2
      have hn0 := hgd.ne h2
      have hn1 := hgd.len
      have HFI := Lib.hid (hgd.fine h2 h3 h4 h5)
      obtain ⟨gq, cap, hvv, hg1, hg2⟩ := HR.out.own.form hn0
      have HOW := Lib.hid HR.out.own
      subst hvv
      obtain ⟨B2, hBB⟩ : ∃ B2, wr.heap.size = B2 := ⟨_, rfl⟩
      have hB2 : B0 ≤ B2 := by rw [← hBB]; have h1 := HR.out.kept.size; have h3 := HBE.out; omega
      rw [hBB] at hg2
      have HBB := Lib.hid hBB
      have O4 : ∀ Z : ExtO (fun b => B2 ≤ b) wr, Z.1.cell? ⟨w.heap.size + 1, 4, none⟩ = some (.int .i64 uw) := ExtO.ex (by show ¬ B2 ≤ w.heap.size + 1; have h3 := HBE.out; omega) u4
      obtain ⟨i1, hi1, hy0, hy1, hy2⟩ := info_parts (show (Tryz.prog.info? 3).map (fun i => (i.zero, i.size, i.bytes)) = some (some (.int .i64 0), 1, 8) by kernel_rfl)
      have HI1 := Lib.hid hi1
      have HY0 := Lib.hid hy0
      have HY1 := Lib.hid hy1
      have HY2 := Lib.hid hy2
      have HUI := Lib.hid (show Tryz.prog.underlying 39 = some (.slice 3) by kernel_rfl)
      clear he hgd hBB hi1 hy0 hy1 hy2 HE HR hlt u4 u0 g2 hdl ha0 ha1
      go_wp2_with fail
      go_loopw [13, 75] (fun sv iv wr2 => ∃ (k : Nat), iv = .int .i64 k ∧ k ≤ done.length ∧ Hid (wr2.ownsRow B2 3 1 sv k ((List.range k).map fun i => .int .i64 (secW done i))) ∧ Hid (∃ Z : ExtO (fun b => B2 ≤ b) wr, wr2 = Z.1)) (fun _ iv _ => done.length - (intOf iv).toNat)
      case atStart => exact ⟨0, rfl, by omega, Lib.hid (World.ownsRow_nil _ _ _ _), Lib.hid ⟨⟨wr, Kept.refl _ _⟩, rfl⟩⟩
      case round =>
        obtain ⟨k, rfl, hk, HS, HZE⟩ := hrel
        obtain ⟨Z, rfl⟩ := HZE.out
        by_cases hlt : k < done.length
        · have t1 : decide ((k : Int) < (done.length : Int)) = true := by rw [decide_eq_true_eq]; omega
          have t1' : decide (k < done.length) = true := by simpa using hlt
          have hcell : ∀ j v, j < 5 → (pcell un slot (pget done k))[j]? = some v → Z.1.cell? ⟨gq, k * 5 + j, none⟩ = some v := fun j v hj hv => by
            have h6 := HOW.out.cells (g := gq) rfl (k * 5 + j) v (by rw [← hv]; exact flat5 (fun q => rfl) done k j hlt hj)
            rw [addr_add0] at h6
            exact Z.2.cell (by show ¬ B2 ≤ gq; omega) h6
          have e0 : Z.1.cell? ⟨gq, k * 5, none⟩ = some (.string un) := hcell 0 _ (by omega) rfl
          have e1 : Z.1.cell? ⟨gq, k * 5 + 1, none⟩ = some (.string slot) := hcell 1 _ (by omega) rfl
          have e2 : Z.1.cell? ⟨gq, k * 5 + 2, none⟩ = some (.string (pget done k).1) := hcell 2 _ (by omega) rfl
          have e3 : Z.1.cell? ⟨gq, k * 5 + 3, none⟩ = some (.int .i64 (pget done k).2) := hcell 3 _ (by omega) rfl
          have e4 : Z.1.cell? ⟨gq, k * 5 + 4, none⟩ = some (.int .i64 0) := hcell 4 _ (by omega) rfl
          have hzs : B2 ≤ Z.1.heap.size := Nat.le_trans (Nat.le_of_eq HBB.out.symm) Z.2.size
          clear hcell
          go_wp2_with (at_builtin; refine wpList_append_own _ rfl (.tmp 79) (.tmp 82) 39 rfl B2 3 i1 (.int .i64 0) 1 8 HUI.out HI1.out HY0.out HY1.out HY2.out rfl (by decide) _ k _ rfl ((HS.out.alloc _).alloc _) ⟨Z.1.heap.size + 1, 0, none⟩ 1 1 [.int .i64 (pget done k).2] rfl rfl ?c1 ?c2 ?c3 ?c4 ?c5 ?_)
          case c1 =>
            intro j u hu
            rw [addr_add0, World.cell?_alloc_at _ _ _ _ (by simp)]
            simpa using hu
          case c2 =>
            intro u hu
            simp only [List.mem_singleton] at hu
            rw [hu]
            rfl
          case c3 => unfold maxLen; omega
          case c4 => omega
          case c5 => simp; omega
          intro v5 w5 hown5 hg5 _
          have HS2 : Hid (w5.ownsRow B2 3 1 v5 (k + 1) ((List.range (k + 1)).map fun i => .int .i64 (secW done i))) := Lib.hid (by
            rw [List.range_succ, List.map_append]
            exact hown5)
          have HZ2 : Hid (∃ Z : ExtO (fun b => B2 ≤ b) wr, w5 = Z.1) := Lib.hid ⟨⟨w5, (Z.2.trans (Kept.of_below (below_tr (below_al Z.1 _) (by simp) (below_al _ _)))).grown hg5 (fun q hq _ => (HS.out.lt q hq).1)⟩, rfl⟩
          clear hown5 hg5 HS HZE
          go_wp2_with fail
          go_roundw
          case rel => exact ⟨k + 1, by go_num, by omega, HS2, HZ2⟩
          case measure => simp [intOf]; omega
        · have t1 : decide ((k : Int) < (done.length : Int)) = false := by rw [decide_eq_false_iff_not]; omega
          have t1' : decide (k < done.length) = false := by simpa using hlt
          obtain rfl : k = done.length := by omega
          have hoz : Z.1.ownsRow B0 54 5 (.slice (some ⟨gq, 0, none⟩) done.length cap) done.length (pcells un slot done) := HOW.out.kept (row := none) ⟨Z.2.os, Z.2.tape, Z.2.output, Z.2.size, fun q hq _ => Z.2.block q hq (by show ¬ B2 ≤ q; have := HBB.out; omega)⟩ (Or.inr (by simp [Value.ownBlock]))
          have hbz := HBB.out
          have hdz := HDN.out.size
          have hwz : Below w.heap.size w Z.1 := Kept.below HDN.out Z.2 HDN.out.size (fun k hk => by show ¬ B2 ≤ k; omega)
          have hzs : B2 ≤ Z.1.heap.size := Nat.le_trans (Nat.le_of_eq HBB.out.symm) Z.2.size
          obtain ⟨g2, cap2, hv2, hg3, hg4⟩ := HS.out.form hn0
          have hrow : Row1 Z.1 (some ⟨g2, 0, none⟩) done.length (secW done) := ⟨fun _ => ⟨g2, 0, rfl, hg4, fun i hi => by
            have h6 := HS.out
            rw [hv2] at h6
            have h7 := h6.cells (g := g2) rfl i (.int .i64 (secW done i)) (by simp [hi])
            rw [addr_add0] at h7
            rw [Nat.zero_add]
            exact h7⟩⟩
          have HOZ := Lib.hid hoz
          have HWZ := Lib.hid hwz
          have DP := Lib.hid (rparts_any uw us (some ⟨g2, 0, none⟩) done.length cap2 (secW done) Z.1 hrow HFI.out)
          subst hv2
          clear hoz hwz hrow HS HZE hlt
          go_wp2_with fail
          refine DP.out.mono ?_
          rintro e w6 ⟨lo, g5, hord, rfl, hrf, hg6, hb6⟩
          have ho6 := ownsRow_below HOZ.out hb6
          have hrw : RowF w6 g5 done.length (wayG uw us (secW done) done.length) := hrf.ext (fun i _ => wayG_of hord i)
          have hg56 : gq ≠ g5 := by omega
          have HW6 := Lib.hid (HWZ.out.trans (hb6.mono HWZ.out.size))
          have hs6 : w.heap.size ≤ w6.heap.size := HW6.out.size
          have hinit : ∀ i, i < done.length → ∀ j, j < 5 → (pcells un slot done)[i * 5 + j]? = (pcellW un slot (pget done i) (if i < 0 then wayG uw us (secW done) done.length i else 0))[j]? := fun i hi j hj => by
            rw [if_neg (by omega)]
            exact flat5 (fun q => rfl) done i j hi hj
          have HINI := Lib.hid hinit
          have HP6 := Lib.hid ho6
          have HRW := Lib.hid hrw
          obtain ⟨wy, hwy⟩ : ∃ wy, wayG uw us (secW done) done.length = wy := ⟨_, rfl⟩
          rw [hwy] at HINI HRW
          have HWY := Lib.hid hwy
          clear hwy ho6 hrw hord hrf hg6 hb6 HOZ HWZ HFI HBB DP hinit O4
          go_wp2_with fail
          go_loopw [90] (fun iv wr2 => ∃ (k : Nat), iv = .int .i64 k ∧ k ≤ done.length ∧ Hid (∃ xs, wr2.ownsRow B0 54 5 (.slice (some ⟨gq, 0, none⟩) done.length cap) done.length xs ∧ ∀ i, i < done.length → ∀ j, j < 5 → xs[i * 5 + j]? = (pcellW un slot (pget done i) (if i < k then wy i else 0))[j]?) ∧ Hid (∃ Z : ExtO (fun b => b = gq) w6, wr2 = Z.1)) (fun iv _ => done.length - (intOf iv).toNat)
          case atStart => exact ⟨0, rfl, by omega, Lib.hid ⟨_, HP6.out, HINI.out⟩, Lib.hid ⟨⟨w6, Kept.refl _ _⟩, rfl⟩⟩
          case round =>
            obtain ⟨k, rfl, hk, HS, HZE⟩ := hrel
            obtain ⟨Z6, rfl⟩ := HZE.out
            obtain ⟨xs, hx1, hx2⟩ := HS.out
            have HX1 := Lib.hid hx1
            have HX2 := Lib.hid hx2
            clear hx1 hx2 HS HZE
            by_cases hlt : k < done.length
            · have t1 : decide ((k : Int) < (done.length : Int)) = true := by rw [decide_eq_true_eq]; omega
              have t1' : decide (k < done.length) = true := by simpa using hlt
              have e5 : Z6.1.cell? ⟨g5, k, none⟩ = some (.int .i64 (wy k)) := Z6.2.cell (by show ¬ g5 = gq; omega) (HRW.out.cell hlt)
              have e6 : Z6.1.cell? ⟨gq, k * 5 + 4, none⟩ = some (.int .i64 0) := by
                have h6 := HX1.out.cells (g := gq) rfl (k * 5 + 4) (.int .i64 0) (by rw [HX2.out k hlt 4 (by omega), if_neg (by omega)]; rfl)
                rwa [addr_add0] at h6
              have f6 : Z6.1.frozen? ⟨gq, k * 5 + 4, none⟩ = false := World.ownsRow.frozenAt HX1.out (k * 5 + 4)
              obtain ⟨hs1, hs2⟩ := HX1.out.stored (k * 5 + 4) (.int .i64 (wy k))
              have HS2 := Lib.hid hs1
              have HZ7 : Hid (∃ Y : ExtO (fun b => b = gq) w6, Z6.1.setCell ⟨gq, k * 5 + 4, none⟩ (.int .i64 (wy k)) = Y.1) := Lib.hid ⟨⟨_, Z6.2.grown hs2 (fun q hq _ => by injection hq with hq; exact hq.symm)⟩, rfl⟩
              clear hs1 hs2
              go_wp2_with fail
              go_roundw
              case rel =>
                refine ⟨k + 1, by go_num, by omega, Lib.hid ⟨_, HS2.out, fun i hi j hj => ?_⟩, HZ7⟩
                have hlx : xs.length = done.length * 5 := HX1.out.1
                rw [List.getElem?_set]
                by_cases e : k * 5 + 4 = i * 5 + j
                · obtain rfl : i = k := by omega
                  obtain rfl : j = 4 := by omega
                  rw [if_pos rfl, if_pos (by omega), if_pos (by omega)]
                  rfl
                · rw [if_neg e, HX2.out i hi j hj]
                  by_cases e2 : i = k
                  · subst e2
                    exact pcellW_low _ _ _ _ _ (by omega)
                  · by_cases e3 : i < k
                    · rw [if_pos e3, if_pos (by omega)]
                    · rw [if_neg e3, if_neg (by omega)]
              case measure => simp [intOf]; omega
            · have t1 : decide ((k : Int) < (done.length : Int)) = false := by rw [decide_eq_false_iff_not]; omega
              have t1' : decide (k < done.length) = false := by simpa using hlt
              obtain rfl : k = done.length := by omega
              clear hlt
              go_wp2_with fail
              go_ret
              rw [HPC.out]
              refine ⟨gq, cap, rfl, by omega, ⟨fun _ => ⟨gq, 0, rfl, (HX1.out.lt gq rfl).2, fun i hi j hj => ?_⟩⟩, Kept.below HW6.out Z6.2 hs6 (fun q hq => by omega)⟩
              obtain ⟨u, hu⟩ := pcellW_some un slot (pget done i) (wy i) hj
              have h6 := HX1.out.cells (g := gq) rfl (i * 5 + j) u (by rw [HX2.out i hi j hj, if_pos hi, hu])
              rw [addr_add0] at h6
              rw [Nat.zero_add, HWY.out, hu]
              exact h6
end Go.Proofs.YtbkpoepacjinlaaGreat

/- Gear: pieces and Pieces of the reference. -/
namespace Go.Proofs.YtbkpoepacjinlaaGreat
open Go.RowKit Go.BigFrame
open Gar (chk mountsK)

theorem wpList_append_none {P : Program} (w : World) {ops : Array Oper} {rest : List Oper} {o : Oper} {a : Act} {Q : Exit → Act → World → Prop} (hgd : o.guard = none) (s x : Operand) (t : TypeId)
    (ho : o.op = .call { callee := .builtin .append, args := #[s, x], argTypes := #[t, t] })
    (base : Nat) (e : TypeId) (i : TypeInfo) (size : Nat) (ht : P.underlying t = some (.slice e)) (hi : P.info? e = some i)
    (v : Value) (n : Nat) (xs : List Value) (hs : a.eval s = v) (hown : w.ownsRow base e size v n xs) (hx : a.eval x = .slice none 0 0)
    (h : wpList P ops Q rest (a.put o.dst v) w) : wpList P ops Q (o :: rest) a w := by
  refine wpList_plain hgd fun K hK => ?_
  have hr := run_append_owned_none (P := P) (w := w) base t o.type e i size ht hi v n xs hown
  unfold Oper.wp execOp
  simp only [ho, resolve, invoke, builtin, Sem.run_bind, Sem.run_pure, Result.andThen_ok, List.map_toArray, List.map_cons, List.map_nil, hs, hx, hr]
  exact hK _ _ h
theorem evQ_cells (g : Gar) (i j : Nat) : ∀ n, evCs g (evQ g i j n) = (List.range n).flatMap fun q => pcellW (g.un i) (g.sn j) (pget (pcsOf g i j) q) (wayG (g.uw i) (g.us i) (secW (pcsOf g i j)) (pcsOf g i j).length q)
  | 0 => rfl
  | n + 1 => by
    rw [evQ, List.range_succ, List.flatMap_append, ← evQ_cells g i j n]
    unfold evCs
    rw [List.flatMap_append]
    rfl
theorem evCs_len (g : Gar) (l : List Ev) : (evCs g l).length = l.length * 5 := by
  unfold evCs
  induction l with
  | nil => rfl
  | cons e l ih => rw [List.flatMap_cons, List.length_append, ih, List.length_cons, Nat.succ_mul]; show 5 + _ = _; omega
theorem evCs_one (g : Gar) (l : List Ev) : ∀ u ∈ evCs g l, u.oneCell' = true := by
  intro u hu
  unfold evCs at hu
  obtain ⟨e, _, he⟩ := List.mem_flatMap.1 hu
  simp only [evC, List.mem_cons, List.not_mem_nil, or_false] at he
  rcases he with rfl | rfl | rfl | rfl | rfl <;> rfl
theorem evCs_app (g : Gar) (a b : List Ev) : evCs g (a ++ b) = evCs g a ++ evCs g b := List.flatMap_append
theorem use_hyp {g : Gar} (h : chk g = 0) {i : Nat} (hi : i < g.nu) : 0 ≤ g.uf i ∧ g.uf i ≤ 86399999999 ∧ 1 ≤ g.us i ∧ g.us i ≤ 1000000 ∧ 0 ≤ g.uw i ∧ g.uw i ≤ 1000000000 := by
  have := Gar.use_right (Gar.chk_parts h).2.2.2.2.2.2.2.2 hi
  omega
theorem mnt_hyp {g : Gar} (h : chk g = 0) : (∀ k, k < g.nm → 0 ≤ g.mf k ∧ g.mf k ≤ 86399999999) ∧ (∀ k, k < g.nm → g.mt k ≤ 86399999999) := by
  have hm := (Gar.chk_parts h).2.2.2.2.2.2.1
  refine ⟨fun k hk => ?_, fun k hk => ?_⟩
  · have := Gar.mt_cases hm k hk
    omega
  · obtain ⟨_, ⟨_, h2⟩, _⟩ := Gar.chkM_each g.nm 0 hm k (Nat.zero_le _) (by omega)
    simp [Gar.momG] at h2
    omega
set_option maxHeartbeats 4000000 in
set_option maxRecDepth 100000 in
theorem rpiecesU_any (g : Gar) (a0 a1 a2 a3 : Option Addr) (c0 c1 c2 c3 : Nat) (i : Nat) (w : World) (h : GarIn w g a0 a1 a2 a3) (hchk : chk g = 0) (hi : i < g.nu) :
    Calls Tryz.prog 65 #[garV g a0 a1 a2 a3 c0 c1 c2 c3, useAt g i] w fun e w' => ∃ v base, w.heap.size ≤ base ∧ e = .returned v ∧ w'.ownsRow base 54 5 v (evS g i g.ns).length (evCs g (evS g i g.ns)) ∧ ((evS g i g.ns).length = 0 → v = .slice none 0 0) ∧ Below w.heap.size w w' := by
  have HG := Lib.hid h
  have HU := Lib.hid (use_hyp hchk hi)
  have HM := Lib.hid (mnt_hyp hchk)
  have hl1 := h.l1
  have hpt := Gar.chk_parts hchk
  have HORD := Lib.hid (fun j => Gar.ord_mounts hpt.2.2.2.2.2.2.1 hpt.2.2.2.2.2.2.2.1 (g.sn j) g.nm (Nat.le_refl _))
  have HGD := Lib.hid (fun j => pcs_good hchk hi j)
  have HSL := Lib.hid (fun j => evS_len hchk hi j)
  have hns := hpt.2.1
  unfold useAt useV
  obtain ⟨W0, hW0, hb0, hs0, hq0⟩ := allocs w [.cells #[.slice a0 g.np c0, .slice a1 g.ns c1, .slice a2 g.nm c2, .slice a3 g.nu c3] 27, .cells #[.string (g.un i), .string (g.ur i), .int .i64 (g.uf i), .int .i64 (g.us i), .int .i64 (g.uw i)] 62]
  have hs0 : W0.heap.size = w.heap.size + 2 := hs0
  have f0 : W0.cell? ⟨w.heap.size, 0, none⟩ = some (.slice a0 g.np c0) := block_cell (hq0 0 _ rfl) rfl
  have f1 : W0.cell? ⟨w.heap.size, 1, none⟩ = some (.slice a1 g.ns c1) := block_cell (hq0 0 _ rfl) rfl
  have f2 : W0.cell? ⟨w.heap.size, 2, none⟩ = some (.slice a2 g.nm c2) := block_cell (hq0 0 _ rfl) rfl
  have f3 : W0.cell? ⟨w.heap.size, 3, none⟩ = some (.slice a3 g.nu c3) := block_cell (hq0 0 _ rfl) rfl
  have v0 : W0.cell? ⟨w.heap.size + 1, 0, none⟩ = some (.string (g.un i)) := block_cell (hq0 1 _ rfl) rfl
  have v1 : W0.cell? ⟨w.heap.size + 1, 1, none⟩ = some (.string (g.ur i)) := block_cell (hq0 1 _ rfl) rfl
  have v2 : W0.cell? ⟨w.heap.size + 1, 2, none⟩ = some (.int .i64 (g.uf i)) := block_cell (hq0 1 _ rfl) rfl
  have v3 : W0.cell? ⟨w.heap.size + 1, 3, none⟩ = some (.int .i64 (g.us i)) := block_cell (hq0 1 _ rfl) rfl
  have v4 : W0.cell? ⟨w.heap.size + 1, 4, none⟩ = some (.int .i64 (g.uw i)) := block_cell (hq0 1 _ rfl) rfl
  have HW0 := Lib.hid (show (w.alloc (.cells #[.slice a0 g.np c0, .slice a1 g.ns c1, .slice a2 g.nm c2, .slice a3 g.nu c3] 27)).alloc (.cells #[.string (g.un i), .string (g.ur i), .int .i64 (g.uf i), .int .i64 (g.us i), .int .i64 (g.uw i)] 62) = W0 from hW0)
  have HB := Lib.hid hb0
  obtain ⟨B0, hB0⟩ : ∃ B, W0.heap.size = B := ⟨_, rfl⟩
  have hbs : w.heap.size ≤ B0 := by omega
  have hws : w.heap.size ≤ W0.heap.size := by omega
  have HBE := Lib.hid hB0
  have DP := Lib.hid (fun (j : Nat) (W : World) (hW : Below w.heap.size w W) => rpiecesOf_any g a0 a1 a2 a3 c0 c1 c2 c3 (g.un i) (g.ur i) (g.uf i) (g.us i) (g.uw i) (g.sn j) W (HG.out.below hW) HU.out.1 HU.out.2.1 HU.out.2.2.1 HU.out.2.2.2.1 HU.out.2.2.2.2.1 HU.out.2.2.2.2.2 HM.out.1 HM.out.2 (HORD.out j))
  unfold garV useV at DP
  unfold garV
  obtain ⟨i0, hi0, hz0, hz1, hz2⟩ := info_parts (show (Tryz.prog.info? 54).map (fun i => (i.zero, i.size, i.bytes)) = some (some (.agg #[.string ⟨#[]⟩, .string ⟨#[]⟩, .string ⟨#[]⟩, .int .i64 0, .int .i64 0]), 5, 64) by kernel_rfl)
  have HI0 := Lib.hid hi0
  have HZ0 := Lib.hid hz0
  have HZ1 := Lib.hid hz1
  have HZ2 := Lib.hid hz2
  have HUT := Lib.hid (show Tryz.prog.underlying 48 = some (.slice 54) by kernel_rfl)
  have nnil : ∀ b : Nat, ¬ (Value.slice none 0 0).ownBlock = some b := fun b => by simp [Value.ownBlock]
  have HST : Hid (OwnR W0 W0 B0 54 5 (.slice none 0 0) (.slice none 0 0) (evS g i 0).length (evCs g (evS g i 0))) := Lib.hid (OwnR.start (World.ownsRow_nil _ _ _ _))
  clear h hW0 hb0 hq0 hi0 hz0 hz1 hz2 hB0 hpt hchk
  go_enter Tryz.func65, Tryz.ntmps65
  go_upto_region 1 with (fail)
  rw [HW0.out]
  go_wp2_with fail
  go_loopw [5, 11] (fun lv iv wr => ∃ (j : Nat), iv = .int .i64 j ∧ j ≤ g.ns ∧ Hid (OwnR W0 wr B0 54 5 (.slice none 0 0) lv (evS g i j).length (evCs g (evS g i j))) ∧ Hid ((evS g i j).length = 0 → lv = .slice none 0 0)) (fun _ iv _ => g.ns - (intOf iv).toNat)
  case atStart => exact ⟨0, rfl, by omega, HST, Lib.hid (fun _ => rfl)⟩
  case round =>
    obtain ⟨j, rfl, hj, HR, HN⟩ := hrel
    have HDN := Lib.hid (HR.out.down HB.out hws hbs (World.ownsRow_nil _ _ _ _))
    have g0 := HR.out.cell (nnil _) f0
    have g1 := HR.out.cell (nnil _) f1
    have g2 := HR.out.cell (nnil _) f2
    have g3 := HR.out.cell (nnil _) f3
    have u0 := HR.out.cell (nnil _) v0
    have u1 := HR.out.cell (nnil _) v1
    have u2 := HR.out.cell (nnil _) v2
    have u3 := HR.out.cell (nnil _) v3
    have u4 := HR.out.cell (nnil _) v4
    by_cases hlt : j < g.ns
    · have t1 : decide ((j : Int) < (g.ns : Int)) = true := by rw [decide_eq_true_eq]; omega
      obtain ⟨b, off, rfl, hbl, hcc⟩ := (HG.out.r1.below HDN.out (Nat.le_refl _)).here (by omega)
      have e0 : wr.cell? ⟨b, off + j * 2, none⟩ = some (.string (g.sn j)) := hcc j hlt 0 (by omega)
      have e1 : wr.cell? ⟨b, off + j * 2 + 1, none⟩ = some (.string (g.sr j)) := hcc j hlt 1 (by omega)
      obtain ⟨V1, hV1, hvb, hvs, hvl⟩ := alloc_cells wr #[.string (g.sn j), .string (g.sr j)] 59
      have s0 := hvl 0 _ rfl
      have s1 := hvl 1 _ rfl
      have g0 := below_cell hvb g0
      have g1 := below_cell hvb g1
      have g2 := below_cell hvb g2
      have g3 := below_cell hvb g3
      have u0 := below_cell hvb u0
      have u1 := below_cell hvb u1
      have u2 := below_cell hvb u2
      have u3 := below_cell hvb u3
      have u4 := below_cell hvb u4
      have HVB := Lib.hid hvb
      have HV1 := Lib.hid hV1
      have hdz := HDN.out.size
      have HBV := Lib.hid (HDN.out.trans (hvb.mono hdz))
      have DP1 := Lib.hid (DP.out j V1 HBV.out)
      rw [show Pcs.pieces (g.uf i) (g.uf i + g.us i) (g.mounts (g.sn j)) = pcsOf g i j from rfl] at DP1
      have hse := str_eq (g.sr j) (g.ur i)
      clear hcc hV1 hvb hvl
      by_cases hrig : g.sr j = g.ur i
      · have HES : Hid (evS g i (j + 1) = evS g i j ++ evQ g i j (pcsOf g i j).length) := Lib.hid (by rw [evS, if_pos hrig])
        rw [show decide (g.sr j = g.ur i) = true by simpa using hrig] at hse
        clear hrig
        go_upto_region 5 with (fail)
        rw [HV1.out]
        go_wp2_with fail
        refine DP1.out.mono ?_
        rintro e w2 ⟨gq, cap, rfl, hgq, hrow, hb2⟩
        have hrow : RowK w2 (some ⟨gq, 0, none⟩) (pcsOf g i j).length 5 (fun q => pcellW (g.un i) (g.sn j) (pget (pcsOf g i j) q) (wayG (g.uw i) (g.us i) (secW (pcsOf g i j)) (pcsOf g i j).length q)) := hrow
        have hn0 := (HGD.out j).ne HU.out.2.2.1
        have hn1 := (HGD.out j).len
        have hus := HU.out.2.2.2.1
        have hsl := HSL.out j
        have hjm : j * 1000000 ≤ 100 * 1000000 := Nat.mul_le_mul_right _ (by omega)
        have hnews : ∀ jj u, (evCs g (evQ g i j (pcsOf g i j).length))[jj]? = some u → w2.cell? ((⟨gq, 0, none⟩ : Addr).add jj) = some u := by
          intro jj u hu
          rw [evQ_cells] at hu
          obtain ⟨b', off', e1, _, e2⟩ := hrow.here hn0
          injection e1 with e1
          injection e1 with e1 e3
          subst e1
          subst e3
          have := row_cells (f := fun q => pcellW (g.un i) (g.sn j) (pget (pcsOf g i j) q) (wayG (g.uw i) (g.us i) (secW (pcsOf g i j)) (pcsOf g i j).length q)) (fun _ => rfl) (by omega) e2 jj u hu
          rw [addr_add0]
          rwa [Nat.zero_add] at this
        have HNEWS := Lib.hid hnews
        have hb12 := HVB.out.trans (hb2.mono HVB.out.size)
        have HB12 := Lib.hid hb12
        have HO2 := Lib.hid (ownsRow_below HR.out.own hb12)
        have hsb : B0 ≤ w2.heap.size := by have h1 := HR.out.kept.size; have h2 := hb12.size; have h3 := HBE.out; omega
        have hql := evQ_len g i j (pcsOf g i j).length
        have HQL := Lib.hid hql
        obtain ⟨m, hm⟩ : ∃ m, (pcsOf g i j).length = m := ⟨_, rfl⟩
        rw [hm] at hn0 hn1 HNEWS HES HQL ⊢
        obtain ⟨nl, hnl⟩ : ∃ nl, (evS g i j).length = nl := ⟨_, rfl⟩
        have hr3 := HR.out
        rw [hnl] at HO2 hsl hr3
        have HR3 := Lib.hid hr3
        have HNL := Lib.hid hnl
        have hm1 : m ≤ 1000000 := by omega
        have hnl1 : nl ≤ 100000000 := by omega
        clear hrow hnews hb2 hb12 hm hnl hr3 hql g0 g1 g2 g3 u0 u1 u2 u3 u4 s0 s1
        go_wp2_with (at_builtin; refine wpList_append_where _ rfl (.tmp 20) (.tmp 25) 48 rfl B0 54 i0 (.agg #[.string ⟨#[]⟩, .string ⟨#[]⟩, .string ⟨#[]⟩, .int .i64 0, .int .i64 0]) 5 64 HUT.out HI0.out HZ0.out HZ1.out HZ2.out rfl (by decide) _ _ _ rfl HO2.out ⟨gq, 0, none⟩ m cap (evCs g (evQ g i j m)) rfl hn0 ?c0 ?c1 ?c2 ?c3 ?c4 ?c5 ?_)
        case c0 => rw [evCs_len, HQL.out]
        case c1 => exact HNEWS.out
        case c2 => exact evCs_one g _
        case c3 => unfold maxLen; omega
        case c4 => omega
        case c5 => exact hsb
        intro v5 w5 hown5 hg5 hwh5
        have HN5 := Lib.hid (HR3.out.append HB12.out hown5 hg5 hwh5)
        clear hown5 hg5 hwh5
        go_wp2_with fail
        go_roundw
        case rel => exact ⟨j + 1, by go_num, by omega, Lib.hid (by rw [HES.out, List.length_append, HNL.out, HQL.out, evCs_app]; exact HN5.out), Lib.hid (by rw [HES.out, List.length_append, HQL.out]; intro h; omega)⟩
        case measure => simp [intOf]; omega
      · have HES : Hid (evS g i (j + 1) = evS g i j) := Lib.hid (by rw [evS, if_neg hrig, List.append_nil])
        rw [show decide (g.sr j = g.ur i) = false by simpa using hrig] at hse
        clear hrig
        go_upto_region 5 with (fail)
        rw [HV1.out]
        go_wp2_with fail
        go_roundw
        case rel => exact ⟨j + 1, by go_num, by omega, Lib.hid (by rw [HES.out]; exact HR.out.below HVB.out), Lib.hid (by rw [HES.out]; exact HN.out)⟩
        case measure => simp [intOf]; omega
    · have t1 : decide ((j : Int) < (g.ns : Int)) = false := by rw [decide_eq_false_iff_not]; omega
      have t1' : decide (j < g.ns) = false := by simpa using hlt
      obtain rfl : j = g.ns := by omega
      clear hlt
      go_wp2_with fail
      go_ret
      exact ⟨_, B0, hbs, rfl, HR.out.own, HN.out, HDN.out⟩
end Go.Proofs.YtbkpoepacjinlaaGreat

/- Gear: Pieces of the reference. -/
namespace Go.Proofs.YtbkpoepacjinlaaGreat
open Go.RowKit Go.BigFrame
open Gar (chk mountsK)

end Go.Proofs.YtbkpoepacjinlaaGreat

/- Gear: how much a part was used (reference): plain, and its walk. -/
namespace Go.Proofs.YtbkpoepacjinlaaGreat
open Go.RowKit Go.BigFrame
open Gar (chk mountsK)

/-- seconds, way, was it used? -/
def stepU (part : ByteArray) (st : Int × Int × Int) (e : Ev) : Int × Int × Int := if e.p = part then (st.1 + e.sec, st.2.1 + e.way, 1) else st
def foldU (part : ByteArray) (a b : Int) (l : List Ev) : Int × Int × Int := l.foldl (stepU part) (a, b, 0)
def rwF (g : Gar) (part : ByteArray) (f t : Int) : Nat → Int × Int × Int
  | 0 => (0, 0, 0)
  | i + 1 => if g.uf i < f ∨ t ≤ g.uf i then rwF g part f t i else
    ((foldU part (rwF g part f t i).1 (rwF g part f t i).2.1 (evS g i g.ns)).1, (foldU part (rwF g part f t i).1 (rwF g part f t i).2.1 (evS g i g.ns)).2.1, (rwF g part f t i).2.2 + (foldU part (rwF g part f t i).1 (rwF g part f t i).2.1 (evS g i g.ns)).2.2)
theorem wearE_out (g : Gar) (part : ByteArray) (f t : Int) (i : Nat) (h : g.uf i < f ∨ t ≤ g.uf i) : ∀ (l : List Ev) (st : WSt), (∀ e, e ∈ l → e.i = i) → l.foldl (wearE g part f t) st = st
  | [], _, _ => rfl
  | e :: l, st, hl => by
    have he := hl e (by simp)
    rw [List.foldl_cons, show wearE g part f t st e = st by unfold wearE; rw [if_neg (by rw [he]; omega)], wearE_out g part f t i h l st fun x hx => hl x (by simp [hx])]
/-- within one use: the uses grow by one at most -/
theorem wearE_in (g : Gar) (part : ByteArray) (f t : Int) (i : Nat) (h : ¬ (g.uf i < f ∨ t ≤ g.uf i)) (u0 : Int) (l0 : ByteArray) (hl0 : l0 ≠ g.un i) : ∀ (l : List Ev) (st : WSt) (is : Int), (∀ e, e ∈ l → e.i = i) → (is = 0 ∧ st.last = l0 ∧ st.uses = u0 ∨ is = 1 ∧ st.last = g.un i ∧ st.uses = u0 + 1) →
    (l.foldl (wearE g part f t) st).sec = (l.foldl (stepU part) (st.sec, st.way, is)).1 ∧ (l.foldl (wearE g part f t) st).way = (l.foldl (stepU part) (st.sec, st.way, is)).2.1 ∧
    ((l.foldl (stepU part) (st.sec, st.way, is)).2.2 = 0 ∧ (l.foldl (wearE g part f t) st).last = l0 ∧ (l.foldl (wearE g part f t) st).uses = u0 ∨ (l.foldl (stepU part) (st.sec, st.way, is)).2.2 = 1 ∧ (l.foldl (wearE g part f t) st).last = g.un i ∧ (l.foldl (wearE g part f t) st).uses = u0 + 1)
  | [], st, is, _, hs => ⟨rfl, rfl, hs⟩
  | e :: l, st, is, hl, hs => by
    have he := hl e (by simp)
    rw [List.foldl_cons, List.foldl_cons]
    by_cases c : e.p = part
    · have e1 : wearE g part f t st e = ⟨st.sec + e.sec, st.way + e.way, if g.un i = st.last then st.uses else st.uses + 1, g.un i⟩ := by
        unfold wearE
        rw [if_pos ⟨c, by rw [he]; omega, by rw [he]; omega⟩, he]
      have e2 : stepU part (st.sec, st.way, is) e = (st.sec + e.sec, st.way + e.way, 1) := by unfold stepU; rw [if_pos c]
      rw [e1, e2]
      refine wearE_in g part f t i h u0 l0 hl0 l _ 1 (fun x hx => hl x (by simp [hx])) (Or.inr ⟨rfl, rfl, ?_⟩)
      show (if g.un i = st.last then st.uses else st.uses + 1) = u0 + 1
      rcases hs with ⟨_, h2, h3⟩ | ⟨_, h2, h3⟩
      · rw [if_neg (by rw [h2]; exact fun e => hl0 e.symm), h3]
      · rw [if_pos h2.symm, h3]
    · have e1 : wearE g part f t st e = st := by unfold wearE; rw [if_neg (fun h => c h.1)]
      have e2 : stepU part (st.sec, st.way, is) e = (st.sec, st.way, is) := by unfold stepU; rw [if_neg c]
      rw [e1, e2]
      exact wearE_in g part f t i h u0 l0 hl0 l st is (fun x hx => hl x (by simp [hx])) hs
theorem name_ne {s : ByteArray} (h : nameB s = true) : (⟨#[]⟩ : ByteArray) ≠ s := fun e => by
  subst e
  revert h
  decide
theorem use_name {g : Gar} (h : chk g = 0) {i : Nat} (hi : i < g.nu) : nameB (g.un i) = true := (Gar.use_right (Gar.chk_parts h).2.2.2.2.2.2.2.2 hi).1.1
theorem rwF_eq {g : Gar} (h : chk g = 0) (part : ByteArray) (f t : Int) : ∀ n, n ≤ g.nu →
    (wearL g part f t (evG g n)).sec = (rwF g part f t n).1 ∧ (wearL g part f t (evG g n)).way = (rwF g part f t n).2.1 ∧ (wearL g part f t (evG g n)).uses = (rwF g part f t n).2.2 ∧ ((wearL g part f t (evG g n)).last = ⟨#[]⟩ ∨ ∃ k, k < n ∧ (wearL g part f t (evG g n)).last = g.un k)
  | 0, _ => ⟨rfl, rfl, rfl, Or.inl rfl⟩
  | n + 1, hn => by
    obtain ⟨h1, h2, h3, h4⟩ := rwF_eq h part f t n (by omega)
    have hall := (evS_all h (show n < g.nu by omega) g.ns).1
    have hin : ∀ e, e ∈ evS g n g.ns → e.i = n := fun e he => (hall e he).2.2
    have hfold : wearL g part f t (evG g (n + 1)) = (evS g n g.ns).foldl (wearE g part f t) (wearL g part f t (evG g n)) := by
      unfold wearL
      rw [evG, List.foldl_append]
    rw [hfold, rwF]
    by_cases c : g.uf n < f ∨ t ≤ g.uf n
    · rw [if_pos c, wearE_out g part f t n c _ _ hin]
      exact ⟨h1, h2, h3, h4.elim Or.inl fun ⟨k, hk, e⟩ => Or.inr ⟨k, by omega, e⟩⟩
    · rw [if_neg c]
      have hne : (wearL g part f t (evG g n)).last ≠ g.un n := by
        rcases h4 with e | ⟨k, hk, e⟩
        · rw [e]; exact name_ne (use_name h (by omega))
        · rw [e]
          intro e2
          have := use_inj h (show k < g.nu by omega) (by omega) e2
          omega
      have hx := wearE_in g part f t n c (wearL g part f t (evG g n)).uses _ hne (evS g n g.ns) (wearL g part f t (evG g n)) 0 hin (Or.inl ⟨rfl, rfl, rfl⟩)
      rw [h1, h2] at hx
      obtain ⟨x1, x2, x3⟩ := hx
      refine ⟨x1, x2, ?_, ?_⟩
      · show _ = (rwF g part f t n).2.2 + _
        rcases x3 with ⟨y1, _, y3⟩ | ⟨y1, _, y3⟩
        · rw [y3, h3]
          show _ = _ + (List.foldl (stepU part) _ _).2.2
          rw [y1]
          omega
        · rw [y3, h3]
          show _ = _ + (List.foldl (stepU part) _ _).2.2
          rw [y1]
      · rcases x3 with ⟨_, y2, _⟩ | ⟨_, y2, _⟩
        · rw [y2]
          exact h4.elim Or.inl fun ⟨k, hk, e⟩ => Or.inr ⟨k, by omega, e⟩
        · rw [y2]
          exact Or.inr ⟨n, by omega, rfl⟩
end Go.Proofs.YtbkpoepacjinlaaGreat

/- Gear: wear of the reference: its walk. -/
namespace Go.Proofs.YtbkpoepacjinlaaGreat
open Go.RowKit Go.BigFrame
open Gar (chk mountsK)

theorem sums_take (l : List Ev) (q : Nat) (h : ∀ e, e ∈ l → 0 ≤ e.way ∧ 0 ≤ e.sec) : secSum (l.take q) ≤ secSum l ∧ waySum (l.take q) ≤ waySum l := by
  have e1 : secSum l = secSum (l.take q) + secSum (l.drop q) := by rw [← secSum_app, List.take_append_drop]
  have e2 : waySum l = waySum (l.take q) + waySum (l.drop q) := by rw [← waySum_app, List.take_append_drop]
  have hb := wearE_bound ⟨0, 0, 0, 0, fun _ => ⟨#[]⟩, fun _ => 0, fun _ => ⟨#[]⟩, fun _ => ⟨#[]⟩, fun _ => ⟨#[]⟩, fun _ => ⟨#[]⟩, fun _ => 0, fun _ => 0, fun _ => ⟨#[]⟩, fun _ => ⟨#[]⟩, fun _ => 0, fun _ => 0, fun _ => 0⟩ ⟨#[]⟩ 0 0 (l.drop q) wear0 (fun e hx => h e (List.mem_of_mem_drop hx))
  have z1 : wear0.sec = 0 := rfl
  have z2 : wear0.way = 0 := rfl
  omega
def stU (part : ByteArray) (a b : Int) (l : List Ev) (q : Nat) : Int × Int × Int := (l.take q).foldl (stepU part) (a, b, 0)
theorem stU_succ (part : ByteArray) (a b : Int) (l : List Ev) {q : Nat} (h : q < l.length) : stU part a b l (q + 1) = stepU part (stU part a b l q) (l.getD q ev0) := by
  unfold stU
  rw [List.take_succ_eq_append_getElem h, List.foldl_append, List.getD_eq_getElem?_getD, List.getElem?_eq_getElem h]
  rfl
theorem stepU_bound (part : ByteArray) : ∀ (l : List Ev) (a b c : Int), (∀ e, e ∈ l → 0 ≤ e.way ∧ 0 ≤ e.sec) → (c = 0 ∨ c = 1) →
    a ≤ (l.foldl (stepU part) (a, b, c)).1 ∧ (l.foldl (stepU part) (a, b, c)).1 ≤ a + secSum l ∧ b ≤ (l.foldl (stepU part) (a, b, c)).2.1 ∧ (l.foldl (stepU part) (a, b, c)).2.1 ≤ b + waySum l ∧ ((l.foldl (stepU part) (a, b, c)).2.2 = 0 ∨ (l.foldl (stepU part) (a, b, c)).2.2 = 1)
  | [], a, b, c, _, hc => by simp [secSum, waySum, hc]
  | e :: l, a, b, c, h, hc => by
    have he := h e (by simp)
    have h1 : secSum (e :: l) = e.sec + secSum l := by simp [secSum]
    have h2 : waySum (e :: l) = e.way + waySum l := by simp [waySum]
    rw [List.foldl_cons]
    by_cases k : e.p = part
    · rw [show stepU part (a, b, c) e = (a + e.sec, b + e.way, 1) by unfold stepU; rw [if_pos k]]
      have ih := stepU_bound part l (a + e.sec) (b + e.way) 1 (fun x hx => h x (by simp [hx])) (Or.inr rfl)
      omega
    · rw [show stepU part (a, b, c) e = (a, b, c) by unfold stepU; rw [if_neg k]]
      have ih := stepU_bound part l a b c (fun x hx => h x (by simp [hx])) hc
      omega
set_option maxHeartbeats 8000000 in
set_option maxRecDepth 100000 in
theorem rwear_any (g : Gar) (a0 a1 a2 a3 : Option Addr) (c0 c1 c2 c3 : Nat) (part : ByteArray) (f t : Int) (w : World) (h : GarIn w g a0 a1 a2 a3) (hchk : chk g = 0) :
    Calls Tryz.prog 44 #[garV g a0 a1 a2 a3 c0 c1 c2 c3, .string part, .int .i64 f, .int .i64 t] w fun e w' => e = .returned (wearR (wearL g part f t (evG g g.nu))) ∧ Below w.heap.size w w' := by
  have HG := Lib.hid h
  have hl3 := h.l3
  obtain ⟨W0, hW0, hb0, hs0, hq0⟩ := allocs w [.cells #[.slice a0 g.np c0, .slice a1 g.ns c1, .slice a2 g.nm c2, .slice a3 g.nu c3] 27, .cells #[.int .i64 0, .int .i64 0, .int .i64 0] 83, .cells #[.int .i64 0, .int .i64 0, .int .i64 0] 83]
  have hs0 : W0.heap.size = w.heap.size + 3 := hs0
  have f0 : W0.cell? ⟨w.heap.size, 0, none⟩ = some (.slice a0 g.np c0) := block_cell (hq0 0 _ rfl) rfl
  have f1 : W0.cell? ⟨w.heap.size, 1, none⟩ = some (.slice a1 g.ns c1) := block_cell (hq0 0 _ rfl) rfl
  have f2 : W0.cell? ⟨w.heap.size, 2, none⟩ = some (.slice a2 g.nm c2) := block_cell (hq0 0 _ rfl) rfl
  have f3 : W0.cell? ⟨w.heap.size, 3, none⟩ = some (.slice a3 g.nu c3) := block_cell (hq0 0 _ rfl) rfl
  have HR8 := Lib.hid (hq0 1 _ rfl)
  have HR9 : Hid (W0.heap[w.heap.size + 2]? = some (.cells #[.int .i64 (rwF g part f t 0).1, .int .i64 (rwF g part f t 0).2.1, .int .i64 (rwF g part f t 0).2.2] 83 (0, 0))) := Lib.hid (hq0 2 _ rfl)
  have HW0 := Lib.hid (show ((w.alloc (.cells #[.slice a0 g.np c0, .slice a1 g.ns c1, .slice a2 g.nm c2, .slice a3 g.nu c3] 27)).alloc (.cells #[.int .i64 0, .int .i64 0, .int .i64 0] 83)).alloc (.cells #[.int .i64 0, .int .i64 0, .int .i64 0] 83) = W0 from hW0)
  have HB := Lib.hid hb0
  have hws : w.heap.size ≤ W0.heap.size := by omega
  have DU := Lib.hid (fun (i : Nat) (hi : i < g.nu) (W : World) (hW : Below w.heap.size w W) => rpiecesU_any g a0 a1 a2 a3 c0 c1 c2 c3 i W (HG.out.below hW) hchk hi)
  have HRW := Lib.hid (rwF_eq hchk part f t)
  have HWS := Lib.hid (fun i (hi : i ≤ g.nu) => (evG_pre g i g.nu hi).elim fun r hr => wear_small hchk part f t hr)
  have HEA := Lib.hid (fun i (hi : i < g.nu) => evS_all hchk hi g.ns)
  have HSL := Lib.hid (fun i (hi : i < g.nu) => evS_len hchk hi g.ns)
  have hns := (Gar.chk_parts hchk).2.1
  unfold useAt useV at DU
  unfold garV at DU ⊢
  clear h hW0 hb0 hq0 hchk
  go_enter Tryz.func44, Tryz.ntmps44
  go_upto_region 2 with (fail)
  rw [HW0.out]
  go_wp2_with fail
  go_loopw [19] (fun iv wr => ∃ (i : Nat), iv = .int .i64 i ∧ i ≤ g.nu ∧ Hid (Kept (fun b => b = w.heap.size + 2) W0 wr) ∧ Hid (wr.heap[w.heap.size + 2]? = some (.cells #[.int .i64 (rwF g part f t i).1, .int .i64 (rwF g part f t i).2.1, .int .i64 (rwF g part f t i).2.2] 83 (0, 0)))) (fun iv _ => g.nu - (intOf iv).toNat)
  case atStart => exact ⟨0, rfl, by omega, Lib.hid (Kept.refl _ _), HR9⟩
  case round =>
    obtain ⟨i, rfl, hi, HK, HC⟩ := hrel
    have HDN := Lib.hid (Kept.below HB.out HK.out hws (fun k hk => by show ¬ k = w.heap.size + 2; omega))
    have hk1 := HK.out.size
    have g0 := HK.out.cell (by show ¬ w.heap.size = w.heap.size + 2; omega) f0
    have g1 := HK.out.cell (by show ¬ w.heap.size = w.heap.size + 2; omega) f1
    have g2 := HK.out.cell (by show ¬ w.heap.size = w.heap.size + 2; omega) f2
    have g3 := HK.out.cell (by show ¬ w.heap.size = w.heap.size + 2; omega) f3
    by_cases hlt : i < g.nu
    · have t1 : decide ((i : Int) < (g.nu : Int)) = true := by rw [decide_eq_true_eq]; omega
      obtain ⟨b, off, rfl, hbl, hcc⟩ := (HG.out.r3.below HDN.out (Nat.le_refl _)).here (by omega)
      have e0 : wr.cell? ⟨b, off + i * 5, none⟩ = some (.string (g.un i)) := hcc i hlt 0 (by omega)
      have e1 : wr.cell? ⟨b, off + i * 5 + 1, none⟩ = some (.string (g.ur i)) := hcc i hlt 1 (by omega)
      have e2 : wr.cell? ⟨b, off + i * 5 + 2, none⟩ = some (.int .i64 (g.uf i)) := hcc i hlt 2 (by omega)
      have e3 : wr.cell? ⟨b, off + i * 5 + 3, none⟩ = some (.int .i64 (g.us i)) := hcc i hlt 3 (by omega)
      have e4 : wr.cell? ⟨b, off + i * 5 + 4, none⟩ = some (.int .i64 (g.uw i)) := hcc i hlt 4 (by omega)
      obtain ⟨V1, hV1, hvb, hvs, hvl⟩ := alloc_cells wr #[.string (g.un i), .string (g.ur i), .int .i64 (g.uf i), .int .i64 (g.us i), .int .i64 (g.uw i)] 62
      have u0 := hvl 0 _ rfl
      have u1 := hvl 1 _ rfl
      have u2 := hvl 2 _ rfl
      have u3 := hvl 3 _ rfl
      have u4 := hvl 4 _ rfl
      have g0 := below_cell hvb g0
      have g1 := below_cell hvb g1
      have g2 := below_cell hvb g2
      have g3 := below_cell hvb g3
      have HVB := Lib.hid hvb
      have HV1 := Lib.hid hV1
      have HBV := Lib.hid (HDN.out.trans (hvb.mono HDN.out.size))
      have DU1 := Lib.hid (DU.out i hlt V1 HBV.out)
      have HS : Hid (rwF g part f t (i + 1) = if g.uf i < f ∨ t ≤ g.uf i then rwF g part f t i else
        ((foldU part (rwF g part f t i).1 (rwF g part f t i).2.1 (evS g i g.ns)).1, (foldU part (rwF g part f t i).1 (rwF g part f t i).2.1 (evS g i g.ns)).2.1, (rwF g part f t i).2.2 + (foldU part (rwF g part f t i).1 (rwF g part f t i).2.1 (evS g i g.ns)).2.2)) := Lib.hid rfl
      have hws2 := HWS.out i hi
      obtain ⟨x1, x2, x3, _⟩ := HRW.out i hi
      rw [x1, x2, x3] at hws2
      have hC := HC.out
      generalize rwF g part f t i = st at HS hws2 hC
      obtain ⟨sa, sb, sc⟩ := st
      have hws3 : 0 ≤ sa ∧ sa ≤ 500000000000 ∧ 0 ≤ sb ∧ sb ≤ 500000000000000 ∧ 0 ≤ sc ∧ sc ≤ 500000000000 := hws2
      have HCV := Lib.hid (below_block hvb hC)
      have hvk : Kept (fun b => b = w.heap.size + 2) W0 V1 := HK.out.trans (Kept.of_below hvb)
      have HVK := Lib.hid hvk
      clear hcc hV1 hvb hvl x1 x2 x3 hws2 hC hvk HC
      by_cases hskip : g.uf i < f ∨ t ≤ g.uf i
      · rw [if_pos hskip] at HS
        by_cases k1 : g.uf i < f
        · have d1 : decide (g.uf i < f) = true := by simpa using k1
          go_upto_region 5 with (fail)
          rw [HV1.out]
          go_wp2_with fail
          go_roundw
          case rel => exact ⟨i + 1, by go_num, by omega, HVK, Lib.hid (by rw [HS.out]; exact HCV.out)⟩
          case measure => simp [intOf]; omega
        · have d1 : decide (g.uf i < f) = false := by simpa using k1
          have d2 : decide (t ≤ g.uf i) = true := by rw [decide_eq_true_eq]; omega
          go_upto_region 5 with (fail)
          rw [HV1.out]
          go_wp2_with fail
          go_roundw
          case rel => exact ⟨i + 1, by go_num, by omega, HVK, Lib.hid (by rw [HS.out]; exact HCV.out)⟩
          case measure => simp [intOf]; omega
      · rw [if_neg hskip] at HS
        have d1 : decide (g.uf i < f) = false := by rw [decide_eq_false_iff_not]; omega
        have d2 : decide (t ≤ g.uf i) = false := by rw [decide_eq_false_iff_not]; omega
        clear hskip
        go_upto_region 5 with (fail)
        rw [HV1.out]
        go_wp2_with fail
        refine DU1.out.mono ?_
        rintro e w2 ⟨v, base, hbase, rfl, hown, _, hb2⟩
        obtain ⟨am, cm, hv, hrow⟩ := evRow hown
        have hnr : ∀ b off, am = some ⟨b, off, none⟩ → ¬ b = w.heap.size + 2 := fun b off e hb => by
          have := (hown.lt b (by rw [hv, e]; rfl)).1
          have := hvs
          omega
        have HNR := Lib.hid hnr
        subst hv
        have hea := HEA.out i hlt
        have hsl := HSL.out i hlt
        have HCV2 := Lib.hid (below_block hb2 HCV.out)
        have HVK2 := Lib.hid (HVK.out.trans (Kept.of_below (O := fun b => b = w.heap.size + 2) hb2))
        have hm1 : g.ns * 1000000 ≤ 100 * 1000000 := Nat.mul_le_mul_right _ hns
        have hm2 : g.ns * 1000000000 ≤ 100 * 1000000000 := Nat.mul_le_mul_right _ hns
        have HST := Lib.hid (fun q (hq : q < (evS g i g.ns).length) => stU_succ part sa sb (evS g i g.ns) hq)
        have HSB := Lib.hid (fun q => stepU_bound part ((evS g i g.ns).take q) sa sb 0 (fun e he => by have := hea.1 e (List.mem_of_mem_take he); omega) (Or.inl rfl))
        have HTK := Lib.hid (fun q => sums_take (evS g i g.ns) q (fun e he => by have := hea.1 e he; omega))
        have hfo : foldU part sa sb (evS g i g.ns) = stU part sa sb (evS g i g.ns) (evS g i g.ns).length := by unfold foldU stU; rw [List.take_length]
        have hs1 := hea.2.1
        have hs2 := hea.2.2
        have HEV := Lib.hid (fun q (hq : q < (evS g i g.ns).length) => hea.1 ((evS g i g.ns).getD q ev0) (by rw [List.getD_eq_getElem?_getD, List.getElem?_eq_getElem hq]; exact List.getElem_mem hq))
        have HSB2 : Hid (∀ q, sa ≤ (stU part sa sb (evS g i g.ns) q).1 ∧ (stU part sa sb (evS g i g.ns) q).1 ≤ sa + 100000000 ∧ sb ≤ (stU part sa sb (evS g i g.ns) q).2.1 ∧ (stU part sa sb (evS g i g.ns) q).2.1 ≤ sb + 100000000000 ∧ ((stU part sa sb (evS g i g.ns) q).2.2 = 0 ∨ (stU part sa sb (evS g i g.ns) q).2.2 = 1)) := Lib.hid (fun q => by
          have y1 := HSB.out q
          have y2 := HTK.out q
          unfold stU
          omega)
        have HSE : Hid (∀ q, q < (evS g i g.ns).length → 0 ≤ ((evS g i g.ns).getD q ev0).sec ∧ ((evS g i g.ns).getD q ev0).sec ≤ 100000000 ∧ 0 ≤ ((evS g i g.ns).getD q ev0).way ∧ ((evS g i g.ns).getD q ev0).way ≤ 100000000000) := Lib.hid (fun q hq => by
          have z1 := HEV.out q hq
          have z2 := HTK.out (q + 1)
          have z3 := sums_take ((evS g i g.ns).take q) 0 (fun e he => by have := hea.1 e (List.mem_of_mem_take he); omega)
          rw [List.take_zero] at z3
          have z4 : secSum [] = 0 := rfl
          have z5 : waySum [] = 0 := rfl
          rw [List.take_succ_eq_append_getElem hq, secSum_app, waySum_app] at z2
          rw [List.getD_eq_getElem?_getD, List.getElem?_eq_getElem hq] at z1 ⊢
          have z6 : secSum [(evS g i g.ns)[q]] = ((evS g i g.ns)[q]).sec := by simp [secSum]
          have z7 : waySum [(evS g i g.ns)[q]] = ((evS g i g.ns)[q]).way := by simp [waySum]
          simp only [Option.getD_some] at z1 ⊢
          omega)
        rw [hfo] at HS
        have HROW := Lib.hid hrow
        generalize evS g i g.ns = l at HS HROW HST HSB2 HSE hsl
        obtain ⟨st, hst⟩ : ∃ st : Nat → Int × Int × Int, stU part sa sb l = st := ⟨_, rfl⟩
        have hst0 : st 0 = (sa, sb, 0) := by rw [← hst]; rfl
        rw [hst] at HS HST HSB2
        have HST0 := Lib.hid hst0
        obtain ⟨m, hm⟩ : ∃ m, l.length = m := ⟨_, rfl⟩
        rw [hm] at HS HROW HST HSE hsl ⊢
        have hw2 : w.heap.size + 2 < w2.heap.size := by have := hb2.size; omega
        clear hrow hnr hea hfo hst hst0 hm hown HSB HTK HEV HEA HSL DU DU1 HCV HVK hs1 hs2 g0 g1 g2 g3 u0 u1 u2 u3 u4 e0 e1 e2 e3 e4 hb2
        go_wp2_with fail
        go_loopw [12, 37] (fun sv iv wr => ∃ (q : Nat), sv = .int .i64 (st q).2.2 ∧ iv = .int .i64 q ∧ q ≤ m ∧ Hid (Kept (fun b => b = w.heap.size + 2) w2 wr) ∧ Hid (wr.heap[w.heap.size + 2]? = some (.cells #[.int .i64 (st q).1, .int .i64 (st q).2.1, .int .i64 sc] 83 (0, 0)))) (fun _ iv _ => m - (intOf iv).toNat)
        case atStart => exact ⟨0, by rw [HST0.out], rfl, by omega, Lib.hid (Kept.refl _ _), Lib.hid (by rw [HST0.out]; exact HCV2.out)⟩
        case round =>
          obtain ⟨q, rfl, rfl, hq, HKI, HCI⟩ := hrel
          have hsb := HSB2.out q
          by_cases hltq : q < m
          · have t2 : decide ((q : Int) < (m : Int)) = true := by rw [decide_eq_true_eq]; omega
            have hse := HSE.out q hltq
            have hsu := HST.out q hltq
            obtain ⟨bq, offq, rfl, hblq, hcq⟩ := (Kept.row HROW.out HKI.out HNR.out).here (by omega)
            have z0 : wr.cell? ⟨bq, offq + q * 5, none⟩ = some (.string (g.un (l.getD q ev0).i)) := hcq q hltq 0 (by omega)
            have z1 : wr.cell? ⟨bq, offq + q * 5 + 1, none⟩ = some (.string (l.getD q ev0).s) := hcq q hltq 1 (by omega)
            have z2 : wr.cell? ⟨bq, offq + q * 5 + 2, none⟩ = some (.string (l.getD q ev0).p) := hcq q hltq 2 (by omega)
            have z3 : wr.cell? ⟨bq, offq + q * 5 + 3, none⟩ = some (.int .i64 (l.getD q ev0).sec) := hcq q hltq 3 (by omega)
            have z4 : wr.cell? ⟨bq, offq + q * 5 + 4, none⟩ = some (.int .i64 (l.getD q ev0).way) := hcq q hltq 4 (by omega)
            obtain ⟨V3, hV3, hvb3, hvs3, hvq3⟩ := alloc_block wr #[.string (g.un (l.getD q ev0).i), .string (l.getD q ev0).s, .string (l.getD q ev0).p, .int .i64 (l.getD q ev0).sec, .int .i64 (l.getD q ev0).way] 54
            generalize l.getD q ev0 = ev at hse hsu z0 z1 z2 z3 z4 hV3 hvq3
            have q2 : V3.cell? ⟨wr.heap.size, 2, none⟩ = some (.string ev.p) := block_cell hvq3 rfl
            have q3 : V3.cell? ⟨wr.heap.size, 3, none⟩ = some (.int .i64 ev.sec) := block_cell hvq3 rfl
            have q4 : V3.cell? ⟨wr.heap.size, 4, none⟩ = some (.int .i64 ev.way) := block_cell hvq3 rfl
            have hci := below_block hvb3 HCI.out
            obtain ⟨sq, hsq⟩ : ∃ sq, st q = sq := ⟨_, rfl⟩
            rw [hsq] at hsb hsu hci
            obtain ⟨qa, qb, qc⟩ := sq
            have hsb3 : sa ≤ qa ∧ qa ≤ sa + 100000000 ∧ sb ≤ qb ∧ qb ≤ sb + 100000000000 := ⟨hsb.1, hsb.2.1, hsb.2.2.1, hsb.2.2.2.1⟩
            have hci : V3.heap[w.heap.size + 2]? = some (.cells #[.int .i64 qa, .int .i64 qb, .int .i64 sc] 83 (0, 0)) := hci
            have w0 : V3.cell? ⟨w.heap.size + 2, 0, none⟩ = some (.int .i64 qa) := block_cell hci rfl
            have w1 : V3.cell? ⟨w.heap.size + 2, 1, none⟩ = some (.int .i64 qb) := block_cell hci rfl
            have x0 : V3.frozen? ⟨w.heap.size + 2, 0, none⟩ = false := block_free hci
            have x1 : V3.frozen? ⟨w.heap.size + 2, 1, none⟩ = false := block_free hci
            have HCI3 := Lib.hid hci
            have HV3 := Lib.hid hV3
            have HKV := Lib.hid (HKI.out.trans (Kept.of_below (O := fun b => b = w.heap.size + 2) hvb3))
            have hpe := str_eq ev.p part
            have hwk : w.heap.size + 2 < wr.heap.size := Nat.lt_of_lt_of_le hw2 HKI.out.size
            rw [hsq]
            clear hcq hV3 hvb3 hvq3 hsq hci hsb
            unfold stepU at hsu
            by_cases hp : ev.p = part
            · rw [if_pos hp] at hsu
              rw [show decide (ev.p = part) = true by simpa using hp] at hpe
              have HSU := Lib.hid hsu
              clear hp hsu
              go_upto_region 10 with (fail)
              rw [HV3.out]
              go_wp2_with fail
              go_roundw
              case rel => exact ⟨q + 1, by rw [HSU.out], by go_num, by omega, Lib.hid (kept_set (kept_set HKV.out (by rfl) _) (by rfl) _), Lib.hid (by rw [HSU.out]; exact cells_setCell (cells_setCell HCI3.out))⟩
              case measure => simp [intOf]; omega
            · rw [if_neg hp] at hsu
              rw [show decide (ev.p = part) = false by simpa using hp] at hpe
              have HSU := Lib.hid hsu
              clear hp hsu
              go_upto_region 10 with (fail)
              rw [HV3.out]
              go_wp2_with fail
              go_roundw
              case rel => exact ⟨q + 1, by rw [HSU.out], by go_num, by omega, HKV, Lib.hid (by rw [HSU.out]; exact HCI3.out)⟩
              case measure => simp [intOf]; omega
          · have t2 : decide ((q : Int) < (m : Int)) = false := by rw [decide_eq_false_iff_not]; omega
            have t2' : decide (q < m) = false := by simpa using hltq
            obtain rfl : q = m := by omega
            have hci := HCI.out
            have w2' : wr.cell? ⟨w.heap.size + 2, 2, none⟩ = some (.int .i64 sc) := block_cell hci rfl
            have x2 : wr.frozen? ⟨w.heap.size + 2, 2, none⟩ = false := block_free hci
            have hqc : 0 ≤ (st q).2.2 ∧ (st q).2.2 ≤ 1 := by omega
            clear hltq hci
            go_wp2_with fail
            go_roundw
            case rel => exact ⟨i + 1, by go_num, by omega, Lib.hid (kept_set (HVK2.out.trans HKI.out) (by rfl) _), Lib.hid (by rw [HS.out]; exact cells_setCell HCI.out)⟩
            case measure => simp [intOf]; omega
    · have t1 : decide ((i : Int) < (g.nu : Int)) = false := by rw [decide_eq_false_iff_not]; omega
      have t1' : decide (i < g.nu) = false := by simpa using hlt
      obtain rfl : i = g.nu := by omega
      obtain ⟨x1, x2, x3, _⟩ := HRW.out g.nu (Nat.le_refl _)
      have HWR : Hid (wearR (wearL g part f t (evG g g.nu)) = .agg #[.int .i64 (rwF g part f t g.nu).1, .int .i64 (rwF g part f t g.nu).2.1, .int .i64 (rwF g part f t g.nu).2.2]) := Lib.hid (by unfold wearR; rw [x1, x2, x3])
      have hc9 := HC.out
      generalize rwF g part f t g.nu = st at HWR hc9
      obtain ⟨sa, sb, sc⟩ := st
      have hc9 : wr.heap[w.heap.size + 2]? = some (.cells #[.int .i64 sa, .int .i64 sb, .int .i64 sc] 83 (0, 0)) := hc9
      have r8 := (HK.out.block (w.heap.size + 1) (by omega) (by show ¬ w.heap.size + 1 = w.heap.size + 2; omega)).trans HR8.out
      have k0 : wr.cell? ⟨w.heap.size + 2, 0, none⟩ = some (.int .i64 sa) := block_cell hc9 rfl
      have k1 : wr.cell? ⟨w.heap.size + 2, 1, none⟩ = some (.int .i64 sb) := block_cell hc9 rfl
      have k2 : wr.cell? ⟨w.heap.size + 2, 2, none⟩ = some (.int .i64 sc) := block_cell hc9 rfl
      have q0 : wr.cell? ⟨w.heap.size + 1, 0, none⟩ = some (.int .i64 0) := block_cell r8 rfl
      have q1 : wr.cell? ⟨w.heap.size + 1, 1, none⟩ = some (.int .i64 0) := block_cell r8 rfl
      have q2 : wr.cell? ⟨w.heap.size + 1, 2, none⟩ = some (.int .i64 0) := block_cell r8 rfl
      have z0 : wr.frozen? ⟨w.heap.size + 1, 0, none⟩ = false := block_free r8
      have z1 : wr.frozen? ⟨w.heap.size + 1, 1, none⟩ = false := block_free r8
      have z2 : wr.frozen? ⟨w.heap.size + 1, 2, none⟩ = false := block_free r8
      have HR4 := Lib.hid r8
      have HBF := HDN
      clear hlt x1 x2 x3 hc9 r8 g0 g1 g2 g3 HC HK
      go_wp2_with fail
      have hr : ((((wr.setCell ⟨w.heap.size + 1, 0, none⟩ (.int .i64 sa)).setCell ⟨w.heap.size + 1, 1, none⟩ (.int .i64 sb)).setCell ⟨w.heap.size + 1, 2, none⟩ (.int .i64 sc))).heap[w.heap.size + 1]? = some (.cells #[.int .i64 sa, .int .i64 sb, .int .i64 sc] 83 (0, 0)) :=
        cells_setCell (cells_setCell (cells_setCell HR4.out))
      have hbf := ((HBF.out.setCell (p := ⟨w.heap.size + 1, 0, none⟩) (by show w.heap.size ≤ w.heap.size + 1; omega) (.int .i64 sa)).setCell (p := ⟨w.heap.size + 1, 1, none⟩) (by show w.heap.size ≤ w.heap.size + 1; omega) (.int .i64 sb)).setCell (p := ⟨w.heap.size + 1, 2, none⟩) (by show w.heap.size ≤ w.heap.size + 1; omega) (.int .i64 sc)
      generalize ((wr.setCell ⟨w.heap.size + 1, 0, none⟩ (.int .i64 sa)).setCell ⟨w.heap.size + 1, 1, none⟩ (.int .i64 sb)).setCell ⟨w.heap.size + 1, 2, none⟩ (.int .i64 sc) = w4 at hr hbf ⊢
      have y0 : w4.cell? ⟨w.heap.size + 1, 0, none⟩ = some (.int .i64 sa) := block_cell hr rfl
      have y1 : w4.cell? ⟨w.heap.size + 1, 1, none⟩ = some (.int .i64 sb) := block_cell hr rfl
      have y2 : w4.cell? ⟨w.heap.size + 1, 2, none⟩ = some (.int .i64 sc) := block_cell hr rfl
      exact bodyPost_ret (v := .agg #[.int .i64 sa, .int .i64 sb, .int .i64 sc]) (by simp [results, Tryz.results44, go_sem, y0, y1, y2]) rfl ⟨by rw [HWR.out], hbf⟩
end Go.Proofs.YtbkpoepacjinlaaGreat

/- Gear: slotWay of the reference. -/
namespace Go.Proofs.YtbkpoepacjinlaaGreat
open Go.RowKit Go.BigFrame
open Gar (chk hasS)

theorem idx_slot {g : Gar} {s : ByteArray} (h : hasS g s = true) : ∃ j : Nat, j < g.ns ∧ idxF (fun i => decide (g.sn i = s)) g.ns 0 = (j : Int) ∧ g.sn j = s := by
  unfold hasS at h
  rw [List.any_eq_true] at h
  obtain ⟨i, hi, he⟩ := h
  obtain ⟨j, hj, _, hji, hf⟩ := idxF_hit (fun i => decide (g.sn i = s)) g.ns 0 i (Nat.zero_le _) (by simpa using hi) he
  have hi := List.mem_range.1 hi
  exact ⟨j, by omega, hj, by simpa using hf⟩
set_option maxHeartbeats 4000000 in
set_option maxRecDepth 100000 in
theorem slotWay_any (g : Gar) (a0 a1 a2 a3 : Option Addr) (c0 c1 c2 c3 : Nat) (s : ByteArray) (w : World) (h : GarIn w g a0 a1 a2 a3) (hchk : chk g = 0) (hs : hasS g s = true) :
    Calls Tryz.prog 43 #[garV g a0 a1 a2 a3 c0 c1 c2 c3, .string s] w fun e w' => e = .returned (.int .i64 (sumK Ev.s (evG g g.nu) s)) ∧ Below w.heap.size w w' := by
  have HG := Lib.hid h
  have hl1 := h.l1
  have hl3 := h.l3
  obtain ⟨j, hj, hidx, hsn⟩ := idx_slot hs
  have HE : Hid (sumK Ev.s (evG g g.nu) s = swR g (g.sr j) g.nu) := Lib.hid (by rw [← hsn]; exact sumK_rig hchk hj g.nu (Nat.le_refl _))
  have HB := Lib.hid (fun i (hi : i ≤ g.nu) => swR_bd hchk (g.sr j) i hi)
  have hnu := (Gar.chk_parts hchk).2.2.2.1
  have HUR := Lib.hid (fun (i : Nat) (hi : i < g.nu) => Gar.use_right (Gar.chk_parts hchk).2.2.2.2.2.2.2.2 hi)
  obtain ⟨W0, hW0, hb0, hs0, hl0'⟩ := alloc_cells w #[.slice a0 g.np c0, .slice a1 g.ns c1, .slice a2 g.nm c2, .slice a3 g.nu c3] 27
  have G0 := Ext.ex (hl0' 0 _ rfl)
  have G1 := Ext.ex (hl0' 1 _ rfl)
  have G2 := Ext.ex (hl0' 2 _ rfl)
  have G3 := Ext.ex (hl0' 3 _ rfl)
  have HW0 := Lib.hid hW0
  have HB0 := Lib.hid hb0
  have hs0' : w.heap.size ≤ W0.heap.size := by omega
  have DA := Lib.hid (fun (Y : Ext W0) => Y.calls (slotAt_any g a0 a1 a2 a3 c0 c1 c2 c3 s Y.1 (HG.out.below (Y.down HB0.out hs0'))))
  rw [hidx] at DA
  obtain ⟨b, off, rfl, hbl, hcc⟩ := h.r1.here (by omega)
  have R1 : ∀ X : Ext W0, X.1.cell? ⟨b, off + j * 2 + 1, none⟩ = some (.string (g.sr j)) := Ext.ex (below_cell hb0 (hcc j hj 1 (by omega)))
  have R0 : ∀ X : Ext W0, X.1.cell? ⟨b, off + j * 2, none⟩ = some (.string (g.sn j)) := Ext.ex (below_cell hb0 (hcc j hj 0 (by omega)))
  have hji : (j : Int) < (g.ns : Int) := by omega
  obtain ⟨rig, hrig⟩ : ∃ r, g.sr j = r := ⟨_, rfl⟩
  rw [hrig] at HE HB R1
  unfold garV at DA ⊢
  rw [HE.out]
  clear hl0' hW0 hb0 hs0 h hidx hsn hs hcc hrig hchk
  go_enter Tryz.func43, Tryz.ntmps43
  go_upto_region 2 with (fail)
  rw [HW0.out]
  refine ext_wp fun X => ?_
  refine wp_region_ext (W := W0) _ (by kernel_rfl) (by kernel_rfl) ?_
  repeat go_big_quiet_step ((go_at_call 13; exact DA.out _))
  refine wpQuiet_nil ?_
  intro _ hw'
  obtain ⟨Y, rfl⟩ := hw'
  clear DA R0 R1
  have nnil : swR g rig 0 = 0 := rfl
  go_wp2_with fail
  go_loopw [5, 20] (fun nv iv wr => ∃ (i : Nat), nv = .int .i64 (swR g rig i) ∧ iv = .int .i64 i ∧ i ≤ g.nu ∧ ∃ X : Ext W0, wr = X.1) (fun _ iv _ => g.nu - (intOf iv).toNat)
  case atStart => exact ⟨0, by rw [nnil], rfl, by omega, Y, rfl⟩
  case round =>
    obtain ⟨i, rfl, rfl, hi, Z, rfl⟩ := hrel
    have hb := HB.out i hi
    by_cases hlt : i < g.nu
    · have t1 : decide ((i : Int) < (g.nu : Int)) = true := by rw [decide_eq_true_eq]; omega
      have t1' : decide (i < g.nu) = true := by simpa using hlt
      obtain ⟨bq, offq, rfl, hblq, hcq⟩ := (HG.out.r3.below (Z.down HB0.out hs0') (Nat.le_refl _)).here (by omega)
      have z0 : Z.1.cell? ⟨bq, offq + i * 5, none⟩ = some (.string (g.un i)) := hcq i hlt 0 (by omega)
      have z1 : Z.1.cell? ⟨bq, offq + i * 5 + 1, none⟩ = some (.string (g.ur i)) := hcq i hlt 1 (by omega)
      have z2 : Z.1.cell? ⟨bq, offq + i * 5 + 2, none⟩ = some (.int .i64 (g.uf i)) := hcq i hlt 2 (by omega)
      have z3 : Z.1.cell? ⟨bq, offq + i * 5 + 3, none⟩ = some (.int .i64 (g.us i)) := hcq i hlt 3 (by omega)
      have z4 : Z.1.cell? ⟨bq, offq + i * 5 + 4, none⟩ = some (.int .i64 (g.uw i)) := hcq i hlt 4 (by omega)
      obtain ⟨V1, hV1, hvb, hvs, hvl⟩ := alloc_cells Z.1 #[.string (g.un i), .string (g.ur i), .int .i64 (g.uf i), .int .i64 (g.us i), .int .i64 (g.uw i)] 62
      have u1 := hvl 1 _ rfl
      have u4 := hvl 4 _ rfl
      have HV1 := Lib.hid hV1
      obtain ⟨Z1, hZ1⟩ : ∃ X : Ext W0, V1 = X.1 := ⟨⟨V1, below_step Z.2 hvb⟩, rfl⟩
      have hur := HUR.out i hlt
      have hu4 : 0 ≤ g.uw i ∧ g.uw i ≤ 1000000000 := by omega
      have hse := str_eq (g.ur i) rig
      have HS : Hid (swR g rig (i + 1) = swR g rig i + (if g.ur i = rig then g.uw i else 0)) := Lib.hid rfl
      clear hcq hV1 hvb hvs hvl hur
      by_cases he : g.ur i = rig
      · rw [if_pos he] at HS
        rw [show decide (g.ur i = rig) = true by simpa using he] at hse
        clear he
        go_wp2_with fail
        rw [HV1.out]
        go_wp2_with fail
        rw [hZ1]
        go_roundw
        case rel => exact ⟨i + 1, by rw [HS.out], by go_num, by omega, Z1, rfl⟩
        case measure => simp [intOf]; omega
      · rw [if_neg he, Int.add_zero] at HS
        rw [show decide (g.ur i = rig) = false by simpa using he] at hse
        clear he
        go_wp2_with fail
        rw [HV1.out]
        go_wp2_with fail
        rw [hZ1]
        go_roundw
        case rel => exact ⟨i + 1, by rw [HS.out], by go_num, by omega, Z1, rfl⟩
        case measure => simp [intOf]; omega
    · have t1 : decide ((i : Int) < (g.nu : Int)) = false := by rw [decide_eq_false_iff_not]; omega
      have t1' : decide (i < g.nu) = false := by simpa using hlt
      obtain rfl : i = g.nu := by omega
      have HDN := Lib.hid (Z.down HB0.out hs0')
      go_wp2_with fail
      go_ret
      exact ⟨rfl, HDN.out⟩
end Go.Proofs.YtbkpoepacjinlaaGreat

/- Gear: wanted of the reference. (printed by gen_eg.py) -/
namespace Go.Proofs.YtbkpoepacjinlaaGreat
open Go.RowKit Go.BigFrame
open Gar (chk hasS)
open Sel (Sto Rnd setB setT)

def Bsl (wS : Nat → Int) (k j : Nat) : Bool := bef2 (wS j) (wS k) (k : Nat) (j : Nat)
def Bpr (wP : Nat → Int) (pn : Nat → ByteArray) (k j : Nat) : Bool := befB (wP k) (wP j) (pn k) (pn j)
theorem sto_sl (n : Nat) (wS : Nat → Int) : Sto n (Bsl wS) := by
  refine ⟨fun x => ?_, fun x y z h k => ?_, fun x y _ _ hne => ?_⟩
  · simp [Bsl, bef2]
  · simp only [Bsl, bef2, decide_eq_true_eq] at h k ⊢
    omega
  · simp only [Bsl, bef2, decide_eq_true_eq]
    omega
theorem sto_pr {n : Nat} {wP : Nat → Int} {pn : Nat → ByteArray} (hd : ∀ x y, x < n → y < n → x ≠ y → pn x ≠ pn y) : Sto n (Bpr wP pn) := by
  refine ⟨fun x => befB_irr _ _, fun x y z h k => befB_trans h k, fun x y hx hy hne => ?_⟩
  rcases befB_tot (wP x) (wP y) (pn x) (pn y) with k | k | k
  · exact Or.inl k
  · exact Or.inr k
  · exact absurd k.2 (hd x y hx hy hne)
theorem ords_of {n : Nat} {wS wP : Nat → Int} {pn : Nat → ByteArray} {bs bp : Nat → Nat} {tk us : Nat → Bool} (hd : ∀ x y, x < n → y < n → x ≠ y → pn x ≠ pn y) (hs : Rnd n (Bsl wS) n bs tk) (hp : Rnd n (Bpr wP pn) n bp us) : ∃ tt, Ords n wS wP pn tt bs bp := by
  obtain ⟨tt, htt⟩ := Sel.sent (bs := bs) hp.perm
  exact ⟨tt, hs.perm, hp.perm, htt, fun i j hij hj => (sto_sl n wS).asym (hs.ord i j hij hj), fun i j hij hj => (sto_pr hd).asym (hp.ord i j hij hj)⟩
theorem bsl_gt {wS : Nat → Int} {i k : Nat} (h : wS k < wS i) : Bsl wS i k = true := by
  simp only [Bsl, bef2, decide_eq_true_eq]
  omega
theorem bsl_le {wS : Nat → Int} {i k : Nat} (h : ¬ wS k < wS i) (hk : k < i) : Bsl wS i k = false := by
  simp only [Bsl, bef2, decide_eq_false_iff_not]
  omega
theorem make_bools (n : Nat) (hn : n ≤ 20) (w : World) : (Instr.makeSlice 81 (.int .i64 n) (.int .i64 n)).run Tryz.prog w = .ok (.slice (some ⟨w.heap.size, 0, none⟩) n n) (w.alloc (.cells (Array.replicate n (.bool false)) 4)) := by
  obtain ⟨i0, hi0, hz0, hz1, hz2⟩ := info_parts (show (Tryz.prog.info? 4).map (fun i => (i.zero, i.size, i.bytes)) = some (some (.bool false), 1, 1) by kernel_rfl)
  have h := run_make w 81 4 i0 (.bool false) (by kernel_rfl) hi0 hz0 .i64 .i64 n n (by omega) (by omega) (by rw [hz2]; omega) (by omega)
  rw [h, hz1, Int.toNat_natCast, Nat.mul_one]
  rw [show (Value.bool false).cells = #[.bool false] from rfl, made_one]
theorem row_one {w : World} {b off n i : Nat} {V : Nat → List Value} (h : ∀ i, i < n → ∀ j, j < 1 → w.cell? ⟨b, off + i * 1 + j, none⟩ = (V i)[j]?) (hi : i < n) : w.cell? ⟨b, off + i, none⟩ = (V i)[0]? := by
  have := h i hi 0 (by omega)
  rw [Nat.mul_one, Nat.add_zero] at this
  exact this
theorem part_new {w : World} {b n : Nat} {T : TypeId} {z : Value} (h : w.heap[b]? = some (.cells (Array.replicate n z) T (0, 0))) : Part w b n n T (fun _ => z) :=
  ⟨_, h, by simp, fun j hj => by simp [hj]⟩
/-- what wanted of the reference hands back -/
def RwtR (n : Nat) (wS wP : Nat → Int) (pn : Nat → ByteArray) (w : World) (Q : Nat) (w' : World) : Prop :=
  w.heap.size ≤ Q ∧ Below w.heap.size w w' ∧ ∃ (want : Nat → ByteArray) (tt bs bp : Nat → Nat), Part w' Q n n 9 (fun j => .string (want j)) ∧ Ords n wS wP pn tt bs bp ∧ ∀ m, m < n → want (bs m) = pn (bp m)
/-- behind r rounds -/
structure RwI (n : Nat) (wS wP : Nat → Int) (pn : Nat → ByteArray) (Q q8 q9 r : Nat) (wr : World) (bs bp : Nat → Nat) (tk us : Nat → Bool) (out : Nat → ByteArray) : Prop where
  o : Part wr Q n n 9 (fun j => .string (out j))
  t : Part wr q8 n n 4 (fun j => .bool (tk j))
  u : Part wr q9 n n 4 (fun j => .bool (us j))
  s : Rnd n (Bsl wS) r bs tk
  p : Rnd n (Bpr wP pn) r bp us
  w : ∀ m, m < r → out (bs m) = pn (bp m)
set_option maxHeartbeats 8000000 in
set_option maxRecDepth 100000 in
theorem rwanted_any (g : Gar) (a0 a1 a2 a3 : Option Addr) (c0 c1 c2 c3 : Nat) (n : Nat) (sl pn : Nat → ByteArray) (a p : Option Addr) (cap capp : Nat) (w : World) (h : GarIn w g a0 a1 a2 a3) (hchk : chk g = 0) (hr : RowK w a n 1 (fun j => [.string (sl j)])) (hpr : RowK w p n 1 (fun j => [.string (pn j)])) (hn : n ≤ 20)
    (hsl : ∀ j, j < n → hasS g (sl j) = true) (hd : ∀ x y, x < n → y < n → x ≠ y → pn x ≠ pn y) :
    Calls Tryz.prog 17 #[garV g a0 a1 a2 a3 c0 c1 c2 c3, .slice a n cap, .slice p n capp] w fun e w' => ∃ Q, e = .returned (.slice (some ⟨Q, 0, none⟩) n n) ∧
      RwtR n (fun j => sumK Ev.s (evG g g.nu) (sl j)) (fun j => sumK Ev.p (evG g g.nu) (pn j)) pn w Q w' := by
  have HG := Lib.hid h
  have HCK := Lib.hid hchk
  have HR := Lib.hid hr
  have HPR := Lib.hid hpr
  have HD := Lib.hid hd
  have hnl : (n : Int) ≤ 20 := by omega
  obtain ⟨wS, hwS⟩ : ∃ f : Nat → Int, (fun j => sumK Ev.s (evG g g.nu) (sl j)) = f := ⟨_, rfl⟩
  obtain ⟨wP, hwP⟩ : ∃ f : Nat → Int, (fun j => sumK Ev.p (evG g g.nu) (pn j)) = f := ⟨_, rfl⟩
  have DS0 := Lib.hid (fun (j : Nat) (hj : j < n) (W : World) (hb : Below w.heap.size w W) => show Calls Tryz.prog 43 #[garV g a0 a1 a2 a3 c0 c1 c2 c3, .string (sl j)] W fun e w' => e = .returned (.int .i64 (wS j)) ∧ Below W.heap.size W w' from by
    rw [← hwS]
    exact slotWay_any g a0 a1 a2 a3 c0 c1 c2 c3 (sl j) W (HG.out.below hb) HCK.out (hsl j hj))
  have DW0 := Lib.hid (fun (j : Nat) (W : World) (hb : Below w.heap.size w W) => show Calls Tryz.prog 44 #[garV g a0 a1 a2 a3 c0 c1 c2 c3, .string (pn j), .int .i64 0, .int .i64 86400000000] W fun e w' => e = .returned (.agg #[.int .i64 (wearL g (pn j) 0 86400000000 (evG g g.nu)).sec, .int .i64 (wP j), .int .i64 (wearL g (pn j) 0 86400000000 (evG g g.nu)).uses]) ∧ Below W.heap.size W w' from by
    rw [← hwP]
    show Calls _ _ _ _ fun e w' => e = .returned (.agg #[_, .int .i64 (sumK Ev.p (evG g g.nu) (pn j)), _]) ∧ _
    rw [← wear_sum HCK.out (pn j)]
    exact rwear_any g a0 a1 a2 a3 c0 c1 c2 c3 (pn j) 0 86400000000 W (HG.out.below hb) HCK.out)
  rw [hwS, hwP]
  have hfld : ∀ (x y z : Int) (u : World), (Instr.field 83 (.agg #[.int .i64 x, .int .i64 y, .int .i64 z]) 1).run Tryz.prog u = .ok (.int .i64 y) u := fun _ _ _ _ => by kernel_rfl
  unfold garV at DS0 DW0 ⊢
  obtain ⟨W0, hW0, hb0, hs0, hl0'⟩ := alloc_cells w #[.slice a0 g.np c0, .slice a1 g.ns c1, .slice a2 g.nm c2, .slice a3 g.nu c3] 27
  have e0 := hl0' 0 _ rfl
  have e1 := hl0' 1 _ rfl
  have e2 := hl0' 2 _ rfl
  have e3 := hl0' 3 _ rfl
  have HW0 := Lib.hid hW0
  obtain ⟨Q, hQ⟩ : ∃ Q, W0.heap.size = Q := ⟨_, rfl⟩
  obtain ⟨W1, hW1, hb1, hs1, hq1⟩ := alloc_block W0 (Array.replicate n (.string ⟨#[]⟩)) 9
  rw [hQ] at hq1 hs1
  have hms := make_strs n hn W0
  rw [hW1, hQ] at hms
  have hmb := make_bools n hn
  have HB1 := Lib.hid (hb0.trans (hb1.mono (by omega)))
  have HQ1 := Lib.hid hq1
  have hwQ : w.heap.size < Q := by omega
  have k0 := below_cell hb1 e0
  have k1 := below_cell hb1 e1
  have k2 := below_cell hb1 e2
  have k3 := below_cell hb1 e3
  clear hl0' hW0 hb0 h hr hpr hd hsl hchk hwS hwP e0 e1 e2 e3 hW1 hb1 hq1
  go_enter Tryz.func17, Tryz.ntmps17
  go_upto_region 2 with (fail)
  rw [HW0.out]
  go_upto_region 3 with (fail)
  clear hms
  go_cut [9, 10] (fun p q wx => ∃ q8 q9 : Nat, p = .slice (some ⟨q8, 0, none⟩) n n ∧ q = .slice (some ⟨q9, 0, none⟩) n n ∧ Hid (Below W1.heap.size W1 wx ∧ wx.heap.size = W1.heap.size + 2 ∧ wx.heap[q8]? = some (.cells (Array.replicate n (.bool false)) 4 (0, 0)) ∧ wx.heap[q9]? = some (.cells (Array.replicate n (.bool false)) 4 (0, 0)) ∧ q8 ≠ q9 ∧ W1.heap.size ≤ q8 ∧ W1.heap.size ≤ q9))
  case first =>
    obtain ⟨V5, hV5, hb5, hs5, hq5⟩ := allocs W1 [.cells (Array.replicate n (.bool false)) 4, .cells (Array.replicate n (.bool false)) 4]
    have e5 : (W1.alloc (.cells (Array.replicate n (.bool false)) 4)).alloc (.cells (Array.replicate n (.bool false)) 4) = V5 := hV5
    have x0 : V5.heap[W1.heap.size]? = some (.cells (Array.replicate n (.bool false)) 4 (0, 0)) := hq5 0 _ rfl
    have x1 : V5.heap[W1.heap.size + 1]? = some (.cells (Array.replicate n (.bool false)) 4 (0, 0)) := hq5 1 _ rfl
    replace hs5 : V5.heap.size = W1.heap.size + 2 := hs5
    have HA := Lib.hid (show Below W1.heap.size W1 V5.drew ∧ V5.drew.heap.size = W1.heap.size + 2 ∧ V5.drew.heap[W1.heap.size]? = some (.cells (Array.replicate n (.bool false)) 4 (0, 0)) ∧ V5.drew.heap[W1.heap.size + 1]? = some (.cells (Array.replicate n (.bool false)) 4 (0, 0)) ∧ W1.heap.size ≠ W1.heap.size + 1 ∧ W1.heap.size ≤ W1.heap.size ∧ W1.heap.size ≤ W1.heap.size + 1 from ⟨hb5.drew, hs5, x0, x1, by omega, by omega, by omega⟩)
    have HC := Lib.hid (show Below W1.heap.size W1 V5.drew ∧ V5.drew.heap.size = W1.heap.size + 2 ∧ V5.drew.heap[W1.heap.size + 1]? = some (.cells (Array.replicate n (.bool false)) 4 (0, 0)) ∧ V5.drew.heap[W1.heap.size]? = some (.cells (Array.replicate n (.bool false)) 4 (0, 0)) ∧ W1.heap.size + 1 ≠ W1.heap.size ∧ W1.heap.size ≤ W1.heap.size + 1 ∧ W1.heap.size ≤ W1.heap.size from ⟨hb5.drew, hs5, x1, x0, by omega, by omega, by omega⟩)
    clear hV5 hb5 hs5 hq5 x0 x1 hs1
    go_region
    all_goals
      go_wp2_with fail
      (try rw [e5])
      go_meet
    · exact ⟨_, _, rfl, rfl, HA⟩
    · exact ⟨_, _, rfl, rfl, HC⟩
  case rest =>
    obtain ⟨q8, q9, rfl, rfl, HX⟩ := hcut
    have hq8 := HX.out.2.2.2.2.2.1
    have hq9 := HX.out.2.2.2.2.2.2
    have hq89 := HX.out.2.2.2.2.1
    have hbc : Below W1.heap.size W1 wc := HX.out.1
    have HBC := Lib.hid (HB1.out.trans (hbc.mono (by omega)))
    have hst : RwI n wS wP pn Q q8 q9 0 wc id id (fun _ => false) (fun _ => false) (fun _ => ⟨#[]⟩) := ⟨part_new (below_block hbc HQ1.out), part_new HX.out.2.2.1, part_new HX.out.2.2.2.1, Rnd.start _, Rnd.start _, fun m hm => by omega⟩
    have HST := Lib.hid hst
    have hwc : W1.heap.size ≤ wc.heap.size := hbc.size
    have G0 : ∀ X : ExtO (fun b => b = Q ∨ b = q8 ∨ b = q9) wc, X.1.cell? ⟨w.heap.size, 0, none⟩ = some (.slice a0 g.np c0) := ExtO.ex (by simp <;> omega) (below_cell hbc k0)
    have G1 : ∀ X : ExtO (fun b => b = Q ∨ b = q8 ∨ b = q9) wc, X.1.cell? ⟨w.heap.size, 1, none⟩ = some (.slice a1 g.ns c1) := ExtO.ex (by simp <;> omega) (below_cell hbc k1)
    have G2 : ∀ X : ExtO (fun b => b = Q ∨ b = q8 ∨ b = q9) wc, X.1.cell? ⟨w.heap.size, 2, none⟩ = some (.slice a2 g.nm c2) := ExtO.ex (by simp <;> omega) (below_cell hbc k2)
    have G3 : ∀ X : ExtO (fun b => b = Q ∨ b = q8 ∨ b = q9) wc, X.1.cell? ⟨w.heap.size, 3, none⟩ = some (.slice a3 g.nu c3) := ExtO.ex (by simp <;> omega) (below_cell hbc k3)
    have HDN := Lib.hid (fun X : ExtO (fun b => b = Q ∨ b = q8 ∨ b = q9) wc => X.down HBC.out (by omega) (fun k hk => by omega))
    clear hst hbc k0 k1 k2 k3 hmb HX
    go_wp2_with fail
    go_loopw [26] (fun rv wr => ∃ (r : Nat), rv = .int .i64 r ∧ r ≤ n ∧ Hid (∃ (bs bp : Nat → Nat) (tk us : Nat → Bool) (out : Nat → ByteArray) (X : ExtO (fun b => b = Q ∨ b = q8 ∨ b = q9) wc), wr = X.1 ∧ RwI n wS wP pn Q q8 q9 r X.1 bs bp tk us out)) (fun rv _ => n - (intOf rv).toNat)
    case atStart => exact ⟨0, rfl, by omega, Lib.hid ⟨_, _, _, _, _, ⟨wc, Kept.refl _ _⟩, rfl, HST.out⟩⟩
    case round =>
      obtain ⟨r, rfl, hr, HXE⟩ := hrel
      obtain ⟨bs, bp, tk, us, out, X, rfl, hri⟩ := HXE.out
      have HRI := Lib.hid hri
      clear hri HXE
      by_cases hrn : r < n
      · have b1 : decide ((r : Int) < (n : Int)) = true := by rw [decide_eq_true_eq]; omega
        have b1' : decide (r < n) = true := by simpa using hrn
        have HDX := Lib.hid (HDN.out X)
        have hszx : w.heap.size ≤ X.1.heap.size := HDX.out.size
        have DS := Lib.hid (fun (j : Nat) (hj : j < n) (Y : Ext X.1) => Y.calls (DS0.out j hj Y.1 (Y.down HDX.out hszx)))
        have DW := Lib.hid (fun (j : Nat) (Y : Ext X.1) => Y.calls (DW0.out j Y.1 (Y.down HDX.out hszx)))
        have g0 := Ext.ex (G0 X)
        have g1' := Ext.ex (G1 X)
        have g2' := Ext.ex (G2 X)
        have g3 := Ext.ex (G3 X)
        have T8 := Lib.hid (fun (j : Nat) (hj : j < n) => Ext.ex (HRI.out.t.cell hj))
        have U9 := Lib.hid (fun (j : Nat) (hj : j < n) => Ext.ex (HRI.out.u.cell hj))
        obtain ⟨ba, offa, rfl, hbla, hca⟩ := HR.out.here (by omega)
        obtain ⟨bb, offb, rfl, hblb, hcb⟩ := HPR.out.here (by omega)
        have SC := Lib.hid (fun (j : Nat) (hj : j < n) => Ext.ex (show X.1.cell? ⟨ba, offa + j, none⟩ = some (.string (sl j)) from (HDX.out.cell (p := ⟨ba, offa + j, none⟩) hbla).trans (row_one hca hj)))
        have PK := Lib.hid (fun (j : Nat) (hj : j < n) => ExtO.ex (O := fun b => b = Q ∨ b = q8 ∨ b = q9) (W := wc) (p := ⟨bb, offb + j, none⟩) (fun e => by simp only at e; omega) (show wc.cell? ⟨bb, offb + j, none⟩ = some (.string (pn j)) from (HBC.out.cell (p := ⟨bb, offb + j, none⟩) hblb).trans (row_one hcb hj)))
        have PC := Lib.hid (fun (j : Nat) (hj : j < n) => Ext.ex (show X.1.cell? ⟨bb, offb + j, none⟩ = some (.string (pn j)) from (HDX.out.cell (p := ⟨bb, offb + j, none⟩) hblb).trans (row_one hcb hj)))
        clear hca hcb
        go_wp2_with fail
        go_loopg [11, 12, 13] n (fun gh sv pv iv wr => ∃ (s p : Int) (i : Nat), sv = .int .i64 s ∧ pv = .int .i64 p ∧ iv = .int .i64 i ∧ i ≤ n ∧ gh + i = n ∧ Hid (Sel.Best (Bsl wS) (fun j => !tk j) i s) ∧ Hid (Sel.Best (Bpr wP pn) (fun j => !us j) i p) ∧ ∃ Y : Ext X.1, wr = Y.1)
        case atStart => exact ⟨-1, -1, 0, rfl, rfl, rfl, by omega, by omega, Lib.hid Sel.Best.start, Lib.hid Sel.Best.start, ⟨X.1, Below.refl _ _⟩, rfl⟩
        case round =>
          obtain ⟨s, p, i, rfl, rfl, rfl, hi, hgh, HS, HP, Y, rfl⟩ := hrel
          by_cases hlt : i < n
          · have c1 : decide ((i : Int) < (n : Int)) = true := by rw [decide_eq_true_eq]; omega
            have c1' : decide (i < n) = true := by simpa using hlt
            have hii : (i : Int) < (n : Int) := by omega
            have T8i := T8.out i hlt
            have U9i := U9.out i hlt
            have Si := SC.out i hlt
            have Pi := PC.out i hlt
            go_upto_region 10 with (fail)
            go_cut [56] from 28 to 98 (fun cv wx => ∃ cb : Bool, cv = .bool cb ∧ Hid (Sel.Best (Bsl wS) (fun j => !tk j) (i + 1) (if cb = true then (i : Nat) else s)) ∧ ∃ Y1 : Ext X.1, wx = Y1.1)
            case first =>
              by_cases htk : tk i = true
              · rw [htk] at T8i
                have HS2 : Hid (Sel.Best (Bsl wS) (fun j => !tk j) (i + 1) s) := Lib.hid (HS.out.skip (by simp [htk]))
                clear htk
                refine wp_region_ext (W := X.1) _ (by kernel_rfl) (by kernel_rfl) ?_
                repeat go_big_quiet_step (fail)
                refine wpQuiet_nil ?_
                intro _ hw'
                obtain ⟨Y1, rfl⟩ := hw'
                go_wp2_with fail
                go_meet
                case rel => exact ⟨false, rfl, Lib.hid HS2.out, Y1, rfl⟩
              · have htk2 : tk i = false := by simpa using htk
                rw [htk2] at T8i
                by_cases hs0 : s < 0
                · have c4 : decide (s < 0) = true := by simpa using hs0
                  have HS2 : Hid (Sel.Best (Bsl wS) (fun j => !tk j) (i + 1) (i : Nat)) := Lib.hid (HS.out.first hs0 (by simp [htk2]))
                  clear htk htk2 hs0
                  refine wp_region_ext (W := X.1) _ (by kernel_rfl) (by kernel_rfl) ?_
                  repeat go_big_quiet_step (fail)
                  refine wpQuiet_nil ?_
                  intro _ hw'
                  obtain ⟨Y1, rfl⟩ := hw'
                  go_wp2_with fail
                  go_meet
                  case rel => exact ⟨true, rfl, Lib.hid HS2.out, Y1, rfl⟩
                · have c4 : decide (s < 0) = false := by simpa using hs0
                  obtain ⟨ks, rfl, hks, _⟩ := HS.out.some hs0
                  have hksi : (ks : Int) < (n : Int) := by omega
                  have Sk := SC.out ks (by omega)
                  have D1 := Lib.hid (fun Y : Ext X.1 => DS.out i hlt Y)
                  have D2 := Lib.hid (fun Y : Ext X.1 => DS.out ks (by omega) Y)
                  have HBT := Lib.hid (fun (hb : wS ks < wS i) => HS.out.take (sto_sl n wS) rfl (by simp [htk2]) (bsl_gt hb))
                  have HBF := Lib.hid (fun (hb : ¬ wS ks < wS i) => HS.out.stay (sto_sl n wS) rfl hlt (bsl_le hb hks))
                  obtain ⟨vi, hvi⟩ : ∃ x, wS i = x := ⟨_, rfl⟩
                  obtain ⟨vk, hvk⟩ : ∃ x, wS ks = x := ⟨_, rfl⟩
                  rw [hvi] at D1 HBT HBF
                  rw [hvk] at D2 HBT HBF
                  clear hvi hvk
                  by_cases hgt : vk < vi
                  · have c5 : decide (vk < vi) = true := by simpa using hgt
                    have HS2 : Hid (Sel.Best (Bsl wS) (fun j => !tk j) (i + 1) (i : Nat)) := Lib.hid (HBT.out hgt)
                    clear htk htk2 hs0 hgt HBT HBF
                    refine wp_region_ext (W := X.1) _ (by kernel_rfl) (by kernel_rfl) ?_
                    repeat go_big_quiet_step ((first | (go_at_call 43; with_reducible exact D1.out _) | (go_at_call 43; with_reducible exact D2.out _)))
                    refine wpQuiet_nil ?_
                    intro _ hw'
                    obtain ⟨Y1, rfl⟩ := hw'
                    go_wp2_with fail
                    go_meet
                    case rel => exact ⟨true, rfl, Lib.hid HS2.out, Y1, rfl⟩
                  · have c5 : decide (vk < vi) = false := by simpa using hgt
                    have HS2 : Hid (Sel.Best (Bsl wS) (fun j => !tk j) (i + 1) (ks : Nat)) := Lib.hid (HBF.out hgt)
                    clear htk htk2 hs0 hgt HBT HBF
                    refine wp_region_ext (W := X.1) _ (by kernel_rfl) (by kernel_rfl) ?_
                    repeat go_big_quiet_step ((first | (go_at_call 43; with_reducible exact D1.out _) | (go_at_call 43; with_reducible exact D2.out _)))
                    refine wpQuiet_nil ?_
                    intro _ hw'
                    obtain ⟨Y1, rfl⟩ := hw'
                    go_wp2_with fail
                    go_meet
                    case rel => exact ⟨false, rfl, Lib.hid HS2.out, Y1, rfl⟩
            case rest =>
            obtain ⟨cb, rfl, HS1, Y1, rfl⟩ := hcut
            go_upto_if 56 with (fail)
            go_cut [11] from 28 to 98 (fun sv wx => ∃ s2 : Int, sv = .int .i64 s2 ∧ Hid (Sel.Best (Bsl wS) (fun j => !tk j) (i + 1) s2) ∧ wx = Y1.1)
            case first =>
              cases cb
              · have HS2 : Hid (Sel.Best (Bsl wS) (fun j => !tk j) (i + 1) s) := Lib.hid HS1.out
                go_wp2_with fail
                go_meet
                case rel => exact ⟨s, rfl, HS2, rfl⟩
              · have HS2 : Hid (Sel.Best (Bsl wS) (fun j => !tk j) (i + 1) (i : Nat)) := Lib.hid HS1.out
                go_wp2_with fail
                go_meet
                case rel => exact ⟨(i : Nat), rfl, HS2, rfl⟩
            case rest =>
            obtain ⟨s2, rfl, HS2, rfl⟩ := hcut
            clear HS1 HS T8i
            have hmz : n - (i + 1) + (i + 1) = n := by omega
            by_cases hus : us i = true
            · rw [hus] at U9i
              have HP2 : Hid (Sel.Best (Bpr wP pn) (fun j => !us j) (i + 1) p) := Lib.hid (HP.out.skip (by simp [hus]))
              clear hus
              go_wp2_with fail
              go_roundg (n - (i + 1))
              case rel => exact ⟨s2, p, i + 1, rfl, rfl, int_eq (by omega), by omega, by omega, HS2, HP2, Y1, rfl⟩
              case measure => omega
            · have hus2 : us i = false := by simpa using hus
              rw [hus2] at U9i
              by_cases hp0 : p < 0
              · have d4 : decide (p < 0) = true := by simpa using hp0
                have HP2 : Hid (Sel.Best (Bpr wP pn) (fun j => !us j) (i + 1) (i : Nat)) := Lib.hid (HP.out.first hp0 (by simp [hus2]))
                clear hus hus2 hp0
                go_wp2_with fail
                go_roundg (n - (i + 1))
                case rel => exact ⟨s2, (i : Nat), i + 1, rfl, rfl, int_eq (by omega), by omega, by omega, HS2, HP2, Y1, rfl⟩
                case measure => omega
              · have d4 : decide (p < 0) = false := by simpa using hp0
                obtain ⟨kp, rfl, hkp, _⟩ := HP.out.some hp0
                have hkpi : (kp : Int) < (n : Int) := by omega
                have Pk := PC.out kp (by omega)
                have E1 := Lib.hid (fun Y : Ext X.1 => DW.out i Y)
                have E2 := Lib.hid (fun Y : Ext X.1 => DW.out kp Y)
                have HBT := Lib.hid (fun (hb : Bpr wP pn i kp = true) => HP.out.take (sto_pr HD.out) rfl (by simp [hus2]) hb)
                have HBF := Lib.hid (fun (hb : Bpr wP pn i kp = false) => HP.out.stay (sto_pr HD.out) rfl hlt hb)
                unfold Bpr befB strLt at HBT HBF
                obtain ⟨wi, hwi⟩ : ∃ x, wP i = x := ⟨_, rfl⟩
                obtain ⟨wk, hwk⟩ : ∃ x, wP kp = x := ⟨_, rfl⟩
                obtain ⟨pi, hpi⟩ : ∃ x, pn i = x := ⟨_, rfl⟩
                obtain ⟨pk, hpk⟩ : ∃ x, pn kp = x := ⟨_, rfl⟩
                rw [hwi, hwk, hpi, hpk] at HBT HBF
                rw [hwi, hpi] at E1
                rw [hwk, hpk] at E2
                rw [hpk] at Pk
                rw [hpi] at Pi
                obtain ⟨x1, hx1⟩ : ∃ x, (wearL g pi 0 86400000000 (evG g g.nu)).sec = x := ⟨_, rfl⟩
                obtain ⟨x2, hx2⟩ : ∃ x, (wearL g pi 0 86400000000 (evG g g.nu)).uses = x := ⟨_, rfl⟩
                obtain ⟨x3, hx3⟩ : ∃ x, (wearL g pk 0 86400000000 (evG g g.nu)).sec = x := ⟨_, rfl⟩
                obtain ⟨x4, hx4⟩ : ∃ x, (wearL g pk 0 86400000000 (evG g g.nu)).uses = x := ⟨_, rfl⟩
                rw [hx1, hx2] at E1
                rw [hx3, hx4] at E2
                clear hwi hwk hpi hpk hx1 hx2 hx3 hx4 hus hus2 hp0 HP
                go_upto_region 15 with (fail)
                go_cut [14, 15] from 28 to 98 (fun av bv wx => av = .int .i64 wi ∧ bv = .int .i64 wk ∧ ∃ Y2 : Ext X.1, wx = Y2.1)
                case first =>
                  clear HBT HBF
                  refine wp_region_ext (W := X.1) _ (by kernel_rfl) (by kernel_rfl) ?_
                  repeat go_big_quiet_step ((first | (go_at_call 44; with_reducible exact E1.out _) | (go_at_call 44; with_reducible exact E2.out _)))
                  refine wpQuiet_nil ?_
                  intro _ hw'
                  obtain ⟨Y2, rfl⟩ := hw'
                  go_wp2_with fail
                  go_meet
                  case rel => exact ⟨rfl, rfl, Y2, rfl⟩
                case rest =>
                obtain ⟨rfl, rfl, Y2, rfl⟩ := hcut
                clear E1 E2
                go_upto_region 16 with (fail)
                go_cut [97] from 28 to 98 (fun cv wx => ∃ cb : Bool, cv = .bool cb ∧ Hid (Sel.Best (Bpr wP pn) (fun j => !us j) (i + 1) (if cb = true then (i : Nat) else (kp : Nat))) ∧ ∃ Y3 : Ext X.1, wx = Y3.1)
                case first =>
                  by_cases d1 : wi < wk
                  · have g1 : decide (wi < wk) = true := by simpa using d1
                    have HP2 : Hid (Sel.Best (fun k j => Bpr wP pn k j) (fun j => !us j) (i + 1) (i : Nat)) := Lib.hid (HBT.out (by simp [d1]))
                    clear HBT HBF d1
                    refine wp_region_ext (W := X.1) _ (by kernel_rfl) (by kernel_rfl) ?_
                    repeat go_big_quiet_step (fail)
                    refine wpQuiet_nil ?_
                    intro _ hw'
                    obtain ⟨Y3, rfl⟩ := hw'
                    go_wp2_with fail
                    go_meet
                    case rel => exact ⟨true, rfl, Lib.hid HP2.out, Y3, rfl⟩
                  · have g1 : decide (wi < wk) = false := by simpa using d1
                    by_cases d2 : wi = wk
                    · have g2 : (wi == wk) = true := by simpa using d2
                      by_cases d3 : Op.bytesLess pi.toList pk.toList = true
                      · have HP2 : Hid (Sel.Best (fun k j => Bpr wP pn k j) (fun j => !us j) (i + 1) (i : Nat)) := Lib.hid (HBT.out (by simp [d2, d3]))
                        clear HBT HBF d1 d2
                        refine wp_region_ext (W := X.1) _ (by kernel_rfl) (by kernel_rfl) ?_
                        repeat go_big_quiet_step (fail)
                        refine wpQuiet_nil ?_
                        intro _ hw'
                        obtain ⟨Y3, rfl⟩ := hw'
                        go_wp2_with fail
                        go_meet
                        case rel => exact ⟨true, rfl, Lib.hid HP2.out, Y3, rfl⟩
                      · have d3f : Op.bytesLess pi.toList pk.toList = false := by simpa using d3
                        have HP2 : Hid (Sel.Best (fun k j => Bpr wP pn k j) (fun j => !us j) (i + 1) (kp : Nat)) := Lib.hid (HBF.out (by simp [d2, d3f]))
                        clear HBT HBF d1 d2 d3
                        refine wp_region_ext (W := X.1) _ (by kernel_rfl) (by kernel_rfl) ?_
                        repeat go_big_quiet_step (fail)
                        refine wpQuiet_nil ?_
                        intro _ hw'
                        obtain ⟨Y3, rfl⟩ := hw'
                        go_wp2_with fail
                        go_meet
                        case rel => exact ⟨false, rfl, Lib.hid HP2.out, Y3, rfl⟩
                    · have g2 : (wi == wk) = false := by simpa using d2
                      have HP2 : Hid (Sel.Best (fun k j => Bpr wP pn k j) (fun j => !us j) (i + 1) (kp : Nat)) := Lib.hid (HBF.out (by simp [d1, d2]))
                      clear HBT HBF d1 d2
                      refine wp_region_ext (W := X.1) _ (by kernel_rfl) (by kernel_rfl) ?_
                      repeat go_big_quiet_step (fail)
                      refine wpQuiet_nil ?_
                      intro _ hw'
                      obtain ⟨Y3, rfl⟩ := hw'
                      go_wp2_with fail
                      go_meet
                      case rel => exact ⟨false, rfl, Lib.hid HP2.out, Y3, rfl⟩
                case rest =>
                obtain ⟨cb, rfl, HP1, Y3, rfl⟩ := hcut
                clear HBT HBF
                cases cb
                · have HP2 : Hid (Sel.Best (Bpr wP pn) (fun j => !us j) (i + 1) (kp : Nat)) := Lib.hid HP1.out
                  go_wp2_with fail
                  go_roundg (n - (i + 1))
                  case rel => exact ⟨s2, (kp : Nat), i + 1, rfl, rfl, int_eq (by omega), by omega, by omega, HS2, HP2, Y3, rfl⟩
                  case measure => omega
                · have HP2 : Hid (Sel.Best (Bpr wP pn) (fun j => !us j) (i + 1) (i : Nat)) := Lib.hid HP1.out
                  go_wp2_with fail
                  go_roundg (n - (i + 1))
                  case rel => exact ⟨s2, (i : Nat), i + 1, rfl, rfl, int_eq (by omega), by omega, by omega, HS2, HP2, Y3, rfl⟩
                  case measure => omega
          · have c1 : decide ((i : Int) < (n : Int)) = false := by rw [decide_eq_false_iff_not]; omega
            have c1' : decide (i < n) = false := by simpa using hlt
            obtain rfl : i = n := by omega
            obtain ⟨ks, rfl, hks, htk⟩ := HRI.out.s.some hrn HS.out
            obtain ⟨kp, rfl, hkp, hus⟩ := HRI.out.p.some hrn HP.out
            have HRS := Lib.hid (HRI.out.s.step HS.out)
            have HRP := Lib.hid (HRI.out.p.step HP.out)
            have HO1 := Lib.hid (HRI.out.o.below Y.2)
            have HT1 := Lib.hid (HRI.out.t.below Y.2)
            have HU1 := Lib.hid (HRI.out.u.below Y.2)
            have c8 := HT1.out.cell hks
            have c9 := HU1.out.cell hkp
            have f8 := HT1.out.free ks
            have f9 := HU1.out.free kp
            have hksi : (ks : Int) < (i : Int) := by omega
            have hkpi : (kp : Int) < (i : Int) := by omega
            obtain ⟨W6, hW6⟩ : ∃ W, Y.1.setCell ⟨q8, ks, none⟩ (.bool true) = W := ⟨_, rfl⟩
            have hk6 : Kept (fun b => b = q8) Y.1 W6 := by rw [← hW6]; exact Kept.put rfl
            have HT6 := Lib.hid (show Part W6 q8 i i 4 (fun j => .bool (setT tk ks j)) from by
              rw [← hW6]
              refine (HT1.out.put hks _).congr fun j hj => ?_
              unfold setT
              by_cases e : j = ks
              · rw [if_pos e, if_pos e]
              · rw [if_neg e, if_neg e])
            have HU6 := Lib.hid (HU1.out.same (hk6.block q9 HU1.out.lt (fun e => hq89 e.symm)))
            have HO6 := Lib.hid (HO1.out.same (hk6.block Q HO1.out.lt (by omega)))
            have c9' := HU6.out.cell hkp
            have f9' := HU6.out.free kp
            obtain ⟨W7, hW7⟩ : ∃ W, W6.setCell ⟨q9, kp, none⟩ (.bool true) = W := ⟨_, rfl⟩
            have hk7 : Kept (fun b => b = q9) W6 W7 := by rw [← hW7]; exact Kept.put rfl
            have HU7 := Lib.hid (show Part W7 q9 i i 4 (fun j => .bool (setT us kp j)) from by
              rw [← hW7]
              refine (HU6.out.put hkp _).congr fun j hj => ?_
              unfold setT
              by_cases e : j = kp
              · rw [if_pos e, if_pos e]
              · rw [if_neg e, if_neg e])
            have HT7 := Lib.hid (HT6.out.same (hk7.block q8 HT6.out.lt hq89))
            have HO7 := Lib.hid (HO6.out.same (hk7.block Q HO6.out.lt (by omega)))
            have hkx : Kept (fun b => b = Q ∨ b = q8 ∨ b = q9) X.1 W7 := ((Kept.of_below Y.2).trans (hk6.weaken fun b e => Or.inr (Or.inl e))).trans (hk7.weaken fun b e => Or.inr (Or.inr e))
            obtain ⟨Z7, hZ7⟩ : ∃ Z : ExtO (fun b => b = Q ∨ b = q8 ∨ b = q9) wc, W7 = Z.1 := ⟨⟨W7, X.2.trans hkx⟩, rfl⟩
            rw [hZ7] at HU7 HT7 HO7 hW7
            have P7 := PK.out kp hkp Z7
            have fQ := HO7.out.free ks
            have cQ := HO7.out.cell hks
            obtain ⟨W8, hW8⟩ : ∃ W, Z7.1.setCell ⟨Q, ks, none⟩ (.string (pn kp)) = W := ⟨_, rfl⟩
            have hk8 : Kept (fun b => b = Q) Z7.1 W8 := by rw [← hW8]; exact Kept.put rfl
            have HO8 := Lib.hid (show Part W8 Q i i 9 (fun j => .string ((fun j => if j = ks then pn kp else out j) j)) from by
              rw [← hW8]
              refine (HO7.out.put hks _).congr fun j hj => ?_
              by_cases e : j = ks
              · simp only [if_pos e]
              · simp only [if_neg e])
            have HT8 := Lib.hid (HT7.out.same (hk8.block q8 HT7.out.lt (by omega)))
            have HU8 := Lib.hid (HU7.out.same (hk8.block q9 HU7.out.lt (by omega)))
            obtain ⟨Z8, hZ8⟩ : ∃ Z : ExtO (fun b => b = Q ∨ b = q8 ∨ b = q9) wc, W8 = Z.1 := ⟨⟨W8, Z7.2.trans (hk8.weaken fun b e => Or.inl e)⟩, rfl⟩
            rw [hZ8] at HO8 HT8 HU8 hW8
            have HRW : Hid (∀ m, m < r + 1 → (fun j => if j = ks then pn kp else out j) (setB bs r ks m) = pn (setB bp r kp m)) := Lib.hid (fun m hm => by
              unfold setB
              by_cases e : m = r
              · simp only [if_pos e, if_true]
              · simp only [if_neg e]
                have hm2 : m < r := by omega
                rw [if_neg (fun e2 => by
                  have := (HRI.out.s.iff ks hks).2 ⟨m, hm2, e2⟩
                  rw [htk] at this
                  cases this)]
                exact HRI.out.w m hm2)
            have HN8 : Hid (RwI i wS wP pn Q q8 q9 (r + 1) Z8.1 (setB bs r ks) (setB bp r kp) (setT tk ks) (setT us kp) (fun j => if j = ks then pn kp else out j)) := Lib.hid ⟨HO8.out, HT8.out, HU8.out, HRS.out, HRP.out, HRW.out⟩
            clear hk6 hk7 hk8 hkx htk hus hlt c1 c1' T8 U9 SC PC DS DW
            go_upto_region 19 with (fail)
            try rw [hW6, hW7]
            clear c8 c9 f8 f9 c9' f9' hW6 hW7
            go_upto_region 20 with (fail)
            try rw [hW8]
            go_wp2_with fail
            go_roundw
            case rel => exact ⟨r + 1, by go_num, by omega, Lib.hid ⟨_, _, _, _, _, Z8, rfl, HN8.out⟩⟩
            case measure => simp [intOf]; omega
      · have b1 : decide ((r : Int) < (n : Int)) = false := by rw [decide_eq_false_iff_not]; omega
        have b1' : decide (r < n) = false := by simpa using hrn
        obtain rfl : r = n := by omega
        obtain ⟨tt, htt⟩ := ords_of HD.out HRI.out.s HRI.out.p
        have HEND : Hid (RwtR r wS wP pn w Q X.1) := Lib.hid ⟨by omega, HDN.out X, out, tt, bs, bp, HRI.out.o, htt, HRI.out.w⟩
        clear htt hrn
        go_wp2_with fail
        go_ret
        exact ⟨_, rfl, HEND.out⟩
end Go.Proofs.YtbkpoepacjinlaaGreat

/- Gear: the small garage of the laws. -/
namespace Go.Proofs.YtbkpoepacjinlaaGreat
open Go.RowKit Go.BigFrame
open Gar (chk)

def bs (l : List UInt8) : ByteArray := ⟨l.toArray⟩
/-- the small garage -/
def smallG : Gar where
  np := 2
  ns := 1
  nm := 2
  nu := 1
  pn i := if i = 0 then bs [99, 49] else bs [99, 50]
  pc i := if i = 0 then 100 else 0
  sn _ := bs [99, 104, 97, 105, 110]
  sr _ := bs [98, 105, 107, 101]
  ms _ := bs [99, 104, 97, 105, 110]
  mp i := if i = 0 then bs [99, 49] else bs [99, 50]
  mf i := if i = 0 then 0 else 1000
  mt i := if i = 0 then 1000 else -1
  un _ := bs [117]
  ur _ := bs [98, 105, 107, 101]
  uf _ := 900
  us _ := 200
  uw _ := 1001
set_option maxHeartbeats 2000000 in
set_option maxRecDepth 100000 in
theorem small_any (w : World) : Calls Tryz.prog 19 #[] w fun e w' => ∃ a0 a1 a2 a3 c0 c1 c2 c3, e = .returned (garV smallG a0 a1 a2 a3 c0 c1 c2 c3) ∧ GarIn w' smallG a0 a1 a2 a3 ∧ Below w.heap.size w w' := by
  obtain ⟨V0, h0, b0, s0, q0⟩ := alloc_block w #[.slice (some ⟨w.heap.size + 1, 0, none⟩) 2 2, .slice (some ⟨w.heap.size + 1 + 1, 0, none⟩) 1 1, .slice (some ⟨w.heap.size + 1 + 1 + 1, 0, none⟩) 2 2, .slice (some ⟨w.heap.size + 1 + 1 + 1 + 1, 0, none⟩) 1 1] 27
  obtain ⟨V1, h1, b1, s1, q1⟩ := alloc_block V0 #[.string ⟨#[99, 49]⟩, .int .i64 100, .string ⟨#[99, 50]⟩, .int .i64 0] 56
  obtain ⟨V2, h2, b2, s2, q2⟩ := alloc_block V1 #[.string ⟨#[99, 104, 97, 105, 110]⟩, .string ⟨#[98, 105, 107, 101]⟩] 59
  obtain ⟨V3, h3, b3, s3, q3⟩ := alloc_block V2 #[.string ⟨#[99, 104, 97, 105, 110]⟩, .string ⟨#[99, 49]⟩, .int .i64 0, .int .i64 1000, .string ⟨#[99, 104, 97, 105, 110]⟩, .string ⟨#[99, 50]⟩, .int .i64 1000, .int .i64 (-1)] 78
  obtain ⟨V4, h4, b4, s4, q4⟩ := alloc_block V3 #[.string ⟨#[117]⟩, .string ⟨#[98, 105, 107, 101]⟩, .int .i64 900, .int .i64 200, .int .i64 1001] 62
  have HE : Hid (((((w.alloc (.cells #[.slice (some ⟨w.heap.size + 1, 0, none⟩) 2 2, .slice (some ⟨w.heap.size + 1 + 1, 0, none⟩) 1 1, .slice (some ⟨w.heap.size + 1 + 1 + 1, 0, none⟩) 2 2, .slice (some ⟨w.heap.size + 1 + 1 + 1 + 1, 0, none⟩) 1 1] 27)).alloc (.cells #[.string ⟨#[99, 49]⟩, .int .i64 100, .string ⟨#[99, 50]⟩, .int .i64 0] 56)).alloc (.cells #[.string ⟨#[99, 104, 97, 105, 110]⟩, .string ⟨#[98, 105, 107, 101]⟩] 59)).alloc (.cells #[.string ⟨#[99, 104, 97, 105, 110]⟩, .string ⟨#[99, 49]⟩, .int .i64 0, .int .i64 1000, .string ⟨#[99, 104, 97, 105, 110]⟩, .string ⟨#[99, 50]⟩, .int .i64 1000, .int .i64 (-1)] 78)).alloc (.cells #[.string ⟨#[117]⟩, .string ⟨#[98, 105, 107, 101]⟩, .int .i64 900, .int .i64 200, .int .i64 1001] 62) = V4) := Lib.hid (by rw [h0, h1, h2, h3, h4])
  have r0 := below_block b4 (below_block b3 (below_block b2 (below_block b1 q0)))
  have r1 := below_block b4 (below_block b3 (below_block b2 q1))
  have r2 := below_block b4 (below_block b3 q2)
  have r3 := below_block b4 q3
  rw [s0] at r1 s1
  rw [s1] at r2 s2
  rw [s2] at r3 s3
  rw [s3] at q4 s4
  have hb : Below w.heap.size w V4 := b0.trans ((b1.mono (by omega)).trans ((b2.mono (by omega)).trans ((b3.mono (by omega)).trans (b4.mono (by omega)))))
  have g0 : V4.cell? ⟨w.heap.size, 0, none⟩ = some (.slice (some ⟨w.heap.size + 1, 0, none⟩) 2 2) := block_cell r0 rfl
  have g1 : V4.cell? ⟨w.heap.size, 1, none⟩ = some (.slice (some ⟨w.heap.size + 1 + 1, 0, none⟩) 1 1) := block_cell r0 rfl
  have g2 : V4.cell? ⟨w.heap.size, 2, none⟩ = some (.slice (some ⟨w.heap.size + 1 + 1 + 1, 0, none⟩) 2 2) := block_cell r0 rfl
  have g3 : V4.cell? ⟨w.heap.size, 3, none⟩ = some (.slice (some ⟨w.heap.size + 1 + 1 + 1 + 1, 0, none⟩) 1 1) := block_cell r0 rfl
  have HGI : Hid (GarIn V4 smallG (some ⟨w.heap.size + 1, 0, none⟩) (some ⟨w.heap.size + 1 + 1, 0, none⟩) (some ⟨w.heap.size + 1 + 1 + 1, 0, none⟩) (some ⟨w.heap.size + 1 + 1 + 1 + 1, 0, none⟩)) := Lib.hid
    ⟨⟨fun _ => ⟨_, 0, rfl, lt_of_block r1, fun i hi j hj => by
        have hi : i < 2 := hi
        match i, hi, j, hj with
        | 0, _, 0, _ => exact block_cell r1 rfl
        | 0, _, 1, _ => exact block_cell r1 rfl
        | 1, _, 0, _ => exact block_cell r1 rfl
        | 1, _, 1, _ => exact block_cell r1 rfl⟩⟩,
     ⟨fun _ => ⟨_, 0, rfl, lt_of_block r2, fun i hi j hj => by
        have hi : i < 1 := hi
        match i, hi, j, hj with
        | 0, _, 0, _ => exact block_cell r2 rfl
        | 0, _, 1, _ => exact block_cell r2 rfl⟩⟩,
     ⟨fun _ => ⟨_, 0, rfl, lt_of_block r3, fun i hi j hj => by
        have hi : i < 2 := hi
        match i, hi, j, hj with
        | 0, _, 0, _ => exact block_cell r3 rfl
        | 0, _, 1, _ => exact block_cell r3 rfl
        | 0, _, 2, _ => exact block_cell r3 rfl
        | 0, _, 3, _ => exact block_cell r3 rfl
        | 1, _, 0, _ => exact block_cell r3 rfl
        | 1, _, 1, _ => exact block_cell r3 rfl
        | 1, _, 2, _ => exact block_cell r3 rfl
        | 1, _, 3, _ => exact block_cell r3 rfl⟩⟩,
     ⟨fun _ => ⟨_, 0, rfl, lt_of_block q4, fun i hi j hj => by
        have hi : i < 1 := hi
        match i, hi, j, hj with
        | 0, _, 0, _ => exact block_cell q4 rfl
        | 0, _, 1, _ => exact block_cell q4 rfl
        | 0, _, 2, _ => exact block_cell q4 rfl
        | 0, _, 3, _ => exact block_cell q4 rfl
        | 0, _, 4, _ => exact block_cell q4 rfl⟩⟩,
     fun i _ => by show (if i = 0 then bs [99, 49] else bs [99, 50]).size ≤ maxLen; split <;> decide, fun _ _ => by show (bs [99, 104, 97, 105, 110]).size ≤ maxLen ∧ (bs [98, 105, 107, 101]).size ≤ maxLen; decide, fun i _ => ⟨by show (bs [99, 104, 97, 105, 110]).size ≤ maxLen; decide, by show (if i = 0 then bs [99, 49] else bs [99, 50]).size ≤ maxLen; split <;> decide⟩, fun _ _ => by show (bs [117]).size ≤ maxLen ∧ (bs [98, 105, 107, 101]).size ≤ maxLen; decide, by decide, by decide, by decide, by decide⟩
  have HB := Lib.hid hb
  clear hb h0 h1 h2 h3 h4 b0 b1 b2 b3 b4 s0 s1 s2 s3 s4 q0 q1 q2 q3 q4 r0 r1 r2 r3
  go_enter Tryz.func19, Tryz.ntmps19
  go_wp2_with fail
  rw [HE.out]
  exact bodyPost_ret (v := .agg #[.slice (some ⟨w.heap.size + 1, 0, none⟩) 2 2, .slice (some ⟨w.heap.size + 1 + 1, 0, none⟩) 1 1, .slice (some ⟨w.heap.size + 1 + 1 + 1, 0, none⟩) 2 2, .slice (some ⟨w.heap.size + 1 + 1 + 1 + 1, 0, none⟩) 1 1]) (by simp [results, Tryz.results19, go_sem, g0, g1, g2, g3]) rfl ⟨_, _, _, _, 2, 1, 2, 1, rfl, HGI.out, HB.out⟩
end Go.Proofs.YtbkpoepacjinlaaGreat

/- Gear: two rows of pieces are equal (the library's Equal at pieces). -/
namespace Go.Proofs.YtbkpoepacjinlaaGreat
open Go.RowKit Go.BigFrame

/-- a row of pieces, as functions -/
structure PRow where
  n : Nat
  u : Nat → ByteArray
  s : Nat → ByteArray
  p : Nat → ByteArray
  c : Nat → Int
  y : Nat → Int
def PRow.cells (r : PRow) (i : Nat) : List Value := [.string (r.u i), .string (r.s i), .string (r.p i), .int .i64 (r.c i), .int .i64 (r.y i)]
def PRow.eqAt (r q : PRow) (i : Nat) : Bool := decide (r.u i = q.u i) && decide (r.s i = q.s i) && decide (r.p i = q.p i) && decide (r.c i = q.c i) && decide (r.y i = q.y i)
def PRow.eq (r q : PRow) : Bool := decide (r.n = q.n) && (List.range r.n).all fun i => r.eqAt q i
set_option maxHeartbeats 2000000 in
theorem eqPiece (a b c a' b' c' : ByteArray) (d e d' e' : Int) (w : World) :
    (Op.equalIn 10000 54 (.agg #[.string a, .string b, .string c, .int .i64 d, .int .i64 e]) (.agg #[.string a', .string b', .string c', .int .i64 d', .int .i64 e'])).run Tryz.prog w = .ok (decide (a = a') && decide (b = b') && decide (c = c') && decide (d = d') && decide (e = e')) w := by
  have u3 := Tryz.underlying3
  have a3 := Tryz.isAgg3
  have z3 := Tryz.sizeOf3
  have u9 := Tryz.underlying9
  have a9 := Tryz.isAgg9
  have z9 := Tryz.sizeOf9
  have hS : Tryz.prog.underlying 54 = some (.struct (Tryz.prog.fieldsOf 54)) := by kernel_rfl
  have hp : Tryz.prog.stoodInHeld 54 = false := by kernel_rfl
  have h1 := str_eq a a'
  have h2 := str_eq b b'
  have h3 := str_eq c c'
  rw [show (10000 : Nat) = 9999 + 1 from rfl, run_equalIn_agg w 9999 54 _ _ hS hp]
  simp only [Program.fieldsOf, Tryz.underlying54]
  generalize decide (a = a') = b1 at h1 ⊢
  generalize decide (b = b') = b2 at h2 ⊢
  generalize decide (c = c') = b3 at h3 ⊢
  have h4 : (d == d') = decide (d = d') := rfl
  have h5 : (e == e') = decide (e = e') := rfl
  generalize decide (d = d') = b4 at h4 ⊢
  generalize decide (e = e') = b5 at h5 ⊢
  cases b1 <;> cases b2 <;> cases b3 <;> cases b4 <;> cases b5 <;> go_simp
set_option maxHeartbeats 2000000 in
set_option maxRecDepth 100000 in
theorem equalP_any (r q : PRow) (a b : Option Addr) (c d : Nat) (w : World) (hr : RowK w a r.n 5 r.cells) (hq : RowK w b q.n 5 q.cells) (hl : (r.n : Int) ≤ 9223372036854775807) (hl' : (q.n : Int) ≤ 9223372036854775807) :
    Calls Tryz.prog 20 #[.slice a r.n c, .slice b q.n d] w fun e w' => e = .returned (.bool (r.eq q)) ∧ ∃ m, w' = w.drewN m := by
  by_cases hn : r.n = q.n
  · have hneq : ((r.n : Int) != (q.n : Int)) = false := by rw [hn]; simp
    have HR := Lib.hid hr
    have HQ := Lib.hid hq
    have HN := Lib.hid hn
    clear hr hq hn
    go_enter Tryz.func20, Tryz.ntmps20
    go_wp2_with fail
    go_loopw [13] (fun iv wr => ∃ (k : Nat), iv = .int .i64 k ∧ k ≤ r.n ∧ (∃ m, wr = w.drewN m) ∧ Hid (∀ i, i < k → r.eqAt q i = true)) (fun iv _ => r.n - (intOf iv).toNat)
    case atStart => exact ⟨0, rfl, by omega, ⟨0, rfl⟩, Lib.hid (fun i hi => by omega)⟩
    case round =>
      obtain ⟨k, rfl, hk, ⟨m, rfl⟩, HE⟩ := hrel
      by_cases hlt : k < r.n
      · have t1 : decide ((k : Int) < (r.n : Int)) = true := by rw [decide_eq_true_eq]; omega
        have t1' : decide (k < r.n) = true := by simpa using hlt
        have hkq : k < q.n := by have := HN.out; omega
        have t2 : (k : Int) < (q.n : Int) := by omega
        obtain ⟨b1, o1, rfl, hb1, hc1⟩ := HR.out.here (by omega)
        obtain ⟨b2, o2, rfl, hb2, hc2⟩ := HQ.out.here (by omega)
        have e0 : w.cell? ⟨b1, o1 + k * 5, none⟩ = some (.string (r.u k)) := hc1 k hlt 0 (by omega)
        have e1 : w.cell? ⟨b1, o1 + k * 5 + 1, none⟩ = some (.string (r.s k)) := hc1 k hlt 1 (by omega)
        have e2 : w.cell? ⟨b1, o1 + k * 5 + 2, none⟩ = some (.string (r.p k)) := hc1 k hlt 2 (by omega)
        have e3 : w.cell? ⟨b1, o1 + k * 5 + 3, none⟩ = some (.int .i64 (r.c k)) := hc1 k hlt 3 (by omega)
        have e4 : w.cell? ⟨b1, o1 + k * 5 + 4, none⟩ = some (.int .i64 (r.y k)) := hc1 k hlt 4 (by omega)
        have f0 : w.cell? ⟨b2, o2 + k * 5, none⟩ = some (.string (q.u k)) := hc2 k hkq 0 (by omega)
        have f1 : w.cell? ⟨b2, o2 + k * 5 + 1, none⟩ = some (.string (q.s k)) := hc2 k hkq 1 (by omega)
        have f2 : w.cell? ⟨b2, o2 + k * 5 + 2, none⟩ = some (.string (q.p k)) := hc2 k hkq 2 (by omega)
        have f3 : w.cell? ⟨b2, o2 + k * 5 + 3, none⟩ = some (.int .i64 (q.c k)) := hc2 k hkq 3 (by omega)
        have f4 : w.cell? ⟨b2, o2 + k * 5 + 4, none⟩ = some (.int .i64 (q.y k)) := hc2 k hkq 4 (by omega)
        clear hc1 hc2
        have hgd : Tryz.prog.eqGuardType Tryz.prog.depth 54 = false := by kernel_rfl
        have hq : ∀ W, (Op.equalIn 10000 54 (.agg #[.string (r.u k), .string (r.s k), .string (r.p k), .int .i64 (r.c k), .int .i64 (r.y k)]) (.agg #[.string (q.u k), .string (q.s k), .string (q.p k), .int .i64 (q.c k), .int .i64 (q.y k)])).run Tryz.prog W = .ok (r.eqAt q k) W := fun W => eqPiece _ _ _ _ _ _ _ _ _ _ W
        cases hb : r.eqAt q k
        · rw [hb] at hq
          have HF : Hid (r.eq q = false) := Lib.hid (by
            unfold PRow.eq
            rw [Bool.and_eq_false_iff]
            exact Or.inr (by rw [List.all_eq_false]; exact ⟨k, List.mem_range.2 hlt, by rw [hb]; simp⟩))
          clear hb
          go_wp2_with fail
          go_quiet (fail)
          go_wp2_with fail
          go_ret
          exact ⟨ret_bool HF.out.symm, m + nq, by rw [World.drewN_drewN]⟩
        · rw [hb] at hq
          have HE2 : Hid (∀ i, i < k + 1 → r.eqAt q i = true) := Lib.hid (fun i hi => by
            by_cases e : i = k
            · subst e; exact hb
            · exact HE.out i (by omega))
          clear hb
          go_wp2_with fail
          go_quiet (fail)
          go_wp2_with fail
          go_roundw
          case rel => exact ⟨k + 1, by go_num, by omega, ⟨_, rfl⟩, HE2⟩
          case measure => simp [intOf]; omega
      · have t1 : decide ((k : Int) < (r.n : Int)) = false := by rw [decide_eq_false_iff_not]; omega
        have t1' : decide (k < r.n) = false := by simpa using hlt
        have HF : Hid (r.eq q = true) := Lib.hid (by
          unfold PRow.eq
          rw [Bool.and_eq_true, decide_eq_true_eq, List.all_eq_true]
          exact ⟨HN.out, fun i hi => HE.out i (by have := List.mem_range.1 hi; omega)⟩)
        clear hlt
        go_wp2_with fail
        go_ret
        exact ⟨ret_bool HF.out.symm, _, rfl⟩
  · have hneq : ((r.n : Int) != (q.n : Int)) = true := by rw [bne_iff_ne]; omega
    go_enter Tryz.func20, Tryz.ntmps20
    go_wp2_with fail
    go_ret
    exact ⟨ret_bool (by unfold PRow.eq; simp [hn]), 0, rfl⟩
end Go.Proofs.YtbkpoepacjinlaaGreat

/- Gear: the small garage has the pieces that are told. -/
namespace Go.Proofs.YtbkpoepacjinlaaGreat
open Go.RowKit Go.BigFrame
open Gar (chk)

theorem small_chk : chk smallG = 0 := by kernel_rfl
def smallL : List Pcs.Pc := [(bs [99, 49], 100), (bs [99, 50], 100)]
theorem small_pcs : pcsOf smallG 0 0 = smallL := by kernel_rfl
theorem small_ord : ordL (Shr.rst 1001 200 (secW smallL)) 2 = [0, 1] := by
  refine Shr.IsOrd.unique (ordL_ord _ _) ⟨List.Perm.refl _, ?_⟩
  refine List.Pairwise.cons (fun b hb => ?_) (List.Pairwise.cons (fun b hb => by simp at hb) List.Pairwise.nil)
  simp only [List.mem_singleton] at hb
  subst hb
  exact Or.inr ⟨by kernel_rfl, by decide⟩
theorem small_way (i : Nat) (h : i = 0 ∨ i = 1) : wayG 1001 200 (secW smallL) 2 i = if i = 0 then 501 else 500 := by
  unfold wayG
  rw [small_ord]
  rcases h with rfl | rfl
  · kernel_rfl
  · kernel_rfl
theorem small_evs : evG smallG smallG.nu = [⟨0, bs [99, 104, 97, 105, 110], bs [99, 49], 100, 501⟩, ⟨0, bs [99, 104, 97, 105, 110], bs [99, 50], 100, 500⟩] := by
  show evG smallG 1 = _
  rw [evG, evG, List.nil_append]
  show evS smallG 0 1 = _
  rw [evS, evS, List.nil_append, if_pos (by rfl), small_pcs]
  show evQ smallG 0 0 2 = _
  rw [evQ, evQ, evQ]
  simp only [List.nil_append, List.singleton_append, evP, small_pcs]
  have h0 := small_way 0 (Or.inl rfl)
  have h1 := small_way 1 (Or.inr rfl)
  rw [show wayG (smallG.uw 0) (smallG.us 0) (secW smallL) smallL.length 0 = 501 from h0, show wayG (smallG.uw 0) (smallG.us 0) (secW smallL) smallL.length 1 = 500 from h1]
  rfl
def smallR : PRow where
  n := 2
  u _ := bs [117]
  s _ := bs [99, 104, 97, 105, 110]
  p i := if i = 0 then bs [99, 49] else bs [99, 50]
  c _ := 100
  y i := if i = 0 then 501 else 500
theorem small_cells : evCs smallG (evG smallG smallG.nu) = [.string (bs [117]), .string (bs [99, 104, 97, 105, 110]), .string (bs [99, 49]), .int .i64 100, .int .i64 501, .string (bs [117]), .string (bs [99, 104, 97, 105, 110]), .string (bs [99, 50]), .int .i64 100, .int .i64 500] := by
  rw [small_evs]
  rfl
theorem smallR_row {w : World} {g : Nat} (h : ∀ j u, ([.string (bs [117]), .string (bs [99, 104, 97, 105, 110]), .string (bs [99, 49]), .int .i64 100, .int .i64 501, .string (bs [117]), .string (bs [99, 104, 97, 105, 110]), .string (bs [99, 50]), .int .i64 100, .int .i64 500] : List Value)[j]? = some u → w.cell? ⟨g, j, none⟩ = some u) (hl : g < w.heap.size) : RowK w (some ⟨g, 0, none⟩) smallR.n 5 smallR.cells :=
  ⟨fun _ => ⟨g, 0, rfl, hl, fun i hi j hj => by
    have hi : i < 2 := hi
    match i, hi, j, hj with
    | 0, _, 0, _ => exact h 0 _ rfl
    | 0, _, 1, _ => exact h 1 _ rfl
    | 0, _, 2, _ => exact h 2 _ rfl
    | 0, _, 3, _ => exact h 3 _ rfl
    | 0, _, 4, _ => exact h 4 _ rfl
    | 1, _, 0, _ => exact h 5 _ rfl
    | 1, _, 1, _ => exact h 6 _ rfl
    | 1, _, 2, _ => exact h 7 _ rfl
    | 1, _, 3, _ => exact h 8 _ rfl
    | 1, _, 4, _ => exact h 9 _ rfl⟩⟩
theorem smallR_eq : smallR.eq smallR = true := by kernel_rfl
set_option maxHeartbeats 2000000 in
set_option maxRecDepth 100000 in
theorem told_any (w : World) : Calls Tryz.prog 7 #[] w fun e w' => e = .returned (.bool true) ∧ Below w.heap.size w w' := by
  have HS := Lib.hid (small_any w)
  go_enter Tryz.func7, Tryz.ntmps7
  go_wp2_with fail
  refine HS.out.mono ?_
  rintro e w1 ⟨a0, a1, a2, a3, c0, c1, c2, c3, rfl, hg, hb⟩
  have HP := Lib.hid (gPieces_any smallG a0 a1 a2 a3 c0 c1 c2 c3 w1 hg)
  have HB := Lib.hid hb
  clear hg hb HS
  unfold garV at HP ⊢
  go_wp2_with fail
  refine HP.out.mono ?_
  rintro e w2 ⟨hb2, hcase⟩
  have HB2 := Lib.hid (HB.out.trans (hb2.mono HB.out.size))
  clear hb2
  rcases hcase with ⟨hne, _⟩ | ⟨_, v, base, hbase, rfl, hown⟩
  · exact absurd small_chk hne
  rw [small_cells, show (evG smallG smallG.nu).length = 2 by rw [small_evs]; rfl] at hown
  obtain ⟨g, cap, rfl, hg1, hg2⟩ := hown.form (by omega)
  have HR : Hid (RowK w2 (some ⟨g, 0, none⟩) smallR.n 5 smallR.cells) := Lib.hid (smallR_row (fun j u hu => by
    have := hown.cells (g := g) rfl j u hu
    rwa [addr_add0] at this) hg2)
  clear hown
  obtain ⟨W, hW, hbW, hsW, hqW⟩ := alloc_block w2 #[.string ⟨#[117]⟩, .string ⟨#[99, 104, 97, 105, 110]⟩, .string ⟨#[99, 49]⟩, .int .i64 100, .int .i64 501, .string ⟨#[117]⟩, .string ⟨#[99, 104, 97, 105, 110]⟩, .string ⟨#[99, 50]⟩, .int .i64 100, .int .i64 500] 54
  have HE := Lib.hid (equalP_any smallR smallR (some ⟨g, 0, none⟩) (some ⟨w2.heap.size, 0, none⟩) cap 2 W (HR.out.below hbW (Nat.le_refl _)) (smallR_row (fun j u hu => block_cell hqW (by rw [← Array.getElem?_toList]; exact hu)) (by omega)) (by decide) (by decide))
  rw [smallR_eq] at HE
  have HW := Lib.hid hW
  have HBW := Lib.hid (HB2.out.trans (hbW.mono HB2.out.size))
  clear hW hbW hsW hqW
  go_wp2_with fail
  rw [HW.out]
  refine HE.out.mono ?_
  rintro e w3 ⟨rfl, m, rfl⟩
  go_wp2_with fail
  go_ret
  exact ⟨rfl, below_drewN HBW.out m⟩
end Go.Proofs.YtbkpoepacjinlaaGreat

/- The law GearPiecesFollowMounts: its walk. -/
namespace Go.Proofs.YtbkpoepacjinlaaGreat
open Go.RowKit Go.BigFrame
open Gar (chk)

theorem Ext.up {W V : World} (h : Below W.heap.size W V) (Y : Ext V) : ∃ X : Ext W, Y.1 = X.1 := ⟨⟨Y.1, h.trans (Y.2.mono h.size)⟩, rfl⟩
end Go.Proofs.YtbkpoepacjinlaaGreat

/- Gear: the law GearSwapsMakeEven: what it sums up and what it follows, in memory. -/
namespace Go.Proofs.YtbkpoepacjinlaaGreat
open Go.RowKit Go.BigFrame
open Gar (chk hasS)

/-- maps of strings -/
def strR : Value → Option (DataW Unit × List MemPlace)
  | .string s => some (.lit (.string s.data.toList), [])
  | _ => none
theorem strR_inv : ∀ v x ps, strR v = some (.lit (.string (x : ByteArray).data.toList), ps) → v = .string x := by
  intro v x ps h
  cases v <;> simp [strR] at h
  rename_i s
  have : s.data = x.data := h.1
  rw [show s = x by cases s; cases x; simpa using this]
/-- the three maps of the law -/
structure Maps3 (w : World) (bS bP bI n m : Nat) (fS fP : ByteArray → Int) (fI : ByteArray → ByteArray) : Prop where
  s : StrMap w Tryz.prog 9 intR bS n (fun x : Int => .lit (.int .i64 x)) (.lit (.int .i64 0)) fS
  p : StrMap w Tryz.prog 9 intR bP n (fun x : Int => .lit (.int .i64 x)) (.lit (.int .i64 0)) fP
  i : StrMap w Tryz.prog 9 strR bI m (fun x : ByteArray => .lit (.string x.data.toList)) (.lit (.string [])) fI
theorem Maps3.below {w w' : World} {bS bP bI n m : Nat} {fS fP : ByteArray → Int} {fI : ByteArray → ByteArray} (h : Maps3 w bS bP bI n m fS fP fI) (hb : Below w.heap.size w w') : Maps3 w' bS bP bI n m fS fP fI :=
  ⟨h.s.kept (grown_of_below hb) (by simp), h.p.kept (grown_of_below hb) (by simp), h.i.kept (grown_of_below hb) (by simp)⟩
theorem three_maps (W : World) : ∃ V, ((W.alloc (.map #[] 0)).alloc (.map #[] 0)).alloc (.map #[] 0) = V ∧ Below W.heap.size W V ∧ V.heap.size = W.heap.size + 3 ∧ Maps3 V W.heap.size (W.heap.size + 1) (W.heap.size + 1 + 1) 0 0 (fun _ => 0) (fun _ => 0) (fun _ => ⟨#[]⟩) := by
  obtain ⟨V, hV, hb, hs, m1, m2⟩ := two_maps W Tryz.prog 9 intR (fun x : Int => .lit (.int .i64 x)) (.lit (.int .i64 0)) (fun _ => 0) (fun _ => rfl)
  rw [hV]
  have m3 := StrMap.made V Tryz.prog 9 strR (dat := fun x : ByteArray => .lit (.string x.data.toList)) (zd := .lit (.string [])) (f := fun _ => ⟨#[]⟩) (fun _ => rfl)
  rw [show V.heap.size = W.heap.size + 1 + 1 by omega] at m3
  refine ⟨_, rfl, below_step hb (below_al V _), by rw [World.size_alloc, hs], ⟨m1.kept (World.grownBy_alloc _ _ none) (by simp), m2.kept (World.grownBy_alloc _ _ none) (by simp), m3⟩⟩
/-- the row of the swaps, as it is read -/
theorem pairRow {W : World} {base : Nat} {T : TypeId} {v : Value} {sl : Nat → ByteArray} {ps : List (Nat × Nat)} (hr : W.ownsRow base T 2 v ps.length (pairCs sl ps)) :
    ∃ (am : Option Addr) (cm : Nat), v = .slice am ps.length cm ∧ RowK W am ps.length 2 (fun q => [.string (sl (ps.getD q (0, 0)).1), .string (sl (ps.getD q (0, 0)).2)]) := by
  rcases hr.2 with ⟨e, hn⟩ | ⟨q, cap, cur, e, _, h3, _⟩
  · exact ⟨none, 0, by rw [e, hn], ⟨fun h => by omega⟩⟩
  · refine ⟨some ⟨q, 0, none⟩, cap, e, ⟨fun hl => ⟨q, 0, rfl, lt_of_block h3, fun i hi j hj => ?_⟩⟩⟩
    have hc := flatN (f := fun x : Nat × Nat => [Value.string (sl x.1), .string (sl x.2)]) (m := 2) (0, 0) (fun q => rfl) ps i j hi hj
    have hv : ∃ v, ([Value.string (sl (ps.getD i (0, 0)).1), .string (sl (ps.getD i (0, 0)).2)])[j]? = some v := ⟨_, List.getElem?_eq_getElem (by simpa using hj)⟩
    obtain ⟨v, hv⟩ := hv
    have h6 := hr.cells (g := q) (by rw [e]; rfl) (i * 2 + j) v (hc.trans hv)
    rw [addr_add0] at h6
    rw [Nat.zero_add, hv]
    exact h6
/-- the slots are distinct -/
theorem swL_zero {g : Gar} {sl : Nat → ByteArray} : ∀ (n k : Nat), swL g sl n k = 0 → ∀ i, k ≤ i → i < k + n → swStep g sl i = 0
  | 0, k, _, i, h1, h2 => by omega
  | n + 1, k, h, i, h1, h2 => by
    rw [swL] at h
    split at h
    · rename_i h3
      exact absurd h h3
    · rename_i h3
      by_cases e : i = k
      · subst e
        simpa using h3
      · exact swL_zero n (k + 1) h i (by omega) (by omega)
theorem sw_step {g : Gar} {sl : Nat → ByteArray} {k : Nat} (h : swStep g sl k = 0) : hasS g (sl k) = true ∧ (∀ j, j < k → sl j ≠ sl k) ∧ partF g sl k ≠ ⟨#[]⟩ := by
  unfold swStep at h
  split at h
  · omega
  · rename_i h1
    split at h
    · omega
    · rename_i h2
      split at h
      · omega
      · rename_i h3
        refine ⟨by simpa using h1, fun j hj e => h2 ?_, h3⟩
        rw [List.any_eq_true]
        exact ⟨j, List.mem_range.2 hj, by simpa using e⟩
theorem sl_inj {g : Gar} {n : Nat} {sl : Nat → ByteArray} (h : swL g sl n 0 = 0) {i j : Nat} (hi : i < n) (hj : j < n) (e : sl i = sl j) : i = j := by
  rcases Nat.lt_trichotomy i j with k | k | k
  · exact absurd e ((sw_step (swL_zero n 0 h j (by omega) (by omega))).2.1 i k)
  · exact k
  · exact absurd e.symm ((sw_step (swL_zero n 0 h i (by omega) (by omega))).2.1 j k)
/-- a swap of two entries -/
def swF (F : ByteArray → ByteArray) (s t : ByteArray) : ByteArray → ByteArray := setF (setF F s (F t)) t (F s)
theorem swF_swp {g : Gar} {n : Nat} {sl : Nat → ByteArray} (h : swL g sl n 0 = 0) {F : ByteArray → ByteArray} {c : Nat → Nat} {p : Nat → ByteArray} (hF : ∀ j, j < n → F (sl j) = p (c j)) {i k : Nat} (hi : i < n) (hk : k < n) :
    ∀ j, j < n → swF F (sl i) (sl k) (sl j) = p (Cir.swp c i k j) := by
  intro j hj
  unfold swF setF Cir.swp
  by_cases e1 : j = k
  · subst e1
    rw [if_pos rfl]
    by_cases e2 : j = i
    · subst e2
      rw [if_pos rfl]
      exact hF j hj
    · rw [if_neg e2, if_pos rfl]
      exact hF i hi
  · rw [if_neg (fun e => e1 (sl_inj h hj hk e))]
    by_cases e2 : j = i
    · subst e2
      rw [if_pos rfl, if_pos rfl]
      exact hF k hk
    · rw [if_neg (fun e => e2 (sl_inj h hj hi e)), if_neg e2, if_neg e1]
      exact hF j hj
theorem evA_take {g : Gar} {q : Nat} (hq : q < (evG g g.nu).length) : (evG g g.nu).take (q + 1) = (evG g g.nu).take q ++ [evA g q] := by
  rw [List.take_add_one, List.getElem?_eq_getElem hq]
  unfold evA
  rw [List.getD_eq_getElem?_getD, List.getElem?_eq_getElem hq]
  rfl
theorem evA_split {g : Gar} {q : Nat} (hq : q < (evG g g.nu).length) : evG g g.nu = (evG g g.nu).take q ++ evA g q :: (evG g g.nu).drop (q + 1) := by
  have h := List.take_append_drop (q + 1) (evG g g.nu)
  rw [evA_take hq, List.append_assoc] at h
  exact h.symm
theorem evA_mem {g : Gar} {q : Nat} (hq : q < (evG g g.nu).length) : evA g q ∈ evG g g.nu := by
  unfold evA
  rw [List.getD_eq_getElem?_getD, List.getElem?_eq_getElem hq]
  exact List.getElem_mem hq
end Go.Proofs.YtbkpoepacjinlaaGreat
