/- Several texts of this claim in one. -/
import Derived.Test.YtcngjbfbdonpeaaGreatDoorMt5
import Derived.Test.YtcngjbfbdonpeaaGreatDoorMt3
import Derived.Test.YtcngjbfbdonpeaaGreatDoorMt2
import Derived.Test.YtcngjbfbdonpeaaGreatDoorRows
import Derived.ProofKit
import Derived.OpenShut
import Derived.Lib.SmallJoins
import Derived.Carry
import Derived.ChangeMaps5
import Derived.Test.YtcngjbfbdonpeaaGreatDoorMt4
/- A text of this claim. -/
namespace Go.Proofs.YtcngjbfbdonpeaaGreatDoor
open Go.RowKit Go.BigFrame
open Txt
open Tr (Ed inR)
theorem readW_size {l : List UInt8} {x : Ed} (h : readW l = some x) : x.s.size ≤ l.length := by
 have c1 := cut1_len l 32
 have c2 := cut1_len (Lib.cut l [32]).2.1 32
 have c3 := cut1_len (Lib.cut (Lib.cut l [32]).2.1 [32]).2.1 32
 unfold readW at h
 simp only at h
 split at h
 · cases h
 split at h
 · split at h
   · obtain rfl := Option.some.inj h
     exact c1.2.1
   · cases h
 split at h
 · split at h
   · obtain ⟨f, _, h⟩ := Option.bind_eq_some_iff.1 h
     obtain ⟨t, _, rfl⟩ := Option.map_eq_some_iff.1 h
     exact Nat.zero_le _
   · cases h
 split at h
 · split at h
   · obtain ⟨f, _, h⟩ := Option.bind_eq_some_iff.1 h
     obtain ⟨t, _, rfl⟩ := Option.map_eq_some_iff.1 h
     exact Nat.le_trans c3.2.1 (Nat.le_trans c2.2.1 c1.2.1)
   · cases h
 · obtain ⟨n, _, rfl⟩ := Option.map_eq_some_iff.1 h
   exact Nat.zero_le _
theorem append_ed {ops : Array Oper} {rest : List Oper} {o : Oper} {a : Act} {Q : Exit → Act → World → Prop} {w : World} (hgd : o.guard = none) (s x : Operand)
 (ho : o.op = .call { callee := .builtin .append, args := #[s, x], argTypes := #[22, 22] }) {base : Nat} {v : Value} {l : List Ed} (hs : a.eval s = v) (hown : EdOwn w base v l)
 {g k : Nat} {y : Ed} (hx : a.eval x = .slice (some ⟨g, 0, none⟩) 1 k) (hr : ∀ j u, (edC y)[j]? = some u → w.cell? ⟨g, j, none⟩ = some u) (hn : l.length + 1 ≤ 1000000) (hb : base ≤ w.heap.size)
 (h : ∀ g' c' w', EdOwn w' base (.slice (some ⟨g', 0, none⟩) (l.length + 1) c') (l ++ [y]) → w.grownBy w' v.ownBlock → wpList Tryz.prog ops Q rest (a.put o.dst (.slice (some ⟨g', 0, none⟩) (l.length + 1) c')) w') : wpList Tryz.prog ops Q (o :: rest) a w := by
 obtain ⟨i0, hi0, hy0, hy1, hy2⟩ := info_parts (show (Tryz.prog.info? 30).map (fun i => (i.zero, i.size, i.bytes)) = some (some (.agg #[.int .i64 0, .int .i64 0, .int .i64 0, .int .i64 0, .string ⟨#[]⟩]), 5, 48) by kernel_rfl)
 refine wpList_append_lies w hgd s x 22 ho base 30 i0 _ 5 48 Tryz.underlying22 hi0 hy0 hy1 hy2 rfl (by decide) v l.length (l.flatMap edC) hs hown ⟨g, 0, none⟩ 1 k (edC y) hx (by rfl)
  (fun j u hj => ?_) (edC_one y) (by omega) (by unfold maxLen; omega) (by omega) hb _ rfl ?_
 · rw [addr_plus, Nat.zero_add]
   exact hr j u hj
 · intro g' cap w' h1 h2 _ _
   exact h g' cap w' (EdOwn.snoc h1) h2
theorem grown_edx {w W w' : World} {v : Value} {l : List Ed} (hb : Below w.heap.size w W) (h : EdOwn W w.heap.size v l) (hg : W.grownBy w' v.ownBlock) : Below w.heap.size w w' :=
 hb.grown hg hb.size fun k hk => (World.ownsRow.lt h k hk).1
def RdR (s : List UInt8) (w : World) (e : Ending) (w' : World) : Prop := ∃ v, e = .returned (.tuple #[v, .int .i64 (readAt s), .int .i64 (readErr s)]) ∧ EdOwn w' w.heap.size v (readEs s) ∧ Below w.heap.size w w'
theorem rd_big {s : List UInt8} (h : 100000 < s.length) : readErr s = 3 ∧ readAt s = 0 ∧ readEs s = [] := by
 have h3 : readErr s = 3 := by unfold readErr; rw [if_pos h]
 refine ⟨h3, by unfold readAt; rw [if_pos h], ?_⟩
 unfold readEs
 rw [h3, if_pos (by decide)]
theorem rd_bad {s : List UInt8} {n : Nat} (h : ¬ 100000 < s.length) (hb : readT s 1 [] = .bad n) : readErr s = 6 ∧ readAt s = n ∧ readEs s = [] := by
 have h3 : readErr s = 6 := by unfold readErr; rw [if_neg h, hb]
 refine ⟨h3, by unfold readAt; rw [if_neg h, hb], ?_⟩
 unfold readEs
 rw [h3, if_pos (by decide)]
theorem rd_good {s : List UInt8} {l : List Ed} (h : ¬ 100000 < s.length) (hb : readT s 1 [] = .good l) : readErr s = chkEL l ∧ readAt s = 0 ∧ readEs s = if chkEL l ≠ 0 then [] else l := by
 have h3 : readErr s = chkEL l := by unfold readErr; rw [if_neg h, hb]
 refine ⟨h3, by unfold readAt; rw [if_neg h, hb], ?_⟩
 unfold readEs
 rw [h3, hb]
def sizeOf' : Value → Nat
 | .string s => s.size
 | _ => 0
set_option maxHeartbeats 8000000 in
set_option maxRecDepth 100000 in
theorem read_any (s : ByteArray) (w : World) (hg : Glo w) :
 Calls Tryz.prog 6 #[.string s] w fun e w' => RdR (sB s) w e w' := by
 unfold RdR
 have HG := Lib.hid hg
 obtain ⟨mg, hmg⟩ := hg.m
 have HMG := Lib.hid hmg
 have HB0 := Lib.hid (Below.refl w.heap.size w)
 have HLS := Lib.hid (show (sB s).length = s.size from rfl)
 clear hmg hg
 by_cases hbig : 100000 < s.size
 · have t1 : decide ((100000 : Int) < (s.size : Int)) = true := by rw [decide_eq_true_eq]; omega
   have t1' : decide (100000 < s.size) = true := by simpa using hbig
   have HQ := Lib.hid (rd_big (s := sB s) (by rw [HLS.out]; exact hbig))
   clear hbig
   go_enter Tryz.func6, Tryz.ntmps6
   go_wp2_with fail
   go_ret3
   exact ⟨_, by rw [HQ.out.1, HQ.out.2.1]; rfl, by rw [HQ.out.2.2]; exact EdOwn.nil _ _, HB0.out⟩
 have t1 : decide ((100000 : Int) < (s.size : Int)) = false := by rw [decide_eq_false_iff_not]; omega
 have t1' : decide (100000 < s.size) = false := by simpa using hbig
 have HBAD := Lib.hid (fun n => rd_bad (s := sB s) (n := n) (by rw [HLS.out]; exact hbig))
 have HGOOD := Lib.hid (fun l => rd_good (s := sB s) (l := l) (by rw [HLS.out]; exact hbig))
 have HSZ := Lib.hid (show s.size ≤ 100000 by omega)
 have HNIL := Lib.hid (EdOwn.nil w w.heap.size)
 clear hbig
 go_enter Tryz.func6, Tryz.ntmps6
 go_wp2_with fail
 go_loopw [0, 2, 3] (fun sv lv av wr => ∃ (r : ByteArray) (n : Nat) (acc : List Ed), sv = .string r ∧ av = .int .i64 n ∧ r.size ≤ 100000 ∧ acc.length + r.size ≤ 100000 ∧ n = acc.length + 1 ∧ Hid (EdOwn wr w.heap.size lv acc) ∧ Hid (Below w.heap.size w wr) ∧ Hid (readT (sB s) 1 [] = readT (sB r) n acc) ∧ Hid (∀ x, x ∈ acc → x.s.size ≤ 1000000)) (fun sv _ _ _ => sizeOf' sv)
 case atStart => exact ⟨s, 1, [], rfl, rfl, HSZ.out, by have := HSZ.out; simp only [List.length_nil]; omega, rfl, HNIL, HB0, Lib.hid rfl, Lib.hid (fun x hx => by cases hx)⟩
 case round =>
  obtain ⟨r, n, acc, rfl, rfl, hr1, hr2, hna, HO, HB, HT, HX⟩ := hrel
  by_cases hz : r.size = 0
  case pos =>
   have e0 := str_eq0 hz
   have e1 := str_ne0 hz
   have HD : Hid (readT (sB s) 1 [] = .good acc) := Lib.hid (by rw [HT.out, size0 hz]; exact readT_nil _ _)
   have HR := Lib.hid (HGOOD.out acc HD.out)
   obtain ⟨av, cv, rfl, _, hrow, _⟩ := HO.out.row
   have DC := Lib.hid (checkEdits_any av acc cv wr hrow (fun x hx => by have := HX.out x hx; unfold maxLen; omega))
   have HOWN := HO
   obtain ⟨nl, hnl⟩ : ∃ n, acc.length = n := ⟨_, rfl⟩
   rw [hnl] at DC HOWN ⊢
   obtain ⟨ck, hck⟩ : ∃ n, chkEL acc = n := ⟨_, rfl⟩
   rw [hck] at DC HR
   clear hz HBAD HGOOD hrow hnl hr2 hna hck
   by_cases h0 : ck = 0
   case pos =>
    subst h0
    go_wp2_with (go_at_call 10; refine DC.out.mono ?_; rintro e w1 ⟨rfl, hb1⟩)
    go_ret3
    exact ⟨_, by rw [HR.out.1, HR.out.2.1]; rfl, by rw [HR.out.2.2, if_neg (by simp)]; exact HOWN.out.below hb1, HB.out.trans (hb1.mono HB.out.size)⟩
   case neg =>
    have x0 : (ck != 0) = true := by simpa using h0
    have HC0 := Lib.hid h0
    clear h0
    go_wp2_with (go_at_call 10; refine DC.out.mono ?_; rintro e w1 ⟨rfl, hb1⟩)
    go_ret3
    exact ⟨_, by rw [HR.out.1, HR.out.2.1]; rfl, by rw [HR.out.2.2, if_pos HC0.out]; exact EdOwn.nil _ _, HB.out.trans (hb1.mono HB.out.size)⟩
  case neg =>
   have hnb : n ≤ 100001 := by omega
   have HNA := Lib.hid hna
   clear hna
   have e0 := str_eq1 hz
   have e1 := str_ne1 hz
   have hne : sB r ≠ [] := fun e => hz (by rw [← bs_sB r, e]; rfl)
   have DCUT := Lib.hid (Tryz.strings_Cut r ⟨#[10]⟩ mg wr (by omega) (below_cell HB.out HMG.out))
   have hl := cut1_len (sB r) 10
   have HSTEP := Lib.hid (fun x (hx : readW (Lib.cut (sB r) [10]).1 = some x) (hc : (Lib.cut (sB r) [10]).2.2 = true) => HT.out.trans (readT_step n acc hne hx hc))
   have HBD := Lib.hid (fun h => HBAD.out n (HT.out.trans (readT_bad n acc hne h)))
   have hl3 := hl.2.2 hne
   obtain ⟨tx, htx⟩ : ∃ t, bt (Lib.cut (sB r) [10]).1 = t := ⟨_, rfl⟩
   obtain ⟨r2, hr2'⟩ : ∃ t, bt (Lib.cut (sB r) [10]).2.1 = t := ⟨_, rfl⟩
   obtain ⟨en, hen⟩ : ∃ t, (Lib.cut (sB r) [10]).2.2 = t := ⟨_, rfl⟩
   have hq1 : (Lib.cut (sB r) [10]).1 = sB tx := by rw [← htx]; rfl
   have hq2 : (Lib.cut (sB r) [10]).2.1 = sB r2 := by rw [← hr2']; rfl
   have DCUT := Lib.hid (show Calls _ _ _ _ fun e w' => e = .returned (.tuple #[.string (bt (Lib.cut (sB r) [10]).1), .string (bt (Lib.cut (sB r) [10]).2.1), .bool (Lib.cut (sB r) [10]).2.2]) ∧ ∃ n, w' = wr.drewN n from DCUT.out)
   rw [htx, hr2', hen] at DCUT
   rw [hq1, hq2, hen] at HSTEP
   rw [hq1, hen] at HBD
   rw [hq1, hq2] at hl
   rw [hq2] at hl3
   have hs1 : tx.size ≤ r.size := hl.1
   have hs2 : r2.size < r.size := hl3
   clear htx hr2' hen hq1 hq2 hl hl3 hne hz
   go_upto_region 7 with (go_at_call 20; refine DCUT.out.mono ?_; rintro e w2 ⟨rfl, nd, rfl⟩)
   obtain ⟨W2, hW2, hbw2⟩ : ∃ W, wr.drewN nd = W ∧ Below wr.heap.size wr W := ⟨_, rfl, ⟨rfl, rfl, rfl, Nat.le_refl _, fun _ _ => rfl⟩⟩
   rw [hW2]
   have HO2 := Lib.hid (HO.out.below hbw2)
   have HB2 := Lib.hid (HB.out.trans (hbw2.mono HB.out.size))
   have DL := Lib.hid (readEdit_any tx W2 (HG.out.below HB2.out) (by omega))
   have HTS := Lib.hid (fun x (hx : readW (sB tx) = some x) => Nat.le_trans (readW_size hx) (show tx.size ≤ 1000000 by omega))
   clear hW2 hbw2 DCUT HO HB
   obtain ⟨o, ho⟩ : ∃ o, readW (sB tx) = o := ⟨_, rfl⟩
   rw [ho] at DL HSTEP HBD HTS
   clear ho
   unfold EdRet edV at DL
   go_upto_region 8 with (fail)
   cases o with
   | none =>
    have HR := Lib.hid (HBD.out (Or.inl rfl))
    clear HBD HSTEP HTS
    go_upto_region 9 with (go_at_call 21; refine DL.out.mono ?_; rintro e w4 ⟨x, rfl, hx4, hb4⟩)
    have HB4 := Lib.hid (HB2.out.trans ((hb4.mono HB2.out.size).trans ((below_al w4 (.cells #[.int .i64 x.k, .int .i64 x.n, .int .i64 x.f, .int .i64 x.t, .string x.s] 30 (0, 0))).mono (Nat.le_trans HB2.out.size hb4.size))))
    clear hb4 hx4 DL
    cases en
    · go_wp2_with fail
      go_ret3
      exact ⟨_, by rw [HR.out.1, HR.out.2.1]; rfl, by rw [HR.out.2.2]; exact EdOwn.nil _ _, HB4.out⟩
    · go_wp2_with fail
      go_ret3
      exact ⟨_, by rw [HR.out.1, HR.out.2.1]; rfl, by rw [HR.out.2.2]; exact EdOwn.nil _ _, HB4.out⟩
   | some y =>
    go_upto_region 9 with (go_at_call 21; refine DL.out.mono ?_; rintro e w4 ⟨x, rfl, hx4, hb4⟩)
    obtain rfl := hx4 y rfl
    have HO4 := Lib.hid (HO2.out.below hb4)
    have HB4 := Lib.hid (HB2.out.trans (hb4.mono HB2.out.size))
    have HXS := HTS.out x rfl
    clear hb4 hx4 DL HTS HO2
    obtain ⟨V1, hV1, hvb, hvs, hvl⟩ := alloc_cells w4 #[.int .i64 x.k, .int .i64 x.n, .int .i64 x.f, .int .i64 x.t, .string x.s] 30
    have u0 := hvl 0 _ rfl
    have u1 := hvl 1 _ rfl
    have u2 := hvl 2 _ rfl
    have u3 := hvl 3 _ rfl
    have u4 := hvl 4 _ rfl
    have HO5 := Lib.hid (HO4.out.below hvb)
    have HB5 := Lib.hid (HB4.out.trans (hvb.mono HB4.out.size))
    rw [hV1]
    clear hvb hvs hvl hV1 HO4
    cases en
    case false =>
     have HR := Lib.hid (HBD.out (Or.inr rfl))
     clear HBD HSTEP HXS
     go_wp2_with fail
     go_ret3
     exact ⟨_, by rw [HR.out.1, HR.out.2.1]; rfl, by rw [HR.out.2.2]; exact EdOwn.nil _ _, HB5.out⟩
    case true =>
     have HR := Lib.hid (HSTEP.out x rfl rfl)
     clear HBD HSTEP
     obtain ⟨V2, hV2, hwb, hws, hwl⟩ := alloc_cells V1 #[.int .i64 x.k, .int .i64 x.n, .int .i64 x.f, .int .i64 x.t, .string x.s] 30
     have HCS : Hid (∀ j u, (edC x)[j]? = some u → V2.cell? ⟨V1.heap.size, j, none⟩ = some u) := Lib.hid (fun j u hj => by
      have hj5 : j < 5 := (List.getElem?_eq_some_iff.1 hj).1
      have : j = 0 ∨ j = 1 ∨ j = 2 ∨ j = 3 ∨ j = 4 := by omega
      rcases this with rfl | rfl | rfl | rfl | rfl <;> exact hwl _ _ hj)
     have HO6 := Lib.hid (HO5.out.below hwb)
     have HB6 := Lib.hid (HB5.out.trans (hwb.mono HB5.out.size))
     have hal : acc.length + 1 ≤ 1000000 := by omega
     have HAL := Lib.hid hal
     clear hwb hws hwl HO5 hal
     go_upto_region 5 with (at_builtin; refine append_ed rfl _ _ rfl rfl HO6.out rfl (y := x) HCS.out HAL.out HB6.out.size (fun g9 c9 w9 ho9 hg9 => ?_))
     have HB9 := Lib.hid (grown_edx HB6.out HO6.out hg9)
     have HO9 := Lib.hid ho9
     clear hg9 ho9 HO6
     go_wp2_with fail
     go_roundw
     case rel => exact ⟨r2, n + 1, acc ++ [x], rfl, by go_num, by omega, by rw [List.length_append]; simp only [List.length_cons, List.length_nil]; omega, by rw [List.length_append, HNA.out]; simp only [List.length_cons, List.length_nil], HO9, HB9, HR, Lib.hid (fun y hy => by
      rcases List.mem_append.1 hy with h | h
      · exact HX.out y h
      · rw [List.mem_singleton.1 h]; exact HXS)⟩
     case measure => simp only [sizeOf']; omega
end Go.Proofs.YtcngjbfbdonpeaaGreatDoor

/- A text of this claim. -/
namespace Go.Proofs.YtcngjbfbdonpeaaGreatDoor
open Go.RowKit Go.BigFrame
open Txt
open Tr (Ed inR)
set_option maxHeartbeats 8000000 in
set_option maxRecDepth 100000 in
theorem rread_any (s : ByteArray) (w : World) (hg : Glo w) :
 Calls Tryz.prog 7 #[.string s] w fun e w' => RdR (sB s) w e w' := by
 unfold RdR
 have HG := Lib.hid hg
 obtain ⟨mg, hmg⟩ := hg.m
 have HMG := Lib.hid hmg
 have HB0 := Lib.hid (Below.refl w.heap.size w)
 have HLS := Lib.hid (show (sB s).length = s.size from rfl)
 clear hmg hg
 by_cases hbig : 100000 < s.size
 · have t1 : decide ((100000 : Int) < (s.size : Int)) = true := by rw [decide_eq_true_eq]; omega
   have t1' : decide (100000 < s.size) = true := by simpa using hbig
   have HQ := Lib.hid (rd_big (s := sB s) (by rw [HLS.out]; exact hbig))
   clear hbig
   go_enter Tryz.func7, Tryz.ntmps7
   go_wp2_with fail
   go_ret3
   exact ⟨_, by rw [HQ.out.1, HQ.out.2.1]; rfl, by rw [HQ.out.2.2]; exact EdOwn.nil _ _, HB0.out⟩
 have t1 : decide ((100000 : Int) < (s.size : Int)) = false := by rw [decide_eq_false_iff_not]; omega
 have t1' : decide (100000 < s.size) = false := by simpa using hbig
 have HBAD := Lib.hid (fun n => rd_bad (s := sB s) (n := n) (by rw [HLS.out]; exact hbig))
 have HGOOD := Lib.hid (fun l => rd_good (s := sB s) (l := l) (by rw [HLS.out]; exact hbig))
 have HSZ := Lib.hid (show s.size ≤ 100000 by omega)
 have HNIL := Lib.hid (EdOwn.nil w w.heap.size)
 clear hbig
 go_enter Tryz.func7, Tryz.ntmps7
 go_wp2_with fail
 go_loopw [0, 5, 6] (fun sv lv av wr => ∃ (r : ByteArray) (n : Nat) (acc : List Ed), sv = .string r ∧ av = .int .i64 n ∧ r.size ≤ 100000 ∧ acc.length + r.size ≤ 100000 ∧ n = acc.length + 1 ∧ Hid (EdOwn wr w.heap.size lv acc) ∧ Hid (Below w.heap.size w wr) ∧ Hid (readT (sB s) 1 [] = readT (sB r) n acc) ∧ Hid (∀ x, x ∈ acc → x.s.size ≤ 1000000)) (fun sv _ _ _ => sizeOf' sv)
 case atStart => exact ⟨s, 1, [], rfl, rfl, HSZ.out, by have := HSZ.out; simp only [List.length_nil]; omega, rfl, HNIL, HB0, Lib.hid rfl, Lib.hid (fun x hx => by cases hx)⟩
 case round =>
  obtain ⟨r, n, acc, rfl, rfl, hr1, hr2, hna, HO, HB, HT, HX⟩ := hrel
  by_cases hz : r.size = 0
  case pos =>
   have e0 := str_eq0 hz
   have e1 := str_ne0 hz
   have HD : Hid (readT (sB s) 1 [] = .good acc) := Lib.hid (by rw [HT.out, size0 hz]; exact readT_nil _ _)
   have HR := Lib.hid (HGOOD.out acc HD.out)
   obtain ⟨av, cv, rfl, _, hrow, _⟩ := HO.out.row
   have DC := Lib.hid (rcheckAll_any av acc cv wr hrow (fun x hx => by have := HX.out x hx; unfold maxLen; omega))
   have HOWN := HO
   obtain ⟨nl, hnl⟩ : ∃ n, acc.length = n := ⟨_, rfl⟩
   rw [hnl] at DC HOWN ⊢
   obtain ⟨ck, hck⟩ : ∃ n, chkEL acc = n := ⟨_, rfl⟩
   rw [hck] at DC HR
   clear hz HBAD HGOOD hrow hnl hr2 hna hck
   by_cases h0 : ck = 0
   case pos =>
    subst h0
    go_wp2_with (go_at_call 14; refine DC.out.mono ?_; rintro e w1 ⟨rfl, hb1⟩)
    go_ret3
    exact ⟨_, by rw [HR.out.1, HR.out.2.1]; rfl, by rw [HR.out.2.2, if_neg (by simp)]; exact HOWN.out.below hb1, HB.out.trans (hb1.mono HB.out.size)⟩
   case neg =>
    have x0 : (ck != 0) = true := by simpa using h0
    have HC0 := Lib.hid h0
    clear h0
    go_wp2_with (go_at_call 14; refine DC.out.mono ?_; rintro e w1 ⟨rfl, hb1⟩)
    go_ret3
    exact ⟨_, by rw [HR.out.1, HR.out.2.1]; rfl, by rw [HR.out.2.2, if_pos HC0.out]; exact EdOwn.nil _ _, HB.out.trans (hb1.mono HB.out.size)⟩
  case neg =>
   have hnb : n ≤ 100001 := by omega
   have HNA := Lib.hid hna
   clear hna
   have e0 := str_eq1 hz
   have e1 := str_ne1 hz
   have hne : sB r ≠ [] := fun e => hz (by rw [← bs_sB r, e]; rfl)
   have DCUT := Lib.hid (Tryz.strings_Cut r ⟨#[10]⟩ mg wr (by omega) (below_cell HB.out HMG.out))
   have hl := cut1_len (sB r) 10
   have HSTEP := Lib.hid (fun x (hx : readW (Lib.cut (sB r) [10]).1 = some x) (hc : (Lib.cut (sB r) [10]).2.2 = true) => HT.out.trans (readT_step n acc hne hx hc))
   have HBD := Lib.hid (fun h => HBAD.out n (HT.out.trans (readT_bad n acc hne h)))
   have hl3 := hl.2.2 hne
   obtain ⟨tx, htx⟩ : ∃ t, bt (Lib.cut (sB r) [10]).1 = t := ⟨_, rfl⟩
   obtain ⟨r2, hr2'⟩ : ∃ t, bt (Lib.cut (sB r) [10]).2.1 = t := ⟨_, rfl⟩
   obtain ⟨en, hen⟩ : ∃ t, (Lib.cut (sB r) [10]).2.2 = t := ⟨_, rfl⟩
   have hq1 : (Lib.cut (sB r) [10]).1 = sB tx := by rw [← htx]; rfl
   have hq2 : (Lib.cut (sB r) [10]).2.1 = sB r2 := by rw [← hr2']; rfl
   have DCUT := Lib.hid (show Calls _ _ _ _ fun e w' => e = .returned (.tuple #[.string (bt (Lib.cut (sB r) [10]).1), .string (bt (Lib.cut (sB r) [10]).2.1), .bool (Lib.cut (sB r) [10]).2.2]) ∧ ∃ n, w' = wr.drewN n from DCUT.out)
   rw [htx, hr2', hen] at DCUT
   rw [hq1, hq2, hen] at HSTEP
   rw [hq1, hen] at HBD
   rw [hq1, hq2] at hl
   rw [hq2] at hl3
   have hs1 : tx.size ≤ r.size := hl.1
   have hs2 : r2.size < r.size := hl3
   clear htx hr2' hen hq1 hq2 hl hl3 hne hz
   go_upto_region 8 with (go_at_call 20; refine DCUT.out.mono ?_; rintro e w2 ⟨rfl, nd, rfl⟩)
   obtain ⟨W2, hW2, hbw2⟩ : ∃ W, wr.drewN nd = W ∧ Below wr.heap.size wr W := ⟨_, rfl, ⟨rfl, rfl, rfl, Nat.le_refl _, fun _ _ => rfl⟩⟩
   rw [hW2]
   have HO2 := Lib.hid (HO.out.below hbw2)
   have HB2 := Lib.hid (HB.out.trans (hbw2.mono HB.out.size))
   have DL := Lib.hid (readLine_any tx W2 (HG.out.below HB2.out) (by omega))
   have HTS := Lib.hid (fun x (hx : readW (sB tx) = some x) => Nat.le_trans (readW_size hx) (show tx.size ≤ 1000000 by omega))
   clear hW2 hbw2 DCUT HO HB
   obtain ⟨o, ho⟩ : ∃ o, readW (sB tx) = o := ⟨_, rfl⟩
   rw [ho] at DL HSTEP HBD HTS
   clear ho
   unfold EdRet edV at DL
   cases o with
   | none =>
    have HR := Lib.hid (HBD.out (Or.inl rfl))
    clear HBD HSTEP HTS
    go_upto_region 9 with (go_at_call 22; refine DL.out.mono ?_; rintro e w4 ⟨x, rfl, hx4, hb4⟩)
    have HB4 := Lib.hid (HB2.out.trans ((hb4.mono HB2.out.size).trans ((below_al w4 (.cells #[.int .i64 x.k, .int .i64 x.n, .int .i64 x.f, .int .i64 x.t, .string x.s] 30 (0, 0))).mono (Nat.le_trans HB2.out.size hb4.size))))
    clear hb4 hx4 DL
    cases en
    · go_wp2_with fail
      go_ret3
      exact ⟨_, by rw [HR.out.1, HR.out.2.1]; rfl, by rw [HR.out.2.2]; exact EdOwn.nil _ _, HB4.out⟩
    · go_wp2_with fail
      go_ret3
      exact ⟨_, by rw [HR.out.1, HR.out.2.1]; rfl, by rw [HR.out.2.2]; exact EdOwn.nil _ _, HB4.out⟩
   | some y =>
    go_upto_region 9 with (go_at_call 22; refine DL.out.mono ?_; rintro e w4 ⟨x, rfl, hx4, hb4⟩)
    obtain rfl := hx4 y rfl
    have HO4 := Lib.hid (HO2.out.below hb4)
    have HB4 := Lib.hid (HB2.out.trans (hb4.mono HB2.out.size))
    have HXS := HTS.out x rfl
    clear hb4 hx4 DL HTS HO2
    obtain ⟨V1, hV1, hvb, hvs, hvl⟩ := alloc_cells w4 #[.int .i64 x.k, .int .i64 x.n, .int .i64 x.f, .int .i64 x.t, .string x.s] 30
    have u0 := hvl 0 _ rfl
    have u1 := hvl 1 _ rfl
    have u2 := hvl 2 _ rfl
    have u3 := hvl 3 _ rfl
    have u4 := hvl 4 _ rfl
    have HO5 := Lib.hid (HO4.out.below hvb)
    have HB5 := Lib.hid (HB4.out.trans (hvb.mono HB4.out.size))
    rw [hV1]
    clear hvb hvs hvl hV1 HO4
    cases en
    case false =>
     have HR := Lib.hid (HBD.out (Or.inr rfl))
     clear HBD HSTEP HXS
     go_wp2_with fail
     go_ret3
     exact ⟨_, by rw [HR.out.1, HR.out.2.1]; rfl, by rw [HR.out.2.2]; exact EdOwn.nil _ _, HB5.out⟩
    case true =>
     have HR := Lib.hid (HSTEP.out x rfl rfl)
     clear HBD HSTEP
     obtain ⟨V2, hV2, hwb, hws, hwl⟩ := alloc_cells V1 #[.int .i64 x.k, .int .i64 x.n, .int .i64 x.f, .int .i64 x.t, .string x.s] 30
     have HCS : Hid (∀ j u, (edC x)[j]? = some u → V2.cell? ⟨V1.heap.size, j, none⟩ = some u) := Lib.hid (fun j u hj => by
      have hj5 : j < 5 := (List.getElem?_eq_some_iff.1 hj).1
      have : j = 0 ∨ j = 1 ∨ j = 2 ∨ j = 3 ∨ j = 4 := by omega
      rcases this with rfl | rfl | rfl | rfl | rfl <;> exact hwl _ _ hj)
     have HO6 := Lib.hid (HO5.out.below hwb)
     have HB6 := Lib.hid (HB5.out.trans (hwb.mono HB5.out.size))
     have hal : acc.length + 1 ≤ 1000000 := by omega
     have HAL := Lib.hid hal
     clear hwb hws hwl HO5 hal
     go_upto_region 12 with (at_builtin; refine append_ed rfl _ _ rfl rfl HO6.out rfl (y := x) HCS.out HAL.out HB6.out.size (fun g9 c9 w9 ho9 hg9 => ?_))
     have HB9 := Lib.hid (grown_edx HB6.out HO6.out hg9)
     have HO9 := Lib.hid ho9
     clear hg9 ho9 HO6
     go_wp2_with fail
     go_roundw
     case rel => exact ⟨r2, n + 1, acc ++ [x], rfl, by go_num, by omega, by rw [List.length_append]; simp only [List.length_cons, List.length_nil]; omega, by rw [List.length_append, HNA.out]; simp only [List.length_cons, List.length_nil], HO9, HB9, HR, Lib.hid (fun y hy => by
      rcases List.mem_append.1 hy with h | h
      · exact HX.out y h
      · rw [List.mem_singleton.1 h]; exact HXS)⟩
     case measure => simp only [sizeOf']; omega
end Go.Proofs.YtcngjbfbdonpeaaGreatDoor

/- A text of this claim. -/
namespace Go.Proofs.YtcngjbfbdonpeaaGreatDoor
open Go.RowKit Go.BigFrame
open Tr (Ed)
theorem ERow.mk2 {W : World} {g : Nat} {l : List Ed} (hg : g < W.heap.size) (hc : ∀ i v, (l.flatMap edC)[i]? = some v → W.cell? ⟨g, i, none⟩ = some v) : ERow W (some ⟨g, 0, none⟩) l := by
 refine ⟨fun _ => ⟨g, 0, rfl, hg, fun i x hx j v hv => ?_⟩⟩
 rw [Nat.zero_add]
 exact hc _ v (flatEd_get l i x hx j v hv)
def sy1 : ByteArray := ⟨#[120]⟩
def toldM : List Ed := [⟨6, 5, 0, 0, noB⟩, ⟨3, 0, 0, 0, sy1⟩, ⟨5, 10, 0, 0, noB⟩, ⟨6, -5, 0, 0, noB⟩, ⟨4, 0, 0, 0, sy1⟩, ⟨5, 20, 0, 0, noB⟩]
theorem toldM_chk : chkEL toldM = 0 := by kernel_rfl
theorem toldM_tidy : tidyR toldM = [⟨5, 30, 0, 0, noB⟩] := by kernel_rfl
theorem toldM_text : ∀ x, x ∈ toldM → x.s.size ≤ maxLen := by
 intro x hx
 unfold toldM at hx
 simp only [List.mem_cons, List.not_mem_nil, or_false] at hx
 unfold maxLen
 rcases hx with rfl | rfl | rfl | rfl | rfl | rfl
 · show (0 : Nat) ≤ _; omega
 · show (1 : Nat) ≤ _; omega
 · show (0 : Nat) ≤ _; omega
 · show (0 : Nat) ≤ _; omega
 · show (1 : Nat) ≤ _; omega
 · show (0 : Nat) ≤ _; omega
set_option maxHeartbeats 1000000 in
set_option maxRecDepth 100000 in
theorem told2_any (w : World) : Calls Tryz.prog 9 #[] w fun e w' => e = .returned (.bool true) ∧ Below w.heap.size w w' := by
 obtain ⟨V1, hV1, hb1, hs1, hl1⟩ := alloc_cells w #[.int .i64 6, .int .i64 5, .int .i64 0, .int .i64 0, .string noB, .int .i64 3, .int .i64 0, .int .i64 0, .int .i64 0, .string sy1, .int .i64 5, .int .i64 10, .int .i64 0, .int .i64 0, .string noB, .int .i64 6, .int .i64 (-5), .int .i64 0, .int .i64 0, .string noB, .int .i64 4, .int .i64 0, .int .i64 0, .int .i64 0, .string sy1, .int .i64 5, .int .i64 20, .int .i64 0, .int .i64 0, .string noB] 30
 have hrow : ERow V1 (some ⟨w.heap.size, 0, none⟩) toldM := .mk2 (by omega) (fun i v hv => hl1 i v (by
  rw [← hv]
  show _ = (toldM.flatMap edC)[i]?
  rw [show toldM.flatMap edC = (#[.int .i64 6, .int .i64 5, .int .i64 0, .int .i64 0, .string noB, .int .i64 3, .int .i64 0, .int .i64 0, .int .i64 0, .string sy1, .int .i64 5, .int .i64 10, .int .i64 0, .int .i64 0, .string noB, .int .i64 6, .int .i64 (-5), .int .i64 0, .int .i64 0, .string noB, .int .i64 4, .int .i64 0, .int .i64 0, .int .i64 0, .string sy1, .int .i64 5, .int .i64 20, .int .i64 0, .int .i64 0, .string noB] : Array Value).toList from rfl, Array.getElem?_toList]))
 have DT := Lib.hid (tidy_any (some ⟨w.heap.size, 0, none⟩) toldM 6 V1 hrow toldM_text)
 rw [toldM_tidy, toldM_chk, show toldM.length = 6 from rfl] at DT
 have HV1 := Lib.hid hV1
 have HB1 := Lib.hid hb1
 clear hV1 hb1 hs1 hl1 hrow
 unfold noB sy1 at *
 go_enter Tryz.func9, Tryz.ntmps9
 go_wp2_with fail
 rw [HV1.out]
 refine DT.out.mono ?_
 rintro e w1 ⟨⟨v, rfl, ho⟩, hb⟩
 obtain ⟨a1, c1, rfl, _, hr1, _⟩ := ho.row
 obtain ⟨V2, hV2, hb2, hs2, hl2⟩ := alloc_cells w1 #[.int .i64 5, .int .i64 30, .int .i64 0, .int .i64 0, .string ⟨#[]⟩] 30
 have hrow2 : ERow V2 (some ⟨w1.heap.size, 0, none⟩) [⟨5, 30, 0, 0, ⟨#[]⟩⟩] := .mk2 (by omega) (fun i v hv => hl2 i v (by
  rw [← hv]
  show _ = ([⟨5, 30, 0, 0, ⟨#[]⟩⟩].flatMap edC)[i]?
  rw [show [⟨5, 30, 0, 0, ⟨#[]⟩⟩].flatMap edC = (#[.int .i64 5, .int .i64 30, .int .i64 0, .int .i64 0, .string ⟨#[]⟩] : Array Value).toList from rfl, Array.getElem?_toList]))
 have DQ := Lib.hid (equalE_any [⟨5, 30, 0, 0, ⟨#[]⟩⟩] [⟨5, 30, 0, 0, ⟨#[]⟩⟩] a1 (some ⟨w1.heap.size, 0, none⟩) c1 1 V2 (hr1.below hb2) hrow2 (by simp))
 rw [eqEs_self] at DQ
 simp only [List.length_singleton] at DQ
 have HB2 := Lib.hid (below_step (below_step HB1.out hb) hb2)
 have HV2 := Lib.hid hV2
 clear ho hb hr1 hV2 hb2 hs2 hl2 hrow2 DT
 simp only [List.length_singleton]
 go_wp2_with fail
 rw [HV2.out]
 refine DQ.out.mono ?_
 rintro e w3 ⟨rfl, q, rfl⟩
 go_wp2_with fail
 go_ret
 exact ⟨rfl, below_drewN HB2.out q⟩
end Go.Proofs.YtcngjbfbdonpeaaGreatDoor

/- A text of this claim. -/
namespace Go.Proofs.YtcngjbfbdonpeaaGreatDoor
open Go.ChangeShapes Go.WideShapes Go.ChangeAt Go.RowKit Go.Deep
open Tr (Ed)
theorem laidOut : laidOutB Tryz.prog = true := by kernel_rfl
theorem readEdits : Tryz.prog.readableRec 22 = true := by kernel_rfl
theorem rowEdits : 22 < Tryz.prog.types.size := of_decide_eq_true (by kernel_rfl)
def intV : Value → Int
 | .int _ n => n
 | _ => 0
def strV : Value → ByteArray
 | .string s => s
 | _ => ByteArray.empty
section
variable {H : Type} {enc : TypeId × Value → H} {P : Program} {w : World} {base : Nat}
theorem field_str {V : List Value} {j : Nat} {t : TypeId} (ht : P.underlying t = some .string) (h : ∃ u n y, V[j]? = some u ∧ DataW.trod enc P w base (fun _ => true) true n t [u] = some y) :
 V[j]? = some (.string (strV (V.getD j (.bool false)))) ∧ (strV (V.getD j (.bool false))).size ≤ maxLen := by
 obtain ⟨u, n, y, hu, hd⟩ := h
 obtain ⟨s, e, _, hs⟩ := DataW.trod_string ht hd
 simp only [List.cons.injEq, and_true] at e
 subst e
 rw [List.getD_eq_getElem?_getD, hu]
 exact ⟨rfl, hs⟩
theorem field_int {V : List Value} {j : Nat} {t : TypeId} (ht : P.underlying t = some (.int .i64)) (h : ∃ u n y, V[j]? = some u ∧ DataW.trod enc P w base (fun _ => true) true n t [u] = some y) :
 V[j]? = some (.int .i64 (intV (V.getD j (.bool false)))) := by
 obtain ⟨u, n, y, hu, hd⟩ := h
 obtain ⟨s, e, _, hs⟩ := DataW.trod_int ht hd
 simp only [List.cons.injEq, and_true] at e
 subst e
 rw [List.getD_eq_getElem?_getD, hu]
 rfl
end
theorem list5 {V : List Value} {a b c d e : Value} (hl : V.length = 5) (h0 : V[0]? = some a) (h1 : V[1]? = some b) (h2 : V[2]? = some c) (h3 : V[3]? = some d) (h4 : V[4]? = some e) : V = [a, b, c, d, e] := by
 match V, hl with
 | [x, y, z, u, v], _ => simp at h0 h1 h2 h3 h4; rw [h0, h1, h2, h3, h4]
theorem slice_one {P : Program} {W : World} {r : Reach} {b0 : Nat} {t e : TypeId} {v : Value} (hu : P.underlying t = some (.slice e)) (hv : Value.okWide P W r b0 t v) : v.cells.toList = [v] := by
 obtain ⟨a, l, c, rfl⟩ := okWide_slice hu hv
 rfl
def edOf (V : List Value) : Ed := ⟨intV (V.getD 0 (.bool false)), intV (V.getD 1 (.bool false)), intV (V.getD 2 (.bool false)), intV (V.getD 3 (.bool false)), strV (V.getD 4 (.bool false))⟩
theorem range_map_get {α : Type} (f : Nat → α) {n i : Nat} {x : α} (h : ((List.range n).map f)[i]? = some x) : i < n ∧ x = f i := by
 rw [List.getElem?_map] at h
 cases hr : (List.range n)[i]? with
 | none => rw [hr] at h; cases h
 | some y =>
  rw [hr] at h
  obtain ⟨h1, h2⟩ := List.getElem?_eq_some_iff.1 hr
  simp only [List.length_range] at h1
  simp only [List.getElem_range] at h2
  subst h2
  simp only [Option.map_some, Option.some.injEq] at h
  exact ⟨h1, h.symm⟩
set_option maxRecDepth 100000 in
theorem open_edits {H : Type} {enc : TypeId × Value → H} {W : World} {r : Reach} {b0 base : Nat} {v : Value} {d : DataW H} {p : List MemPlace}
 (hv : Value.okWide Tryz.prog W r b0 22 v) (h : DataW.Trod enc Tryz.prog W base (fun _ => true) true 22 v d p) :
 ∃ (l : List Ed) (a : Option Addr) (c : Nat), v = .slice a l.length c ∧ l.length ≤ c ∧ ERow W a l ∧ ∀ x, x ∈ l → x.s.size ≤ maxLen := by
 obtain ⟨fuel, hf⟩ := h
 rw [slice_one Tryz.underlying22 hv] at hf
 obtain ⟨a0, n0, c0, V0, rfl, l0, m0, R0, F0⟩ := open_rowK Tryz.underlying22 Tryz.underlying30 (by kernel_rfl) (by decide) (hone_of (by kernel_rfl)) hf
 have S := Tryz.underlying9
 have I := Tryz.underlying3
 have F : ∀ i, i < n0 → V0 i = edC (edOf (V0 i)) ∧ (edOf (V0 i)).s.size ≤ maxLen := fun i hi =>
  ⟨list5 (F0 i hi).1 (field_int I ((F0 i hi).2 0 _ rfl)) (field_int I ((F0 i hi).2 1 _ rfl)) (field_int I ((F0 i hi).2 2 _ rfl)) (field_int I ((F0 i hi).2 3 _ rfl)) (field_str S ((F0 i hi).2 4 _ rfl)).1, (field_str S ((F0 i hi).2 4 _ rfl)).2⟩
 refine ⟨(List.range n0).map fun i => edOf (V0 i), a0, c0, by rw [List.length_map, List.length_range], by rw [List.length_map, List.length_range]; exact l0, ⟨fun hl => ?_⟩, fun x hx => ?_⟩
 · rw [List.length_map, List.length_range] at hl
   obtain ⟨b, off, e, hb, hc⟩ := R0.here hl
   refine ⟨b, off, e, hb, fun i x hx j u hu => ?_⟩
   obtain ⟨hi, rfl⟩ := range_map_get _ hx
   have hj : j < 5 := (List.getElem?_eq_some_iff.1 hu).1
   rw [← (F i hi).1] at hu
   rw [← hu]
   exact hc i hi j hj
 · obtain ⟨i, hi, rfl⟩ := List.mem_map.1 hx
   exact (F i (List.mem_range.1 hi)).2
end Go.Proofs.YtcngjbfbdonpeaaGreatDoor

/- A text of this claim. -/
namespace Go.Proofs.YtcngjbfbdonpeaaGreatDoor
open Go.RowKit Go.BigFrame
open Txt
open Tr (Ed inR)
theorem readEs_len (s : List UInt8) : (readEs s).length ≤ 200 := by
 by_cases h : readErr s = 0
 · have h0 := h
   unfold readErr at h
   unfold readEs
   rw [if_neg (by simp [h0])]
   split at h
   · omega
   · cases hr : readT s 1 [] with
     | bad n => rw [hr] at h; simp at h
     | good l => rw [hr] at h; exact (chk_parts h).1
 · unfold readEs
   rw [if_pos h]
   simp
theorem str_self (a : ByteArray) : (a.toList != a.toList) = false := by simp
set_option maxHeartbeats 8000000 in
set_option maxRecDepth 100000 in
theorem texts_law (l : List Ed) (a : Option Addr) (c : Nat) (s : ByteArray) (w : World) (hr : ERow w a l) (hs : ∀ x, x ∈ l → x.s.size ≤ maxLen) (hg : Glo w) :
 Calls Tryz.prog 3 #[.slice a l.length c, .string s] w fun e w' => e = .returned (.bool true) ∧ Below w.heap.size w w' := by
 have HG := Lib.hid hg
 have HR := Lib.hid hr
 have DP := Lib.hid (print_any a l c w hr hs hg)
 have DQ := Lib.hid (fun (X : Ext w) => rprint_any a l c X.1 (hr.below X.2) hs (hg.below X.2))
 have DA := Lib.hid (fun (X : Ext w) => read_any s X.1 (hg.below X.2))
 have DB := Lib.hid (fun (X : Ext w) => rread_any s X.1 (hg.below X.2))
 have DT := Lib.hid (fun (X : Ext w) => read_any (printS l) X.1 (hg.below X.2))
 have DE := Lib.hid (fun (x y : List Ed) (b d : Option Addr) (e f : Nat) (W : World) (h1 : ERow W b x) (h2 : ERow W d y) (h3 : x.length ≤ 200) => equalE_any x y b d e f W h1 h2 (by omega))
 have HRB := Lib.hid (fun h : chkEL l = 0 => read_back h)
 have HPS := Lib.hid (fun h : chkEL l = 0 => (show sB (printS l) = textW l from by unfold printS; rw [if_pos h]; rfl))
 have HEL := Lib.hid (readEs_len (sB s))
 have HL2 := Lib.hid (fun h : chkEL l = 0 => (chk_parts h).1)
 obtain ⟨p, hp⟩ : ∃ p, printS l = p := ⟨_, rfl⟩
 obtain ⟨ck, hck⟩ : ∃ p, chkEL l = p := ⟨_, rfl⟩
 rw [hp, hck] at DP DQ
 rw [hp] at DT
 rw [hck] at HRB HPS HL2
 rw [hp] at HPS
 obtain ⟨nl, hnl⟩ : ∃ n, l.length = n := ⟨_, rfl⟩
 have HNL := Lib.hid hnl
 rw [hnl] at DP DQ ⊢
 unfold RdR at DA DB DT
 clear hr hs hg hp hck hnl
 have p0 := str_self p
 go_enter Tryz.func3, Tryz.ntmps3
 go_upto_region 2 with (go_at_call 4; refine DP.out.mono ?_; rintro e w1 ⟨rfl, hb1⟩)
 obtain ⟨X1, rfl⟩ : ∃ Z : Ext w, w1 = Z.1 := ⟨⟨w1, hb1⟩, rfl⟩
 clear hb1 DP
 go_upto_region 3 with (go_at_call 5; refine (DQ.out X1).mono ?_; rintro e w2 ⟨rfl, hb2⟩)
 obtain ⟨X2, rfl⟩ : ∃ Z : Ext w, w2 = Z.1 := ⟨⟨w2, below_step X1.2 hb2⟩, rfl⟩
 clear hb2 DQ
 obtain ⟨ra, hra⟩ : ∃ n, readAt (sB s) = n := ⟨_, rfl⟩
 obtain ⟨re, hre⟩ : ∃ n, readErr (sB s) = n := ⟨_, rfl⟩
 obtain ⟨rl, hrl⟩ : ∃ n, readEs (sB s) = n := ⟨_, rfl⟩
 rw [hra, hre, hrl] at DA DB
 rw [hrl] at HEL
 clear hra hre hrl
 go_upto_region 4 with (go_at_call 6; refine (DA.out X2).mono ?_; rintro e w3 ⟨v3, rfl, ho3, hb3⟩)
 obtain ⟨a3, c3, rfl, _, hrow3, _⟩ := ho3.row
 obtain ⟨X3, rfl⟩ : ∃ Z : Ext w, w3 = Z.1 := ⟨⟨w3, below_step X2.2 hb3⟩, rfl⟩
 have HR3 := Lib.hid hrow3
 clear hb3 DA ho3 hrow3
 go_upto_region 5 with (go_at_call 7; refine (DB.out X3).mono ?_; rintro e w4 ⟨v4, rfl, ho4, hb4⟩)
 obtain ⟨a4, c4, rfl, _, hrow4, _⟩ := ho4.row
 obtain ⟨X4, rfl⟩ : ∃ Z : Ext w, w4 = Z.1 := ⟨⟨w4, below_step X3.2 hb4⟩, rfl⟩
 have DE4 := Lib.hid (DE.out rl rl a3 a4 c3 c4 X4.1 (HR3.out.below hb4) hrow4 HEL.out)
 rw [eqEs_self] at DE4
 clear hb4 DB ho4 hrow4
 obtain ⟨n4, hn4⟩ : ∃ n, rl.length = n := ⟨_, rfl⟩
 rw [hn4] at DE4
 rw [hn4]
 clear hn4
 by_cases h0 : ck = 0
 case neg =>
  have x0 : (ck != 0) = true := by simpa using h0
  clear h0
  go_wp2_with (first | (go_at_call 8; refine DE4.out.mono ?_; rintro e w5 ⟨rfl, q5, rfl⟩) | (go_at_call 9; refine (told2_any _).mono ?_; rintro e w6 ⟨rfl, hb6⟩))
  go_ret
  exact ⟨rfl, below_step X4.2 ((show Below X4.1.heap.size X4.1 (X4.1.drewN q5) from ⟨rfl, rfl, rfl, Nat.le_refl _, fun _ _ => rfl⟩).trans hb6)⟩
 case pos =>
  subst h0
  have hb := HRB.out rfl
  rw [← HPS.out rfl] at hb
  have HL3 := Lib.hid (HL2.out rfl)
  clear HL2
  rw [hb.1, hb.2.1, hb.2.2] at DT
  clear hb
  go_upto_region 9 with (go_at_call 8; refine DE4.out.mono ?_; rintro e w5 ⟨rfl, q5, rfl⟩)
  obtain ⟨X5, h5⟩ : ∃ Z : Ext w, X4.1.drewN q5 = Z.1 := ⟨⟨X4.1.drewN q5, below_step X4.2 (show Below X4.1.heap.size X4.1 (X4.1.drewN q5) from ⟨rfl, rfl, rfl, Nat.le_refl _, fun _ _ => rfl⟩)⟩, rfl⟩
  rw [h5]
  clear h5 DE4
  go_upto_region 10 with (go_at_call 6; refine (DT.out X5).mono ?_; rintro e w6 ⟨v6, rfl, ho6, hb6⟩)
  obtain ⟨a6, c6, rfl, _, hrow6, _⟩ := ho6.row
  obtain ⟨X6, rfl⟩ : ∃ Z : Ext w, w6 = Z.1 := ⟨⟨w6, below_step X5.2 hb6⟩, rfl⟩
  have DE6 := Lib.hid (DE.out l l a6 a c6 c X6.1 hrow6 (HR.out.below X6.2) HL3.out)
  rw [eqEs_self, HNL.out] at DE6
  rw [HNL.out]
  clear hb6 ho6 hrow6 DT HL3
  go_wp2_with (first | (go_at_call 8; refine DE6.out.mono ?_; rintro e w5 ⟨rfl, q5, rfl⟩) | (go_at_call 9; refine (told2_any _).mono ?_; rintro e w6 ⟨rfl, hb6⟩))
  go_ret
  exact ⟨rfl, below_step X6.2 ((show Below X6.1.heap.size X6.1 (X6.1.drewN q5) from ⟨rfl, rfl, rfl, Nat.le_refl _, fun _ _ => rfl⟩).trans hb6)⟩
end Go.Proofs.YtcngjbfbdonpeaaGreatDoor
