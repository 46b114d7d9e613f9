/- Several texts of this claim in one. -/
import Derived.Test.YtcngjbfbdonpeaaGreatDoorMt4
import Derived.Test.YtcngjbfbdonpeaaGreatDoorMt3
import Derived.Lib.IndexAny
/- A text of this claim. -/
namespace Go.Proofs.YtcngjbfbdonpeaaGreatDoor
open Go.RowKit Go.BigFrame
open Txt
open Tr (Ed inR)
theorem piece_le : ∀ (k : Nat) (s x : List UInt8), x ∈ Lib.splitK [32] 0 k s → x.length ≤ s.length
 | 0, s, x, h => by
  rw [Lib.splitK] at h
  rw [List.mem_singleton.1 h]
  exact Nat.le_refl _
 | k + 1, s, x, h => by
  rw [splitK_cut] at h
  have hc := cut1_len s 32
  split at h
  · rcases List.mem_cons.1 h with e | h
    · rw [e]; exact hc.1
    · exact Nat.le_trans (piece_le k _ x h) hc.2.1
  · rw [List.mem_singleton.1 h]
    exact Nat.le_refl _
theorem splitK_len : ∀ (k : Nat) (s : List UInt8), 1 ≤ (Lib.splitK [32] 0 k s).length ∧ (Lib.splitK [32] 0 k s).length ≤ k + 1
 | 0, s => by rw [Lib.splitK]; simp
 | k + 1, s => by
  rw [splitK_cut]
  have := splitK_len k (Lib.cut s [32]).2.1
  split
  · rw [List.length_cons]; omega
  · simp
def CXK (i : Int) (B : Nat) (W : World) : Type := { w : World // Kept (fun q => q = B ∨ q = B + 1) W w ∧ w.cell? ⟨B, 0, none⟩ = some (.int .i64 i) }
def CXA (k n f t : Int) (s : ByteArray) (ok : Bool) (B : Nat) (W : World) : Type := { w : World // Kept (fun q => q = B ∨ q = B + 1) W w ∧ XB w B k n f t s ok }
section
variable {W : World} {B : Nat} {k n f t : Int} {s : ByteArray} {ok : Bool}
theorem XB.out5 (h : XB W B k n f t s ok) :
 XB (((((W.setCell ⟨B, 0, none⟩ (.int .i64 k)).setCell ⟨B, 1, none⟩ (.int .i64 n)).setCell ⟨B, 2, none⟩ (.int .i64 f)).setCell ⟨B, 3, none⟩ (.int .i64 t)).setCell ⟨B, 4, none⟩ (.string s)) B k n f t s ok ∧
 Kept (fun q => q = B ∨ q = B + 1) W (((((W.setCell ⟨B, 0, none⟩ (.int .i64 k)).setCell ⟨B, 1, none⟩ (.int .i64 n)).setCell ⟨B, 2, none⟩ (.int .i64 f)).setCell ⟨B, 3, none⟩ (.int .i64 t)).setCell ⟨B, 4, none⟩ (.string s)) :=
 ⟨((((h.setK k).setN n).setF f).setT t).setS s, (((((kept_set1.weaken2 fun _ e => Or.inl e).trans (kept_set1.weaken2 fun _ e => Or.inl e)).trans (kept_set1.weaken2 fun _ e => Or.inl e)).trans (kept_set1.weaken2 fun _ e => Or.inl e)).trans (kept_set1.weaken2 fun _ e => Or.inl e))⟩
theorem XB.out (h : XB W B k n f t s ok) (r : Bool) :
 XB ((((((W.setCell ⟨B, 0, none⟩ (.int .i64 k)).setCell ⟨B, 1, none⟩ (.int .i64 n)).setCell ⟨B, 2, none⟩ (.int .i64 f)).setCell ⟨B, 3, none⟩ (.int .i64 t)).setCell ⟨B, 4, none⟩ (.string s)).setCell ⟨B + 1, 0, none⟩ (.bool r)) B k n f t s r ∧
 Kept (fun q => q = B ∨ q = B + 1) W ((((((W.setCell ⟨B, 0, none⟩ (.int .i64 k)).setCell ⟨B, 1, none⟩ (.int .i64 n)).setCell ⟨B, 2, none⟩ (.int .i64 f)).setCell ⟨B, 3, none⟩ (.int .i64 t)).setCell ⟨B, 4, none⟩ (.string s)).setCell ⟨B + 1, 0, none⟩ (.bool r)) :=
 ⟨h.out5.1.setO r, h.out5.2.trans (kept_set1.weaken2 fun _ e => Or.inr e)⟩
theorem XB.num {W' : World} {r : Bool} (h : XB W B k n f t s ok) (hb : W'.heap[B + 1]? = some (.cells #[.bool r] 4 (0, 0))) (hk : Kept (fun q => q = B + 1) W W') : XB W' B k n f t s r :=
 ⟨(hk.block B (lt_of_block h.x) (by omega)).trans h.x, hb⟩
end
theorem others {i : Int} (h : i = 2 ∨ i = 7 ∨ i = 9 ∨ i = 10) : ∃ T, edI ⟨i, 0, 0, 0, ⟨#[]⟩⟩ = .iface T (edV ⟨i, 0, 0, 0, ⟨#[]⟩⟩) ∧
 (∀ v W, (Instr.typeAssert (.iface T v) 56 58 true).run Tryz.prog W = .ok (.tuple #[.agg #[.int .i64 0, .int .i64 0, .int .i64 0, .int .i64 0, .string ⟨#[]⟩], .bool false]) W) ∧
 (∀ v W, (Instr.typeAssert (.iface T v) 56 59 true).run Tryz.prog W = .ok (.tuple #[.agg #[.int .i64 0, .int .i64 0, .int .i64 0, .int .i64 0, .string ⟨#[]⟩], .bool false]) W) := by
 rcases h with rfl | rfl | rfl | rfl
 · exact ⟨_, rfl, fun v W => ta_counted_texted v W, fun v W => ta_counted_parted v W⟩
 · exact ⟨_, rfl, fun v W => ta_counted_texted v W, fun v W => ta_counted_parted v W⟩
 · exact ⟨_, rfl, fun v W => ta_tracked_texted v W, fun v W => ta_tracked_parted v W⟩
 · exact ⟨_, rfl, fun v W => ta_tracked_texted v W, fun v W => ta_tracked_parted v W⟩
theorem num_ret {k : Nat} {i nn : Int} {o sg : Bool} {l : List UInt8} {q : Option Ed} (hq : q = (numW sg l).map fun n => ⟨k, n, 0, 0, ⟨#[]⟩⟩) (hi : i = k) (ho : (numP sg l).isSome = o) (hv : ∀ v, numP sg l = some v → nn = v) : q.isSome = o ∧ ∀ y, q = some y → (⟨i, nn, 0, 0, ⟨#[]⟩⟩ : Ed) = y := by
 subst hq hi
 rw [numP_is] at ho hv
 refine ⟨by rw [Option.isSome_map]; exact ho, fun y hy => ?_⟩
 obtain ⟨v, h1, rfl⟩ := Option.map_eq_some_iff.1 hy
 rw [hv v h1]
theorem pair_ret {k : Nat} {i f t : Int} {o1 o2 : Bool} {l m : List UInt8} {s : ByteArray} {q : Option Ed} (hq : q = (numW false l).bind fun f => (numW false m).map fun t => ⟨k, 0, f, t, s⟩) (hi : i = k) (h1 : (numP false l).isSome = o1) (hv1 : ∀ v, numP false l = some v → f = v)
 (h2 : (numP false m).isSome = o2) (hv2 : ∀ v, numP false m = some v → t = v) : q.isSome = (o1 && o2) ∧ ∀ y, q = some y → (⟨i, 0, f, t, s⟩ : Ed) = y := by
 subst hq hi
 rw [numP_is] at h1 hv1 h2 hv2
 cases hl : numW false l with
 | none =>
  rw [hl] at h1
  refine ⟨?_, fun y hy => by cases hy⟩
  rw [← h1]
  rfl
 | some v =>
  rw [hl] at h1
  rw [Option.bind_some]
  refine ⟨?_, fun y hy => ?_⟩
  · rw [Option.isSome_map, h2, ← h1]
    rfl
  · obtain ⟨u, h3, rfl⟩ := Option.map_eq_some_iff.1 hy
    rw [hv1 v hl, hv2 u h3]
theorem three_new (w : World) (o1 o2 : Obj) : ((w.alloc o1).alloc o2).heap[w.heap.size]? = some o1 ∧ ((w.alloc o1).alloc o2).heap[w.heap.size + 1]? = some o2 := by
 refine ⟨?_, ?_⟩
 · rw [(below_al (w.alloc o1) o2).block _ (by simp)]
   exact heap_alloc_new w o1
 · have := heap_alloc_new (w.alloc o1) o2
   rwa [show (w.alloc o1).heap.size = w.heap.size + 1 by simp] at this
theorem split_any (line : ByteArray) (hs : line.size ≤ 1000000) (ws : List ByteArray) (hw : Lib.splitK [32] 0 3 (sB line) = ws.map sB) (n : Nat) (hn : ws.length = n) (w : World) (hg : Glo w) :
 Calls Tryz.prog 32 #[.string line, .string ⟨#[32]⟩, .int .i64 4] w fun e w' => ∃ c, e = .returned (.slice (some ⟨w.heap.size, 0, none⟩) n c) ∧ (∀ j x, ws[j]? = some x → w'.cell? ⟨w.heap.size, j, none⟩ = some (.string x)) ∧ Below w.heap.size w w' := by
 obtain ⟨m, hm⟩ := hg.m
 have hsp : Lib.splitB ⟨#[32]⟩ 0 (min 4 (line.size + 1) - 1) line = ws := by
  have h1 := Lib.splitB_data ⟨#[32]⟩ 0 (min 4 (line.size + 1) - 1) line
  have h2 : Lib.splitK [32] 0 (min 4 (line.size + 1) - 1) (sB line) = Lib.splitK [32] 0 3 (sB line) := splitN4 (sB line)
  have h3 : (Lib.splitB ⟨#[32]⟩ 0 (min 4 (line.size + 1) - 1) line).map sB = ws.map sB := h1.trans (h2.trans hw)
  exact (List.map_inj_right fun x y => sB_inj).1 h3
 refine (Tryz.strings_SplitN line ⟨#[32]⟩ 4 m w (by omega) hm (by decide) (by decide) (by decide)).mono ?_
 rintro e w' ⟨rfl, rfl⟩
 rw [hsp, hn]
 refine ⟨_, rfl, fun j x hj => ?_, below_al w _⟩
 rw [World.cell?_alloc_at _ _ _ _ rfl]
 unfold Lib.cellsOf
 rw [List.getElem?_toArray]
 rw [List.getElem?_append_left (by rw [List.length_map]; exact (List.getElem?_eq_some_iff.1 hj).1), List.getElem?_map, hj]
 rfl
def EdRet (o : Option Ed) (w : World) (e : Ending) (w' : World) : Prop := ∃ x : Ed, e = .returned (.tuple #[edV x, .bool o.isSome]) ∧ (∀ y, o = some y → x = y) ∧ Below w.heap.size w w'
theorem index_words (x : ByteArray) (g : Nat) (w W : World) (hw : W = w.alloc (.cells wordsV 9)) (hg : g = w.heap.size) :
 Calls Tryz.prog 33 #[.slice (some ⟨g, 0, none⟩) 13 13, .string x] W fun e w' => e = .returned (.int .i64 (Lib.idxOfS wordsT x)) ∧ w' = W := by
 subst hw hg
 exact Tryz.slices_Index_string w.heap.size 0 13 13 wordsT x _ (by decide) (by decide) (fun j hj => by
  rw [World.cell?_alloc_at _ _ _ _ rfl, Nat.zero_add, wordsV_at hj]
  have : j = 0 ∨ j = 1 ∨ j = 2 ∨ j = 3 ∨ j = 4 ∨ j = 5 ∨ j = 6 ∨ j = 7 ∨ j = 8 ∨ j = 9 ∨ j = 10 ∨ j = 11 ∨ j = 12 := by
   have : wordsT.length = 13 := rfl
   omega
  rcases this with rfl | rfl | rfl | rfl | rfl | rfl | rfl | rfl | rfl | rfl | rfl | rfl | rfl <;> rfl)
set_option maxHeartbeats 8000000 in
set_option maxRecDepth 100000 in
theorem readEdit_1 (line : ByteArray) (w : World) (hg : Glo w) (hs : line.size ≤ 1000000) (a : ByteArray) (hw : Lib.splitK [32] 0 3 (sB line) = [sB a]) :
 Calls Tryz.prog 21 #[.string line] w fun e w' => EdRet (readP [sB a]) w e w' := by
 have HG := Lib.hid hg
 have HLE : Hid (a.size ≤ 1000000) := Lib.hid (by
  have hp := piece_le 3 (sB line)
  rw [hw] at hp
  have hl : (sB line).length = line.size := rfl
  exact Nat.le_trans (hp (sB a) (by simp)) (by omega))
 have DS := Lib.hid (fun (W : World) (hW : Glo W) => split_any line hs [a] hw 1 rfl W hW)
 clear hw hs hg
 obtain ⟨V0, hV0, hb0, hs0, hl0⟩ := alloc_cells w #[.int .i64 0, .int .i64 0, .int .i64 0, .int .i64 0, .string ⟨#[]⟩] 30
 obtain ⟨V1, hV1, hb1, hs1, hl1⟩ := alloc_cells V0 #[.bool false] 4
 obtain ⟨B, hB⟩ : ∃ B, w.heap.size = B := ⟨_, rfl⟩
 have HX1 : Hid (XB V1 B 0 0 0 0 ⟨#[]⟩ false) := Lib.hid (by
  have h3 := three_new w (.cells #[.int .i64 0, .int .i64 0, .int .i64 0, .int .i64 0, .string ⟨#[]⟩] 30 (0, 0)) (.cells #[.bool false] 4 (0, 0))
  rw [hV0, hV1, hB] at h3
  exact ⟨h3.1, h3.2⟩)
 have HB1 := Lib.hid (show Below B w V1 from by
  have := below_tr (B := w.heap.size) hb0 (by omega) hb1
  rwa [hB] at this)
 have hs0' : V0.heap.size = B + 1 := by omega
 have HS1 := Lib.hid (show V1.heap.size = B + 2 by omega)
 clear hb0 hb1 hl0 hl1 hs0 hs1
 go_enter Tryz.func21, Tryz.ntmps21
 go_upto_region 2 with (go_at_call 32; refine (DS.out _ (HG.out.below (by rw [hB]; exact HB1.out))).mono ?_; rintro e w3 ⟨cap, rfl, hcells, hb3⟩; rw [HS1.out] at hcells hb3 ⊢)
 clear hV0 hV1 hs0'
 have HXW := Lib.hid (HX1.out.below (by rw [HS1.out]; exact hb3))
 have HBW := Lib.hid (HB1.out.trans (hb3.mono (by omega)))
 clear hb3 HX1 HB1 DS
 obtain ⟨i, hi⟩ : ∃ i, Lib.idxOfS wordsT a = i := ⟨_, rfl⟩
 have DI := Lib.hid (fun g w W h1 h2 => index_words a g w W h1 h2)
 have HK := Lib.hid (idx_kind a)
 rw [hi] at DI HK
 clear hi
 have hO : ∀ j, ¬ (fun q => q = B ∨ q = B + 1) (⟨B + 2, j, none⟩ : Addr).block := fun j h => by
  rcases h with h | h
  · simp at h
  · simp at h
 have HO := Lib.hid hO
 have E0 := ExtO.ex (O := (fun q => q = B ∨ q = B + 1)) (hO 0) (hcells 0 a rfl)
 clear hO hcells
 go_cut [] (fun wx => ∃ X : ExtO (fun q => q = B ∨ q = B + 1) w3, wx = X.1 ∧ Hid (XB X.1 B i 0 0 0 ⟨#[]⟩ false))
 case first =>
  refine held_start (C := fun w' => ∃ Z : ExtO (fun q => q = B ∨ q = B + 1) w3, w' = Z.1) (by kernel_rfl) ?_
  obtain ⟨Z0, hZ0⟩ : ∃ Z : ExtO (fun q => q = B ∨ q = B + 1) w3, ({ w3 with drawn := w3.drawn + 1 } : World) = Z.1 := ⟨⟨{ w3 with drawn := w3.drawn + 1 }, ⟨rfl, rfl, rfl, Nat.le_refl _, fun _ _ _ => rfl⟩⟩, rfl⟩
  rw [hZ0]
  have HX0 := Lib.hid (HXW.out.below (show Below w3.heap.size w3 Z0.1 from hZ0 ▸ ⟨rfl, rfl, rfl, Nat.le_refl _, fun _ _ => rfl⟩))
  clear hZ0
  refine held_quiet (by kernel_rfl) (fun _ _ d _ _ h => by cases d <;> exact h) ⟨Z0, rfl⟩ [1, 2, 3] 4 _ _ (by kernel_rfl) ?_
  change wpQuiet _ _ _ _ (_ :: _ :: _ :: []) _
  repeat go_big_quiet_step (fail)
  refine wpQuiet_nil ?_
  refine held_do (i := 0) _ rfl (by kernel_rfl) rfl (fun K hK => ?_)
  go_simp
  refine (words_any _).mono ?_
  rintro e w2 ⟨rfl, hw2⟩
  have hb2 : Below Z0.1.heap.size Z0.1 w2 := by rw [hw2]; exact below_al _ _
  obtain ⟨Z1, rfl⟩ : ∃ Z : ExtO (fun q => q = B ∨ q = B + 1) w3, w2 = Z.1 := ⟨⟨w2, Z0.2.trans (Kept.of_below hb2)⟩, rfl⟩
  have HX1 := Lib.hid (HX0.out.below hb2)
  have DZ := DI.out _ _ _ hw2 rfl
  have DZ := Lib.hid DZ
  clear hw2 hb2 HX0
  refine hK _ _ ⟨Z1, rfl⟩ ?_
  clear hK K
  try simp only [Act.put, List.setIfInBounds_toArray, List.set_cons_zero, List.set_cons_succ]
  refine held_do (i := 4) _ rfl (by kernel_rfl) rfl (fun K hK => ?_)
  go_simp
  refine DZ.out.mono ?_
  rintro e w4 ⟨rfl, rfl⟩
  refine hK _ _ ⟨Z1, rfl⟩ ?_
  clear hK K
  try simp only [Act.put, List.setIfInBounds_toArray, List.set_cons_zero, List.set_cons_succ]
  refine held_quiet (by kernel_rfl) (fun _ _ d _ _ h => by cases d <;> exact h) ⟨Z1, rfl⟩ [5] 1 _ _ (by kernel_rfl) ?_
  change wpQuiet _ _ _ _ (_ :: []) _
  repeat go_big_quiet_step (fail)
  refine wpQuiet_nil ?_
  refine held_do (i := 6) _ rfl (by kernel_rfl) rfl (fun K hK => ?_)
  go_simp
  have c0 := HX1.out.cells.1
  have f0 := HX1.out.free.1 0
  go_simp
  have HX2 := HX1.out.setK i
  obtain ⟨Z2, hZ⟩ : ∃ Z : ExtO (fun q => q = B ∨ q = B + 1) w3, Z1.1.setCell ⟨B, 0, none⟩ (.int .i64 i) = Z.1 := ⟨⟨_, Z1.2.trans (kept_set1.weaken2 fun q e => Or.inl e)⟩, rfl⟩
  rw [hZ] at HX2 ⊢
  have HX2 := Lib.hid HX2
  clear hZ c0 f0
  refine hK _ _ ⟨Z2, rfl⟩ ?_
  clear hK K
  try simp only [Act.put, List.setIfInBounds_toArray, List.set_cons_zero, List.set_cons_succ]
  refine wpAnyH_done (by kernel_rfl) ?_ _
  go_wp2_with fail
  go_meet
  exact ⟨Z2, rfl, HX2⟩
 case rest =>
  obtain ⟨X, rfl, HX⟩ := hcut
  have FIN := Lib.hid (fun Y : ExtO (fun q => q = B ∨ q = B + 1) w3 => (show Below w.heap.size w Y.1 from by
   rw [hB]
   exact Y.down HBW.out (hB ▸ HBW.out.size) (fun k hk h => by rcases h with h | h <;> omega)))
  have ⟨x0, x1, x2, x3, x4, x5⟩ := HX.out.cells
  have ⟨y6, y7⟩ := HX.out.free
  have y0 := y6 0
  have y1 := y6 1
  have y2 := y6 2
  have y3 := y6 3
  have y4 := y6 4
  clear y6
  clear hB DI
  rcases HK.out with ⟨h1, h2⟩ | ⟨h1, h2⟩
  case inl =>
   have t1 := decide_eq_true h1
   have HR : Hid (readP [sB a] = none) := Lib.hid (by
    unfold readP
    rw [List.headD_cons, bs_sB, h2, if_pos rfl])
   clear h1 h2
   have HQ := Lib.hid (HX.out.out false)
   go_wp2_with fail
   obtain ⟨W9, h9⟩ : ∃ W9, (((((X.1.setCell ⟨B, 0, none⟩ (.int .i64 i)).setCell ⟨B, 1, none⟩ (.int .i64 0)).setCell ⟨B, 2, none⟩ (.int .i64 0)).setCell ⟨B, 3, none⟩ (.int .i64 0)).setCell ⟨B, 4, none⟩ (.string ⟨#[]⟩)).setCell ⟨B + 1, 0, none⟩ (.bool false) = W9 := ⟨_, rfl⟩
   have HQ9 := HQ.out
   rw [h9] at HQ9 ⊢
   have HF : Hid (Below w.heap.size w W9) := Lib.hid (FIN.out ⟨W9, X.2.trans HQ9.2⟩)
   have ⟨z0, z1, z2, z3, z4, z5⟩ := HQ9.1.cells
   clear h9 HQ9
   refine bodyPost_ret (v := .tuple #[.agg #[.int .i64 i, .int .i64 0, .int .i64 0, .int .i64 0, .string ⟨#[]⟩], .bool false]) (by simp [results, Tryz.results21, go_sem, z0, z1, z2, z3, z4, z5]) rfl ?_
   exact ⟨⟨i, 0, 0, 0, ⟨#[]⟩⟩, (by rw [HR.out]; rfl), (by rw [HR.out]; exact fun y hy => by cases (show none = some y from hy)), HF.out⟩
  case inr =>
   obtain ⟨k, hk0⟩ : ∃ k, kindW a = k := ⟨_, rfl⟩
   have hle := kindW_le a
   have HR : Hid (readP [sB a] = readV k [sB a]) := Lib.hid (by
    unfold readP
    rw [List.headD_cons, bs_sB, hk0, if_neg (by omega)])
   rw [hk0] at h1 h2 hle
   have HI := Lib.hid h1
   have t1 : decide (i < 1) = false := by rw [decide_eq_false_iff_not]; omega
   clear hk0
   by_cases h8 : k = 8
   · obtain rfl : i = 8 := by omega
     subst h8
     clear h1 h2 hle t1
     have HQ := Lib.hid (HX.out.out false)
     go_wp2_with fail
     obtain ⟨W9, h9⟩ : ∃ W9, (((((X.1.setCell ⟨B, 0, none⟩ (.int .i64 8)).setCell ⟨B, 1, none⟩ (.int .i64 0)).setCell ⟨B, 2, none⟩ (.int .i64 0)).setCell ⟨B, 3, none⟩ (.int .i64 0)).setCell ⟨B, 4, none⟩ (.string ⟨#[]⟩)).setCell ⟨B + 1, 0, none⟩ (.bool false) = W9 := ⟨_, rfl⟩
     have HQ9 := HQ.out
     rw [h9] at HQ9 ⊢
     have HF : Hid (Below w.heap.size w W9) := Lib.hid (FIN.out ⟨W9, X.2.trans HQ9.2⟩)
     have ⟨z0, z1, z2, z3, z4, z5⟩ := HQ9.1.cells
     clear h9 HQ9
     refine bodyPost_ret (v := .tuple #[.agg #[.int .i64 8, .int .i64 0, .int .i64 0, .int .i64 0, .string ⟨#[]⟩], .bool false]) (by simp [results, Tryz.results21, go_sem, z0, z1, z2, z3, z4, z5]) rfl ?_
     exact ⟨⟨8, 0, 0, 0, ⟨#[]⟩⟩, (by rw [HR.out]; rfl), (by rw [HR.out]; exact fun y hy => by cases (show none = some y from hy)), HF.out⟩
   by_cases h11 : k = 11
   · obtain rfl : i = 11 := by omega
     subst h11
     clear h1 h2 hle t1 h8
     have HQ := Lib.hid (HX.out.out false)
     go_wp2_with fail
     obtain ⟨W9, h9⟩ : ∃ W9, (((((X.1.setCell ⟨B, 0, none⟩ (.int .i64 11)).setCell ⟨B, 1, none⟩ (.int .i64 0)).setCell ⟨B, 2, none⟩ (.int .i64 0)).setCell ⟨B, 3, none⟩ (.int .i64 0)).setCell ⟨B, 4, none⟩ (.string ⟨#[]⟩)).setCell ⟨B + 1, 0, none⟩ (.bool false) = W9 := ⟨_, rfl⟩
     have HQ9 := HQ.out
     rw [h9] at HQ9 ⊢
     have HF : Hid (Below w.heap.size w W9) := Lib.hid (FIN.out ⟨W9, X.2.trans HQ9.2⟩)
     have ⟨z0, z1, z2, z3, z4, z5⟩ := HQ9.1.cells
     clear h9 HQ9
     refine bodyPost_ret (v := .tuple #[.agg #[.int .i64 11, .int .i64 0, .int .i64 0, .int .i64 0, .string ⟨#[]⟩], .bool false]) (by simp [results, Tryz.results21, go_sem, z0, z1, z2, z3, z4, z5]) rfl ?_
     exact ⟨⟨11, 0, 0, 0, ⟨#[]⟩⟩, (by rw [HR.out]; rfl), (by rw [HR.out]; exact fun y hy => by cases (show none = some y from hy)), HF.out⟩
   have t8 : (i == 8) = false := by rw [beq_eq_false_iff_ne]; omega
   have t8' : decide (i = 8) = false := by rw [decide_eq_false_iff_not]; omega
   have t11 : (i == 11) = false := by rw [beq_eq_false_iff_ne]; omega
   have t11' : decide (i = 11) = false := by rw [decide_eq_false_iff_not]; omega
   have HN : Hid (readV k [sB a] = none) := Lib.hid (by
    rfl)
   clear h1 h2 hle h8 h11
   have HQ := Lib.hid (HX.out.out false)
   go_wp2_with fail
   obtain ⟨W9, h9⟩ : ∃ W9, (((((X.1.setCell ⟨B, 0, none⟩ (.int .i64 i)).setCell ⟨B, 1, none⟩ (.int .i64 0)).setCell ⟨B, 2, none⟩ (.int .i64 0)).setCell ⟨B, 3, none⟩ (.int .i64 0)).setCell ⟨B, 4, none⟩ (.string ⟨#[]⟩)).setCell ⟨B + 1, 0, none⟩ (.bool false) = W9 := ⟨_, rfl⟩
   have HQ9 := HQ.out
   rw [h9] at HQ9 ⊢
   have HF : Hid (Below w.heap.size w W9) := Lib.hid (FIN.out ⟨W9, X.2.trans HQ9.2⟩)
   have ⟨z0, z1, z2, z3, z4, z5⟩ := HQ9.1.cells
   clear h9 HQ9
   refine bodyPost_ret (v := .tuple #[.agg #[.int .i64 i, .int .i64 0, .int .i64 0, .int .i64 0, .string ⟨#[]⟩], .bool false]) (by simp [results, Tryz.results21, go_sem, z0, z1, z2, z3, z4, z5]) rfl ?_
   exact ⟨⟨i, 0, 0, 0, ⟨#[]⟩⟩, (by rw [HR.out, HN.out]; rfl), (by rw [HR.out, HN.out]; exact fun y hy => by cases hy), HF.out⟩
set_option maxHeartbeats 8000000 in
set_option maxRecDepth 100000 in
theorem readEdit_2 (line : ByteArray) (w : World) (hg : Glo w) (hs : line.size ≤ 1000000) (a b : ByteArray) (hw : Lib.splitK [32] 0 3 (sB line) = [sB a, sB b]) :
 Calls Tryz.prog 21 #[.string line] w fun e w' => EdRet (readP [sB a, sB b]) w e w' := by
 have HG := Lib.hid hg
 have HLE : Hid (a.size ≤ 1000000 ∧ b.size ≤ 1000000) := Lib.hid (by
  have hp := piece_le 3 (sB line)
  rw [hw] at hp
  have hl : (sB line).length = line.size := rfl
  exact ⟨Nat.le_trans (hp (sB a) (by simp)) (by omega), Nat.le_trans (hp (sB b) (by simp)) (by omega)⟩)
 have DS := Lib.hid (fun (W : World) (hW : Glo W) => split_any line hs [a, b] hw 2 rfl W hW)
 clear hw hs hg
 obtain ⟨V0, hV0, hb0, hs0, hl0⟩ := alloc_cells w #[.int .i64 0, .int .i64 0, .int .i64 0, .int .i64 0, .string ⟨#[]⟩] 30
 obtain ⟨V1, hV1, hb1, hs1, hl1⟩ := alloc_cells V0 #[.bool false] 4
 obtain ⟨B, hB⟩ : ∃ B, w.heap.size = B := ⟨_, rfl⟩
 have HX1 : Hid (XB V1 B 0 0 0 0 ⟨#[]⟩ false) := Lib.hid (by
  have h3 := three_new w (.cells #[.int .i64 0, .int .i64 0, .int .i64 0, .int .i64 0, .string ⟨#[]⟩] 30 (0, 0)) (.cells #[.bool false] 4 (0, 0))
  rw [hV0, hV1, hB] at h3
  exact ⟨h3.1, h3.2⟩)
 have HB1 := Lib.hid (show Below B w V1 from by
  have := below_tr (B := w.heap.size) hb0 (by omega) hb1
  rwa [hB] at this)
 have hs0' : V0.heap.size = B + 1 := by omega
 have HS1 := Lib.hid (show V1.heap.size = B + 2 by omega)
 clear hb0 hb1 hl0 hl1 hs0 hs1
 go_enter Tryz.func21, Tryz.ntmps21
 go_upto_region 2 with (go_at_call 32; refine (DS.out _ (HG.out.below (by rw [hB]; exact HB1.out))).mono ?_; rintro e w3 ⟨cap, rfl, hcells, hb3⟩; rw [HS1.out] at hcells hb3 ⊢)
 clear hV0 hV1 hs0'
 have HXW := Lib.hid (HX1.out.below (by rw [HS1.out]; exact hb3))
 have HBW := Lib.hid (HB1.out.trans (hb3.mono (by omega)))
 clear hb3 HX1 HB1 DS
 obtain ⟨i, hi⟩ : ∃ i, Lib.idxOfS wordsT a = i := ⟨_, rfl⟩
 have DI := Lib.hid (fun g w W h1 h2 => index_words a g w W h1 h2)
 have HK := Lib.hid (idx_kind a)
 rw [hi] at DI HK
 clear hi
 have hO : ∀ j, ¬ (fun q => q = B ∨ q = B + 1) (⟨B + 2, j, none⟩ : Addr).block := fun j h => by
  rcases h with h | h
  · simp at h
  · simp at h
 have HO := Lib.hid hO
 have E0 := ExtO.ex (O := (fun q => q = B ∨ q = B + 1)) (hO 0) (hcells 0 a rfl)
 have E1 := ExtO.ex (O := (fun q => q = B ∨ q = B + 1)) (hO 1) (hcells 1 b rfl)
 clear hO hcells
 go_cut [] (fun wx => ∃ X : ExtO (fun q => q = B ∨ q = B + 1) w3, wx = X.1 ∧ Hid (XB X.1 B i 0 0 0 ⟨#[]⟩ false))
 case first =>
  refine held_start (C := fun w' => ∃ Z : ExtO (fun q => q = B ∨ q = B + 1) w3, w' = Z.1) (by kernel_rfl) ?_
  obtain ⟨Z0, hZ0⟩ : ∃ Z : ExtO (fun q => q = B ∨ q = B + 1) w3, ({ w3 with drawn := w3.drawn + 1 } : World) = Z.1 := ⟨⟨{ w3 with drawn := w3.drawn + 1 }, ⟨rfl, rfl, rfl, Nat.le_refl _, fun _ _ _ => rfl⟩⟩, rfl⟩
  rw [hZ0]
  have HX0 := Lib.hid (HXW.out.below (show Below w3.heap.size w3 Z0.1 from hZ0 ▸ ⟨rfl, rfl, rfl, Nat.le_refl _, fun _ _ => rfl⟩))
  clear hZ0
  refine held_quiet (by kernel_rfl) (fun _ _ d _ _ h => by cases d <;> exact h) ⟨Z0, rfl⟩ [1, 2, 3] 4 _ _ (by kernel_rfl) ?_
  change wpQuiet _ _ _ _ (_ :: _ :: _ :: []) _
  repeat go_big_quiet_step (fail)
  refine wpQuiet_nil ?_
  refine held_do (i := 0) _ rfl (by kernel_rfl) rfl (fun K hK => ?_)
  go_simp
  refine (words_any _).mono ?_
  rintro e w2 ⟨rfl, hw2⟩
  have hb2 : Below Z0.1.heap.size Z0.1 w2 := by rw [hw2]; exact below_al _ _
  obtain ⟨Z1, rfl⟩ : ∃ Z : ExtO (fun q => q = B ∨ q = B + 1) w3, w2 = Z.1 := ⟨⟨w2, Z0.2.trans (Kept.of_below hb2)⟩, rfl⟩
  have HX1 := Lib.hid (HX0.out.below hb2)
  have DZ := DI.out _ _ _ hw2 rfl
  have DZ := Lib.hid DZ
  clear hw2 hb2 HX0
  refine hK _ _ ⟨Z1, rfl⟩ ?_
  clear hK K
  try simp only [Act.put, List.setIfInBounds_toArray, List.set_cons_zero, List.set_cons_succ]
  refine held_do (i := 4) _ rfl (by kernel_rfl) rfl (fun K hK => ?_)
  go_simp
  refine DZ.out.mono ?_
  rintro e w4 ⟨rfl, rfl⟩
  refine hK _ _ ⟨Z1, rfl⟩ ?_
  clear hK K
  try simp only [Act.put, List.setIfInBounds_toArray, List.set_cons_zero, List.set_cons_succ]
  refine held_quiet (by kernel_rfl) (fun _ _ d _ _ h => by cases d <;> exact h) ⟨Z1, rfl⟩ [5] 1 _ _ (by kernel_rfl) ?_
  change wpQuiet _ _ _ _ (_ :: []) _
  repeat go_big_quiet_step (fail)
  refine wpQuiet_nil ?_
  refine held_do (i := 6) _ rfl (by kernel_rfl) rfl (fun K hK => ?_)
  go_simp
  have c0 := HX1.out.cells.1
  have f0 := HX1.out.free.1 0
  go_simp
  have HX2 := HX1.out.setK i
  obtain ⟨Z2, hZ⟩ : ∃ Z : ExtO (fun q => q = B ∨ q = B + 1) w3, Z1.1.setCell ⟨B, 0, none⟩ (.int .i64 i) = Z.1 := ⟨⟨_, Z1.2.trans (kept_set1.weaken2 fun q e => Or.inl e)⟩, rfl⟩
  rw [hZ] at HX2 ⊢
  have HX2 := Lib.hid HX2
  clear hZ c0 f0
  refine hK _ _ ⟨Z2, rfl⟩ ?_
  clear hK K
  try simp only [Act.put, List.setIfInBounds_toArray, List.set_cons_zero, List.set_cons_succ]
  refine wpAnyH_done (by kernel_rfl) ?_ _
  go_wp2_with fail
  go_meet
  exact ⟨Z2, rfl, HX2⟩
 case rest =>
  obtain ⟨X, rfl, HX⟩ := hcut
  have FIN := Lib.hid (fun Y : ExtO (fun q => q = B ∨ q = B + 1) w3 => (show Below w.heap.size w Y.1 from by
   rw [hB]
   exact Y.down HBW.out (hB ▸ HBW.out.size) (fun k hk h => by rcases h with h | h <;> omega)))
  have ⟨x0, x1, x2, x3, x4, x5⟩ := HX.out.cells
  have ⟨y6, y7⟩ := HX.out.free
  have y0 := y6 0
  have y1 := y6 1
  have y2 := y6 2
  have y3 := y6 3
  have y4 := y6 4
  clear y6
  clear hB DI
  rcases HK.out with ⟨h1, h2⟩ | ⟨h1, h2⟩
  case inl =>
   have t1 := decide_eq_true h1
   have HR : Hid (readP [sB a, sB b] = none) := Lib.hid (by
    unfold readP
    rw [List.headD_cons, bs_sB, h2, if_pos rfl])
   clear h1 h2
   have HQ := Lib.hid (HX.out.out false)
   go_wp2_with fail
   obtain ⟨W9, h9⟩ : ∃ W9, (((((X.1.setCell ⟨B, 0, none⟩ (.int .i64 i)).setCell ⟨B, 1, none⟩ (.int .i64 0)).setCell ⟨B, 2, none⟩ (.int .i64 0)).setCell ⟨B, 3, none⟩ (.int .i64 0)).setCell ⟨B, 4, none⟩ (.string ⟨#[]⟩)).setCell ⟨B + 1, 0, none⟩ (.bool false) = W9 := ⟨_, rfl⟩
   have HQ9 := HQ.out
   rw [h9] at HQ9 ⊢
   have HF : Hid (Below w.heap.size w W9) := Lib.hid (FIN.out ⟨W9, X.2.trans HQ9.2⟩)
   have ⟨z0, z1, z2, z3, z4, z5⟩ := HQ9.1.cells
   clear h9 HQ9
   refine bodyPost_ret (v := .tuple #[.agg #[.int .i64 i, .int .i64 0, .int .i64 0, .int .i64 0, .string ⟨#[]⟩], .bool false]) (by simp [results, Tryz.results21, go_sem, z0, z1, z2, z3, z4, z5]) rfl ?_
   exact ⟨⟨i, 0, 0, 0, ⟨#[]⟩⟩, (by rw [HR.out]; rfl), (by rw [HR.out]; exact fun y hy => by cases (show none = some y from hy)), HF.out⟩
  case inr =>
   obtain ⟨k, hk0⟩ : ∃ k, kindW a = k := ⟨_, rfl⟩
   have hle := kindW_le a
   have HR : Hid (readP [sB a, sB b] = readV k [sB a, sB b]) := Lib.hid (by
    unfold readP
    rw [List.headD_cons, bs_sB, hk0, if_neg (by omega)])
   rw [hk0] at h1 h2 hle
   have HI := Lib.hid h1
   have t1 : decide (i < 1) = false := by rw [decide_eq_false_iff_not]; omega
   clear hk0
   by_cases h8 : k = 8
   · obtain rfl : i = 8 := by omega
     subst h8
     clear h1 h2 hle t1
     have HQ := Lib.hid (HX.out.out false)
     go_wp2_with fail
     obtain ⟨W9, h9⟩ : ∃ W9, (((((X.1.setCell ⟨B, 0, none⟩ (.int .i64 8)).setCell ⟨B, 1, none⟩ (.int .i64 0)).setCell ⟨B, 2, none⟩ (.int .i64 0)).setCell ⟨B, 3, none⟩ (.int .i64 0)).setCell ⟨B, 4, none⟩ (.string ⟨#[]⟩)).setCell ⟨B + 1, 0, none⟩ (.bool false) = W9 := ⟨_, rfl⟩
     have HQ9 := HQ.out
     rw [h9] at HQ9 ⊢
     have HF : Hid (Below w.heap.size w W9) := Lib.hid (FIN.out ⟨W9, X.2.trans HQ9.2⟩)
     have ⟨z0, z1, z2, z3, z4, z5⟩ := HQ9.1.cells
     clear h9 HQ9
     refine bodyPost_ret (v := .tuple #[.agg #[.int .i64 8, .int .i64 0, .int .i64 0, .int .i64 0, .string ⟨#[]⟩], .bool false]) (by simp [results, Tryz.results21, go_sem, z0, z1, z2, z3, z4, z5]) rfl ?_
     exact ⟨⟨8, 0, 0, 0, ⟨#[]⟩⟩, (by rw [HR.out]; rfl), (by rw [HR.out]; exact fun y hy => by cases (show none = some y from hy)), HF.out⟩
   by_cases h11 : k = 11
   · obtain rfl : i = 11 := by omega
     subst h11
     clear h1 h2 hle t1 h8
     have HQ := Lib.hid (HX.out.out false)
     go_wp2_with fail
     obtain ⟨W9, h9⟩ : ∃ W9, (((((X.1.setCell ⟨B, 0, none⟩ (.int .i64 11)).setCell ⟨B, 1, none⟩ (.int .i64 0)).setCell ⟨B, 2, none⟩ (.int .i64 0)).setCell ⟨B, 3, none⟩ (.int .i64 0)).setCell ⟨B, 4, none⟩ (.string ⟨#[]⟩)).setCell ⟨B + 1, 0, none⟩ (.bool false) = W9 := ⟨_, rfl⟩
     have HQ9 := HQ.out
     rw [h9] at HQ9 ⊢
     have HF : Hid (Below w.heap.size w W9) := Lib.hid (FIN.out ⟨W9, X.2.trans HQ9.2⟩)
     have ⟨z0, z1, z2, z3, z4, z5⟩ := HQ9.1.cells
     clear h9 HQ9
     refine bodyPost_ret (v := .tuple #[.agg #[.int .i64 11, .int .i64 0, .int .i64 0, .int .i64 0, .string ⟨#[]⟩], .bool false]) (by simp [results, Tryz.results21, go_sem, z0, z1, z2, z3, z4, z5]) rfl ?_
     exact ⟨⟨11, 0, 0, 0, ⟨#[]⟩⟩, (by rw [HR.out]; rfl), (by rw [HR.out]; exact fun y hy => by cases (show none = some y from hy)), HF.out⟩
   have t8 : (i == 8) = false := by rw [beq_eq_false_iff_ne]; omega
   have t8' : decide (i = 8) = false := by rw [decide_eq_false_iff_not]; omega
   have t11 : (i == 11) = false := by rw [beq_eq_false_iff_ne]; omega
   have t11' : decide (i = 11) = false := by rw [decide_eq_false_iff_not]; omega
   by_cases hk : isText k = true
   · have hT : edI ⟨i, 0, 0, 0, ⟨#[]⟩⟩ = .iface 58 (edV ⟨i, 0, 0, 0, ⟨#[]⟩⟩) := by
      unfold edI
      unfold isText at hk
      simp only [Bool.or_eq_true, beq_iff_eq] at hk
      rw [if_pos (show i = 1 ∨ i = 3 ∨ i = 4 by omega)]
     clear h1 h2 hle
     have DE : Hid (∀ W : World, Calls Tryz.prog 27 #[.agg #[.int .i64 i, .int .i64 0, .int .i64 0, .int .i64 0, .string ⟨#[]⟩]] W fun e w' => e = .returned (.iface 58 (.agg #[.int .i64 i, .int .i64 0, .int .i64 0, .int .i64 0, .string ⟨#[]⟩])) ∧ Below W.heap.size W w') := Lib.hid (fun W => by
      have h := editOf_any ⟨i, 0, 0, 0, ⟨#[]⟩⟩ W
      rw [show edI ⟨i, 0, 0, 0, ⟨#[]⟩⟩ = .iface 58 (edV ⟨i, 0, 0, 0, ⟨#[]⟩⟩) from hT] at h
      exact h)
     have HO1 := Lib.hid (HX.out.setO true)
     go_upto_region 15 with (go_at_call 27; refine (DE.out _).mono ?_; rintro e w4 ⟨rfl, hb4⟩)
     have HX4 := Lib.hid (HO1.out.below hb4)
     obtain ⟨Y, rfl⟩ : ∃ Z : ExtO (fun q => q = B ∨ q = B + 1) w3, w4 = Z.1 := ⟨⟨w4, (X.2.trans (kept_set1.weaken2 fun q e => Or.inr e)).trans (Kept.of_below hb4)⟩, rfl⟩
     clear hb4 HO1 HX DE
     clear x0 x1 x2 x3 x4 x5 y0 y1 y2 y3 y4 y7
     have ⟨c0, c1, c2, c3, c4, c5⟩ := HX4.out.cells
     have ⟨d6, d7⟩ := HX4.out.free
     have d0 := d6 0
     have d1 := d6 1
     have d2 := d6 2
     have d3 := d6 3
     have d4 := d6 4
     clear d6
     have ta1 := fun v W => ta_texted_texted v W
     go_upto_region 17 with fail
     have HX6 := HX4.out.setS b
     obtain ⟨Z, hZ⟩ : ∃ Z : ExtO (fun q => q = B ∨ q = B + 1) w3, Y.1.setCell ⟨B, 4, none⟩ (.string b) = Z.1 := ⟨⟨_, Y.2.trans (kept_set1.weaken2 fun q e => Or.inl e)⟩, rfl⟩
     rw [hZ] at HX6 ⊢
     have HX6 := Lib.hid HX6
     clear hZ HX4
     clear c0 c1 c2 c3 c4 c5 d0 d1 d2 d3 d4 d7
     have ⟨c0, c1, c2, c3, c4, c5⟩ := HX6.out.cells
     have ⟨d6, d7⟩ := HX6.out.free
     have d0 := d6 0
     have d1 := d6 1
     have d2 := d6 2
     have d3 := d6 3
     have d4 := d6 4
     clear d6
     by_cases hz : b.size = 0
     · have e0 := str_eq0 hz
       have e1 := str_ne0 hz
       have HQ := Lib.hid (HX6.out.out false)
       have HR2 : Hid (readV k [sB a, sB b] = none) := Lib.hid (by
        simp only [readV]
        rw [if_neg (fun e => e.elim h8 h11), if_pos hk, if_neg (fun e => e (by rw [size0 hz]; rfl))])
       clear hz
       go_wp2_with fail
       obtain ⟨W9, h9⟩ : ∃ W9, (((((Z.1.setCell ⟨B, 0, none⟩ (.int .i64 i)).setCell ⟨B, 1, none⟩ (.int .i64 0)).setCell ⟨B, 2, none⟩ (.int .i64 0)).setCell ⟨B, 3, none⟩ (.int .i64 0)).setCell ⟨B, 4, none⟩ (.string b)).setCell ⟨B + 1, 0, none⟩ (.bool false) = W9 := ⟨_, rfl⟩
       have HQ9 := HQ.out
       rw [h9] at HQ9 ⊢
       have HF : Hid (Below w.heap.size w W9) := Lib.hid (FIN.out ⟨W9, Z.2.trans HQ9.2⟩)
       have ⟨z0, z1, z2, z3, z4, z5⟩ := HQ9.1.cells
       clear h9 HQ9
       refine bodyPost_ret (v := .tuple #[.agg #[.int .i64 i, .int .i64 0, .int .i64 0, .int .i64 0, .string b], .bool false]) (by simp [results, Tryz.results21, go_sem, z0, z1, z2, z3, z4, z5]) rfl ?_
       exact ⟨⟨i, 0, 0, 0, b⟩, (by rw [HR.out, HR2.out]; rfl), (by rw [HR.out, HR2.out]; exact fun y hy => by cases hy), HF.out⟩
     · have e0 := str_eq1 hz
       have e1 := str_ne1 hz
       have HQ := Lib.hid (HX6.out.out true)
       have HR2 : Hid (readV k [sB a, sB b] = some ⟨k, 0, 0, 0, b⟩) := Lib.hid (by
        simp only [readV]
        rw [if_neg (fun e => e.elim h8 h11), if_pos hk, if_pos (fun e => hz (by rw [← bs_sB b, e]; rfl)), bs_sB])
       clear hz
       go_wp2_with fail
       obtain ⟨W9, h9⟩ : ∃ W9, (((((Z.1.setCell ⟨B, 0, none⟩ (.int .i64 i)).setCell ⟨B, 1, none⟩ (.int .i64 0)).setCell ⟨B, 2, none⟩ (.int .i64 0)).setCell ⟨B, 3, none⟩ (.int .i64 0)).setCell ⟨B, 4, none⟩ (.string b)).setCell ⟨B + 1, 0, none⟩ (.bool true) = W9 := ⟨_, rfl⟩
       have HQ9 := HQ.out
       rw [h9] at HQ9 ⊢
       have HF : Hid (Below w.heap.size w W9) := Lib.hid (FIN.out ⟨W9, Z.2.trans HQ9.2⟩)
       have ⟨z0, z1, z2, z3, z4, z5⟩ := HQ9.1.cells
       clear h9 HQ9
       refine bodyPost_ret (v := .tuple #[.agg #[.int .i64 i, .int .i64 0, .int .i64 0, .int .i64 0, .string b], .bool true]) (by simp [results, Tryz.results21, go_sem, z0, z1, z2, z3, z4, z5]) rfl ?_
       exact ⟨⟨i, 0, 0, 0, b⟩, (by rw [HR.out, HR2.out]; rfl), (by rw [HR.out, HR2.out]; intro y hy; rw [HI.out]; exact Option.some.inj hy), HF.out⟩
   by_cases h5 : k = 5
   · obtain rfl : i = 5 := by omega
     subst h5
     clear h1 h2 hle t1 t8 t8' t11 t11'
     have DE : Hid (∀ W : World, Calls Tryz.prog 27 #[.agg #[.int .i64 5, .int .i64 0, .int .i64 0, .int .i64 0, .string ⟨#[]⟩]] W fun e w' => e = .returned (.iface 77 (.agg #[.int .i64 5, .int .i64 0, .int .i64 0, .int .i64 0, .string ⟨#[]⟩])) ∧ Below W.heap.size W w') := Lib.hid (fun W => by
      have h := editOf_any ⟨5, 0, 0, 0, ⟨#[]⟩⟩ W
      rw [show edI ⟨5, 0, 0, 0, ⟨#[]⟩⟩ = .iface 77 (edV ⟨5, 0, 0, 0, ⟨#[]⟩⟩) from rfl] at h
      exact h)
     have HO1 := Lib.hid (HX.out.setO true)
     go_upto_region 15 with (go_at_call 27; refine (DE.out _).mono ?_; rintro e w4 ⟨rfl, hb4⟩)
     have HX4 := Lib.hid (HO1.out.below hb4)
     obtain ⟨Y, rfl⟩ : ∃ Z : ExtO (fun q => q = B ∨ q = B + 1) w3, w4 = Z.1 := ⟨⟨w4, (X.2.trans (kept_set1.weaken2 fun q e => Or.inr e)).trans (Kept.of_below hb4)⟩, rfl⟩
     clear hb4 HO1 HX DE
     clear x0 x1 x2 x3 x4 x5 y0 y1 y2 y3 y4 y7
     have ⟨c0, c1, c2, c3, c4, c5⟩ := HX4.out.cells
     have ⟨d6, d7⟩ := HX4.out.free
     have d0 := d6 0
     have d1 := d6 1
     have d2 := d6 2
     have d3 := d6 3
     have d4 := d6 4
     clear d6
     have ta1 := fun v W => ta_counted_texted v W
     have ta2 := fun v W => ta_counted_parted v W
     go_upto_region 24 with fail
     have G1 : ∀ X : CXK 5 B Y.1, X.1.cell? ⟨B + 2, 1, none⟩ = some (.string b) := fun X => E1 ⟨X.1, Y.2.trans X.2.1⟩
     have G0 : ∀ X : CXK 5 B Y.1, X.1.cell? ⟨B, 0, none⟩ = some (.int .i64 5) := fun X => X.2.2
     refine held_start (C := fun w' => ∃ Z : CXK 5 B Y.1, w' = Z.1) (by kernel_rfl) ?_
     obtain ⟨Z0, hZ0⟩ : ∃ Z : CXK 5 B Y.1, ({ Y.1 with drawn := Y.1.drawn + 1 } : World) = Z.1 := ⟨⟨{ Y.1 with drawn := Y.1.drawn + 1 }, ⟨⟨rfl, rfl, rfl, Nat.le_refl _, fun _ _ _ => rfl⟩, c0⟩⟩, rfl⟩
     rw [hZ0]
     have HXZ : Hid (XB Z0.1 B 5 0 0 0 ⟨#[]⟩ true) := Lib.hid (hZ0 ▸ ⟨HX4.out.x, HX4.out.o⟩)
     clear hZ0
     have hne : Nonempty (CXK 5 B Y.1) := ⟨Z0⟩
     refine held_quiet (by kernel_rfl) (fun _ _ d _ _ h => by cases d <;> exact h) ⟨Z0, rfl⟩ [0, 1, 2, 3, 4, 5, 6, 7, 8, 9, 10] 3 _ _ (by kernel_rfl) ?_
     change wpQuiet _ _ _ _ (_ :: _ :: _ :: _ :: _ :: _ :: _ :: _ :: _ :: _ :: _ :: []) _
     repeat go_big_quiet_step (fail)
     refine wpQuiet_nil ?_
     refine held_do (i := 11) _ rfl (by kernel_rfl) rfl (fun K hK => ?_)
     go_simp
     refine (number_any b true (B + 1) true Z0.1 HXZ.out.o (HG.out.below (FIN.out ⟨Z0.1, Y.2.trans Z0.2.1⟩)) HLE.out.2).mono ?_
     rintro e w5 ⟨n1, rfl, hv, hbox, hk5⟩
     have HV1 := Lib.hid hv
     obtain ⟨o1, ho⟩ : ∃ o, (numP true (sB b)).isSome = o := ⟨_, rfl⟩
     rw [ho] at hbox
     have HO1 := Lib.hid ho
     rw [Bool.true_and] at hbox
     have HXC1 := Lib.hid (HXZ.out.num hbox hk5)
     obtain ⟨Z1, rfl⟩ : ∃ Z : CXK 5 B Y.1, w5 = Z.1 := ⟨⟨w5, Z0.2.1.trans (hk5.weaken2 fun q e => Or.inr e), HXC1.out.cells.1⟩, rfl⟩
     clear hv hbox hk5 ho HXZ
     refine hK _ _ ⟨Z1, rfl⟩ ?_
     clear hK K
     try simp only [Act.put, List.setIfInBounds_toArray, List.set_cons_zero, List.set_cons_succ]
     refine held_quiet (by kernel_rfl) (fun _ _ d _ _ h => by cases d <;> exact h) ⟨Z1, rfl⟩ [12] 1 _ _ (by kernel_rfl) ?_
     change wpQuiet _ _ _ _ (_ :: []) _
     repeat go_big_quiet_step (fail)
     refine wpQuiet_nil ?_
     refine held_do (i := 13) _ rfl (by kernel_rfl) rfl (fun K hK => ?_)
     go_simp
     have ⟨g0, g1, g2, g3, g4, g5⟩ := HXC1.out.cells
     have g6 := HXC1.out.free.1 1
     go_simp
     have hX := HXC1.out.setN n1
     obtain ⟨Z2, hZ⟩ : ∃ Z : CXK 5 B Y.1, Z1.1.setCell ⟨B, 1, none⟩ (.int .i64 n1) = Z.1 := ⟨⟨_, Z1.2.1.trans (kept_set1.weaken2 fun q e => Or.inl e), hX.cells.1⟩, rfl⟩
     rw [hZ] at hX ⊢
     have HXD := Lib.hid hX
     clear hX hZ g0 g1 g2 g3 g4 g5 g6 HXC1
     refine hK _ _ ⟨Z2, rfl⟩ ?_
     clear hK K
     try simp only [Act.put, List.setIfInBounds_toArray, List.set_cons_zero, List.set_cons_succ]
     refine wpAnyH_done (by kernel_rfl) ?_ _
     clear G0 G1 HX4
     clear c0 c1 c2 c3 c4 c5 d0 d1 d2 d3 d4 d7
     go_upto_region 25 with fail
     have HE := Lib.hid (num_ret (k := 5) (q := readV 5 [sB a, sB b]) rfl HI.out HO1.out HV1.out)
     have P0 : ∀ X : CXA 5 n1 0 0 ⟨#[]⟩ o1 B Z2.1, X.1.cell? ⟨B, 0, none⟩ = some (.int .i64 5) := fun X => X.2.2.cells.1
     have P1 : ∀ X : CXA 5 n1 0 0 ⟨#[]⟩ o1 B Z2.1, X.1.cell? ⟨B, 1, none⟩ = some (.int .i64 n1) := fun X => X.2.2.cells.2.1
     have P2 : ∀ X : CXA 5 n1 0 0 ⟨#[]⟩ o1 B Z2.1, X.1.cell? ⟨B, 2, none⟩ = some (.int .i64 0) := fun X => X.2.2.cells.2.2.1
     have P3 : ∀ X : CXA 5 n1 0 0 ⟨#[]⟩ o1 B Z2.1, X.1.cell? ⟨B, 3, none⟩ = some (.int .i64 0) := fun X => X.2.2.cells.2.2.2.1
     have P4 : ∀ X : CXA 5 n1 0 0 ⟨#[]⟩ o1 B Z2.1, X.1.cell? ⟨B, 4, none⟩ = some (.string ⟨#[]⟩) := fun X => X.2.2.cells.2.2.2.2.1
     have P5 : ∀ X : CXA 5 n1 0 0 ⟨#[]⟩ o1 B Z2.1, X.1.cell? ⟨B + 1, 0, none⟩ = some (.bool o1) := fun X => X.2.2.cells.2.2.2.2.2
     refine held_start (C := fun w' => ∃ Z : CXA 5 n1 0 0 ⟨#[]⟩ o1 B Z2.1, w' = Z.1) (by kernel_rfl) ?_
     obtain ⟨A0, hZ0⟩ : ∃ Z : CXA 5 n1 0 0 ⟨#[]⟩ o1 B Z2.1, ({ Z2.1 with drawn := Z2.1.drawn + 1 } : World) = Z.1 := ⟨⟨{ Z2.1 with drawn := Z2.1.drawn + 1 }, ⟨⟨rfl, rfl, rfl, Nat.le_refl _, fun _ _ _ => rfl⟩, ⟨HXD.out.x, HXD.out.o⟩⟩⟩, rfl⟩
     rw [hZ0]
     clear hZ0
     have hne2 : Nonempty (CXA 5 n1 0 0 ⟨#[]⟩ o1 B Z2.1) := ⟨A0⟩
     refine held_quiet (by kernel_rfl) (fun _ _ d _ _ h => by cases d <;> exact h) ⟨A0, rfl⟩ [0, 1] 2 _ _ (by kernel_rfl) ?_
     change wpQuiet _ _ _ _ (_ :: _ :: []) _
     repeat go_big_quiet_step (fail)
     refine wpQuiet_nil ?_
     refine held_do (i := 2) _ rfl (by kernel_rfl) rfl (fun K hK => ?_)
     go_simp
     have ⟨g0, g1, g2, g3, g4, g5⟩ := A0.2.2.cells
     have ⟨g6, _⟩ := A0.2.2.free
     have f0 := g6 0
     have f1 := g6 1
     have f2 := g6 2
     have f3 := g6 3
     have f4 := g6 4
     go_simp
     have hX := A0.2.2.out5
     obtain ⟨A1, hA⟩ : ∃ Z : CXA 5 n1 0 0 ⟨#[]⟩ o1 B Z2.1, ((((A0.1.setCell ⟨B, 0, none⟩ (.int .i64 5)).setCell ⟨B, 1, none⟩ (.int .i64 n1)).setCell ⟨B, 2, none⟩ (.int .i64 0)).setCell ⟨B, 3, none⟩ (.int .i64 0)).setCell ⟨B, 4, none⟩ (.string ⟨#[]⟩) = Z.1 := ⟨⟨_, A0.2.1.trans hX.2, hX.1⟩, rfl⟩
     rw [hA]
     clear hX hA g0 g1 g2 g3 g4 g5 g6 f0 f1 f2 f3 f4
     refine hK _ _ ⟨A1, rfl⟩ ?_
     clear hK K
     try simp only [Act.put, List.setIfInBounds_toArray, List.set_cons_zero, List.set_cons_succ]
     refine held_do (i := 3) _ rfl (by kernel_rfl) rfl (fun K hK => ?_)
     go_simp
     have g5 := A1.2.2.cells.2.2.2.2.2
     have g7 := A1.2.2.free.2
     go_simp
     have hX := A1.2.2.setO o1
     obtain ⟨A2, hA⟩ : ∃ Z : CXA 5 n1 0 0 ⟨#[]⟩ o1 B Z2.1, A1.1.setCell ⟨B + 1, 0, none⟩ (.bool o1) = Z.1 := ⟨⟨_, A1.2.1.trans (kept_set1.weaken2 fun q e => Or.inr e), hX⟩, rfl⟩
     rw [hA]
     clear hX hA g5 g7
     refine hK _ _ ⟨A2, rfl⟩ ?_
     clear hK K
     try simp only [Act.put, List.setIfInBounds_toArray, List.set_cons_zero, List.set_cons_succ]
     refine wpAnyH_done (by kernel_rfl) ?_ _
     clear P0 P1 P2 P3 P4 P5
     have ⟨z0, z1, z2, z3, z4, z5⟩ := A2.2.2.cells
     have HF : Hid (Below w.heap.size w A2.1) := Lib.hid (FIN.out ⟨A2.1, (Y.2.trans Z2.2.1).trans A2.2.1⟩)
     go_wp2_with fail
     refine bodyPost_ret (v := .tuple #[.agg #[.int .i64 5, .int .i64 n1, .int .i64 0, .int .i64 0, .string ⟨#[]⟩], .bool o1]) (by simp [results, Tryz.results21, go_sem, z0, z1, z2, z3, z4, z5]) rfl ?_
     exact ⟨⟨5, n1, 0, 0, ⟨#[]⟩⟩, (by rw [HR.out, HE.out.1]; rfl), (by rw [HR.out]; exact HE.out.2), HF.out⟩
   by_cases h6 : k = 6
   · obtain rfl : i = 6 := by omega
     subst h6
     clear h1 h2 hle t1 t8 t8' t11 t11'
     have DE : Hid (∀ W : World, Calls Tryz.prog 27 #[.agg #[.int .i64 6, .int .i64 0, .int .i64 0, .int .i64 0, .string ⟨#[]⟩]] W fun e w' => e = .returned (.iface 77 (.agg #[.int .i64 6, .int .i64 0, .int .i64 0, .int .i64 0, .string ⟨#[]⟩])) ∧ Below W.heap.size W w') := Lib.hid (fun W => by
      have h := editOf_any ⟨6, 0, 0, 0, ⟨#[]⟩⟩ W
      rw [show edI ⟨6, 0, 0, 0, ⟨#[]⟩⟩ = .iface 77 (edV ⟨6, 0, 0, 0, ⟨#[]⟩⟩) from rfl] at h
      exact h)
     have HO1 := Lib.hid (HX.out.setO true)
     go_upto_region 15 with (go_at_call 27; refine (DE.out _).mono ?_; rintro e w4 ⟨rfl, hb4⟩)
     have HX4 := Lib.hid (HO1.out.below hb4)
     obtain ⟨Y, rfl⟩ : ∃ Z : ExtO (fun q => q = B ∨ q = B + 1) w3, w4 = Z.1 := ⟨⟨w4, (X.2.trans (kept_set1.weaken2 fun q e => Or.inr e)).trans (Kept.of_below hb4)⟩, rfl⟩
     clear hb4 HO1 HX DE
     clear x0 x1 x2 x3 x4 x5 y0 y1 y2 y3 y4 y7
     have ⟨c0, c1, c2, c3, c4, c5⟩ := HX4.out.cells
     have ⟨d6, d7⟩ := HX4.out.free
     have d0 := d6 0
     have d1 := d6 1
     have d2 := d6 2
     have d3 := d6 3
     have d4 := d6 4
     clear d6
     have ta1 := fun v W => ta_counted_texted v W
     have ta2 := fun v W => ta_counted_parted v W
     go_upto_region 24 with fail
     have G1 : ∀ X : CXK 6 B Y.1, X.1.cell? ⟨B + 2, 1, none⟩ = some (.string b) := fun X => E1 ⟨X.1, Y.2.trans X.2.1⟩
     have G0 : ∀ X : CXK 6 B Y.1, X.1.cell? ⟨B, 0, none⟩ = some (.int .i64 6) := fun X => X.2.2
     refine held_start (C := fun w' => ∃ Z : CXK 6 B Y.1, w' = Z.1) (by kernel_rfl) ?_
     obtain ⟨Z0, hZ0⟩ : ∃ Z : CXK 6 B Y.1, ({ Y.1 with drawn := Y.1.drawn + 1 } : World) = Z.1 := ⟨⟨{ Y.1 with drawn := Y.1.drawn + 1 }, ⟨⟨rfl, rfl, rfl, Nat.le_refl _, fun _ _ _ => rfl⟩, c0⟩⟩, rfl⟩
     rw [hZ0]
     have HXZ : Hid (XB Z0.1 B 6 0 0 0 ⟨#[]⟩ true) := Lib.hid (hZ0 ▸ ⟨HX4.out.x, HX4.out.o⟩)
     clear hZ0
     have hne : Nonempty (CXK 6 B Y.1) := ⟨Z0⟩
     refine held_quiet (by kernel_rfl) (fun _ _ d _ _ h => by cases d <;> exact h) ⟨Z0, rfl⟩ [0, 1, 2, 3, 4, 5, 6, 7, 8, 9, 10] 3 _ _ (by kernel_rfl) ?_
     change wpQuiet _ _ _ _ (_ :: _ :: _ :: _ :: _ :: _ :: _ :: _ :: _ :: _ :: _ :: []) _
     repeat go_big_quiet_step (fail)
     refine wpQuiet_nil ?_
     refine held_do (i := 11) _ rfl (by kernel_rfl) rfl (fun K hK => ?_)
     go_simp
     refine (number_any b true (B + 1) true Z0.1 HXZ.out.o (HG.out.below (FIN.out ⟨Z0.1, Y.2.trans Z0.2.1⟩)) HLE.out.2).mono ?_
     rintro e w5 ⟨n1, rfl, hv, hbox, hk5⟩
     have HV1 := Lib.hid hv
     obtain ⟨o1, ho⟩ : ∃ o, (numP true (sB b)).isSome = o := ⟨_, rfl⟩
     rw [ho] at hbox
     have HO1 := Lib.hid ho
     rw [Bool.true_and] at hbox
     have HXC1 := Lib.hid (HXZ.out.num hbox hk5)
     obtain ⟨Z1, rfl⟩ : ∃ Z : CXK 6 B Y.1, w5 = Z.1 := ⟨⟨w5, Z0.2.1.trans (hk5.weaken2 fun q e => Or.inr e), HXC1.out.cells.1⟩, rfl⟩
     clear hv hbox hk5 ho HXZ
     refine hK _ _ ⟨Z1, rfl⟩ ?_
     clear hK K
     try simp only [Act.put, List.setIfInBounds_toArray, List.set_cons_zero, List.set_cons_succ]
     refine held_quiet (by kernel_rfl) (fun _ _ d _ _ h => by cases d <;> exact h) ⟨Z1, rfl⟩ [12] 1 _ _ (by kernel_rfl) ?_
     change wpQuiet _ _ _ _ (_ :: []) _
     repeat go_big_quiet_step (fail)
     refine wpQuiet_nil ?_
     refine held_do (i := 13) _ rfl (by kernel_rfl) rfl (fun K hK => ?_)
     go_simp
     have ⟨g0, g1, g2, g3, g4, g5⟩ := HXC1.out.cells
     have g6 := HXC1.out.free.1 1
     go_simp
     have hX := HXC1.out.setN n1
     obtain ⟨Z2, hZ⟩ : ∃ Z : CXK 6 B Y.1, Z1.1.setCell ⟨B, 1, none⟩ (.int .i64 n1) = Z.1 := ⟨⟨_, Z1.2.1.trans (kept_set1.weaken2 fun q e => Or.inl e), hX.cells.1⟩, rfl⟩
     rw [hZ] at hX ⊢
     have HXD := Lib.hid hX
     clear hX hZ g0 g1 g2 g3 g4 g5 g6 HXC1
     refine hK _ _ ⟨Z2, rfl⟩ ?_
     clear hK K
     try simp only [Act.put, List.setIfInBounds_toArray, List.set_cons_zero, List.set_cons_succ]
     refine wpAnyH_done (by kernel_rfl) ?_ _
     clear G0 G1 HX4
     clear c0 c1 c2 c3 c4 c5 d0 d1 d2 d3 d4 d7
     go_upto_region 25 with fail
     have HE := Lib.hid (num_ret (k := 6) (q := readV 6 [sB a, sB b]) rfl HI.out HO1.out HV1.out)
     have P0 : ∀ X : CXA 6 n1 0 0 ⟨#[]⟩ o1 B Z2.1, X.1.cell? ⟨B, 0, none⟩ = some (.int .i64 6) := fun X => X.2.2.cells.1
     have P1 : ∀ X : CXA 6 n1 0 0 ⟨#[]⟩ o1 B Z2.1, X.1.cell? ⟨B, 1, none⟩ = some (.int .i64 n1) := fun X => X.2.2.cells.2.1
     have P2 : ∀ X : CXA 6 n1 0 0 ⟨#[]⟩ o1 B Z2.1, X.1.cell? ⟨B, 2, none⟩ = some (.int .i64 0) := fun X => X.2.2.cells.2.2.1
     have P3 : ∀ X : CXA 6 n1 0 0 ⟨#[]⟩ o1 B Z2.1, X.1.cell? ⟨B, 3, none⟩ = some (.int .i64 0) := fun X => X.2.2.cells.2.2.2.1
     have P4 : ∀ X : CXA 6 n1 0 0 ⟨#[]⟩ o1 B Z2.1, X.1.cell? ⟨B, 4, none⟩ = some (.string ⟨#[]⟩) := fun X => X.2.2.cells.2.2.2.2.1
     have P5 : ∀ X : CXA 6 n1 0 0 ⟨#[]⟩ o1 B Z2.1, X.1.cell? ⟨B + 1, 0, none⟩ = some (.bool o1) := fun X => X.2.2.cells.2.2.2.2.2
     refine held_start (C := fun w' => ∃ Z : CXA 6 n1 0 0 ⟨#[]⟩ o1 B Z2.1, w' = Z.1) (by kernel_rfl) ?_
     obtain ⟨A0, hZ0⟩ : ∃ Z : CXA 6 n1 0 0 ⟨#[]⟩ o1 B Z2.1, ({ Z2.1 with drawn := Z2.1.drawn + 1 } : World) = Z.1 := ⟨⟨{ Z2.1 with drawn := Z2.1.drawn + 1 }, ⟨⟨rfl, rfl, rfl, Nat.le_refl _, fun _ _ _ => rfl⟩, ⟨HXD.out.x, HXD.out.o⟩⟩⟩, rfl⟩
     rw [hZ0]
     clear hZ0
     have hne2 : Nonempty (CXA 6 n1 0 0 ⟨#[]⟩ o1 B Z2.1) := ⟨A0⟩
     refine held_quiet (by kernel_rfl) (fun _ _ d _ _ h => by cases d <;> exact h) ⟨A0, rfl⟩ [0, 1] 2 _ _ (by kernel_rfl) ?_
     change wpQuiet _ _ _ _ (_ :: _ :: []) _
     repeat go_big_quiet_step (fail)
     refine wpQuiet_nil ?_
     refine held_do (i := 2) _ rfl (by kernel_rfl) rfl (fun K hK => ?_)
     go_simp
     have ⟨g0, g1, g2, g3, g4, g5⟩ := A0.2.2.cells
     have ⟨g6, _⟩ := A0.2.2.free
     have f0 := g6 0
     have f1 := g6 1
     have f2 := g6 2
     have f3 := g6 3
     have f4 := g6 4
     go_simp
     have hX := A0.2.2.out5
     obtain ⟨A1, hA⟩ : ∃ Z : CXA 6 n1 0 0 ⟨#[]⟩ o1 B Z2.1, ((((A0.1.setCell ⟨B, 0, none⟩ (.int .i64 6)).setCell ⟨B, 1, none⟩ (.int .i64 n1)).setCell ⟨B, 2, none⟩ (.int .i64 0)).setCell ⟨B, 3, none⟩ (.int .i64 0)).setCell ⟨B, 4, none⟩ (.string ⟨#[]⟩) = Z.1 := ⟨⟨_, A0.2.1.trans hX.2, hX.1⟩, rfl⟩
     rw [hA]
     clear hX hA g0 g1 g2 g3 g4 g5 g6 f0 f1 f2 f3 f4
     refine hK _ _ ⟨A1, rfl⟩ ?_
     clear hK K
     try simp only [Act.put, List.setIfInBounds_toArray, List.set_cons_zero, List.set_cons_succ]
     refine held_do (i := 3) _ rfl (by kernel_rfl) rfl (fun K hK => ?_)
     go_simp
     have g5 := A1.2.2.cells.2.2.2.2.2
     have g7 := A1.2.2.free.2
     go_simp
     have hX := A1.2.2.setO o1
     obtain ⟨A2, hA⟩ : ∃ Z : CXA 6 n1 0 0 ⟨#[]⟩ o1 B Z2.1, A1.1.setCell ⟨B + 1, 0, none⟩ (.bool o1) = Z.1 := ⟨⟨_, A1.2.1.trans (kept_set1.weaken2 fun q e => Or.inr e), hX⟩, rfl⟩
     rw [hA]
     clear hX hA g5 g7
     refine hK _ _ ⟨A2, rfl⟩ ?_
     clear hK K
     try simp only [Act.put, List.setIfInBounds_toArray, List.set_cons_zero, List.set_cons_succ]
     refine wpAnyH_done (by kernel_rfl) ?_ _
     clear P0 P1 P2 P3 P4 P5
     have ⟨z0, z1, z2, z3, z4, z5⟩ := A2.2.2.cells
     have HF : Hid (Below w.heap.size w A2.1) := Lib.hid (FIN.out ⟨A2.1, (Y.2.trans Z2.2.1).trans A2.2.1⟩)
     go_wp2_with fail
     refine bodyPost_ret (v := .tuple #[.agg #[.int .i64 6, .int .i64 n1, .int .i64 0, .int .i64 0, .string ⟨#[]⟩], .bool o1]) (by simp [results, Tryz.results21, go_sem, z0, z1, z2, z3, z4, z5]) rfl ?_
     exact ⟨⟨6, n1, 0, 0, ⟨#[]⟩⟩, (by rw [HR.out, HE.out.1]; rfl), (by rw [HR.out]; exact HE.out.2), HF.out⟩
   have t5 : (i == 5) = false := by rw [beq_eq_false_iff_ne]; omega
   have t6 : (i == 6) = false := by rw [beq_eq_false_iff_ne]; omega
   have t5' : decide (i = 5) = false := by rw [decide_eq_false_iff_not]; omega
   have t6' : decide (i = 6) = false := by rw [decide_eq_false_iff_not]; omega
   have HQK : Hid (readV k [sB a, sB b] = (numW false (sB b)).map fun n => ⟨k, n, 0, 0, ⟨#[]⟩⟩) := Lib.hid (by
    have hs : signed k = false := by
     unfold signed
     rw [beq_eq_false_iff_ne.2 h5, beq_eq_false_iff_ne.2 h6]
     rfl
    simp only [readV]
    rw [if_neg (fun e => e.elim h8 h11), if_neg hk, hs])
   by_cases h12 : k = 12
   · obtain rfl : i = 12 := by omega
     subst h12
     clear h1 h2 hle t1 t8 t8' t11 t11' t5 t5' t6 t6'
     have DE : Hid (∀ W : World, Calls Tryz.prog 27 #[.agg #[.int .i64 12, .int .i64 0, .int .i64 0, .int .i64 0, .string ⟨#[]⟩]] W fun e w' => e = .returned (.iface 59 (.agg #[.int .i64 12, .int .i64 0, .int .i64 0, .int .i64 0, .string ⟨#[]⟩])) ∧ Below W.heap.size W w') := Lib.hid (fun W => by
      have h := editOf_any ⟨12, 0, 0, 0, ⟨#[]⟩⟩ W
      rw [show edI ⟨12, 0, 0, 0, ⟨#[]⟩⟩ = .iface 59 (edV ⟨12, 0, 0, 0, ⟨#[]⟩⟩) from rfl] at h
      exact h)
     have HO1 := Lib.hid (HX.out.setO true)
     go_upto_region 15 with (go_at_call 27; refine (DE.out _).mono ?_; rintro e w4 ⟨rfl, hb4⟩)
     have HX4 := Lib.hid (HO1.out.below hb4)
     obtain ⟨Y, rfl⟩ : ∃ Z : ExtO (fun q => q = B ∨ q = B + 1) w3, w4 = Z.1 := ⟨⟨w4, (X.2.trans (kept_set1.weaken2 fun q e => Or.inr e)).trans (Kept.of_below hb4)⟩, rfl⟩
     clear hb4 HO1 HX DE
     clear x0 x1 x2 x3 x4 x5 y0 y1 y2 y3 y4 y7
     have ⟨c0, c1, c2, c3, c4, c5⟩ := HX4.out.cells
     have ⟨d6, d7⟩ := HX4.out.free
     have d0 := d6 0
     have d1 := d6 1
     have d2 := d6 2
     have d3 := d6 3
     have d4 := d6 4
     clear d6
     have ta1 := fun v W => ta_parted_texted v W
     have ta2 := fun v W => ta_parted_parted v W
     go_upto_region 24 with fail
     have G1 : ∀ X : CXK 12 B Y.1, X.1.cell? ⟨B + 2, 1, none⟩ = some (.string b) := fun X => E1 ⟨X.1, Y.2.trans X.2.1⟩
     have G0 : ∀ X : CXK 12 B Y.1, X.1.cell? ⟨B, 0, none⟩ = some (.int .i64 12) := fun X => X.2.2
     refine held_start (C := fun w' => ∃ Z : CXK 12 B Y.1, w' = Z.1) (by kernel_rfl) ?_
     obtain ⟨Z0, hZ0⟩ : ∃ Z : CXK 12 B Y.1, ({ Y.1 with drawn := Y.1.drawn + 1 } : World) = Z.1 := ⟨⟨{ Y.1 with drawn := Y.1.drawn + 1 }, ⟨⟨rfl, rfl, rfl, Nat.le_refl _, fun _ _ _ => rfl⟩, c0⟩⟩, rfl⟩
     rw [hZ0]
     have HXZ : Hid (XB Z0.1 B 12 0 0 0 ⟨#[]⟩ true) := Lib.hid (hZ0 ▸ ⟨HX4.out.x, HX4.out.o⟩)
     clear hZ0
     have hne : Nonempty (CXK 12 B Y.1) := ⟨Z0⟩
     refine held_quiet (by kernel_rfl) (fun _ _ d _ _ h => by cases d <;> exact h) ⟨Z0, rfl⟩ [0, 1, 2, 3, 4, 5, 6, 7, 8, 9, 10] 3 _ _ (by kernel_rfl) ?_
     change wpQuiet _ _ _ _ (_ :: _ :: _ :: _ :: _ :: _ :: _ :: _ :: _ :: _ :: _ :: []) _
     repeat go_big_quiet_step (fail)
     refine wpQuiet_nil ?_
     refine held_do (i := 11) _ rfl (by kernel_rfl) rfl (fun K hK => ?_)
     go_simp
     refine (number_any b false (B + 1) true Z0.1 HXZ.out.o (HG.out.below (FIN.out ⟨Z0.1, Y.2.trans Z0.2.1⟩)) HLE.out.2).mono ?_
     rintro e w5 ⟨n1, rfl, hv, hbox, hk5⟩
     have HV1 := Lib.hid hv
     obtain ⟨o1, ho⟩ : ∃ o, (numP false (sB b)).isSome = o := ⟨_, rfl⟩
     rw [ho] at hbox
     have HO1 := Lib.hid ho
     rw [Bool.true_and] at hbox
     have HXC1 := Lib.hid (HXZ.out.num hbox hk5)
     obtain ⟨Z1, rfl⟩ : ∃ Z : CXK 12 B Y.1, w5 = Z.1 := ⟨⟨w5, Z0.2.1.trans (hk5.weaken2 fun q e => Or.inr e), HXC1.out.cells.1⟩, rfl⟩
     clear hv hbox hk5 ho HXZ
     refine hK _ _ ⟨Z1, rfl⟩ ?_
     clear hK K
     try simp only [Act.put, List.setIfInBounds_toArray, List.set_cons_zero, List.set_cons_succ]
     refine held_quiet (by kernel_rfl) (fun _ _ d _ _ h => by cases d <;> exact h) ⟨Z1, rfl⟩ [12] 1 _ _ (by kernel_rfl) ?_
     change wpQuiet _ _ _ _ (_ :: []) _
     repeat go_big_quiet_step (fail)
     refine wpQuiet_nil ?_
     refine held_do (i := 13) _ rfl (by kernel_rfl) rfl (fun K hK => ?_)
     go_simp
     have ⟨g0, g1, g2, g3, g4, g5⟩ := HXC1.out.cells
     have g6 := HXC1.out.free.1 1
     go_simp
     have hX := HXC1.out.setN n1
     obtain ⟨Z2, hZ⟩ : ∃ Z : CXK 12 B Y.1, Z1.1.setCell ⟨B, 1, none⟩ (.int .i64 n1) = Z.1 := ⟨⟨_, Z1.2.1.trans (kept_set1.weaken2 fun q e => Or.inl e), hX.cells.1⟩, rfl⟩
     rw [hZ] at hX ⊢
     have HXD := Lib.hid hX
     clear hX hZ g0 g1 g2 g3 g4 g5 g6 HXC1
     refine hK _ _ ⟨Z2, rfl⟩ ?_
     clear hK K
     try simp only [Act.put, List.setIfInBounds_toArray, List.set_cons_zero, List.set_cons_succ]
     refine wpAnyH_done (by kernel_rfl) ?_ _
     clear G0 G1 HX4
     clear c0 c1 c2 c3 c4 c5 d0 d1 d2 d3 d4 d7
     go_upto_region 25 with fail
     have HE := Lib.hid (num_ret (k := 12) (q := readV 12 [sB a, sB b]) HQK.out HI.out HO1.out HV1.out)
     have P0 : ∀ X : CXA 12 n1 0 0 ⟨#[]⟩ o1 B Z2.1, X.1.cell? ⟨B, 0, none⟩ = some (.int .i64 12) := fun X => X.2.2.cells.1
     have P1 : ∀ X : CXA 12 n1 0 0 ⟨#[]⟩ o1 B Z2.1, X.1.cell? ⟨B, 1, none⟩ = some (.int .i64 n1) := fun X => X.2.2.cells.2.1
     have P2 : ∀ X : CXA 12 n1 0 0 ⟨#[]⟩ o1 B Z2.1, X.1.cell? ⟨B, 2, none⟩ = some (.int .i64 0) := fun X => X.2.2.cells.2.2.1
     have P3 : ∀ X : CXA 12 n1 0 0 ⟨#[]⟩ o1 B Z2.1, X.1.cell? ⟨B, 3, none⟩ = some (.int .i64 0) := fun X => X.2.2.cells.2.2.2.1
     have P4 : ∀ X : CXA 12 n1 0 0 ⟨#[]⟩ o1 B Z2.1, X.1.cell? ⟨B, 4, none⟩ = some (.string ⟨#[]⟩) := fun X => X.2.2.cells.2.2.2.2.1
     have P5 : ∀ X : CXA 12 n1 0 0 ⟨#[]⟩ o1 B Z2.1, X.1.cell? ⟨B + 1, 0, none⟩ = some (.bool o1) := fun X => X.2.2.cells.2.2.2.2.2
     refine held_start (C := fun w' => ∃ Z : CXA 12 n1 0 0 ⟨#[]⟩ o1 B Z2.1, w' = Z.1) (by kernel_rfl) ?_
     obtain ⟨A0, hZ0⟩ : ∃ Z : CXA 12 n1 0 0 ⟨#[]⟩ o1 B Z2.1, ({ Z2.1 with drawn := Z2.1.drawn + 1 } : World) = Z.1 := ⟨⟨{ Z2.1 with drawn := Z2.1.drawn + 1 }, ⟨⟨rfl, rfl, rfl, Nat.le_refl _, fun _ _ _ => rfl⟩, ⟨HXD.out.x, HXD.out.o⟩⟩⟩, rfl⟩
     rw [hZ0]
     clear hZ0
     have hne2 : Nonempty (CXA 12 n1 0 0 ⟨#[]⟩ o1 B Z2.1) := ⟨A0⟩
     refine held_quiet (by kernel_rfl) (fun _ _ d _ _ h => by cases d <;> exact h) ⟨A0, rfl⟩ [0, 1] 2 _ _ (by kernel_rfl) ?_
     change wpQuiet _ _ _ _ (_ :: _ :: []) _
     repeat go_big_quiet_step (fail)
     refine wpQuiet_nil ?_
     refine held_do (i := 2) _ rfl (by kernel_rfl) rfl (fun K hK => ?_)
     go_simp
     have ⟨g0, g1, g2, g3, g4, g5⟩ := A0.2.2.cells
     have ⟨g6, _⟩ := A0.2.2.free
     have f0 := g6 0
     have f1 := g6 1
     have f2 := g6 2
     have f3 := g6 3
     have f4 := g6 4
     go_simp
     have hX := A0.2.2.out5
     obtain ⟨A1, hA⟩ : ∃ Z : CXA 12 n1 0 0 ⟨#[]⟩ o1 B Z2.1, ((((A0.1.setCell ⟨B, 0, none⟩ (.int .i64 12)).setCell ⟨B, 1, none⟩ (.int .i64 n1)).setCell ⟨B, 2, none⟩ (.int .i64 0)).setCell ⟨B, 3, none⟩ (.int .i64 0)).setCell ⟨B, 4, none⟩ (.string ⟨#[]⟩) = Z.1 := ⟨⟨_, A0.2.1.trans hX.2, hX.1⟩, rfl⟩
     rw [hA]
     clear hX hA g0 g1 g2 g3 g4 g5 g6 f0 f1 f2 f3 f4
     refine hK _ _ ⟨A1, rfl⟩ ?_
     clear hK K
     try simp only [Act.put, List.setIfInBounds_toArray, List.set_cons_zero, List.set_cons_succ]
     refine held_do (i := 3) _ rfl (by kernel_rfl) rfl (fun K hK => ?_)
     go_simp
     have g5 := A1.2.2.cells.2.2.2.2.2
     have g7 := A1.2.2.free.2
     go_simp
     have hX := A1.2.2.setO o1
     obtain ⟨A2, hA⟩ : ∃ Z : CXA 12 n1 0 0 ⟨#[]⟩ o1 B Z2.1, A1.1.setCell ⟨B + 1, 0, none⟩ (.bool o1) = Z.1 := ⟨⟨_, A1.2.1.trans (kept_set1.weaken2 fun q e => Or.inr e), hX⟩, rfl⟩
     rw [hA]
     clear hX hA g5 g7
     refine hK _ _ ⟨A2, rfl⟩ ?_
     clear hK K
     try simp only [Act.put, List.setIfInBounds_toArray, List.set_cons_zero, List.set_cons_succ]
     refine wpAnyH_done (by kernel_rfl) ?_ _
     clear P0 P1 P2 P3 P4 P5
     have ⟨z0, z1, z2, z3, z4, z5⟩ := A2.2.2.cells
     have HF : Hid (Below w.heap.size w A2.1) := Lib.hid (FIN.out ⟨A2.1, (Y.2.trans Z2.2.1).trans A2.2.1⟩)
     go_wp2_with fail
     refine bodyPost_ret (v := .tuple #[.agg #[.int .i64 12, .int .i64 n1, .int .i64 0, .int .i64 0, .string ⟨#[]⟩], .bool o1]) (by simp [results, Tryz.results21, go_sem, z0, z1, z2, z3, z4, z5]) rfl ?_
     exact ⟨⟨12, n1, 0, 0, ⟨#[]⟩⟩, (by rw [HR.out, HE.out.1]; rfl), (by rw [HR.out]; exact HE.out.2), HF.out⟩
   obtain ⟨TT, HT, ta1, ta2⟩ := others (i := i) (by
    unfold isText at hk
    simp only [Bool.or_eq_true, beq_iff_eq] at hk
    omega)
   clear h1 h2 hle
   have DE : Hid (∀ W : World, Calls Tryz.prog 27 #[.agg #[.int .i64 i, .int .i64 0, .int .i64 0, .int .i64 0, .string ⟨#[]⟩]] W fun e w' => e = .returned (.iface TT (.agg #[.int .i64 i, .int .i64 0, .int .i64 0, .int .i64 0, .string ⟨#[]⟩])) ∧ Below W.heap.size W w') := Lib.hid (fun W => by
    have h := editOf_any ⟨i, 0, 0, 0, ⟨#[]⟩⟩ W
    rw [show edI ⟨i, 0, 0, 0, ⟨#[]⟩⟩ = .iface TT (edV ⟨i, 0, 0, 0, ⟨#[]⟩⟩) from HT] at h
    exact h)
   have HO1 := Lib.hid (HX.out.setO true)
   go_upto_region 15 with (go_at_call 27; refine (DE.out _).mono ?_; rintro e w4 ⟨rfl, hb4⟩)
   have HX4 := Lib.hid (HO1.out.below hb4)
   obtain ⟨Y, rfl⟩ : ∃ Z : ExtO (fun q => q = B ∨ q = B + 1) w3, w4 = Z.1 := ⟨⟨w4, (X.2.trans (kept_set1.weaken2 fun q e => Or.inr e)).trans (Kept.of_below hb4)⟩, rfl⟩
   clear hb4 HO1 HX DE
   clear x0 x1 x2 x3 x4 x5 y0 y1 y2 y3 y4 y7
   have ⟨c0, c1, c2, c3, c4, c5⟩ := HX4.out.cells
   have ⟨d6, d7⟩ := HX4.out.free
   have d0 := d6 0
   have d1 := d6 1
   have d2 := d6 2
   have d3 := d6 3
   have d4 := d6 4
   clear d6
   go_upto_region 24 with fail
   have G1 : ∀ X : CXK i B Y.1, X.1.cell? ⟨B + 2, 1, none⟩ = some (.string b) := fun X => E1 ⟨X.1, Y.2.trans X.2.1⟩
   have G0 : ∀ X : CXK i B Y.1, X.1.cell? ⟨B, 0, none⟩ = some (.int .i64 i) := fun X => X.2.2
   refine held_start (C := fun w' => ∃ Z : CXK i B Y.1, w' = Z.1) (by kernel_rfl) ?_
   obtain ⟨Z0, hZ0⟩ : ∃ Z : CXK i B Y.1, ({ Y.1 with drawn := Y.1.drawn + 1 } : World) = Z.1 := ⟨⟨{ Y.1 with drawn := Y.1.drawn + 1 }, ⟨⟨rfl, rfl, rfl, Nat.le_refl _, fun _ _ _ => rfl⟩, c0⟩⟩, rfl⟩
   rw [hZ0]
   have HXZ : Hid (XB Z0.1 B i 0 0 0 ⟨#[]⟩ true) := Lib.hid (hZ0 ▸ ⟨HX4.out.x, HX4.out.o⟩)
   clear hZ0
   have hne : Nonempty (CXK i B Y.1) := ⟨Z0⟩
   refine held_quiet (by kernel_rfl) (fun _ _ d _ _ h => by cases d <;> exact h) ⟨Z0, rfl⟩ [0, 1, 2, 3, 4, 5, 6, 7, 8, 9, 10] 3 _ _ (by kernel_rfl) ?_
   change wpQuiet _ _ _ _ (_ :: _ :: _ :: _ :: _ :: _ :: _ :: _ :: _ :: _ :: _ :: []) _
   repeat go_big_quiet_step (fail)
   refine wpQuiet_nil ?_
   refine held_do (i := 11) _ rfl (by kernel_rfl) rfl (fun K hK => ?_)
   go_simp
   refine (number_any b false (B + 1) true Z0.1 HXZ.out.o (HG.out.below (FIN.out ⟨Z0.1, Y.2.trans Z0.2.1⟩)) HLE.out.2).mono ?_
   rintro e w5 ⟨n1, rfl, hv, hbox, hk5⟩
   have HV1 := Lib.hid hv
   obtain ⟨o1, ho⟩ : ∃ o, (numP false (sB b)).isSome = o := ⟨_, rfl⟩
   rw [ho] at hbox
   have HO1 := Lib.hid ho
   rw [Bool.true_and] at hbox
   have HXC1 := Lib.hid (HXZ.out.num hbox hk5)
   obtain ⟨Z1, rfl⟩ : ∃ Z : CXK i B Y.1, w5 = Z.1 := ⟨⟨w5, Z0.2.1.trans (hk5.weaken2 fun q e => Or.inr e), HXC1.out.cells.1⟩, rfl⟩
   clear hv hbox hk5 ho HXZ
   refine hK _ _ ⟨Z1, rfl⟩ ?_
   clear hK K
   try simp only [Act.put, List.setIfInBounds_toArray, List.set_cons_zero, List.set_cons_succ]
   refine held_quiet (by kernel_rfl) (fun _ _ d _ _ h => by cases d <;> exact h) ⟨Z1, rfl⟩ [12] 1 _ _ (by kernel_rfl) ?_
   change wpQuiet _ _ _ _ (_ :: []) _
   repeat go_big_quiet_step (fail)
   refine wpQuiet_nil ?_
   refine held_do (i := 13) _ rfl (by kernel_rfl) rfl (fun K hK => ?_)
   go_simp
   have ⟨g0, g1, g2, g3, g4, g5⟩ := HXC1.out.cells
   have g6 := HXC1.out.free.1 1
   go_simp
   have hX := HXC1.out.setN n1
   obtain ⟨Z2, hZ⟩ : ∃ Z : CXK i B Y.1, Z1.1.setCell ⟨B, 1, none⟩ (.int .i64 n1) = Z.1 := ⟨⟨_, Z1.2.1.trans (kept_set1.weaken2 fun q e => Or.inl e), hX.cells.1⟩, rfl⟩
   rw [hZ] at hX ⊢
   have HXD := Lib.hid hX
   clear hX hZ g0 g1 g2 g3 g4 g5 g6 HXC1
   refine hK _ _ ⟨Z2, rfl⟩ ?_
   clear hK K
   try simp only [Act.put, List.setIfInBounds_toArray, List.set_cons_zero, List.set_cons_succ]
   refine wpAnyH_done (by kernel_rfl) ?_ _
   clear G0 G1 HX4
   clear c0 c1 c2 c3 c4 c5 d0 d1 d2 d3 d4 d7
   go_upto_region 25 with fail
   have HE := Lib.hid (num_ret (k := k) (q := readV k [sB a, sB b]) HQK.out HI.out HO1.out HV1.out)
   have P0 : ∀ X : CXA i n1 0 0 ⟨#[]⟩ o1 B Z2.1, X.1.cell? ⟨B, 0, none⟩ = some (.int .i64 i) := fun X => X.2.2.cells.1
   have P1 : ∀ X : CXA i n1 0 0 ⟨#[]⟩ o1 B Z2.1, X.1.cell? ⟨B, 1, none⟩ = some (.int .i64 n1) := fun X => X.2.2.cells.2.1
   have P2 : ∀ X : CXA i n1 0 0 ⟨#[]⟩ o1 B Z2.1, X.1.cell? ⟨B, 2, none⟩ = some (.int .i64 0) := fun X => X.2.2.cells.2.2.1
   have P3 : ∀ X : CXA i n1 0 0 ⟨#[]⟩ o1 B Z2.1, X.1.cell? ⟨B, 3, none⟩ = some (.int .i64 0) := fun X => X.2.2.cells.2.2.2.1
   have P4 : ∀ X : CXA i n1 0 0 ⟨#[]⟩ o1 B Z2.1, X.1.cell? ⟨B, 4, none⟩ = some (.string ⟨#[]⟩) := fun X => X.2.2.cells.2.2.2.2.1
   have P5 : ∀ X : CXA i n1 0 0 ⟨#[]⟩ o1 B Z2.1, X.1.cell? ⟨B + 1, 0, none⟩ = some (.bool o1) := fun X => X.2.2.cells.2.2.2.2.2
   refine held_start (C := fun w' => ∃ Z : CXA i n1 0 0 ⟨#[]⟩ o1 B Z2.1, w' = Z.1) (by kernel_rfl) ?_
   obtain ⟨A0, hZ0⟩ : ∃ Z : CXA i n1 0 0 ⟨#[]⟩ o1 B Z2.1, ({ Z2.1 with drawn := Z2.1.drawn + 1 } : World) = Z.1 := ⟨⟨{ Z2.1 with drawn := Z2.1.drawn + 1 }, ⟨⟨rfl, rfl, rfl, Nat.le_refl _, fun _ _ _ => rfl⟩, ⟨HXD.out.x, HXD.out.o⟩⟩⟩, rfl⟩
   rw [hZ0]
   clear hZ0
   have hne2 : Nonempty (CXA i n1 0 0 ⟨#[]⟩ o1 B Z2.1) := ⟨A0⟩
   refine held_quiet (by kernel_rfl) (fun _ _ d _ _ h => by cases d <;> exact h) ⟨A0, rfl⟩ [0, 1] 2 _ _ (by kernel_rfl) ?_
   change wpQuiet _ _ _ _ (_ :: _ :: []) _
   repeat go_big_quiet_step (fail)
   refine wpQuiet_nil ?_
   refine held_do (i := 2) _ rfl (by kernel_rfl) rfl (fun K hK => ?_)
   go_simp
   have ⟨g0, g1, g2, g3, g4, g5⟩ := A0.2.2.cells
   have ⟨g6, _⟩ := A0.2.2.free
   have f0 := g6 0
   have f1 := g6 1
   have f2 := g6 2
   have f3 := g6 3
   have f4 := g6 4
   go_simp
   have hX := A0.2.2.out5
   obtain ⟨A1, hA⟩ : ∃ Z : CXA i n1 0 0 ⟨#[]⟩ o1 B Z2.1, ((((A0.1.setCell ⟨B, 0, none⟩ (.int .i64 i)).setCell ⟨B, 1, none⟩ (.int .i64 n1)).setCell ⟨B, 2, none⟩ (.int .i64 0)).setCell ⟨B, 3, none⟩ (.int .i64 0)).setCell ⟨B, 4, none⟩ (.string ⟨#[]⟩) = Z.1 := ⟨⟨_, A0.2.1.trans hX.2, hX.1⟩, rfl⟩
   rw [hA]
   clear hX hA g0 g1 g2 g3 g4 g5 g6 f0 f1 f2 f3 f4
   refine hK _ _ ⟨A1, rfl⟩ ?_
   clear hK K
   try simp only [Act.put, List.setIfInBounds_toArray, List.set_cons_zero, List.set_cons_succ]
   refine held_do (i := 3) _ rfl (by kernel_rfl) rfl (fun K hK => ?_)
   go_simp
   have g5 := A1.2.2.cells.2.2.2.2.2
   have g7 := A1.2.2.free.2
   go_simp
   have hX := A1.2.2.setO o1
   obtain ⟨A2, hA⟩ : ∃ Z : CXA i n1 0 0 ⟨#[]⟩ o1 B Z2.1, A1.1.setCell ⟨B + 1, 0, none⟩ (.bool o1) = Z.1 := ⟨⟨_, A1.2.1.trans (kept_set1.weaken2 fun q e => Or.inr e), hX⟩, rfl⟩
   rw [hA]
   clear hX hA g5 g7
   refine hK _ _ ⟨A2, rfl⟩ ?_
   clear hK K
   try simp only [Act.put, List.setIfInBounds_toArray, List.set_cons_zero, List.set_cons_succ]
   refine wpAnyH_done (by kernel_rfl) ?_ _
   clear P0 P1 P2 P3 P4 P5
   have ⟨z0, z1, z2, z3, z4, z5⟩ := A2.2.2.cells
   have HF : Hid (Below w.heap.size w A2.1) := Lib.hid (FIN.out ⟨A2.1, (Y.2.trans Z2.2.1).trans A2.2.1⟩)
   go_wp2_with fail
   refine bodyPost_ret (v := .tuple #[.agg #[.int .i64 i, .int .i64 n1, .int .i64 0, .int .i64 0, .string ⟨#[]⟩], .bool o1]) (by simp [results, Tryz.results21, go_sem, z0, z1, z2, z3, z4, z5]) rfl ?_
   exact ⟨⟨i, n1, 0, 0, ⟨#[]⟩⟩, (by rw [HR.out, HE.out.1]; rfl), (by rw [HR.out]; exact HE.out.2), HF.out⟩
set_option maxHeartbeats 8000000 in
set_option maxRecDepth 100000 in
theorem readEdit_3 (line : ByteArray) (w : World) (hg : Glo w) (hs : line.size ≤ 1000000) (a b c : ByteArray) (hw : Lib.splitK [32] 0 3 (sB line) = [sB a, sB b, sB c]) :
 Calls Tryz.prog 21 #[.string line] w fun e w' => EdRet (readP [sB a, sB b, sB c]) w e w' := by
 have HG := Lib.hid hg
 have HLE : Hid (a.size ≤ 1000000 ∧ b.size ≤ 1000000 ∧ c.size ≤ 1000000) := Lib.hid (by
  have hp := piece_le 3 (sB line)
  rw [hw] at hp
  have hl : (sB line).length = line.size := rfl
  exact ⟨Nat.le_trans (hp (sB a) (by simp)) (by omega), Nat.le_trans (hp (sB b) (by simp)) (by omega), Nat.le_trans (hp (sB c) (by simp)) (by omega)⟩)
 have DS := Lib.hid (fun (W : World) (hW : Glo W) => split_any line hs [a, b, c] hw 3 rfl W hW)
 clear hw hs hg
 obtain ⟨V0, hV0, hb0, hs0, hl0⟩ := alloc_cells w #[.int .i64 0, .int .i64 0, .int .i64 0, .int .i64 0, .string ⟨#[]⟩] 30
 obtain ⟨V1, hV1, hb1, hs1, hl1⟩ := alloc_cells V0 #[.bool false] 4
 obtain ⟨B, hB⟩ : ∃ B, w.heap.size = B := ⟨_, rfl⟩
 have HX1 : Hid (XB V1 B 0 0 0 0 ⟨#[]⟩ false) := Lib.hid (by
  have h3 := three_new w (.cells #[.int .i64 0, .int .i64 0, .int .i64 0, .int .i64 0, .string ⟨#[]⟩] 30 (0, 0)) (.cells #[.bool false] 4 (0, 0))
  rw [hV0, hV1, hB] at h3
  exact ⟨h3.1, h3.2⟩)
 have HB1 := Lib.hid (show Below B w V1 from by
  have := below_tr (B := w.heap.size) hb0 (by omega) hb1
  rwa [hB] at this)
 have hs0' : V0.heap.size = B + 1 := by omega
 have HS1 := Lib.hid (show V1.heap.size = B + 2 by omega)
 clear hb0 hb1 hl0 hl1 hs0 hs1
 go_enter Tryz.func21, Tryz.ntmps21
 go_upto_region 2 with (go_at_call 32; refine (DS.out _ (HG.out.below (by rw [hB]; exact HB1.out))).mono ?_; rintro e w3 ⟨cap, rfl, hcells, hb3⟩; rw [HS1.out] at hcells hb3 ⊢)
 clear hV0 hV1 hs0'
 have HXW := Lib.hid (HX1.out.below (by rw [HS1.out]; exact hb3))
 have HBW := Lib.hid (HB1.out.trans (hb3.mono (by omega)))
 clear hb3 HX1 HB1 DS
 obtain ⟨i, hi⟩ : ∃ i, Lib.idxOfS wordsT a = i := ⟨_, rfl⟩
 have DI := Lib.hid (fun g w W h1 h2 => index_words a g w W h1 h2)
 have HK := Lib.hid (idx_kind a)
 rw [hi] at DI HK
 clear hi
 have hO : ∀ j, ¬ (fun q => q = B ∨ q = B + 1) (⟨B + 2, j, none⟩ : Addr).block := fun j h => by
  rcases h with h | h
  · simp at h
  · simp at h
 have HO := Lib.hid hO
 have E0 := ExtO.ex (O := (fun q => q = B ∨ q = B + 1)) (hO 0) (hcells 0 a rfl)
 have E1 := ExtO.ex (O := (fun q => q = B ∨ q = B + 1)) (hO 1) (hcells 1 b rfl)
 have E2 := ExtO.ex (O := (fun q => q = B ∨ q = B + 1)) (hO 2) (hcells 2 c rfl)
 clear hO hcells
 go_cut [] (fun wx => ∃ X : ExtO (fun q => q = B ∨ q = B + 1) w3, wx = X.1 ∧ Hid (XB X.1 B i 0 0 0 ⟨#[]⟩ false))
 case first =>
  refine held_start (C := fun w' => ∃ Z : ExtO (fun q => q = B ∨ q = B + 1) w3, w' = Z.1) (by kernel_rfl) ?_
  obtain ⟨Z0, hZ0⟩ : ∃ Z : ExtO (fun q => q = B ∨ q = B + 1) w3, ({ w3 with drawn := w3.drawn + 1 } : World) = Z.1 := ⟨⟨{ w3 with drawn := w3.drawn + 1 }, ⟨rfl, rfl, rfl, Nat.le_refl _, fun _ _ _ => rfl⟩⟩, rfl⟩
  rw [hZ0]
  have HX0 := Lib.hid (HXW.out.below (show Below w3.heap.size w3 Z0.1 from hZ0 ▸ ⟨rfl, rfl, rfl, Nat.le_refl _, fun _ _ => rfl⟩))
  clear hZ0
  refine held_quiet (by kernel_rfl) (fun _ _ d _ _ h => by cases d <;> exact h) ⟨Z0, rfl⟩ [1, 2, 3] 4 _ _ (by kernel_rfl) ?_
  change wpQuiet _ _ _ _ (_ :: _ :: _ :: []) _
  repeat go_big_quiet_step (fail)
  refine wpQuiet_nil ?_
  refine held_do (i := 0) _ rfl (by kernel_rfl) rfl (fun K hK => ?_)
  go_simp
  refine (words_any _).mono ?_
  rintro e w2 ⟨rfl, hw2⟩
  have hb2 : Below Z0.1.heap.size Z0.1 w2 := by rw [hw2]; exact below_al _ _
  obtain ⟨Z1, rfl⟩ : ∃ Z : ExtO (fun q => q = B ∨ q = B + 1) w3, w2 = Z.1 := ⟨⟨w2, Z0.2.trans (Kept.of_below hb2)⟩, rfl⟩
  have HX1 := Lib.hid (HX0.out.below hb2)
  have DZ := DI.out _ _ _ hw2 rfl
  have DZ := Lib.hid DZ
  clear hw2 hb2 HX0
  refine hK _ _ ⟨Z1, rfl⟩ ?_
  clear hK K
  try simp only [Act.put, List.setIfInBounds_toArray, List.set_cons_zero, List.set_cons_succ]
  refine held_do (i := 4) _ rfl (by kernel_rfl) rfl (fun K hK => ?_)
  go_simp
  refine DZ.out.mono ?_
  rintro e w4 ⟨rfl, rfl⟩
  refine hK _ _ ⟨Z1, rfl⟩ ?_
  clear hK K
  try simp only [Act.put, List.setIfInBounds_toArray, List.set_cons_zero, List.set_cons_succ]
  refine held_quiet (by kernel_rfl) (fun _ _ d _ _ h => by cases d <;> exact h) ⟨Z1, rfl⟩ [5] 1 _ _ (by kernel_rfl) ?_
  change wpQuiet _ _ _ _ (_ :: []) _
  repeat go_big_quiet_step (fail)
  refine wpQuiet_nil ?_
  refine held_do (i := 6) _ rfl (by kernel_rfl) rfl (fun K hK => ?_)
  go_simp
  have c0 := HX1.out.cells.1
  have f0 := HX1.out.free.1 0
  go_simp
  have HX2 := HX1.out.setK i
  obtain ⟨Z2, hZ⟩ : ∃ Z : ExtO (fun q => q = B ∨ q = B + 1) w3, Z1.1.setCell ⟨B, 0, none⟩ (.int .i64 i) = Z.1 := ⟨⟨_, Z1.2.trans (kept_set1.weaken2 fun q e => Or.inl e)⟩, rfl⟩
  rw [hZ] at HX2 ⊢
  have HX2 := Lib.hid HX2
  clear hZ c0 f0
  refine hK _ _ ⟨Z2, rfl⟩ ?_
  clear hK K
  try simp only [Act.put, List.setIfInBounds_toArray, List.set_cons_zero, List.set_cons_succ]
  refine wpAnyH_done (by kernel_rfl) ?_ _
  go_wp2_with fail
  go_meet
  exact ⟨Z2, rfl, HX2⟩
 case rest =>
  obtain ⟨X, rfl, HX⟩ := hcut
  have FIN := Lib.hid (fun Y : ExtO (fun q => q = B ∨ q = B + 1) w3 => (show Below w.heap.size w Y.1 from by
   rw [hB]
   exact Y.down HBW.out (hB ▸ HBW.out.size) (fun k hk h => by rcases h with h | h <;> omega)))
  have ⟨x0, x1, x2, x3, x4, x5⟩ := HX.out.cells
  have ⟨y6, y7⟩ := HX.out.free
  have y0 := y6 0
  have y1 := y6 1
  have y2 := y6 2
  have y3 := y6 3
  have y4 := y6 4
  clear y6
  clear hB DI
  rcases HK.out with ⟨h1, h2⟩ | ⟨h1, h2⟩
  case inl =>
   have t1 := decide_eq_true h1
   have HR : Hid (readP [sB a, sB b, sB c] = none) := Lib.hid (by
    unfold readP
    rw [List.headD_cons, bs_sB, h2, if_pos rfl])
   clear h1 h2
   have HQ := Lib.hid (HX.out.out false)
   go_wp2_with fail
   obtain ⟨W9, h9⟩ : ∃ W9, (((((X.1.setCell ⟨B, 0, none⟩ (.int .i64 i)).setCell ⟨B, 1, none⟩ (.int .i64 0)).setCell ⟨B, 2, none⟩ (.int .i64 0)).setCell ⟨B, 3, none⟩ (.int .i64 0)).setCell ⟨B, 4, none⟩ (.string ⟨#[]⟩)).setCell ⟨B + 1, 0, none⟩ (.bool false) = W9 := ⟨_, rfl⟩
   have HQ9 := HQ.out
   rw [h9] at HQ9 ⊢
   have HF : Hid (Below w.heap.size w W9) := Lib.hid (FIN.out ⟨W9, X.2.trans HQ9.2⟩)
   have ⟨z0, z1, z2, z3, z4, z5⟩ := HQ9.1.cells
   clear h9 HQ9
   refine bodyPost_ret (v := .tuple #[.agg #[.int .i64 i, .int .i64 0, .int .i64 0, .int .i64 0, .string ⟨#[]⟩], .bool false]) (by simp [results, Tryz.results21, go_sem, z0, z1, z2, z3, z4, z5]) rfl ?_
   exact ⟨⟨i, 0, 0, 0, ⟨#[]⟩⟩, (by rw [HR.out]; rfl), (by rw [HR.out]; exact fun y hy => by cases (show none = some y from hy)), HF.out⟩
  case inr =>
   obtain ⟨k, hk0⟩ : ∃ k, kindW a = k := ⟨_, rfl⟩
   have hle := kindW_le a
   have HR : Hid (readP [sB a, sB b, sB c] = readV k [sB a, sB b, sB c]) := Lib.hid (by
    unfold readP
    rw [List.headD_cons, bs_sB, hk0, if_neg (by omega)])
   rw [hk0] at h1 h2 hle
   have HI := Lib.hid h1
   have t1 : decide (i < 1) = false := by rw [decide_eq_false_iff_not]; omega
   clear hk0
   by_cases h8 : k = 8
   · obtain rfl : i = 8 := by omega
     subst h8
     clear h1 h2 hle t1
     have DE : Hid (∀ W : World, Calls Tryz.prog 27 #[.agg #[.int .i64 8, .int .i64 0, .int .i64 0, .int .i64 0, .string ⟨#[]⟩]] W fun e w' => e = .returned (.iface 59 (.agg #[.int .i64 8, .int .i64 0, .int .i64 0, .int .i64 0, .string ⟨#[]⟩])) ∧ Below W.heap.size W w') := Lib.hid (fun W => by
      have h := editOf_any ⟨8, 0, 0, 0, ⟨#[]⟩⟩ W
      rw [show edI ⟨8, 0, 0, 0, ⟨#[]⟩⟩ = .iface 59 (edV ⟨8, 0, 0, 0, ⟨#[]⟩⟩) from rfl] at h
      exact h)
     have HO1 := Lib.hid (HX.out.setO true)
     go_upto_region 15 with (go_at_call 27; refine (DE.out _).mono ?_; rintro e w4 ⟨rfl, hb4⟩)
     have HX4 := Lib.hid (HO1.out.below hb4)
     obtain ⟨Y, rfl⟩ : ∃ Z : ExtO (fun q => q = B ∨ q = B + 1) w3, w4 = Z.1 := ⟨⟨w4, (X.2.trans (kept_set1.weaken2 fun q e => Or.inr e)).trans (Kept.of_below hb4)⟩, rfl⟩
     clear hb4 HO1 HX DE
     clear x0 x1 x2 x3 x4 x5 y0 y1 y2 y3 y4 y7
     have ⟨c0, c1, c2, c3, c4, c5⟩ := HX4.out.cells
     have ⟨d6, d7⟩ := HX4.out.free
     have d0 := d6 0
     have d1 := d6 1
     have d2 := d6 2
     have d3 := d6 3
     have d4 := d6 4
     clear d6
     have ta1 := fun v W => ta_parted_texted v W
     have ta2 := fun v W => ta_parted_parted v W
     go_upto_region 20 with fail
     refine held_start (C := fun w' => ∃ Z : ExtO (fun q => q = B ∨ q = B + 1) w3, w' = Z.1) (by kernel_rfl) ?_
     obtain ⟨Z0, hZ0⟩ : ∃ Z : ExtO (fun q => q = B ∨ q = B + 1) w3, ({ Y.1 with drawn := Y.1.drawn + 1 } : World) = Z.1 := ⟨⟨{ Y.1 with drawn := Y.1.drawn + 1 }, Y.2.trans ⟨rfl, rfl, rfl, Nat.le_refl _, fun _ _ _ => rfl⟩⟩, rfl⟩
     rw [hZ0]
     have HXZ : Hid (XB Z0.1 B 8 0 0 0 ⟨#[]⟩ true) := Lib.hid (hZ0 ▸ ⟨HX4.out.x, HX4.out.o⟩)
     clear hZ0
     refine held_quiet (by kernel_rfl) (fun _ _ d _ _ h => by cases d <;> exact h) ⟨Z0, rfl⟩ [0, 1, 2, 4, 5, 6] 6 _ _ (by kernel_rfl) ?_
     change wpQuiet _ _ _ _ (_ :: _ :: _ :: _ :: _ :: _ :: []) _
     repeat go_big_quiet_step (fail)
     refine wpQuiet_nil ?_
     refine held_do (i := 3) _ rfl (by kernel_rfl) rfl (fun K hK => ?_)
     go_simp
     refine (number_any b false (B + 1) true Z0.1 HXZ.out.o (HG.out.below (FIN.out Z0)) HLE.out.2.1).mono ?_
     rintro e w5 ⟨n1, rfl, hv, hbox, hk5⟩
     have HV1 := Lib.hid hv
     obtain ⟨o1, ho⟩ : ∃ o, (numP false (sB b)).isSome = o := ⟨_, rfl⟩
     rw [ho] at hbox
     have HO1 := Lib.hid ho
     rw [Bool.true_and] at hbox
     have HXC1 := Lib.hid (HXZ.out.num hbox hk5)
     obtain ⟨Z1, rfl⟩ : ∃ Z : ExtO (fun q => q = B ∨ q = B + 1) w3, w5 = Z.1 := ⟨⟨w5, Z0.2.trans (hk5.weaken2 fun q e => Or.inr e)⟩, rfl⟩
     clear hv hbox hk5 ho HXZ
     refine hK _ _ ⟨Z1, rfl⟩ ?_
     clear hK K
     try simp only [Act.put, List.setIfInBounds_toArray, List.set_cons_zero, List.set_cons_succ]
     refine held_quiet (by kernel_rfl) (fun _ _ d _ _ h => by cases d <;> exact h) ⟨Z1, rfl⟩ [8] 4 _ _ (by kernel_rfl) ?_
     change wpQuiet _ _ _ _ (_ :: []) _
     repeat go_big_quiet_step (fail)
     refine wpQuiet_nil ?_
     refine held_do (i := 7) _ rfl (by kernel_rfl) rfl (fun K hK => ?_)
     go_simp
     refine (number_any c false (B + 1) o1 Z1.1 HXC1.out.o (HG.out.below (FIN.out Z1)) HLE.out.2.2).mono ?_
     rintro e w5 ⟨n2, rfl, hv, hbox, hk5⟩
     have HV2 := Lib.hid hv
     obtain ⟨o2, ho⟩ : ∃ o, (numP false (sB c)).isSome = o := ⟨_, rfl⟩
     rw [ho] at hbox
     have HO2 := Lib.hid ho
     have HXC2 := Lib.hid (HXC1.out.num hbox hk5)
     obtain ⟨Z2, rfl⟩ : ∃ Z : ExtO (fun q => q = B ∨ q = B + 1) w3, w5 = Z.1 := ⟨⟨w5, Z1.2.trans (hk5.weaken2 fun q e => Or.inr e)⟩, rfl⟩
     clear hv hbox hk5 ho HXC1
     refine hK _ _ ⟨Z2, rfl⟩ ?_
     clear hK K
     try simp only [Act.put, List.setIfInBounds_toArray, List.set_cons_zero, List.set_cons_succ]
     refine held_do (i := 9) _ rfl (by kernel_rfl) rfl (fun K hK => ?_)
     go_simp
     have ⟨g0, g1, g2, g3, g4, g5⟩ := HXC2.out.cells
     have g6 := HXC2.out.free.1 2
     go_simp
     have hX := HXC2.out.setF n1
     obtain ⟨Z3, hZ⟩ : ∃ Z : ExtO (fun q => q = B ∨ q = B + 1) w3, Z2.1.setCell ⟨B, 2, none⟩ (.int .i64 n1) = Z.1 := ⟨⟨_, Z2.2.trans (kept_set1.weaken2 fun q e => Or.inl e)⟩, rfl⟩
     rw [hZ] at hX ⊢
     have HXD := Lib.hid hX
     clear hX hZ g0 g1 g2 g3 g4 g5 g6 HXC2
     refine hK _ _ ⟨Z3, rfl⟩ ?_
     clear hK K
     try simp only [Act.put, List.setIfInBounds_toArray, List.set_cons_zero, List.set_cons_succ]
     refine held_quiet (by kernel_rfl) (fun _ _ d _ _ h => by cases d <;> exact h) ⟨Z3, rfl⟩ [10] 1 _ _ (by kernel_rfl) ?_
     change wpQuiet _ _ _ _ (_ :: []) _
     repeat go_big_quiet_step (fail)
     refine wpQuiet_nil ?_
     refine held_do (i := 11) _ rfl (by kernel_rfl) rfl (fun K hK => ?_)
     go_simp
     have ⟨g0, g1, g2, g3, g4, g5⟩ := HXD.out.cells
     have g6 := HXD.out.free.1 3
     go_simp
     have hX := HXD.out.setT n2
     obtain ⟨Z4, hZ⟩ : ∃ Z : ExtO (fun q => q = B ∨ q = B + 1) w3, Z3.1.setCell ⟨B, 3, none⟩ (.int .i64 n2) = Z.1 := ⟨⟨_, Z3.2.trans (kept_set1.weaken2 fun q e => Or.inl e)⟩, rfl⟩
     rw [hZ] at hX ⊢
     have HXE := Lib.hid hX
     clear hX hZ g0 g1 g2 g3 g4 g5 g6 HXD
     refine hK _ _ ⟨Z4, rfl⟩ ?_
     clear hK K
     try simp only [Act.put, List.setIfInBounds_toArray, List.set_cons_zero, List.set_cons_succ]
     refine wpAnyH_done (by kernel_rfl) ?_ _
     clear HX4
     clear c0 c1 c2 c3 c4 c5 d0 d1 d2 d3 d4 d7
     have ⟨c0, c1, c2, c3, c4, c5⟩ := HXE.out.cells
     have ⟨d6, d7⟩ := HXE.out.free
     have d0 := d6 0
     have d1 := d6 1
     have d2 := d6 2
     have d3 := d6 3
     have d4 := d6 4
     clear d6
     obtain ⟨o3, ho3⟩ : ∃ o, (o1 && o2) = o := ⟨_, rfl⟩
     rw [ho3] at HXE
     have HO3 := Lib.hid ho3
     clear c5 ho3
     have c5 := HXE.out.cells.2.2.2.2.2
     go_upto_region 23 with fail
     have HQ : Hid (readV 8 [sB a, sB b, sB c] = (numW false (sB b)).bind fun f => (numW false (sB c)).map fun t => ⟨8, 0, f, t, ⟨#[]⟩⟩) := Lib.hid (by
      simp only [readV, if_true]
      try rfl)
     have HE := Lib.hid (pair_ret (k := 8) HQ.out HI.out HO1.out HV1.out HO2.out HV2.out)
     rw [HO3.out] at HE
     have P0 : ∀ X : CXA 8 0 n1 n2 ⟨#[]⟩ o3 B Z4.1, X.1.cell? ⟨B, 0, none⟩ = some (.int .i64 8) := fun X => X.2.2.cells.1
     have P1 : ∀ X : CXA 8 0 n1 n2 ⟨#[]⟩ o3 B Z4.1, X.1.cell? ⟨B, 1, none⟩ = some (.int .i64 0) := fun X => X.2.2.cells.2.1
     have P2 : ∀ X : CXA 8 0 n1 n2 ⟨#[]⟩ o3 B Z4.1, X.1.cell? ⟨B, 2, none⟩ = some (.int .i64 n1) := fun X => X.2.2.cells.2.2.1
     have P3 : ∀ X : CXA 8 0 n1 n2 ⟨#[]⟩ o3 B Z4.1, X.1.cell? ⟨B, 3, none⟩ = some (.int .i64 n2) := fun X => X.2.2.cells.2.2.2.1
     have P4 : ∀ X : CXA 8 0 n1 n2 ⟨#[]⟩ o3 B Z4.1, X.1.cell? ⟨B, 4, none⟩ = some (.string ⟨#[]⟩) := fun X => X.2.2.cells.2.2.2.2.1
     have P5 : ∀ X : CXA 8 0 n1 n2 ⟨#[]⟩ o3 B Z4.1, X.1.cell? ⟨B + 1, 0, none⟩ = some (.bool o3) := fun X => X.2.2.cells.2.2.2.2.2
     refine held_start (C := fun w' => ∃ Z : CXA 8 0 n1 n2 ⟨#[]⟩ o3 B Z4.1, w' = Z.1) (by kernel_rfl) ?_
     obtain ⟨A0, hZ0⟩ : ∃ Z : CXA 8 0 n1 n2 ⟨#[]⟩ o3 B Z4.1, ({ Z4.1 with drawn := Z4.1.drawn + 1 } : World) = Z.1 := ⟨⟨{ Z4.1 with drawn := Z4.1.drawn + 1 }, ⟨⟨rfl, rfl, rfl, Nat.le_refl _, fun _ _ _ => rfl⟩, ⟨HXE.out.x, HXE.out.o⟩⟩⟩, rfl⟩
     rw [hZ0]
     clear hZ0
     have hne2 : Nonempty (CXA 8 0 n1 n2 ⟨#[]⟩ o3 B Z4.1) := ⟨A0⟩
     refine held_quiet (by kernel_rfl) (fun _ _ d _ _ h => by cases d <;> exact h) ⟨A0, rfl⟩ [0, 1] 2 _ _ (by kernel_rfl) ?_
     change wpQuiet _ _ _ _ (_ :: _ :: []) _
     repeat go_big_quiet_step (fail)
     refine wpQuiet_nil ?_
     refine held_do (i := 2) _ rfl (by kernel_rfl) rfl (fun K hK => ?_)
     go_simp
     have ⟨g0, g1, g2, g3, g4, g5⟩ := A0.2.2.cells
     have ⟨g6, _⟩ := A0.2.2.free
     have f0 := g6 0
     have f1 := g6 1
     have f2 := g6 2
     have f3 := g6 3
     have f4 := g6 4
     go_simp
     have hX := A0.2.2.out5
     obtain ⟨A1, hA⟩ : ∃ Z : CXA 8 0 n1 n2 ⟨#[]⟩ o3 B Z4.1, ((((A0.1.setCell ⟨B, 0, none⟩ (.int .i64 8)).setCell ⟨B, 1, none⟩ (.int .i64 0)).setCell ⟨B, 2, none⟩ (.int .i64 n1)).setCell ⟨B, 3, none⟩ (.int .i64 n2)).setCell ⟨B, 4, none⟩ (.string ⟨#[]⟩) = Z.1 := ⟨⟨_, A0.2.1.trans hX.2, hX.1⟩, rfl⟩
     rw [hA]
     clear hX hA g0 g1 g2 g3 g4 g5 g6 f0 f1 f2 f3 f4
     refine hK _ _ ⟨A1, rfl⟩ ?_
     clear hK K
     try simp only [Act.put, List.setIfInBounds_toArray, List.set_cons_zero, List.set_cons_succ]
     refine held_do (i := 3) _ rfl (by kernel_rfl) rfl (fun K hK => ?_)
     go_simp
     have g5 := A1.2.2.cells.2.2.2.2.2
     have g7 := A1.2.2.free.2
     go_simp
     have hX := A1.2.2.setO o3
     obtain ⟨A2, hA⟩ : ∃ Z : CXA 8 0 n1 n2 ⟨#[]⟩ o3 B Z4.1, A1.1.setCell ⟨B + 1, 0, none⟩ (.bool o3) = Z.1 := ⟨⟨_, A1.2.1.trans (kept_set1.weaken2 fun q e => Or.inr e), hX⟩, rfl⟩
     rw [hA]
     clear hX hA g5 g7
     refine hK _ _ ⟨A2, rfl⟩ ?_
     clear hK K
     try simp only [Act.put, List.setIfInBounds_toArray, List.set_cons_zero, List.set_cons_succ]
     refine wpAnyH_done (by kernel_rfl) ?_ _
     clear P0 P1 P2 P3 P4 P5
     have ⟨z0, z1, z2, z3, z4, z5⟩ := A2.2.2.cells
     have HF : Hid (Below w.heap.size w A2.1) := Lib.hid (FIN.out ⟨A2.1, (Z4.2).trans A2.2.1⟩)
     go_wp2_with fail
     refine bodyPost_ret (v := .tuple #[.agg #[.int .i64 8, .int .i64 0, .int .i64 n1, .int .i64 n2, .string ⟨#[]⟩], .bool o3]) (by simp [results, Tryz.results21, go_sem, z0, z1, z2, z3, z4, z5]) rfl ?_
     exact ⟨⟨8, 0, n1, n2, ⟨#[]⟩⟩, (by rw [HR.out, HE.out.1]; rfl), (by rw [HR.out]; exact HE.out.2), HF.out⟩
   by_cases h11 : k = 11
   · obtain rfl : i = 11 := by omega
     subst h11
     clear h1 h2 hle t1 h8
     have HQ := Lib.hid (HX.out.out false)
     go_wp2_with fail
     obtain ⟨W9, h9⟩ : ∃ W9, (((((X.1.setCell ⟨B, 0, none⟩ (.int .i64 11)).setCell ⟨B, 1, none⟩ (.int .i64 0)).setCell ⟨B, 2, none⟩ (.int .i64 0)).setCell ⟨B, 3, none⟩ (.int .i64 0)).setCell ⟨B, 4, none⟩ (.string ⟨#[]⟩)).setCell ⟨B + 1, 0, none⟩ (.bool false) = W9 := ⟨_, rfl⟩
     have HQ9 := HQ.out
     rw [h9] at HQ9 ⊢
     have HF : Hid (Below w.heap.size w W9) := Lib.hid (FIN.out ⟨W9, X.2.trans HQ9.2⟩)
     have ⟨z0, z1, z2, z3, z4, z5⟩ := HQ9.1.cells
     clear h9 HQ9
     refine bodyPost_ret (v := .tuple #[.agg #[.int .i64 11, .int .i64 0, .int .i64 0, .int .i64 0, .string ⟨#[]⟩], .bool false]) (by simp [results, Tryz.results21, go_sem, z0, z1, z2, z3, z4, z5]) rfl ?_
     exact ⟨⟨11, 0, 0, 0, ⟨#[]⟩⟩, (by rw [HR.out]; rfl), (by rw [HR.out]; exact fun y hy => by cases (show none = some y from hy)), HF.out⟩
   have t8 : (i == 8) = false := by rw [beq_eq_false_iff_ne]; omega
   have t8' : decide (i = 8) = false := by rw [decide_eq_false_iff_not]; omega
   have t11 : (i == 11) = false := by rw [beq_eq_false_iff_ne]; omega
   have t11' : decide (i = 11) = false := by rw [decide_eq_false_iff_not]; omega
   have HN : Hid (readV k [sB a, sB b, sB c] = none) := Lib.hid (by
    simp only [readV]; rw [if_neg h8])
   clear h1 h2 hle h8 h11
   have HQ := Lib.hid (HX.out.out false)
   go_wp2_with fail
   obtain ⟨W9, h9⟩ : ∃ W9, (((((X.1.setCell ⟨B, 0, none⟩ (.int .i64 i)).setCell ⟨B, 1, none⟩ (.int .i64 0)).setCell ⟨B, 2, none⟩ (.int .i64 0)).setCell ⟨B, 3, none⟩ (.int .i64 0)).setCell ⟨B, 4, none⟩ (.string ⟨#[]⟩)).setCell ⟨B + 1, 0, none⟩ (.bool false) = W9 := ⟨_, rfl⟩
   have HQ9 := HQ.out
   rw [h9] at HQ9 ⊢
   have HF : Hid (Below w.heap.size w W9) := Lib.hid (FIN.out ⟨W9, X.2.trans HQ9.2⟩)
   have ⟨z0, z1, z2, z3, z4, z5⟩ := HQ9.1.cells
   clear h9 HQ9
   refine bodyPost_ret (v := .tuple #[.agg #[.int .i64 i, .int .i64 0, .int .i64 0, .int .i64 0, .string ⟨#[]⟩], .bool false]) (by simp [results, Tryz.results21, go_sem, z0, z1, z2, z3, z4, z5]) rfl ?_
   exact ⟨⟨i, 0, 0, 0, ⟨#[]⟩⟩, (by rw [HR.out, HN.out]; rfl), (by rw [HR.out, HN.out]; exact fun y hy => by cases hy), HF.out⟩
set_option maxHeartbeats 8000000 in
set_option maxRecDepth 100000 in
theorem readEdit_4 (line : ByteArray) (w : World) (hg : Glo w) (hs : line.size ≤ 1000000) (a b c d : ByteArray) (hw : Lib.splitK [32] 0 3 (sB line) = [sB a, sB b, sB c, sB d]) :
 Calls Tryz.prog 21 #[.string line] w fun e w' => EdRet (readP [sB a, sB b, sB c, sB d]) w e w' := by
 have HG := Lib.hid hg
 have HLE : Hid (a.size ≤ 1000000 ∧ b.size ≤ 1000000 ∧ c.size ≤ 1000000 ∧ d.size ≤ 1000000) := Lib.hid (by
  have hp := piece_le 3 (sB line)
  rw [hw] at hp
  have hl : (sB line).length = line.size := rfl
  exact ⟨Nat.le_trans (hp (sB a) (by simp)) (by omega), Nat.le_trans (hp (sB b) (by simp)) (by omega), Nat.le_trans (hp (sB c) (by simp)) (by omega), Nat.le_trans (hp (sB d) (by simp)) (by omega)⟩)
 have DS := Lib.hid (fun (W : World) (hW : Glo W) => split_any line hs [a, b, c, d] hw 4 rfl W hW)
 clear hw hs hg
 obtain ⟨V0, hV0, hb0, hs0, hl0⟩ := alloc_cells w #[.int .i64 0, .int .i64 0, .int .i64 0, .int .i64 0, .string ⟨#[]⟩] 30
 obtain ⟨V1, hV1, hb1, hs1, hl1⟩ := alloc_cells V0 #[.bool false] 4
 obtain ⟨B, hB⟩ : ∃ B, w.heap.size = B := ⟨_, rfl⟩
 have HX1 : Hid (XB V1 B 0 0 0 0 ⟨#[]⟩ false) := Lib.hid (by
  have h3 := three_new w (.cells #[.int .i64 0, .int .i64 0, .int .i64 0, .int .i64 0, .string ⟨#[]⟩] 30 (0, 0)) (.cells #[.bool false] 4 (0, 0))
  rw [hV0, hV1, hB] at h3
  exact ⟨h3.1, h3.2⟩)
 have HB1 := Lib.hid (show Below B w V1 from by
  have := below_tr (B := w.heap.size) hb0 (by omega) hb1
  rwa [hB] at this)
 have hs0' : V0.heap.size = B + 1 := by omega
 have HS1 := Lib.hid (show V1.heap.size = B + 2 by omega)
 clear hb0 hb1 hl0 hl1 hs0 hs1
 go_enter Tryz.func21, Tryz.ntmps21
 go_upto_region 2 with (go_at_call 32; refine (DS.out _ (HG.out.below (by rw [hB]; exact HB1.out))).mono ?_; rintro e w3 ⟨cap, rfl, hcells, hb3⟩; rw [HS1.out] at hcells hb3 ⊢)
 clear hV0 hV1 hs0'
 have HXW := Lib.hid (HX1.out.below (by rw [HS1.out]; exact hb3))
 have HBW := Lib.hid (HB1.out.trans (hb3.mono (by omega)))
 clear hb3 HX1 HB1 DS
 obtain ⟨i, hi⟩ : ∃ i, Lib.idxOfS wordsT a = i := ⟨_, rfl⟩
 have DI := Lib.hid (fun g w W h1 h2 => index_words a g w W h1 h2)
 have HK := Lib.hid (idx_kind a)
 rw [hi] at DI HK
 clear hi
 have hO : ∀ j, ¬ (fun q => q = B ∨ q = B + 1) (⟨B + 2, j, none⟩ : Addr).block := fun j h => by
  rcases h with h | h
  · simp at h
  · simp at h
 have HO := Lib.hid hO
 have E0 := ExtO.ex (O := (fun q => q = B ∨ q = B + 1)) (hO 0) (hcells 0 a rfl)
 have E1 := ExtO.ex (O := (fun q => q = B ∨ q = B + 1)) (hO 1) (hcells 1 b rfl)
 have E2 := ExtO.ex (O := (fun q => q = B ∨ q = B + 1)) (hO 2) (hcells 2 c rfl)
 have E3 := ExtO.ex (O := (fun q => q = B ∨ q = B + 1)) (hO 3) (hcells 3 d rfl)
 clear hO hcells
 go_cut [] (fun wx => ∃ X : ExtO (fun q => q = B ∨ q = B + 1) w3, wx = X.1 ∧ Hid (XB X.1 B i 0 0 0 ⟨#[]⟩ false))
 case first =>
  refine held_start (C := fun w' => ∃ Z : ExtO (fun q => q = B ∨ q = B + 1) w3, w' = Z.1) (by kernel_rfl) ?_
  obtain ⟨Z0, hZ0⟩ : ∃ Z : ExtO (fun q => q = B ∨ q = B + 1) w3, ({ w3 with drawn := w3.drawn + 1 } : World) = Z.1 := ⟨⟨{ w3 with drawn := w3.drawn + 1 }, ⟨rfl, rfl, rfl, Nat.le_refl _, fun _ _ _ => rfl⟩⟩, rfl⟩
  rw [hZ0]
  have HX0 := Lib.hid (HXW.out.below (show Below w3.heap.size w3 Z0.1 from hZ0 ▸ ⟨rfl, rfl, rfl, Nat.le_refl _, fun _ _ => rfl⟩))
  clear hZ0
  refine held_quiet (by kernel_rfl) (fun _ _ d _ _ h => by cases d <;> exact h) ⟨Z0, rfl⟩ [1, 2, 3] 4 _ _ (by kernel_rfl) ?_
  change wpQuiet _ _ _ _ (_ :: _ :: _ :: []) _
  repeat go_big_quiet_step (fail)
  refine wpQuiet_nil ?_
  refine held_do (i := 0) _ rfl (by kernel_rfl) rfl (fun K hK => ?_)
  go_simp
  refine (words_any _).mono ?_
  rintro e w2 ⟨rfl, hw2⟩
  have hb2 : Below Z0.1.heap.size Z0.1 w2 := by rw [hw2]; exact below_al _ _
  obtain ⟨Z1, rfl⟩ : ∃ Z : ExtO (fun q => q = B ∨ q = B + 1) w3, w2 = Z.1 := ⟨⟨w2, Z0.2.trans (Kept.of_below hb2)⟩, rfl⟩
  have HX1 := Lib.hid (HX0.out.below hb2)
  have DZ := DI.out _ _ _ hw2 rfl
  have DZ := Lib.hid DZ
  clear hw2 hb2 HX0
  refine hK _ _ ⟨Z1, rfl⟩ ?_
  clear hK K
  try simp only [Act.put, List.setIfInBounds_toArray, List.set_cons_zero, List.set_cons_succ]
  refine held_do (i := 4) _ rfl (by kernel_rfl) rfl (fun K hK => ?_)
  go_simp
  refine DZ.out.mono ?_
  rintro e w4 ⟨rfl, rfl⟩
  refine hK _ _ ⟨Z1, rfl⟩ ?_
  clear hK K
  try simp only [Act.put, List.setIfInBounds_toArray, List.set_cons_zero, List.set_cons_succ]
  refine held_quiet (by kernel_rfl) (fun _ _ d _ _ h => by cases d <;> exact h) ⟨Z1, rfl⟩ [5] 1 _ _ (by kernel_rfl) ?_
  change wpQuiet _ _ _ _ (_ :: []) _
  repeat go_big_quiet_step (fail)
  refine wpQuiet_nil ?_
  refine held_do (i := 6) _ rfl (by kernel_rfl) rfl (fun K hK => ?_)
  go_simp
  have c0 := HX1.out.cells.1
  have f0 := HX1.out.free.1 0
  go_simp
  have HX2 := HX1.out.setK i
  obtain ⟨Z2, hZ⟩ : ∃ Z : ExtO (fun q => q = B ∨ q = B + 1) w3, Z1.1.setCell ⟨B, 0, none⟩ (.int .i64 i) = Z.1 := ⟨⟨_, Z1.2.trans (kept_set1.weaken2 fun q e => Or.inl e)⟩, rfl⟩
  rw [hZ] at HX2 ⊢
  have HX2 := Lib.hid HX2
  clear hZ c0 f0
  refine hK _ _ ⟨Z2, rfl⟩ ?_
  clear hK K
  try simp only [Act.put, List.setIfInBounds_toArray, List.set_cons_zero, List.set_cons_succ]
  refine wpAnyH_done (by kernel_rfl) ?_ _
  go_wp2_with fail
  go_meet
  exact ⟨Z2, rfl, HX2⟩
 case rest =>
  obtain ⟨X, rfl, HX⟩ := hcut
  have FIN := Lib.hid (fun Y : ExtO (fun q => q = B ∨ q = B + 1) w3 => (show Below w.heap.size w Y.1 from by
   rw [hB]
   exact Y.down HBW.out (hB ▸ HBW.out.size) (fun k hk h => by rcases h with h | h <;> omega)))
  have ⟨x0, x1, x2, x3, x4, x5⟩ := HX.out.cells
  have ⟨y6, y7⟩ := HX.out.free
  have y0 := y6 0
  have y1 := y6 1
  have y2 := y6 2
  have y3 := y6 3
  have y4 := y6 4
  clear y6
  clear hB DI
  rcases HK.out with ⟨h1, h2⟩ | ⟨h1, h2⟩
  case inl =>
   have t1 := decide_eq_true h1
   have HR : Hid (readP [sB a, sB b, sB c, sB d] = none) := Lib.hid (by
    unfold readP
    rw [List.headD_cons, bs_sB, h2, if_pos rfl])
   clear h1 h2
   have HQ := Lib.hid (HX.out.out false)
   go_wp2_with fail
   obtain ⟨W9, h9⟩ : ∃ W9, (((((X.1.setCell ⟨B, 0, none⟩ (.int .i64 i)).setCell ⟨B, 1, none⟩ (.int .i64 0)).setCell ⟨B, 2, none⟩ (.int .i64 0)).setCell ⟨B, 3, none⟩ (.int .i64 0)).setCell ⟨B, 4, none⟩ (.string ⟨#[]⟩)).setCell ⟨B + 1, 0, none⟩ (.bool false) = W9 := ⟨_, rfl⟩
   have HQ9 := HQ.out
   rw [h9] at HQ9 ⊢
   have HF : Hid (Below w.heap.size w W9) := Lib.hid (FIN.out ⟨W9, X.2.trans HQ9.2⟩)
   have ⟨z0, z1, z2, z3, z4, z5⟩ := HQ9.1.cells
   clear h9 HQ9
   refine bodyPost_ret (v := .tuple #[.agg #[.int .i64 i, .int .i64 0, .int .i64 0, .int .i64 0, .string ⟨#[]⟩], .bool false]) (by simp [results, Tryz.results21, go_sem, z0, z1, z2, z3, z4, z5]) rfl ?_
   exact ⟨⟨i, 0, 0, 0, ⟨#[]⟩⟩, (by rw [HR.out]; rfl), (by rw [HR.out]; exact fun y hy => by cases (show none = some y from hy)), HF.out⟩
  case inr =>
   obtain ⟨k, hk0⟩ : ∃ k, kindW a = k := ⟨_, rfl⟩
   have hle := kindW_le a
   have HR : Hid (readP [sB a, sB b, sB c, sB d] = readV k [sB a, sB b, sB c, sB d]) := Lib.hid (by
    unfold readP
    rw [List.headD_cons, bs_sB, hk0, if_neg (by omega)])
   rw [hk0] at h1 h2 hle
   have HI := Lib.hid h1
   have t1 : decide (i < 1) = false := by rw [decide_eq_false_iff_not]; omega
   clear hk0
   by_cases h8 : k = 8
   · obtain rfl : i = 8 := by omega
     subst h8
     clear h1 h2 hle t1
     have HQ := Lib.hid (HX.out.out false)
     go_wp2_with fail
     obtain ⟨W9, h9⟩ : ∃ W9, (((((X.1.setCell ⟨B, 0, none⟩ (.int .i64 8)).setCell ⟨B, 1, none⟩ (.int .i64 0)).setCell ⟨B, 2, none⟩ (.int .i64 0)).setCell ⟨B, 3, none⟩ (.int .i64 0)).setCell ⟨B, 4, none⟩ (.string ⟨#[]⟩)).setCell ⟨B + 1, 0, none⟩ (.bool false) = W9 := ⟨_, rfl⟩
     have HQ9 := HQ.out
     rw [h9] at HQ9 ⊢
     have HF : Hid (Below w.heap.size w W9) := Lib.hid (FIN.out ⟨W9, X.2.trans HQ9.2⟩)
     have ⟨z0, z1, z2, z3, z4, z5⟩ := HQ9.1.cells
     clear h9 HQ9
     refine bodyPost_ret (v := .tuple #[.agg #[.int .i64 8, .int .i64 0, .int .i64 0, .int .i64 0, .string ⟨#[]⟩], .bool false]) (by simp [results, Tryz.results21, go_sem, z0, z1, z2, z3, z4, z5]) rfl ?_
     exact ⟨⟨8, 0, 0, 0, ⟨#[]⟩⟩, (by rw [HR.out]; rfl), (by rw [HR.out]; exact fun y hy => by cases (show none = some y from hy)), HF.out⟩
   by_cases h11 : k = 11
   · obtain rfl : i = 11 := by omega
     subst h11
     clear h1 h2 hle t1 h8
     have DE : Hid (∀ W : World, Calls Tryz.prog 27 #[.agg #[.int .i64 11, .int .i64 0, .int .i64 0, .int .i64 0, .string ⟨#[]⟩]] W fun e w' => e = .returned (.iface 59 (.agg #[.int .i64 11, .int .i64 0, .int .i64 0, .int .i64 0, .string ⟨#[]⟩])) ∧ Below W.heap.size W w') := Lib.hid (fun W => by
      have h := editOf_any ⟨11, 0, 0, 0, ⟨#[]⟩⟩ W
      rw [show edI ⟨11, 0, 0, 0, ⟨#[]⟩⟩ = .iface 59 (edV ⟨11, 0, 0, 0, ⟨#[]⟩⟩) from rfl] at h
      exact h)
     have HO1 := Lib.hid (HX.out.setO true)
     go_upto_region 15 with (go_at_call 27; refine (DE.out _).mono ?_; rintro e w4 ⟨rfl, hb4⟩)
     have HX4 := Lib.hid (HO1.out.below hb4)
     obtain ⟨Y, rfl⟩ : ∃ Z : ExtO (fun q => q = B ∨ q = B + 1) w3, w4 = Z.1 := ⟨⟨w4, (X.2.trans (kept_set1.weaken2 fun q e => Or.inr e)).trans (Kept.of_below hb4)⟩, rfl⟩
     clear hb4 HO1 HX DE
     clear x0 x1 x2 x3 x4 x5 y0 y1 y2 y3 y4 y7
     have ⟨c0, c1, c2, c3, c4, c5⟩ := HX4.out.cells
     have ⟨d6, d7⟩ := HX4.out.free
     have d0 := d6 0
     have d1 := d6 1
     have d2 := d6 2
     have d3 := d6 3
     have d4 := d6 4
     clear d6
     have ta1 := fun v W => ta_parted_texted v W
     have ta2 := fun v W => ta_parted_parted v W
     go_upto_region 20 with fail
     refine held_start (C := fun w' => ∃ Z : ExtO (fun q => q = B ∨ q = B + 1) w3, w' = Z.1) (by kernel_rfl) ?_
     obtain ⟨Z0, hZ0⟩ : ∃ Z : ExtO (fun q => q = B ∨ q = B + 1) w3, ({ Y.1 with drawn := Y.1.drawn + 1 } : World) = Z.1 := ⟨⟨{ Y.1 with drawn := Y.1.drawn + 1 }, Y.2.trans ⟨rfl, rfl, rfl, Nat.le_refl _, fun _ _ _ => rfl⟩⟩, rfl⟩
     rw [hZ0]
     have HXZ : Hid (XB Z0.1 B 11 0 0 0 ⟨#[]⟩ true) := Lib.hid (hZ0 ▸ ⟨HX4.out.x, HX4.out.o⟩)
     clear hZ0
     refine held_quiet (by kernel_rfl) (fun _ _ d _ _ h => by cases d <;> exact h) ⟨Z0, rfl⟩ [0, 1, 2, 4, 5, 6] 6 _ _ (by kernel_rfl) ?_
     change wpQuiet _ _ _ _ (_ :: _ :: _ :: _ :: _ :: _ :: []) _
     repeat go_big_quiet_step (fail)
     refine wpQuiet_nil ?_
     refine held_do (i := 3) _ rfl (by kernel_rfl) rfl (fun K hK => ?_)
     go_simp
     refine (number_any b false (B + 1) true Z0.1 HXZ.out.o (HG.out.below (FIN.out Z0)) HLE.out.2.1).mono ?_
     rintro e w5 ⟨n1, rfl, hv, hbox, hk5⟩
     have HV1 := Lib.hid hv
     obtain ⟨o1, ho⟩ : ∃ o, (numP false (sB b)).isSome = o := ⟨_, rfl⟩
     rw [ho] at hbox
     have HO1 := Lib.hid ho
     rw [Bool.true_and] at hbox
     have HXC1 := Lib.hid (HXZ.out.num hbox hk5)
     obtain ⟨Z1, rfl⟩ : ∃ Z : ExtO (fun q => q = B ∨ q = B + 1) w3, w5 = Z.1 := ⟨⟨w5, Z0.2.trans (hk5.weaken2 fun q e => Or.inr e)⟩, rfl⟩
     clear hv hbox hk5 ho HXZ
     refine hK _ _ ⟨Z1, rfl⟩ ?_
     clear hK K
     try simp only [Act.put, List.setIfInBounds_toArray, List.set_cons_zero, List.set_cons_succ]
     refine held_quiet (by kernel_rfl) (fun _ _ d _ _ h => by cases d <;> exact h) ⟨Z1, rfl⟩ [8] 4 _ _ (by kernel_rfl) ?_
     change wpQuiet _ _ _ _ (_ :: []) _
     repeat go_big_quiet_step (fail)
     refine wpQuiet_nil ?_
     refine held_do (i := 7) _ rfl (by kernel_rfl) rfl (fun K hK => ?_)
     go_simp
     refine (number_any c false (B + 1) o1 Z1.1 HXC1.out.o (HG.out.below (FIN.out Z1)) HLE.out.2.2.1).mono ?_
     rintro e w5 ⟨n2, rfl, hv, hbox, hk5⟩
     have HV2 := Lib.hid hv
     obtain ⟨o2, ho⟩ : ∃ o, (numP false (sB c)).isSome = o := ⟨_, rfl⟩
     rw [ho] at hbox
     have HO2 := Lib.hid ho
     have HXC2 := Lib.hid (HXC1.out.num hbox hk5)
     obtain ⟨Z2, rfl⟩ : ∃ Z : ExtO (fun q => q = B ∨ q = B + 1) w3, w5 = Z.1 := ⟨⟨w5, Z1.2.trans (hk5.weaken2 fun q e => Or.inr e)⟩, rfl⟩
     clear hv hbox hk5 ho HXC1
     refine hK _ _ ⟨Z2, rfl⟩ ?_
     clear hK K
     try simp only [Act.put, List.setIfInBounds_toArray, List.set_cons_zero, List.set_cons_succ]
     refine held_do (i := 9) _ rfl (by kernel_rfl) rfl (fun K hK => ?_)
     go_simp
     have ⟨g0, g1, g2, g3, g4, g5⟩ := HXC2.out.cells
     have g6 := HXC2.out.free.1 2
     go_simp
     have hX := HXC2.out.setF n1
     obtain ⟨Z3, hZ⟩ : ∃ Z : ExtO (fun q => q = B ∨ q = B + 1) w3, Z2.1.setCell ⟨B, 2, none⟩ (.int .i64 n1) = Z.1 := ⟨⟨_, Z2.2.trans (kept_set1.weaken2 fun q e => Or.inl e)⟩, rfl⟩
     rw [hZ] at hX ⊢
     have HXD := Lib.hid hX
     clear hX hZ g0 g1 g2 g3 g4 g5 g6 HXC2
     refine hK _ _ ⟨Z3, rfl⟩ ?_
     clear hK K
     try simp only [Act.put, List.setIfInBounds_toArray, List.set_cons_zero, List.set_cons_succ]
     refine held_quiet (by kernel_rfl) (fun _ _ d _ _ h => by cases d <;> exact h) ⟨Z3, rfl⟩ [10] 1 _ _ (by kernel_rfl) ?_
     change wpQuiet _ _ _ _ (_ :: []) _
     repeat go_big_quiet_step (fail)
     refine wpQuiet_nil ?_
     refine held_do (i := 11) _ rfl (by kernel_rfl) rfl (fun K hK => ?_)
     go_simp
     have ⟨g0, g1, g2, g3, g4, g5⟩ := HXD.out.cells
     have g6 := HXD.out.free.1 3
     go_simp
     have hX := HXD.out.setT n2
     obtain ⟨Z4, hZ⟩ : ∃ Z : ExtO (fun q => q = B ∨ q = B + 1) w3, Z3.1.setCell ⟨B, 3, none⟩ (.int .i64 n2) = Z.1 := ⟨⟨_, Z3.2.trans (kept_set1.weaken2 fun q e => Or.inl e)⟩, rfl⟩
     rw [hZ] at hX ⊢
     have HXE := Lib.hid hX
     clear hX hZ g0 g1 g2 g3 g4 g5 g6 HXD
     refine hK _ _ ⟨Z4, rfl⟩ ?_
     clear hK K
     try simp only [Act.put, List.setIfInBounds_toArray, List.set_cons_zero, List.set_cons_succ]
     refine wpAnyH_done (by kernel_rfl) ?_ _
     clear HX4
     clear c0 c1 c2 c3 c4 c5 d0 d1 d2 d3 d4 d7
     have ⟨c0, c1, c2, c3, c4, c5⟩ := HXE.out.cells
     have ⟨d6, d7⟩ := HXE.out.free
     have d0 := d6 0
     have d1 := d6 1
     have d2 := d6 2
     have d3 := d6 3
     have d4 := d6 4
     clear d6
     obtain ⟨o3, ho3⟩ : ∃ o, (o1 && o2) = o := ⟨_, rfl⟩
     rw [ho3] at HXE
     have HO3 := Lib.hid ho3
     clear c5 ho3
     have c5 := HXE.out.cells.2.2.2.2.2
     go_upto_region 23 with fail
     have hX := HXE.out.setS d
     obtain ⟨Z5, hZ⟩ : ∃ Z : ExtO (fun q => q = B ∨ q = B + 1) w3, Z4.1.setCell ⟨B, 4, none⟩ (.string d) = Z.1 := ⟨⟨_, Z4.2.trans (kept_set1.weaken2 fun q e => Or.inl e)⟩, rfl⟩
     rw [hZ] at hX ⊢
     have HXF := Lib.hid hX
     clear hX hZ HXE
     clear c0 c1 c2 c3 c4 c5 d0 d1 d2 d3 d4 d7
     have ⟨c0, c1, c2, c3, c4, c5⟩ := HXF.out.cells
     have ⟨d6, d7⟩ := HXF.out.free
     have d0 := d6 0
     have d1 := d6 1
     have d2 := d6 2
     have d3 := d6 3
     have d4 := d6 4
     clear d6
     have HQ : Hid (readV 11 [sB a, sB b, sB c, sB d] = (numW false (sB b)).bind fun f => (numW false (sB c)).map fun t => ⟨11, 0, f, t, d⟩) := Lib.hid (by
      simp only [readV, if_true, bs_sB]
      try rfl)
     have HE := Lib.hid (pair_ret (k := 11) HQ.out HI.out HO1.out HV1.out HO2.out HV2.out)
     rw [HO3.out] at HE
     have P0 : ∀ X : CXA 11 0 n1 n2 d o3 B Z5.1, X.1.cell? ⟨B, 0, none⟩ = some (.int .i64 11) := fun X => X.2.2.cells.1
     have P1 : ∀ X : CXA 11 0 n1 n2 d o3 B Z5.1, X.1.cell? ⟨B, 1, none⟩ = some (.int .i64 0) := fun X => X.2.2.cells.2.1
     have P2 : ∀ X : CXA 11 0 n1 n2 d o3 B Z5.1, X.1.cell? ⟨B, 2, none⟩ = some (.int .i64 n1) := fun X => X.2.2.cells.2.2.1
     have P3 : ∀ X : CXA 11 0 n1 n2 d o3 B Z5.1, X.1.cell? ⟨B, 3, none⟩ = some (.int .i64 n2) := fun X => X.2.2.cells.2.2.2.1
     have P4 : ∀ X : CXA 11 0 n1 n2 d o3 B Z5.1, X.1.cell? ⟨B, 4, none⟩ = some (.string d) := fun X => X.2.2.cells.2.2.2.2.1
     have P5 : ∀ X : CXA 11 0 n1 n2 d o3 B Z5.1, X.1.cell? ⟨B + 1, 0, none⟩ = some (.bool o3) := fun X => X.2.2.cells.2.2.2.2.2
     refine held_start (C := fun w' => ∃ Z : CXA 11 0 n1 n2 d o3 B Z5.1, w' = Z.1) (by kernel_rfl) ?_
     obtain ⟨A0, hZ0⟩ : ∃ Z : CXA 11 0 n1 n2 d o3 B Z5.1, ({ Z5.1 with drawn := Z5.1.drawn + 1 } : World) = Z.1 := ⟨⟨{ Z5.1 with drawn := Z5.1.drawn + 1 }, ⟨⟨rfl, rfl, rfl, Nat.le_refl _, fun _ _ _ => rfl⟩, ⟨HXF.out.x, HXF.out.o⟩⟩⟩, rfl⟩
     rw [hZ0]
     clear hZ0
     have hne2 : Nonempty (CXA 11 0 n1 n2 d o3 B Z5.1) := ⟨A0⟩
     refine held_quiet (by kernel_rfl) (fun _ _ d _ _ h => by cases d <;> exact h) ⟨A0, rfl⟩ [0, 1] 2 _ _ (by kernel_rfl) ?_
     change wpQuiet _ _ _ _ (_ :: _ :: []) _
     repeat go_big_quiet_step (fail)
     refine wpQuiet_nil ?_
     refine held_do (i := 2) _ rfl (by kernel_rfl) rfl (fun K hK => ?_)
     go_simp
     have ⟨g0, g1, g2, g3, g4, g5⟩ := A0.2.2.cells
     have ⟨g6, _⟩ := A0.2.2.free
     have f0 := g6 0
     have f1 := g6 1
     have f2 := g6 2
     have f3 := g6 3
     have f4 := g6 4
     go_simp
     have hX := A0.2.2.out5
     obtain ⟨A1, hA⟩ : ∃ Z : CXA 11 0 n1 n2 d o3 B Z5.1, ((((A0.1.setCell ⟨B, 0, none⟩ (.int .i64 11)).setCell ⟨B, 1, none⟩ (.int .i64 0)).setCell ⟨B, 2, none⟩ (.int .i64 n1)).setCell ⟨B, 3, none⟩ (.int .i64 n2)).setCell ⟨B, 4, none⟩ (.string d) = Z.1 := ⟨⟨_, A0.2.1.trans hX.2, hX.1⟩, rfl⟩
     rw [hA]
     clear hX hA g0 g1 g2 g3 g4 g5 g6 f0 f1 f2 f3 f4
     refine hK _ _ ⟨A1, rfl⟩ ?_
     clear hK K
     try simp only [Act.put, List.setIfInBounds_toArray, List.set_cons_zero, List.set_cons_succ]
     refine held_do (i := 3) _ rfl (by kernel_rfl) rfl (fun K hK => ?_)
     go_simp
     have g5 := A1.2.2.cells.2.2.2.2.2
     have g7 := A1.2.2.free.2
     go_simp
     have hX := A1.2.2.setO o3
     obtain ⟨A2, hA⟩ : ∃ Z : CXA 11 0 n1 n2 d o3 B Z5.1, A1.1.setCell ⟨B + 1, 0, none⟩ (.bool o3) = Z.1 := ⟨⟨_, A1.2.1.trans (kept_set1.weaken2 fun q e => Or.inr e), hX⟩, rfl⟩
     rw [hA]
     clear hX hA g5 g7
     refine hK _ _ ⟨A2, rfl⟩ ?_
     clear hK K
     try simp only [Act.put, List.setIfInBounds_toArray, List.set_cons_zero, List.set_cons_succ]
     refine wpAnyH_done (by kernel_rfl) ?_ _
     clear P0 P1 P2 P3 P4 P5
     have ⟨z0, z1, z2, z3, z4, z5⟩ := A2.2.2.cells
     have HF : Hid (Below w.heap.size w A2.1) := Lib.hid (FIN.out ⟨A2.1, (Z5.2).trans A2.2.1⟩)
     go_wp2_with fail
     refine bodyPost_ret (v := .tuple #[.agg #[.int .i64 11, .int .i64 0, .int .i64 n1, .int .i64 n2, .string d], .bool o3]) (by simp [results, Tryz.results21, go_sem, z0, z1, z2, z3, z4, z5]) rfl ?_
     exact ⟨⟨11, 0, n1, n2, d⟩, (by rw [HR.out, HE.out.1]; rfl), (by rw [HR.out]; exact HE.out.2), HF.out⟩
   have t8 : (i == 8) = false := by rw [beq_eq_false_iff_ne]; omega
   have t8' : decide (i = 8) = false := by rw [decide_eq_false_iff_not]; omega
   have t11 : (i == 11) = false := by rw [beq_eq_false_iff_ne]; omega
   have t11' : decide (i = 11) = false := by rw [decide_eq_false_iff_not]; omega
   have HN : Hid (readV k [sB a, sB b, sB c, sB d] = none) := Lib.hid (by
    simp only [readV]; rw [if_neg h11])
   clear h1 h2 hle h8 h11
   have HQ := Lib.hid (HX.out.out false)
   go_wp2_with fail
   obtain ⟨W9, h9⟩ : ∃ W9, (((((X.1.setCell ⟨B, 0, none⟩ (.int .i64 i)).setCell ⟨B, 1, none⟩ (.int .i64 0)).setCell ⟨B, 2, none⟩ (.int .i64 0)).setCell ⟨B, 3, none⟩ (.int .i64 0)).setCell ⟨B, 4, none⟩ (.string ⟨#[]⟩)).setCell ⟨B + 1, 0, none⟩ (.bool false) = W9 := ⟨_, rfl⟩
   have HQ9 := HQ.out
   rw [h9] at HQ9 ⊢
   have HF : Hid (Below w.heap.size w W9) := Lib.hid (FIN.out ⟨W9, X.2.trans HQ9.2⟩)
   have ⟨z0, z1, z2, z3, z4, z5⟩ := HQ9.1.cells
   clear h9 HQ9
   refine bodyPost_ret (v := .tuple #[.agg #[.int .i64 i, .int .i64 0, .int .i64 0, .int .i64 0, .string ⟨#[]⟩], .bool false]) (by simp [results, Tryz.results21, go_sem, z0, z1, z2, z3, z4, z5]) rfl ?_
   exact ⟨⟨i, 0, 0, 0, ⟨#[]⟩⟩, (by rw [HR.out, HN.out]; rfl), (by rw [HR.out, HN.out]; exact fun y hy => by cases hy), HF.out⟩
theorem readEdit_any (line : ByteArray) (w : World) (hg : Glo w) (hs : line.size ≤ 1000000) :
 Calls Tryz.prog 21 #[.string line] w fun e w' => EdRet (readW (sB line)) w e w' := by
 have hl := splitK_len 3 (sB line)
 rw [← readP_is]
 generalize hw : Lib.splitK [32] 0 3 (sB line) = ws at hl
 have hb : ∀ x, x = sB (bt x) := fun x => rfl
 match ws, hl with
 | [a], _ => rw [hb a] at hw ⊢; exact readEdit_1 line w hg hs _ hw
 | [a, b], _ => rw [hb a, hb b] at hw ⊢; exact readEdit_2 line w hg hs _ _ hw
 | [a, b, c], _ => rw [hb a, hb b, hb c] at hw ⊢; exact readEdit_3 line w hg hs _ _ _ hw
 | [a, b, c, d], _ => rw [hb a, hb b, hb c, hb d] at hw ⊢; exact readEdit_4 line w hg hs _ _ _ _ hw
 | [], h => simp at h
 | _ :: _ :: _ :: _ :: _ :: _, h => simp at h
end Go.Proofs.YtcngjbfbdonpeaaGreatDoor

/- A text of this claim. -/
namespace Go.Proofs.YtcngjbfbdonpeaaGreatDoor
open Go.RowKit Go.BigFrame
open Txt
open Tr (Ed inR)
namespace Txt
open Go.Lib (cut)
def readC (k : Nat) (q : List UInt8) (is : Bool) : Option Ed :=
 let d := cut q [32]
 let g := cut d.2.1 [32]
 if k = 0 ∨ is = false then none
 else if isText k = true then (if q ≠ [] ∧ d.2.2 = false then some ⟨k, 0, 0, 0, bt q⟩ else none)
 else if k = 8 then (if d.2.2 = true then (numW false d.1).bind fun f => (numW false d.2.1).map fun t => ⟨k, 0, f, t, ⟨#[]⟩⟩ else none)
 else if k = 11 then (if d.2.2 = true ∧ g.2.2 = true then (numW false d.1).bind fun f => (numW false g.1).map fun t => ⟨k, 0, f, t, bt g.2.1⟩ else none)
 else (numW (signed k) q).map fun n => ⟨k, n, 0, 0, ⟨#[]⟩⟩
theorem readW_is (s : List UInt8) : readW s = readC (kindW (bt (cut s [32]).1)) (cut s [32]).2.1 (cut s [32]).2.2 := rfl
theorem if_same {α : Type} {p q : Prop} [Decidable p] [Decidable q] {x y : α} (h : p ↔ q) : (if p then x else y) = if q then x else y := by
 by_cases hp : p
 · rw [if_pos hp, if_pos (h.1 hp)]
 · rw [if_neg hp, if_neg (fun hq => hp (h.2 hq))]
theorem readC_8 (q : List UInt8) : readC 8 q true = if (cut q [32]).2.2 = true then (numW false (cut q [32]).1).bind fun f => (numW false (cut q [32]).2.1).map fun t => ⟨((8 : Nat) : Int), 0, f, t, ⟨#[]⟩⟩ else none := by
 unfold readC
 rw [if_neg (by simp), if_neg (by decide), if_pos rfl]
theorem readC_11 (q : List UInt8) : readC 11 q true = if (cut q [32]).2.2 = true ∧ (cut (cut q [32]).2.1 [32]).2.2 = true then (numW false (cut q [32]).1).bind fun f => (numW false (cut (cut q [32]).2.1 [32]).1).map fun t => ⟨((11 : Nat) : Int), 0, f, t, bt (cut (cut q [32]).2.1 [32]).2.1⟩ else none := by
 unfold readC
 rw [if_neg (by simp), if_neg (by decide), if_neg (by decide), if_pos rfl]
theorem readC_text {k : Nat} (q : List UInt8) (h0 : k ≠ 0) (h : isText k = true) : readC k q true = if q ≠ [] ∧ (cut q [32]).2.2 = false then some ⟨k, 0, 0, 0, bt q⟩ else none := by
 unfold readC
 rw [if_neg (by simp [h0]), if_pos h]
theorem readC_num {k : Nat} (q : List UInt8) (h0 : k ≠ 0) (h : ¬ isText k = true) (h8 : k ≠ 8) (h11 : k ≠ 11) : readC k q true = (numW (signed k) q).map fun n => ⟨k, n, 0, 0, ⟨#[]⟩⟩ := by
 unfold readC
 rw [if_neg (by simp [h0]), if_neg h, if_neg h8, if_neg h11]
theorem idx_at (x : ByteArray) : ∀ (zs : List ByteArray) (i j : Nat), Lib.idxFromS zs x i = ((i + j : Nat) : Int) → zs[j]? = some x
 | [], i, j, h => by
  rw [Lib.idxFromS] at h
  omega
 | z :: zs, i, j, h => by
  rw [Lib.idxFromS] at h
  split at h
  · rename_i e
    have : j = 0 := by omega
    subst this
    rw [e]
    rfl
  · cases j with
    | zero =>
     have h1 : ∀ (zs : List ByteArray) (i : Nat), Lib.idxFromS zs x i = -1 ∨ (i : Int) ≤ Lib.idxFromS zs x i := by
      intro zs
      induction zs with
      | nil => intro i; exact Or.inl rfl
      | cons z zs ih =>
       intro i
       rw [Lib.idxFromS]
       split
       · exact Or.inr (Int.le_refl _)
       · rcases ih (i + 1) with h | h
         · exact Or.inl h
         · exact Or.inr (by omega)
     rcases h1 zs (i + 1) with h2 | h2 <;> omega
    | succ j =>
     exact idx_at x zs (i + 1) j (by rw [h]; omega)
theorem kind_word {a : ByteArray} {j : Nat} (h1 : 1 ≤ j) (h2 : j ≤ 12) : decide (wordK j = a) = decide (kindW a = j) := by
 have : wordK j = a ↔ kindW a = j := by
  constructor
  · intro h
    rw [← h]
    exact kindW_word j h1 h2
  · intro h
    have h3 : Lib.idxFromS wordsT a 0 = ((0 + j : Nat) : Int) := by
     unfold kindW Lib.idxOfS at h
     omega
    have h4 := idx_at a wordsT 0 j h3
    unfold wordK
    rw [show ((j : Int)).toNat = j from rfl, h4]
    rfl
 exact decide_eq_decide.2 this
def kindUp (a : ByteArray) (j : Nat) : Int := if kindW a < j then kindW a else 0
theorem kindUp_one (a : ByteArray) : kindUp a 1 = 0 := by
 unfold kindUp
 split
 · omega
 · rfl
theorem kindUp_hit {a : ByteArray} {j : Nat} (h : kindW a = j) : kindUp a (j + 1) = j := by
 unfold kindUp
 rw [if_pos (by omega), h]
theorem kindUp_miss {a : ByteArray} {j : Nat} (h : kindW a ≠ j) : kindUp a (j + 1) = kindUp a j := by
 unfold kindUp
 by_cases h1 : kindW a < j
 · rw [if_pos h1, if_pos (by omega)]
 · rw [if_neg h1, if_neg (by omega)]
theorem kindUp_end (a : ByteArray) : kindUp a 13 = kindW a := by
 unfold kindUp
 rw [if_pos (by have := kindW_le a; omega)]
theorem blank_is (q : List UInt8) : decide (0 ≤ Lib.indexByte q 32) = (cut q [32]).2.2 := by
 rw [← Lib.contains_iff_indexByte, Bool.eq_iff_iff, cut1_mem, List.contains_iff_mem]
end Txt
structure RL (W : World) (B : Nat) (k n f t : Int) (s : ByteArray) : Prop where
 z : W.heap[B]? = some (.cells #[.int .i64 0, .int .i64 0, .int .i64 0, .int .i64 0, .string ⟨#[]⟩] 30 (0, 0))
 x : W.heap[B + 1]? = some (.cells #[.int .i64 k, .int .i64 n, .int .i64 f, .int .i64 t, .string s] 30 (0, 0))
section
variable {W : World} {B : Nat} {k n f t : Int} {s : ByteArray}
theorem RL.cells (h : RL W B k n f t s) : W.cell? ⟨B + 1, 0, none⟩ = some (.int .i64 k) ∧ W.cell? ⟨B + 1, 1, none⟩ = some (.int .i64 n) ∧ W.cell? ⟨B + 1, 2, none⟩ = some (.int .i64 f) ∧ W.cell? ⟨B + 1, 3, none⟩ = some (.int .i64 t) ∧ W.cell? ⟨B + 1, 4, none⟩ = some (.string s) :=
 ⟨cell_of h.x rfl, cell_of h.x rfl, cell_of h.x rfl, cell_of h.x rfl, cell_of h.x rfl⟩
theorem RL.zeros (h : RL W B k n f t s) : W.cell? ⟨B, 0, none⟩ = some (.int .i64 0) ∧ W.cell? ⟨B, 1, none⟩ = some (.int .i64 0) ∧ W.cell? ⟨B, 2, none⟩ = some (.int .i64 0) ∧ W.cell? ⟨B, 3, none⟩ = some (.int .i64 0) ∧ W.cell? ⟨B, 4, none⟩ = some (.string ⟨#[]⟩) :=
 ⟨cell_of h.z rfl, cell_of h.z rfl, cell_of h.z rfl, cell_of h.z rfl, cell_of h.z rfl⟩
theorem RL.free (h : RL W B k n f t s) : (∀ i, W.frozen? ⟨B, i, none⟩ = false) ∧ ∀ i, W.frozen? ⟨B + 1, i, none⟩ = false := ⟨fun i => Lib.frozen_of_heap h.z i, fun i => Lib.frozen_of_heap h.x i⟩
theorem RL.below {W' : World} (h : RL W B k n f t s) (hb : Below W.heap.size W W') : RL W' B k n f t s := ⟨(hb.block B (lt_of_block h.z)).trans h.z, (hb.block (B + 1) (lt_of_block h.x)).trans h.x⟩
theorem RL.setK (h : RL W B k n f t s) (v : Int) : RL (W.setCell ⟨B + 1, 0, none⟩ (.int .i64 v)) B v n f t s := ⟨by rw [put_else (by omega)]; exact h.z, put_of h.x⟩
theorem RL.setN (h : RL W B k n f t s) (v : Int) : RL (W.setCell ⟨B + 1, 1, none⟩ (.int .i64 v)) B k v f t s := ⟨by rw [put_else (by omega)]; exact h.z, put_of h.x⟩
theorem RL.setF (h : RL W B k n f t s) (v : Int) : RL (W.setCell ⟨B + 1, 2, none⟩ (.int .i64 v)) B k n v t s := ⟨by rw [put_else (by omega)]; exact h.z, put_of h.x⟩
theorem RL.setT (h : RL W B k n f t s) (v : Int) : RL (W.setCell ⟨B + 1, 3, none⟩ (.int .i64 v)) B k n f v s := ⟨by rw [put_else (by omega)]; exact h.z, put_of h.x⟩
theorem RL.setS (h : RL W B k n f t s) (v : ByteArray) : RL (W.setCell ⟨B + 1, 4, none⟩ (.string v)) B k n f t v := ⟨by rw [put_else (by omega)]; exact h.z, put_of h.x⟩
theorem RL.out (h : RL W B k n f t s) : ∃ W', (((((W.setCell ⟨B, 0, none⟩ (.int .i64 k)).setCell ⟨B, 1, none⟩ (.int .i64 n)).setCell ⟨B, 2, none⟩ (.int .i64 f)).setCell ⟨B, 3, none⟩ (.int .i64 t)).setCell ⟨B, 4, none⟩ (.string s)) = W' ∧
 (W'.cell? ⟨B, 0, none⟩ = some (.int .i64 k) ∧ W'.cell? ⟨B, 1, none⟩ = some (.int .i64 n) ∧ W'.cell? ⟨B, 2, none⟩ = some (.int .i64 f) ∧ W'.cell? ⟨B, 3, none⟩ = some (.int .i64 t) ∧ W'.cell? ⟨B, 4, none⟩ = some (.string s)) ∧ Kept (fun q => q = B) W W' := by
 refine ⟨_, rfl, ?_, ((((kept_set1.trans kept_set1).trans kept_set1).trans kept_set1).trans kept_set1)⟩
 have h5 := put_of (v := .string s) (i := 4) (put_of (v := .int .i64 t) (i := 3) (put_of (v := .int .i64 f) (i := 2) (put_of (v := .int .i64 n) (i := 1) (put_of (v := .int .i64 k) (i := 0) h.z))))
 exact ⟨cell_of h5 rfl, cell_of h5 rfl, cell_of h5 rfl, cell_of h5 rfl, cell_of h5 rfl⟩
end
theorem held_skip {P : Program} {Q : Exit → Act → World → Prop} {C : World → Prop} {l : List Oper} {i fuel : Nat} {listed : Array Bool} {a : Act} {w : World} (o : Oper) (hi : nth l i = some o) (hsel : Region.noSelect l.toArray = true) (hQ : ∀ c a d v w, Q (.panic c) (Act.put a d v) w → Q (.panic c) a w) (hC : C w)
 (h2 : Region.free .any l.toArray listed i = true) (h3 : (Region.ready .any l.toArray listed).contains i = true) (hw : Region.wanted o (yielded l.toArray a.tmps) = false)
 (h : wpAnyH P .any l.toArray Q C fuel (listed.setIfInBounds i true) (a.put o.dst undef) w) : wpAnyH P .any l.toArray Q C (fuel + 1) listed a w := by
 rw [nth_eq] at hi
 exact wpAnyH_take hi hsel h2 h3 (fun c a w => hQ c a _ _ w) (Or.inr ⟨hw, rfl⟩) hC h
def CXR (k n f t : Int) (s : ByteArray) (B : Nat) (W : World) : Type := { w : World // Kept (fun q => q = B ∨ q = B + 1) W w ∧ w.heap[B + 1]? = some (.cells #[.int .i64 k, .int .i64 n, .int .i64 f, .int .i64 t, .string s] 30 (0, 0)) }
set_option maxHeartbeats 8000000 in
set_option maxRecDepth 100000 in
theorem readLine_any (line : ByteArray) (w : World) (hg : Glo w) (hs : line.size ≤ 1000000) :
 Calls Tryz.prog 22 #[.string line] w fun e w' => EdRet (readW (sB line)) w e w' := by
 have HG := Lib.hid hg
 obtain ⟨mg, hmg⟩ := hg.m
 have HMG := Lib.hid hmg
 have HRW := Lib.hid (readW_is (sB line))
 have hcl := cut1_len (sB line) 32
 have DCUT := Lib.hid (fun (W : World) (hW : W.cell? ⟨0, 0, none⟩ = some (.int .i64 mg)) => (show Calls _ _ _ W fun e w' => e = .returned (.tuple #[.string (bt (Lib.cut (sB line) [32]).1), .string (bt (Lib.cut (sB line) [32]).2.1), .bool (Lib.cut (sB line) [32]).2.2]) ∧ ∃ n, w' = W.drewN n from Tryz.strings_Cut line ⟨#[32]⟩ mg W (by omega) hW))
 obtain ⟨a, ha⟩ : ∃ t, bt (Lib.cut (sB line) [32]).1 = t := ⟨_, rfl⟩
 obtain ⟨q, hq⟩ : ∃ t, bt (Lib.cut (sB line) [32]).2.1 = t := ⟨_, rfl⟩
 obtain ⟨is, his⟩ : ∃ t, (Lib.cut (sB line) [32]).2.2 = t := ⟨_, rfl⟩
 have hq2 : (Lib.cut (sB line) [32]).2.1 = sB q := by rw [← hq]; rfl
 rw [ha, hq, his] at DCUT
 rw [ha, hq2, his] at HRW
 rw [hq2] at hcl
 have HLQ := Lib.hid (show q.size ≤ 1000000 from Nat.le_trans hcl.2.1 hs)
 obtain ⟨o, ho⟩ : ∃ o, readW (sB line) = o := ⟨_, rfl⟩
 rw [ho] at HRW ⊢
 have HKU := Lib.hid (fun j (h1 : 1 ≤ j) (h2 : j ≤ 12) => kind_word (a := a) h1 h2)
 clear ha hq his hq2 hcl hmg hg hs ho
 obtain ⟨V0, hV0, hb0, hs0, hl0⟩ := alloc_cells w #[.int .i64 0, .int .i64 0, .int .i64 0, .int .i64 0, .string ⟨#[]⟩] 30
 obtain ⟨B, hB⟩ : ∃ B, w.heap.size = B := ⟨_, rfl⟩
 have HZ0 : Hid (V0.heap[B]? = some (.cells #[.int .i64 0, .int .i64 0, .int .i64 0, .int .i64 0, .string ⟨#[]⟩] 30 (0, 0))) := Lib.hid (by rw [← hV0, ← hB]; exact heap_alloc_new w _)
 have HB0 := Lib.hid (show Below B w V0 from hB ▸ hb0)
 have HS0 := Lib.hid (show V0.heap.size = B + 1 by omega)
 have HMG0 := Lib.hid (below_cell hb0 HMG.out)
 clear hb0 hs0 hl0
 go_enter Tryz.func22, Tryz.ntmps22
 go_upto_region 2 with (go_at_call 20; refine (DCUT.out _ HMG0.out).mono ?_; rintro e w2 ⟨rfl, nd, rfl⟩)
 obtain ⟨W2, hW2, hbw2⟩ : ∃ W, V0.drewN nd = W ∧ Below V0.heap.size V0 W := ⟨_, rfl, ⟨rfl, rfl, rfl, Nat.le_refl _, fun _ _ => rfl⟩⟩
 have hs2 : W2.heap.size = B + 1 := by rw [← HS0.out, ← hW2]; rfl
 rw [hW2]
 clear hV0 hW2
 go_upto_region 3 with (fail)
 obtain ⟨V3, hV3, hb3, hs3, hl3⟩ := alloc_cells W2 #[.int .i64 0, .int .i64 0, .int .i64 0, .int .i64 0, .string ⟨#[]⟩] 30
 have HX3 : Hid (RL V3 B 0 0 0 0 ⟨#[]⟩) := Lib.hid ⟨((below_step hbw2 hb3).block B (by rw [HS0.out]; omega)).trans HZ0.out, by rw [← hV3, ← hs2]; exact heap_alloc_new W2 _⟩
 have HB3 := Lib.hid (show Below B w V3 from HB0.out.trans ((below_step hbw2 hb3).mono (by rw [HS0.out]; omega)))
 clear hbw2 hb3 hs3 hl3 HZ0 HB0 HMG0 DCUT
 rw [hV3]
 clear hV3
 have FIN := Lib.hid (fun Y : ExtO (fun q => q = B ∨ q = B + 1) V3 => (show Below w.heap.size w Y.1 from by
  rw [hB]
  exact Y.down HB3.out (hB ▸ HB3.out.size) (fun k hk h => by rcases h with h | h <;> omega)))
 go_wp2_with fail
 go_loopw [8] (fun kv wr => ∃ j : Nat, kv = .int .i64 j ∧ 1 ≤ j ∧ j ≤ 13 ∧ Hid (RL wr B (kindUp a j) 0 0 0 ⟨#[]⟩) ∧ Hid (Kept (fun q => q = B ∨ q = B + 1) V3 wr)) (fun kv _ => 13 - (intOf kv).toNat)
 case atStart => exact ⟨1, rfl, by omega, by omega, Lib.hid (by rw [kindUp_one]; exact HX3.out), Lib.hid (Kept.refl _ _)⟩
 case round =>
  obtain ⟨j, rfl, h1j, hj, HR, HK⟩ := hrel
  obtain ⟨X, rfl⟩ : ∃ Z : ExtO (fun q => q = B ∨ q = B + 1) V3, wr = Z.1 := ⟨⟨wr, HK.out⟩, rfl⟩
  by_cases hlt : j ≤ 12
  · have t1 : decide ((j : Int) ≤ 12) = true := by rw [decide_eq_true_eq]; omega
    have t1' : decide (j ≤ 12) = true := by simpa using hlt
    have DW := Lib.hid (fun W : World => word_any (j : Int) ⟨by omega, by omega⟩ W)
    have hku := HKU.out j h1j hlt
    have hse := str_eq (wordK j) a
    rw [hku] at hse
    obtain ⟨u, hu⟩ : ∃ u, wordK (j : Int) = u := ⟨_, rfl⟩
    rw [hu] at DW hse
    clear hku hu
    by_cases hk : kindW a = j
    · have HN := Lib.hid (kindUp_hit hk)
      have x0 := HR.out.cells.1
      have y0 := HR.out.free.2 0
      have HX : Hid (RL (X.1.setCell ⟨B + 1, 0, none⟩ (.int .i64 j)) B (kindUp a (j + 1)) 0 0 0 ⟨#[]⟩) := Lib.hid (by rw [HN.out]; exact HR.out.setK j)
      have HKN : Hid (Kept (fun q => q = B ∨ q = B + 1) V3 (X.1.setCell ⟨B + 1, 0, none⟩ (.int .i64 j))) := Lib.hid (X.2.trans (kept_set1.weaken2 fun q e => Or.inr e))
      rw [decide_eq_true hk] at hse
      have HLT := Lib.hid hlt
      clear hk hlt
      go_wp2_with (go_at_call 15; refine (DW.out _).mono ?_; rintro e w5 ⟨rfl, rfl⟩)
      go_roundw
      case rel => exact ⟨j + 1, by go_num, by omega, by have := HLT.out; omega, HX, HKN⟩
      case measure => have := HLT.out; simp [intOf]; omega
    · have HN := Lib.hid (kindUp_miss hk)
      rw [decide_eq_false hk] at hse
      have HX := Lib.hid (HN.out ▸ HR.out)
      have HLT := Lib.hid hlt
      clear hk hlt
      go_wp2_with (go_at_call 15; refine (DW.out _).mono ?_; rintro e w5 ⟨rfl, rfl⟩)
      go_roundw
      case rel => exact ⟨j + 1, by go_num, by omega, by have := HLT.out; omega, HX, HK⟩
      case measure => have := HLT.out; simp [intOf]; omega
  · have t1 : decide ((j : Int) ≤ 12) = false := by rw [decide_eq_false_iff_not]; omega
    have t1' : decide (j ≤ 12) = false := by simpa using hlt
    have hj13 : j = 13 := by omega
    subst hj13
    rw [kindUp_end] at HR
    obtain ⟨k, hk⟩ : ∃ k, kindW a = k := ⟨_, rfl⟩
    have hle := kindW_le a
    rw [hk] at HR HRW hle
    obtain ⟨i, hi⟩ : ∃ i : Int, (k : Int) = i := ⟨_, rfl⟩
    rw [hi] at HR
    have HI := Lib.hid hi
    clear hk HKU hj h1j hlt HK HX3 HB3
    have ⟨c0, c1, c2, c3, c4⟩ := HR.out.cells
    have ⟨c5, c6, c7, c8, c9⟩ := HR.out.zeros
    have ⟨cf, cg⟩ := HR.out.free
    have cf0 := cf 0
    have cf1 := cf 1
    have cf2 := cf 2
    have cf3 := cf 3
    have cf4 := cf 4
    have cg0 := cg 0
    have cg1 := cg 1
    have cg2 := cg 2
    have cg3 := cg 3
    have cg4 := cg 4
    clear cf cg
    by_cases h0 : k = 0
    · obtain rfl : i = 0 := by omega
      have HO : Hid (o = none) := Lib.hid (by rw [HRW.out]; unfold readC; rw [if_pos (Or.inl h0)])
      have HQ := Lib.hid HR.out.out
      clear h0 hi hle
      go_wp2_with fail
      obtain ⟨W9, h9, ⟨z0, z1, z2, z3, z4⟩, hk9⟩ := HQ.out
      rw [h9]
      have HF : Hid (Below w.heap.size w W9) := Lib.hid (FIN.out ⟨W9, X.2.trans (hk9.weaken2 fun _ e => Or.inl e)⟩)
      clear h9 hk9
      refine bodyPost_ret (v := .tuple #[.agg #[.int .i64 0, .int .i64 0, .int .i64 0, .int .i64 0, .string ⟨#[]⟩], .bool false]) (by simp [results, Tryz.results22, go_sem, z0, z1, z2, z3, z4]) rfl ?_
      exact ⟨⟨0, 0, 0, 0, ⟨#[]⟩⟩, (by rw [HO.out]; rfl), (by rw [HO.out]; exact fun y hy => by cases hy), HF.out⟩
    have e0 : (i == 0) = false := by rw [beq_eq_false_iff_ne]; omega
    have e0' : decide (i = 0) = false := by rw [decide_eq_false_iff_not]; omega
    cases is with
    | false =>
     have HO : Hid (o = none) := Lib.hid (by rw [HRW.out]; unfold readC; rw [if_pos (Or.inr rfl)])
     have HQ := Lib.hid HR.out.out
     clear h0 hi hle
     go_wp2_with fail
     obtain ⟨W9, h9, ⟨z0, z1, z2, z3, z4⟩, hk9⟩ := HQ.out
     rw [h9]
     have HF : Hid (Below w.heap.size w W9) := Lib.hid (FIN.out ⟨W9, X.2.trans (hk9.weaken2 fun _ e => Or.inl e)⟩)
     clear h9 hk9
     refine bodyPost_ret (v := .tuple #[.agg #[.int .i64 i, .int .i64 0, .int .i64 0, .int .i64 0, .string ⟨#[]⟩], .bool false]) (by simp [results, Tryz.results22, go_sem, z0, z1, z2, z3, z4]) rfl ?_
     exact ⟨⟨i, 0, 0, 0, ⟨#[]⟩⟩, (by rw [HO.out]; rfl), (by rw [HO.out]; exact fun y hy => by cases hy), HF.out⟩
    | true =>
    by_cases hk8 : k = 8
    · obtain rfl : i = 8 := by omega
      subst hk8
      have DS := Lib.hid (fun W : World => (show Calls _ _ #[.int .i64 8] W fun e w' => e = .returned (.bool true) ∧ W = w' from rspan_any 8 W))
      clear h0 hi hle e0 e0'
      rw [readC_8] at HRW
      have hcDC2 := cut1_len (sB q) 32
      have DC2 := Lib.hid (fun (W : World) (hW : W.cell? ⟨0, 0, none⟩ = some (.int .i64 mg)) => (show Calls _ _ _ W fun e w' => e = .returned (.tuple #[.string (bt (Lib.cut (sB q) [32]).1), .string (bt (Lib.cut (sB q) [32]).2.1), .bool (Lib.cut (sB q) [32]).2.2]) ∧ ∃ n, w' = W.drewN n from Tryz.strings_Cut q ⟨#[32]⟩ mg W (by have := HLQ.out; omega) hW))
      obtain ⟨f1, hf⟩ : ∃ t, bt (Lib.cut (sB q) [32]).1 = t := ⟨_, rfl⟩
      obtain ⟨q2, hr⟩ : ∃ t, bt (Lib.cut (sB q) [32]).2.1 = t := ⟨_, rfl⟩
      obtain ⟨is2, hs⟩ : ∃ t, (Lib.cut (sB q) [32]).2.2 = t := ⟨_, rfl⟩
      have hf2 : (Lib.cut (sB q) [32]).1 = sB f1 := by rw [← hf]; rfl
      have hr2 : (Lib.cut (sB q) [32]).2.1 = sB q2 := by rw [← hr]; rfl
      rw [hf, hr, hs] at DC2
      rw [hf2, hr2] at hcDC2
      rw [hf2, hr2, hs] at HRW
      have HLf1 := Lib.hid (show f1.size ≤ 1000000 from Nat.le_trans hcDC2.1 HLQ.out)
      have HLq2 := Lib.hid (show q2.size ≤ 1000000 from Nat.le_trans hcDC2.2.1 HLQ.out)
      clear hf hr hs hf2 hr2 hcDC2
      go_upto_region 18 with (first | (go_at_call 16; refine (DS.out _).mono ?_; rintro e w5 ⟨rfl, rfl⟩) | (go_at_call 20; refine (DC2.out _ (below_cell (FIN.out X) HMG.out)).mono ?_; rintro e w5 ⟨rfl, nd2, rfl⟩))
      have hbd : Below X.1.heap.size X.1 (X.1.drewN nd2) := ⟨rfl, rfl, rfl, Nat.le_refl _, fun _ _ => rfl⟩
      have HRY := Lib.hid (HR.out.below hbd)
      obtain ⟨Y, hY⟩ : ∃ Z : ExtO (fun q => q = B ∨ q = B + 1) V3, X.1.drewN nd2 = Z.1 := ⟨⟨_, X.2.trans (Kept.of_below hbd)⟩, rfl⟩
      rw [hY] at HRY ⊢
      clear hbd hY HR
      clear c0 c1 c2 c3 c4 c5 c6 c7 c8 c9 cf0 cf1 cf2 cf3 cf4 cg0 cg1 cg2 cg3 cg4
      have ⟨c0, c1, c2, c3, c4⟩ := HRY.out.cells
      have ⟨c5, c6, c7, c8, c9⟩ := HRY.out.zeros
      have ⟨cf, cg⟩ := HRY.out.free
      have cf0 := cf 0
      have cf1 := cf 1
      have cf2 := cf 2
      have cf3 := cf 3
      have cf4 := cf 4
      have cg0 := cg 0
      have cg1 := cg 1
      have cg2 := cg 2
      have cg3 := cg 3
      have cg4 := cg 4
      clear cf cg
      have DN1 := Lib.hid (rnumber_any f1 false Y.1 (HG.out.below (FIN.out Y)) HLf1.out)
      obtain ⟨o1, ho⟩ : ∃ o, (numW false (sB f1)).isSome = o := ⟨_, rfl⟩
      rw [ho] at DN1
      have HOo1 := Lib.hid ho
      clear ho
      go_upto_region 24 with (go_at_call 36; refine DN1.out.mono ?_; rintro e w5 ⟨n1, rfl, hv, hbd⟩)
      have HVn1 := Lib.hid hv
      have HU1 := Lib.hid (HRY.out.below hbd)
      obtain ⟨U1, rfl⟩ : ∃ Z : ExtO (fun q => q = B ∨ q = B + 1) V3, w5 = Z.1 := ⟨⟨_, Y.2.trans (Kept.of_below hbd)⟩, rfl⟩
      clear hbd HRY
      clear c0 c1 c2 c3 c4 c5 c6 c7 c8 c9 cf0 cf1 cf2 cf3 cf4 cg0 cg1 cg2 cg3 cg4
      have ⟨c0, c1, c2, c3, c4⟩ := HU1.out.cells
      have ⟨c5, c6, c7, c8, c9⟩ := HU1.out.zeros
      have ⟨cf, cg⟩ := HU1.out.free
      have cf0 := cf 0
      have cf1 := cf 1
      have cf2 := cf 2
      have cf3 := cf 3
      have cf4 := cf 4
      have cg0 := cg 0
      have cg1 := cg 1
      have cg2 := cg 2
      have cg3 := cg 3
      have cg4 := cg 4
      clear cf cg
      clear DN1 hv
      have DN2 := Lib.hid (rnumber_any q2 false U1.1 (HG.out.below (FIN.out U1)) HLq2.out)
      obtain ⟨o2, ho⟩ : ∃ o, (numW false (sB q2)).isSome = o := ⟨_, rfl⟩
      rw [ho] at DN2
      have HOo2 := Lib.hid ho
      clear ho
      go_upto_region 25 with (go_at_call 36; refine DN2.out.mono ?_; rintro e w5 ⟨n2, rfl, hv, hbd⟩)
      have HVn2 := Lib.hid hv
      have HU2 := Lib.hid (HU1.out.below hbd)
      obtain ⟨U2, rfl⟩ : ∃ Z : ExtO (fun q => q = B ∨ q = B + 1) V3, w5 = Z.1 := ⟨⟨_, U1.2.trans (Kept.of_below hbd)⟩, rfl⟩
      clear hbd HU1
      clear c0 c1 c2 c3 c4 c5 c6 c7 c8 c9 cf0 cf1 cf2 cf3 cf4 cg0 cg1 cg2 cg3 cg4
      have ⟨c0, c1, c2, c3, c4⟩ := HU2.out.cells
      have ⟨c5, c6, c7, c8, c9⟩ := HU2.out.zeros
      have ⟨cf, cg⟩ := HU2.out.free
      have cf0 := cf 0
      have cf1 := cf 1
      have cf2 := cf 2
      have cf3 := cf 3
      have cf4 := cf 4
      have cg0 := cg 0
      have cg1 := cg 1
      have cg2 := cg 2
      have cg3 := cg 3
      have cg4 := cg 4
      clear cf cg
      clear DN2 hv
      go_upto_region 26 with fail
      have HRS := Lib.hid ((HU2.out.setF n1).setT n2)
      obtain ⟨U3, hZ⟩ : ∃ Z : ExtO (fun q => q = B ∨ q = B + 1) V3, (U2.1.setCell ⟨B + 1, 2, none⟩ (.int .i64 n1)).setCell ⟨B + 1, 3, none⟩ (.int .i64 n2) = Z.1 := ⟨⟨_, (U2.2.trans (kept_set1.weaken2 fun q e => Or.inr e)).trans (kept_set1.weaken2 fun q e => Or.inr e)⟩, rfl⟩
      rw [hZ] at HRS ⊢
      clear hZ HU2
      clear c0 c1 c2 c3 c4 c5 c6 c7 c8 c9 cf0 cf1 cf2 cf3 cf4 cg0 cg1 cg2 cg3 cg4
      have ⟨c0, c1, c2, c3, c4⟩ := HRS.out.cells
      have ⟨c5, c6, c7, c8, c9⟩ := HRS.out.zeros
      have ⟨cf, cg⟩ := HRS.out.free
      have cf0 := cf 0
      have cf1 := cf 1
      have cf2 := cf 2
      have cf3 := cf 3
      have cf4 := cf 4
      have cg0 := cg 0
      have cg1 := cg 1
      have cg2 := cg 2
      have cg3 := cg 3
      have cg4 := cg 4
      clear cf cg
      have HQ := Lib.hid HRS.out.out
      cases is2
      case false =>
       have HO : Hid (o = none) := Lib.hid (by rw [HRW.out]; rfl)
       go_wp2_with fail
       obtain ⟨W9, h9, ⟨z0, z1, z2, z3, z4⟩, hk9⟩ := HQ.out
       rw [h9]
       have HF : Hid (Below w.heap.size w W9) := Lib.hid (FIN.out ⟨W9, U3.2.trans (hk9.weaken2 fun _ e => Or.inl e)⟩)
       clear h9 hk9
       refine bodyPost_ret (v := .tuple #[.agg #[.int .i64 8, .int .i64 0, .int .i64 n1, .int .i64 n2, .string ⟨#[]⟩], .bool false]) (by simp [results, Tryz.results22, go_sem, z0, z1, z2, z3, z4]) rfl ?_
       exact ⟨⟨8, 0, n1, n2, ⟨#[]⟩⟩, (by rw [HO.out]; rfl), (by rw [HO.out]; exact fun y hy => by cases hy), HF.out⟩
      case true =>
       have HE := Lib.hid (pair_ret (k := 8) (i := 8) (f := n1) (t := n2) (o1 := o1) (o2 := o2) (l := sB f1) (m := sB q2) (s := ⟨#[]⟩) (q := o) (by rw [HRW.out, if_pos rfl]) rfl (by rw [numP_is]; exact HOo1.out) (by rw [numP_is]; exact HVn1.out) (by rw [numP_is]; exact HOo2.out) (by rw [numP_is]; exact HVn2.out))
       cases o1 <;> cases o2
       all_goals
        go_wp2_with fail
        obtain ⟨W9, h9, ⟨z0, z1, z2, z3, z4⟩, hk9⟩ := HQ.out
        rw [h9]
        have HF : Hid (Below w.heap.size w W9) := Lib.hid (FIN.out ⟨W9, U3.2.trans (hk9.weaken2 fun _ e => Or.inl e)⟩)
        clear h9 hk9
        refine bodyPost_ret (v := .tuple #[.agg #[.int .i64 8, .int .i64 0, .int .i64 n1, .int .i64 n2, .string ⟨#[]⟩], .bool o.isSome]) (by rw [HE.out.1]; simp [results, Tryz.results22, go_sem, z0, z1, z2, z3, z4]) rfl ?_
        exact ⟨⟨8, 0, n1, n2, ⟨#[]⟩⟩, rfl, HE.out.2, HF.out⟩
    by_cases hk11 : k = 11
    · obtain rfl : i = 11 := by omega
      subst hk11
      have DS := Lib.hid (fun W : World => (show Calls _ _ #[.int .i64 11] W fun e w' => e = .returned (.bool true) ∧ W = w' from rspan_any 11 W))
      clear h0 hi hle e0 e0'
      rw [readC_11] at HRW
      have hcDC2 := cut1_len (sB q) 32
      have DC2 := Lib.hid (fun (W : World) (hW : W.cell? ⟨0, 0, none⟩ = some (.int .i64 mg)) => (show Calls _ _ _ W fun e w' => e = .returned (.tuple #[.string (bt (Lib.cut (sB q) [32]).1), .string (bt (Lib.cut (sB q) [32]).2.1), .bool (Lib.cut (sB q) [32]).2.2]) ∧ ∃ n, w' = W.drewN n from Tryz.strings_Cut q ⟨#[32]⟩ mg W (by have := HLQ.out; omega) hW))
      obtain ⟨f1, hf⟩ : ∃ t, bt (Lib.cut (sB q) [32]).1 = t := ⟨_, rfl⟩
      obtain ⟨q2, hr⟩ : ∃ t, bt (Lib.cut (sB q) [32]).2.1 = t := ⟨_, rfl⟩
      obtain ⟨is2, hs⟩ : ∃ t, (Lib.cut (sB q) [32]).2.2 = t := ⟨_, rfl⟩
      have hf2 : (Lib.cut (sB q) [32]).1 = sB f1 := by rw [← hf]; rfl
      have hr2 : (Lib.cut (sB q) [32]).2.1 = sB q2 := by rw [← hr]; rfl
      rw [hf, hr, hs] at DC2
      rw [hf2, hr2] at hcDC2
      rw [hf2, hr2, hs] at HRW
      have HLf1 := Lib.hid (show f1.size ≤ 1000000 from Nat.le_trans hcDC2.1 HLQ.out)
      have HLq2 := Lib.hid (show q2.size ≤ 1000000 from Nat.le_trans hcDC2.2.1 HLQ.out)
      clear hf hr hs hf2 hr2 hcDC2
      go_upto_region 18 with (first | (go_at_call 16; refine (DS.out _).mono ?_; rintro e w5 ⟨rfl, rfl⟩) | (go_at_call 20; refine (DC2.out _ (below_cell (FIN.out X) HMG.out)).mono ?_; rintro e w5 ⟨rfl, nd2, rfl⟩))
      have hbd : Below X.1.heap.size X.1 (X.1.drewN nd2) := ⟨rfl, rfl, rfl, Nat.le_refl _, fun _ _ => rfl⟩
      have HRY := Lib.hid (HR.out.below hbd)
      obtain ⟨Y, hY⟩ : ∃ Z : ExtO (fun q => q = B ∨ q = B + 1) V3, X.1.drewN nd2 = Z.1 := ⟨⟨_, X.2.trans (Kept.of_below hbd)⟩, rfl⟩
      rw [hY] at HRY ⊢
      clear hbd hY HR
      clear c0 c1 c2 c3 c4 c5 c6 c7 c8 c9 cf0 cf1 cf2 cf3 cf4 cg0 cg1 cg2 cg3 cg4
      have ⟨c0, c1, c2, c3, c4⟩ := HRY.out.cells
      have ⟨c5, c6, c7, c8, c9⟩ := HRY.out.zeros
      have ⟨cf, cg⟩ := HRY.out.free
      have cf0 := cf 0
      have cf1 := cf 1
      have cf2 := cf 2
      have cf3 := cf 3
      have cf4 := cf 4
      have cg0 := cg 0
      have cg1 := cg 1
      have cg2 := cg 2
      have cg3 := cg 3
      have cg4 := cg 4
      clear cf cg
      have hcDC3 := cut1_len (sB q2) 32
      have DC3 := Lib.hid (fun (W : World) (hW : W.cell? ⟨0, 0, none⟩ = some (.int .i64 mg)) => (show Calls _ _ _ W fun e w' => e = .returned (.tuple #[.string (bt (Lib.cut (sB q2) [32]).1), .string (bt (Lib.cut (sB q2) [32]).2.1), .bool (Lib.cut (sB q2) [32]).2.2]) ∧ ∃ n, w' = W.drewN n from Tryz.strings_Cut q2 ⟨#[32]⟩ mg W (by have := HLq2.out; omega) hW))
      obtain ⟨f2, hf⟩ : ∃ t, bt (Lib.cut (sB q2) [32]).1 = t := ⟨_, rfl⟩
      obtain ⟨q3, hr⟩ : ∃ t, bt (Lib.cut (sB q2) [32]).2.1 = t := ⟨_, rfl⟩
      obtain ⟨more, hs⟩ : ∃ t, (Lib.cut (sB q2) [32]).2.2 = t := ⟨_, rfl⟩
      have hf2 : (Lib.cut (sB q2) [32]).1 = sB f2 := by rw [← hf]; rfl
      have hr2 : (Lib.cut (sB q2) [32]).2.1 = sB q3 := by rw [← hr]; rfl
      rw [hf, hr, hs] at DC3
      rw [hf2, hr2] at hcDC3
      rw [hf2, hr2, hs] at HRW
      have HLf2 := Lib.hid (show f2.size ≤ 1000000 from Nat.le_trans hcDC3.1 HLq2.out)
      have HLq3 := Lib.hid (show q3.size ≤ 1000000 from Nat.le_trans hcDC3.2.1 HLq2.out)
      clear hf hr hs hf2 hr2 hcDC3
      go_upto_region 21 with fail
      go_wp2_with (go_at_call 20; refine (DC3.out _ (below_cell (FIN.out Y) HMG.out)).mono ?_; rintro e w5 ⟨rfl, nd2, rfl⟩; refine Hid.out ?_)
      refine Lib.hid ?_
      have hbd : Below Y.1.heap.size Y.1 (Y.1.drewN nd2) := ⟨rfl, rfl, rfl, Nat.le_refl _, fun _ _ => rfl⟩
      have HRY2 := Lib.hid (HRY.out.below hbd)
      obtain ⟨Y2, hY⟩ : ∃ Z : ExtO (fun q => q = B ∨ q = B + 1) V3, Y.1.drewN nd2 = Z.1 := ⟨⟨_, Y.2.trans (Kept.of_below hbd)⟩, rfl⟩
      rw [hY] at HRY2 ⊢
      clear hbd hY HRY
      clear c0 c1 c2 c3 c4 c5 c6 c7 c8 c9 cf0 cf1 cf2 cf3 cf4 cg0 cg1 cg2 cg3 cg4
      have ⟨c0, c1, c2, c3, c4⟩ := HRY2.out.cells
      have ⟨c5, c6, c7, c8, c9⟩ := HRY2.out.zeros
      have ⟨cf, cg⟩ := HRY2.out.free
      have cf0 := cf 0
      have cf1 := cf 1
      have cf2 := cf 2
      have cf3 := cf 3
      have cf4 := cf 4
      have cg0 := cg 0
      have cg1 := cg 1
      have cg2 := cg 2
      have cg3 := cg 3
      have cg4 := cg 4
      clear cf cg
      go_upto_region 22 with fail
      have HRT := Lib.hid (HRY2.out.setS q3)
      obtain ⟨Z, hZ⟩ : ∃ Z : ExtO (fun q => q = B ∨ q = B + 1) V3, Y2.1.setCell ⟨B + 1, 4, none⟩ (.string q3) = Z.1 := ⟨⟨_, Y2.2.trans (kept_set1.weaken2 fun q e => Or.inr e)⟩, rfl⟩
      rw [hZ] at HRT ⊢
      clear hZ HRY2
      clear c0 c1 c2 c3 c4 c5 c6 c7 c8 c9 cf0 cf1 cf2 cf3 cf4 cg0 cg1 cg2 cg3 cg4
      have ⟨c0, c1, c2, c3, c4⟩ := HRT.out.cells
      have ⟨c5, c6, c7, c8, c9⟩ := HRT.out.zeros
      have ⟨cf, cg⟩ := HRT.out.free
      have cf0 := cf 0
      have cf1 := cf 1
      have cf2 := cf 2
      have cf3 := cf 3
      have cf4 := cf 4
      have cg0 := cg 0
      have cg1 := cg 1
      have cg2 := cg 2
      have cg3 := cg 3
      have cg4 := cg 4
      clear cf cg
      obtain ⟨is3, hi3⟩ : ∃ b, (is2 && more) = b := ⟨_, rfl⟩
      have HI3 := Lib.hid hi3
      rw [bs_sB] at HRW
      have HRW := Lib.hid (show o = if is3 = true then _ else none from HRW.out.trans (if_same (by rw [← hi3, Bool.and_eq_true])))
      go_cut [6] (fun p wx => p = .bool is3 ∧ wx = Z.1)
      case first =>
       cases is2 <;> cases more
       all_goals
        go_wp2_with fail
        go_meet
        exact ⟨by rw [← HI3.out]; rfl, rfl⟩
      case rest =>
       obtain ⟨rfl, rfl⟩ := hcut
       clear hi3
       have DN1 := Lib.hid (rnumber_any f1 false Z.1 (HG.out.below (FIN.out Z)) HLf1.out)
       obtain ⟨o1, ho⟩ : ∃ o, (numW false (sB f1)).isSome = o := ⟨_, rfl⟩
       rw [ho] at DN1
       have HOo1 := Lib.hid ho
       clear ho
       go_upto_region 24 with (go_at_call 36; refine DN1.out.mono ?_; rintro e w5 ⟨n1, rfl, hv, hbd⟩)
       have HVn1 := Lib.hid hv
       have HU1 := Lib.hid (HRT.out.below hbd)
       obtain ⟨U1, rfl⟩ : ∃ Z : ExtO (fun q => q = B ∨ q = B + 1) V3, w5 = Z.1 := ⟨⟨_, Z.2.trans (Kept.of_below hbd)⟩, rfl⟩
       clear hbd HRT
       clear c0 c1 c2 c3 c4 c5 c6 c7 c8 c9 cf0 cf1 cf2 cf3 cf4 cg0 cg1 cg2 cg3 cg4
       have ⟨c0, c1, c2, c3, c4⟩ := HU1.out.cells
       have ⟨c5, c6, c7, c8, c9⟩ := HU1.out.zeros
       have ⟨cf, cg⟩ := HU1.out.free
       have cf0 := cf 0
       have cf1 := cf 1
       have cf2 := cf 2
       have cf3 := cf 3
       have cf4 := cf 4
       have cg0 := cg 0
       have cg1 := cg 1
       have cg2 := cg 2
       have cg3 := cg 3
       have cg4 := cg 4
       clear cf cg
       clear DN1 hv
       have DN2 := Lib.hid (rnumber_any f2 false U1.1 (HG.out.below (FIN.out U1)) HLf2.out)
       obtain ⟨o2, ho⟩ : ∃ o, (numW false (sB f2)).isSome = o := ⟨_, rfl⟩
       rw [ho] at DN2
       have HOo2 := Lib.hid ho
       clear ho
       go_upto_region 25 with (go_at_call 36; refine DN2.out.mono ?_; rintro e w5 ⟨n2, rfl, hv, hbd⟩)
       have HVn2 := Lib.hid hv
       have HU2 := Lib.hid (HU1.out.below hbd)
       obtain ⟨U2, rfl⟩ : ∃ Z : ExtO (fun q => q = B ∨ q = B + 1) V3, w5 = Z.1 := ⟨⟨_, U1.2.trans (Kept.of_below hbd)⟩, rfl⟩
       clear hbd HU1
       clear c0 c1 c2 c3 c4 c5 c6 c7 c8 c9 cf0 cf1 cf2 cf3 cf4 cg0 cg1 cg2 cg3 cg4
       have ⟨c0, c1, c2, c3, c4⟩ := HU2.out.cells
       have ⟨c5, c6, c7, c8, c9⟩ := HU2.out.zeros
       have ⟨cf, cg⟩ := HU2.out.free
       have cf0 := cf 0
       have cf1 := cf 1
       have cf2 := cf 2
       have cf3 := cf 3
       have cf4 := cf 4
       have cg0 := cg 0
       have cg1 := cg 1
       have cg2 := cg 2
       have cg3 := cg 3
       have cg4 := cg 4
       clear cf cg
       clear DN2 hv
       go_upto_region 26 with fail
       have HRS := Lib.hid ((HU2.out.setF n1).setT n2)
       obtain ⟨U3, hZ⟩ : ∃ Z : ExtO (fun q => q = B ∨ q = B + 1) V3, (U2.1.setCell ⟨B + 1, 2, none⟩ (.int .i64 n1)).setCell ⟨B + 1, 3, none⟩ (.int .i64 n2) = Z.1 := ⟨⟨_, (U2.2.trans (kept_set1.weaken2 fun q e => Or.inr e)).trans (kept_set1.weaken2 fun q e => Or.inr e)⟩, rfl⟩
       rw [hZ] at HRS ⊢
       clear hZ HU2
       clear c0 c1 c2 c3 c4 c5 c6 c7 c8 c9 cf0 cf1 cf2 cf3 cf4 cg0 cg1 cg2 cg3 cg4
       have ⟨c0, c1, c2, c3, c4⟩ := HRS.out.cells
       have ⟨c5, c6, c7, c8, c9⟩ := HRS.out.zeros
       have ⟨cf, cg⟩ := HRS.out.free
       have cf0 := cf 0
       have cf1 := cf 1
       have cf2 := cf 2
       have cf3 := cf 3
       have cf4 := cf 4
       have cg0 := cg 0
       have cg1 := cg 1
       have cg2 := cg 2
       have cg3 := cg 3
       have cg4 := cg 4
       clear cf cg
       have HQ := Lib.hid HRS.out.out
       cases is3
       case false =>
        have HO : Hid (o = none) := Lib.hid (by rw [HRW.out]; rfl)
        go_wp2_with fail
        obtain ⟨W9, h9, ⟨z0, z1, z2, z3, z4⟩, hk9⟩ := HQ.out
        rw [h9]
        have HF : Hid (Below w.heap.size w W9) := Lib.hid (FIN.out ⟨W9, U3.2.trans (hk9.weaken2 fun _ e => Or.inl e)⟩)
        clear h9 hk9
        refine bodyPost_ret (v := .tuple #[.agg #[.int .i64 11, .int .i64 0, .int .i64 n1, .int .i64 n2, .string q3], .bool false]) (by simp [results, Tryz.results22, go_sem, z0, z1, z2, z3, z4]) rfl ?_
        exact ⟨⟨11, 0, n1, n2, q3⟩, (by rw [HO.out]; rfl), (by rw [HO.out]; exact fun y hy => by cases hy), HF.out⟩
       case true =>
        have HE := Lib.hid (pair_ret (k := 11) (i := 11) (f := n1) (t := n2) (o1 := o1) (o2 := o2) (l := sB f1) (m := sB f2) (s := q3) (q := o) (by rw [HRW.out, if_pos rfl]) rfl (by rw [numP_is]; exact HOo1.out) (by rw [numP_is]; exact HVn1.out) (by rw [numP_is]; exact HOo2.out) (by rw [numP_is]; exact HVn2.out))
        cases o1 <;> cases o2
        all_goals
         go_wp2_with fail
         obtain ⟨W9, h9, ⟨z0, z1, z2, z3, z4⟩, hk9⟩ := HQ.out
         rw [h9]
         have HF : Hid (Below w.heap.size w W9) := Lib.hid (FIN.out ⟨W9, U3.2.trans (hk9.weaken2 fun _ e => Or.inl e)⟩)
         clear h9 hk9
         refine bodyPost_ret (v := .tuple #[.agg #[.int .i64 11, .int .i64 0, .int .i64 n1, .int .i64 n2, .string q3], .bool o.isSome]) (by rw [HE.out.1]; simp [results, Tryz.results22, go_sem, z0, z1, z2, z3, z4]) rfl ?_
         exact ⟨⟨11, 0, n1, n2, q3⟩, rfl, HE.out.2, HF.out⟩
    have hS : usesS i = false := by unfold usesS; rw [decide_eq_false (by omega), decide_eq_false (by omega)]; rfl
    have DS := Lib.hid (fun W : World => rspan_any i W)
    rw [hS] at DS
    have hT : usesT i = isText k := by
     unfold usesT isText
     rw [← hi, decide_eq_false (show ¬ ((k : Int) = 11) by omega), Bool.or_false]
     congr 1
     · congr 1
       · rw [Bool.eq_iff_iff, decide_eq_true_eq, beq_iff_eq]; omega
       · rw [Bool.eq_iff_iff, decide_eq_true_eq, beq_iff_eq]; omega
     · rw [Bool.eq_iff_iff, decide_eq_true_eq, beq_iff_eq]; omega
    have DT := Lib.hid (fun W : World => rtext_any i W)
    rw [hT] at DT
    clear hS hT
    by_cases hk : isText k = true
    · rw [readC_text _ h0 hk, bs_sB] at HRW
      rw [hk] at DT
      clear h0 hk8 hk11 hk hi hle
      go_upto_region 13 with (first | (go_at_call 16; refine (DS.out _).mono ?_; rintro e w5 ⟨rfl, rfl⟩) | (go_at_call 19; refine (DT.out _).mono ?_; rintro e w5 ⟨rfl, rfl⟩))
      have HRT := Lib.hid (HR.out.setS q)
      obtain ⟨Y, hY⟩ : ∃ Z : ExtO (fun q => q = B ∨ q = B + 1) V3, X.1.setCell ⟨B + 1, 4, none⟩ (.string q) = Z.1 := ⟨⟨_, X.2.trans (kept_set1.weaken2 fun q e => Or.inr e)⟩, rfl⟩
      rw [hY] at HRT ⊢
      clear hY HR
      clear c0 c1 c2 c3 c4 c5 c6 c7 c8 c9 cf0 cf1 cf2 cf3 cf4 cg0 cg1 cg2 cg3 cg4
      by_cases hz : q.size = 0
      · have f0 := str_eq0 hz
        have f1 := str_ne0 hz
        have HO : Hid (o = none) := Lib.hid (by rw [HRW.out, if_neg (fun e => e.1 (by rw [size0 hz]; rfl))])
        clear hz
        have P0 : ∀ X : CXR i 0 0 0 q B Y.1, X.1.cell? ⟨B + 1, 0, none⟩ = some (.int .i64 i) := fun X => cell_of X.2.2 rfl
        have P1 : ∀ X : CXR i 0 0 0 q B Y.1, X.1.cell? ⟨B + 1, 1, none⟩ = some (.int .i64 0) := fun X => cell_of X.2.2 rfl
        have P2 : ∀ X : CXR i 0 0 0 q B Y.1, X.1.cell? ⟨B + 1, 2, none⟩ = some (.int .i64 0) := fun X => cell_of X.2.2 rfl
        have P3 : ∀ X : CXR i 0 0 0 q B Y.1, X.1.cell? ⟨B + 1, 3, none⟩ = some (.int .i64 0) := fun X => cell_of X.2.2 rfl
        have P4 : ∀ X : CXR i 0 0 0 q B Y.1, X.1.cell? ⟨B + 1, 4, none⟩ = some (.string q) := fun X => cell_of X.2.2 rfl
        refine held_start (C := fun w' => ∃ Z : CXR i 0 0 0 q B Y.1, w' = Z.1) (by kernel_rfl) ?_
        obtain ⟨Z0, hZ0⟩ : ∃ Z : CXR i 0 0 0 q B Y.1, ({ Y.1 with drawn := Y.1.drawn + 1 } : World) = Z.1 := ⟨⟨{ Y.1 with drawn := Y.1.drawn + 1 }, ⟨⟨rfl, rfl, rfl, Nat.le_refl _, fun _ _ _ => rfl⟩, HRT.out.x⟩⟩, rfl⟩
        rw [hZ0]
        have HXZ : Hid (RL Z0.1 B i 0 0 0 q) := Lib.hid (hZ0 ▸ ⟨HRT.out.z, HRT.out.x⟩)
        clear hZ0
        have hne : Nonempty (CXR i 0 0 0 q B Y.1) := ⟨Z0⟩
        refine held_quiet (by kernel_rfl) (fun _ _ d _ _ h => by cases d <;> exact h) ⟨Z0, rfl⟩ [0, 1, 2, 3, 4] 5 _ _ (by kernel_rfl) ?_
        change wpQuiet _ _ _ _ (_ :: _ :: _ :: _ :: _ :: []) _
        repeat go_big_quiet_step (fail)
        refine wpQuiet_nil ?_
        refine held_skip (i := 5) _ rfl (by kernel_rfl) (fun _ _ d _ _ h => by cases d <;> exact h) ⟨Z0, rfl⟩ (by kernel_rfl) (by kernel_rfl) rfl ?_
        try simp only [Act.put, List.setIfInBounds_toArray, List.set_cons_zero, List.set_cons_succ]
        refine held_quiet (by kernel_rfl) (fun _ _ d _ _ h => by cases d <;> exact h) ⟨Z0, rfl⟩ [6, 7] 2 _ _ (by kernel_rfl) ?_
        change wpQuiet _ _ _ _ (_ :: _ :: []) _
        repeat go_big_quiet_step (fail)
        refine wpQuiet_nil ?_
        refine held_do (i := 8) _ rfl (by kernel_rfl) rfl (fun K hK => ?_)
        go_simp
        have ⟨g5, g6, g7, g8, g9⟩ := HXZ.out.zeros
        have gf := HXZ.out.free.1
        have gf0 := gf 0
        have gf1 := gf 1
        have gf2 := gf 2
        have gf3 := gf 3
        have gf4 := gf 4
        go_simp
        obtain ⟨W9, h9, hz9, hk9⟩ := HXZ.out.out
        rw [h9]
        obtain ⟨Z1, rfl⟩ : ∃ Z : CXR i 0 0 0 q B Y.1, W9 = Z.1 := ⟨⟨W9, Z0.2.1.trans (hk9.weaken2 fun _ e => Or.inl e), (hk9.block (B + 1) (lt_of_block Z0.2.2) (by omega)).trans Z0.2.2⟩, rfl⟩
        have HZ9 := Lib.hid hz9
        clear hz9 hk9 h9 HXZ g5 g6 g7 g8 g9 gf gf0 gf1 gf2 gf3 gf4
        refine hK _ _ ⟨Z1, rfl⟩ ?_
        clear hK K
        try simp only [Act.put, List.setIfInBounds_toArray, List.set_cons_zero, List.set_cons_succ]
        refine held_quiet (by kernel_rfl) (fun _ _ d _ _ h => by cases d <;> exact h) ⟨Z1, rfl⟩ [9] 0 _ _ (by kernel_rfl) ?_
        change wpQuiet _ _ _ _ (_ :: []) _
        repeat go_big_quiet_step (fail)
        refine wpQuiet_nil ?_
        refine wpAnyH_done (by kernel_rfl) ?_ _
        clear P0 P1 P2 P3 P4
        have ⟨z0, z1, z2, z3, z4⟩ := HZ9.out
        have HF : Hid (Below w.heap.size w Z1.1) := Lib.hid (FIN.out ⟨Z1.1, Y.2.trans Z1.2.1⟩)
        go_wp2_with fail
        refine bodyPost_ret (v := .tuple #[.agg #[.int .i64 i, .int .i64 0, .int .i64 0, .int .i64 0, .string q], .bool false]) (by simp [results, Tryz.results22, go_sem, z0, z1, z2, z3, z4]) rfl ?_
        exact ⟨⟨i, 0, 0, 0, q⟩, (by rw [HO.out]; rfl), (by rw [HO.out]; exact fun y hy => by cases hy), HF.out⟩
      have f0 := str_eq1 hz
      have f1 := str_ne1 hz
      have hqn : sB q ≠ [] := fun e => hz (by rw [← bs_sB q, e]; rfl)
      have DCT := Lib.hid (fun W : World => (show Calls _ _ _ W fun e w' => e = .returned (.bool (decide (0 ≤ Lib.indexByte (sB q) 32))) ∧ w' = W from Tryz.strings_Contains_one q 32 W))
      rw [blank_is] at DCT
      obtain ⟨bl, hbl⟩ : ∃ b, (Lib.cut (sB q) [32]).2.2 = b := ⟨_, rfl⟩
      rw [hbl] at DCT HRW
      have HQN := Lib.hid hqn
      clear hz hqn hbl
      cases bl
      case true =>
       have HO : Hid (o = none) := Lib.hid (by rw [HRW.out, if_neg (fun e => by cases e.2)])
       have P0 : ∀ X : CXR i 0 0 0 q B Y.1, X.1.cell? ⟨B + 1, 0, none⟩ = some (.int .i64 i) := fun X => cell_of X.2.2 rfl
       have P1 : ∀ X : CXR i 0 0 0 q B Y.1, X.1.cell? ⟨B + 1, 1, none⟩ = some (.int .i64 0) := fun X => cell_of X.2.2 rfl
       have P2 : ∀ X : CXR i 0 0 0 q B Y.1, X.1.cell? ⟨B + 1, 2, none⟩ = some (.int .i64 0) := fun X => cell_of X.2.2 rfl
       have P3 : ∀ X : CXR i 0 0 0 q B Y.1, X.1.cell? ⟨B + 1, 3, none⟩ = some (.int .i64 0) := fun X => cell_of X.2.2 rfl
       have P4 : ∀ X : CXR i 0 0 0 q B Y.1, X.1.cell? ⟨B + 1, 4, none⟩ = some (.string q) := fun X => cell_of X.2.2 rfl
       refine held_start (C := fun w' => ∃ Z : CXR i 0 0 0 q B Y.1, w' = Z.1) (by kernel_rfl) ?_
       obtain ⟨Z0, hZ0⟩ : ∃ Z : CXR i 0 0 0 q B Y.1, ({ Y.1 with drawn := Y.1.drawn + 1 } : World) = Z.1 := ⟨⟨{ Y.1 with drawn := Y.1.drawn + 1 }, ⟨⟨rfl, rfl, rfl, Nat.le_refl _, fun _ _ _ => rfl⟩, HRT.out.x⟩⟩, rfl⟩
       rw [hZ0]
       have HXZ : Hid (RL Z0.1 B i 0 0 0 q) := Lib.hid (hZ0 ▸ ⟨HRT.out.z, HRT.out.x⟩)
       clear hZ0
       have hne : Nonempty (CXR i 0 0 0 q B Y.1) := ⟨Z0⟩
       refine held_quiet (by kernel_rfl) (fun _ _ d _ _ h => by cases d <;> exact h) ⟨Z0, rfl⟩ [0, 1, 2, 3, 4] 5 _ _ (by kernel_rfl) ?_
       change wpQuiet _ _ _ _ (_ :: _ :: _ :: _ :: _ :: []) _
       repeat go_big_quiet_step (fail)
       refine wpQuiet_nil ?_
       refine held_do (i := 5) _ rfl (by kernel_rfl) rfl (fun K hK => ?_)
       go_simp
       refine (DCT.out _).mono ?_
       rintro e w5 ⟨rfl, rfl⟩
       refine hK _ _ ⟨Z0, rfl⟩ ?_
       clear hK K
       try simp only [Act.put, List.setIfInBounds_toArray, List.set_cons_zero, List.set_cons_succ]
       refine held_quiet (by kernel_rfl) (fun _ _ d _ _ h => by cases d <;> exact h) ⟨Z0, rfl⟩ [6, 7] 2 _ _ (by kernel_rfl) ?_
       change wpQuiet _ _ _ _ (_ :: _ :: []) _
       repeat go_big_quiet_step (fail)
       refine wpQuiet_nil ?_
       refine held_do (i := 8) _ rfl (by kernel_rfl) rfl (fun K hK => ?_)
       go_simp
       have ⟨g5, g6, g7, g8, g9⟩ := HXZ.out.zeros
       have gf := HXZ.out.free.1
       have gf0 := gf 0
       have gf1 := gf 1
       have gf2 := gf 2
       have gf3 := gf 3
       have gf4 := gf 4
       go_simp
       obtain ⟨W9, h9, hz9, hk9⟩ := HXZ.out.out
       rw [h9]
       obtain ⟨Z1, rfl⟩ : ∃ Z : CXR i 0 0 0 q B Y.1, W9 = Z.1 := ⟨⟨W9, Z0.2.1.trans (hk9.weaken2 fun _ e => Or.inl e), (hk9.block (B + 1) (lt_of_block Z0.2.2) (by omega)).trans Z0.2.2⟩, rfl⟩
       have HZ9 := Lib.hid hz9
       clear hz9 hk9 h9 HXZ g5 g6 g7 g8 g9 gf gf0 gf1 gf2 gf3 gf4
       refine hK _ _ ⟨Z1, rfl⟩ ?_
       clear hK K
       try simp only [Act.put, List.setIfInBounds_toArray, List.set_cons_zero, List.set_cons_succ]
       refine held_quiet (by kernel_rfl) (fun _ _ d _ _ h => by cases d <;> exact h) ⟨Z1, rfl⟩ [9] 0 _ _ (by kernel_rfl) ?_
       change wpQuiet _ _ _ _ (_ :: []) _
       repeat go_big_quiet_step (fail)
       refine wpQuiet_nil ?_
       refine wpAnyH_done (by kernel_rfl) ?_ _
       clear P0 P1 P2 P3 P4
       have ⟨z0, z1, z2, z3, z4⟩ := HZ9.out
       have HF : Hid (Below w.heap.size w Z1.1) := Lib.hid (FIN.out ⟨Z1.1, Y.2.trans Z1.2.1⟩)
       go_wp2_with fail
       refine bodyPost_ret (v := .tuple #[.agg #[.int .i64 i, .int .i64 0, .int .i64 0, .int .i64 0, .string q], .bool false]) (by simp [results, Tryz.results22, go_sem, z0, z1, z2, z3, z4]) rfl ?_
       exact ⟨⟨i, 0, 0, 0, q⟩, (by rw [HO.out]; rfl), (by rw [HO.out]; exact fun y hy => by cases hy), HF.out⟩
      case false =>
       have HO : Hid (o = some ⟨k, 0, 0, 0, q⟩) := Lib.hid (by rw [HRW.out, if_pos ⟨HQN.out, rfl⟩])
       have P0 : ∀ X : CXR i 0 0 0 q B Y.1, X.1.cell? ⟨B + 1, 0, none⟩ = some (.int .i64 i) := fun X => cell_of X.2.2 rfl
       have P1 : ∀ X : CXR i 0 0 0 q B Y.1, X.1.cell? ⟨B + 1, 1, none⟩ = some (.int .i64 0) := fun X => cell_of X.2.2 rfl
       have P2 : ∀ X : CXR i 0 0 0 q B Y.1, X.1.cell? ⟨B + 1, 2, none⟩ = some (.int .i64 0) := fun X => cell_of X.2.2 rfl
       have P3 : ∀ X : CXR i 0 0 0 q B Y.1, X.1.cell? ⟨B + 1, 3, none⟩ = some (.int .i64 0) := fun X => cell_of X.2.2 rfl
       have P4 : ∀ X : CXR i 0 0 0 q B Y.1, X.1.cell? ⟨B + 1, 4, none⟩ = some (.string q) := fun X => cell_of X.2.2 rfl
       refine held_start (C := fun w' => ∃ Z : CXR i 0 0 0 q B Y.1, w' = Z.1) (by kernel_rfl) ?_
       obtain ⟨Z0, hZ0⟩ : ∃ Z : CXR i 0 0 0 q B Y.1, ({ Y.1 with drawn := Y.1.drawn + 1 } : World) = Z.1 := ⟨⟨{ Y.1 with drawn := Y.1.drawn + 1 }, ⟨⟨rfl, rfl, rfl, Nat.le_refl _, fun _ _ _ => rfl⟩, HRT.out.x⟩⟩, rfl⟩
       rw [hZ0]
       have HXZ : Hid (RL Z0.1 B i 0 0 0 q) := Lib.hid (hZ0 ▸ ⟨HRT.out.z, HRT.out.x⟩)
       clear hZ0
       have hne : Nonempty (CXR i 0 0 0 q B Y.1) := ⟨Z0⟩
       refine held_quiet (by kernel_rfl) (fun _ _ d _ _ h => by cases d <;> exact h) ⟨Z0, rfl⟩ [0, 1, 2, 3, 4] 5 _ _ (by kernel_rfl) ?_
       change wpQuiet _ _ _ _ (_ :: _ :: _ :: _ :: _ :: []) _
       repeat go_big_quiet_step (fail)
       refine wpQuiet_nil ?_
       refine held_do (i := 5) _ rfl (by kernel_rfl) rfl (fun K hK => ?_)
       go_simp
       refine (DCT.out _).mono ?_
       rintro e w5 ⟨rfl, rfl⟩
       refine hK _ _ ⟨Z0, rfl⟩ ?_
       clear hK K
       try simp only [Act.put, List.setIfInBounds_toArray, List.set_cons_zero, List.set_cons_succ]
       refine held_quiet (by kernel_rfl) (fun _ _ d _ _ h => by cases d <;> exact h) ⟨Z0, rfl⟩ [6, 7] 2 _ _ (by kernel_rfl) ?_
       change wpQuiet _ _ _ _ (_ :: _ :: []) _
       repeat go_big_quiet_step (fail)
       refine wpQuiet_nil ?_
       refine held_do (i := 8) _ rfl (by kernel_rfl) rfl (fun K hK => ?_)
       go_simp
       have ⟨g5, g6, g7, g8, g9⟩ := HXZ.out.zeros
       have gf := HXZ.out.free.1
       have gf0 := gf 0
       have gf1 := gf 1
       have gf2 := gf 2
       have gf3 := gf 3
       have gf4 := gf 4
       go_simp
       obtain ⟨W9, h9, hz9, hk9⟩ := HXZ.out.out
       rw [h9]
       obtain ⟨Z1, rfl⟩ : ∃ Z : CXR i 0 0 0 q B Y.1, W9 = Z.1 := ⟨⟨W9, Z0.2.1.trans (hk9.weaken2 fun _ e => Or.inl e), (hk9.block (B + 1) (lt_of_block Z0.2.2) (by omega)).trans Z0.2.2⟩, rfl⟩
       have HZ9 := Lib.hid hz9
       clear hz9 hk9 h9 HXZ g5 g6 g7 g8 g9 gf gf0 gf1 gf2 gf3 gf4
       refine hK _ _ ⟨Z1, rfl⟩ ?_
       clear hK K
       try simp only [Act.put, List.setIfInBounds_toArray, List.set_cons_zero, List.set_cons_succ]
       refine held_quiet (by kernel_rfl) (fun _ _ d _ _ h => by cases d <;> exact h) ⟨Z1, rfl⟩ [9] 0 _ _ (by kernel_rfl) ?_
       change wpQuiet _ _ _ _ (_ :: []) _
       repeat go_big_quiet_step (fail)
       refine wpQuiet_nil ?_
       refine wpAnyH_done (by kernel_rfl) ?_ _
       clear P0 P1 P2 P3 P4
       have ⟨z0, z1, z2, z3, z4⟩ := HZ9.out
       have HF : Hid (Below w.heap.size w Z1.1) := Lib.hid (FIN.out ⟨Z1.1, Y.2.trans Z1.2.1⟩)
       go_wp2_with fail
       refine bodyPost_ret (v := .tuple #[.agg #[.int .i64 i, .int .i64 0, .int .i64 0, .int .i64 0, .string q], .bool true]) (by simp [results, Tryz.results22, go_sem, z0, z1, z2, z3, z4]) rfl ?_
       exact ⟨⟨i, 0, 0, 0, q⟩, (by rw [HO.out]; rfl), (by rw [HO.out]; intro y hy; rw [← HI.out]; exact Option.some.inj hy), HF.out⟩
    rw [readC_num _ h0 hk hk8 hk11] at HRW
    have HNT : isText k = false := by simpa using hk
    rw [HNT] at DT
    clear HNT
    by_cases h5 : k = 5
    · obtain rfl : i = 5 := by omega
      subst h5
      have HRW := Lib.hid (show o = (numW true (sB q)).map fun n => ⟨((5 : Nat) : Int), n, 0, 0, ⟨#[]⟩⟩ from HRW.out)
      clear h0 hk8 hk11 hk hi hle e0 e0'
      have DN := Lib.hid (rnumber_any q true X.1 (HG.out.below (FIN.out X)) HLQ.out)
      obtain ⟨o1, ho⟩ : ∃ o, (numW true (sB q)).isSome = o := ⟨_, rfl⟩
      rw [ho] at DN
      have HO1 := Lib.hid ho
      clear ho
      go_wp2_with (first | (go_at_call 16; refine (DS.out _).mono ?_; rintro e w5 ⟨rfl, rfl⟩) | (go_at_call 19; refine (DT.out _).mono ?_; rintro e w5 ⟨rfl, rfl⟩) | (go_at_call 36; refine DN.out.mono ?_; rintro e w5 ⟨n1, rfl, hv, hbd⟩; refine Hid.out ?_))
      refine Lib.hid ?_
      have HV1 := Lib.hid hv
      have HRY := Lib.hid (HR.out.below hbd)
      obtain ⟨Y, rfl⟩ : ∃ Z : ExtO (fun q => q = B ∨ q = B + 1) V3, w5 = Z.1 := ⟨⟨_, X.2.trans (Kept.of_below hbd)⟩, rfl⟩
      clear hbd HR
      clear c0 c1 c2 c3 c4 c5 c6 c7 c8 c9 cf0 cf1 cf2 cf3 cf4 cg0 cg1 cg2 cg3 cg4
      have ⟨c0, c1, c2, c3, c4⟩ := HRY.out.cells
      have ⟨c5, c6, c7, c8, c9⟩ := HRY.out.zeros
      have ⟨cf, cg⟩ := HRY.out.free
      have cf0 := cf 0
      have cf1 := cf 1
      have cf2 := cf 2
      have cf3 := cf 3
      have cf4 := cf 4
      have cg0 := cg 0
      have cg1 := cg 1
      have cg2 := cg 2
      have cg3 := cg 3
      have cg4 := cg 4
      clear cf cg
      clear DN hv
      go_upto_region 16 with fail
      have HRT := Lib.hid (HRY.out.setN n1)
      obtain ⟨Z, hZ⟩ : ∃ Z : ExtO (fun q => q = B ∨ q = B + 1) V3, Y.1.setCell ⟨B + 1, 1, none⟩ (.int .i64 n1) = Z.1 := ⟨⟨_, Y.2.trans (kept_set1.weaken2 fun q e => Or.inr e)⟩, rfl⟩
      rw [hZ] at HRT ⊢
      clear hZ HRY
      clear c0 c1 c2 c3 c4 c5 c6 c7 c8 c9 cf0 cf1 cf2 cf3 cf4 cg0 cg1 cg2 cg3 cg4
      have ⟨c0, c1, c2, c3, c4⟩ := HRT.out.cells
      have ⟨c5, c6, c7, c8, c9⟩ := HRT.out.zeros
      have ⟨cf, cg⟩ := HRT.out.free
      have cf0 := cf 0
      have cf1 := cf 1
      have cf2 := cf 2
      have cf3 := cf 3
      have cf4 := cf 4
      have cg0 := cg 0
      have cg1 := cg 1
      have cg2 := cg 2
      have cg3 := cg 3
      have cg4 := cg 4
      clear cf cg
      have HQ := Lib.hid HRT.out.out
      have HE := Lib.hid (num_ret (i := 5) (nn := n1) (o := o1) (sg := true) (l := sB q) HRW.out HI.out.symm (by rw [numP_is]; exact HO1.out) (by rw [numP_is]; exact HV1.out))
      go_wp2_with fail
      obtain ⟨W9, h9, ⟨z0, z1, z2, z3, z4⟩, hk9⟩ := HQ.out
      rw [h9]
      have HF : Hid (Below w.heap.size w W9) := Lib.hid (FIN.out ⟨W9, Z.2.trans (hk9.weaken2 fun _ e => Or.inl e)⟩)
      clear h9 hk9
      refine bodyPost_ret (v := .tuple #[.agg #[.int .i64 5, .int .i64 n1, .int .i64 0, .int .i64 0, .string ⟨#[]⟩], .bool o1]) (by simp [results, Tryz.results22, go_sem, z0, z1, z2, z3, z4]) rfl ?_
      exact ⟨⟨5, n1, 0, 0, ⟨#[]⟩⟩, (by rw [HE.out.1]; rfl), HE.out.2, HF.out⟩
    by_cases h6 : k = 6
    · obtain rfl : i = 6 := by omega
      subst h6
      have HRW := Lib.hid (show o = (numW true (sB q)).map fun n => ⟨((6 : Nat) : Int), n, 0, 0, ⟨#[]⟩⟩ from HRW.out)
      clear h0 hk8 hk11 hk hi hle e0 e0'
      have DN := Lib.hid (rnumber_any q true X.1 (HG.out.below (FIN.out X)) HLQ.out)
      obtain ⟨o1, ho⟩ : ∃ o, (numW true (sB q)).isSome = o := ⟨_, rfl⟩
      rw [ho] at DN
      have HO1 := Lib.hid ho
      clear ho
      go_wp2_with (first | (go_at_call 16; refine (DS.out _).mono ?_; rintro e w5 ⟨rfl, rfl⟩) | (go_at_call 19; refine (DT.out _).mono ?_; rintro e w5 ⟨rfl, rfl⟩) | (go_at_call 36; refine DN.out.mono ?_; rintro e w5 ⟨n1, rfl, hv, hbd⟩; refine Hid.out ?_))
      refine Lib.hid ?_
      have HV1 := Lib.hid hv
      have HRY := Lib.hid (HR.out.below hbd)
      obtain ⟨Y, rfl⟩ : ∃ Z : ExtO (fun q => q = B ∨ q = B + 1) V3, w5 = Z.1 := ⟨⟨_, X.2.trans (Kept.of_below hbd)⟩, rfl⟩
      clear hbd HR
      clear c0 c1 c2 c3 c4 c5 c6 c7 c8 c9 cf0 cf1 cf2 cf3 cf4 cg0 cg1 cg2 cg3 cg4
      have ⟨c0, c1, c2, c3, c4⟩ := HRY.out.cells
      have ⟨c5, c6, c7, c8, c9⟩ := HRY.out.zeros
      have ⟨cf, cg⟩ := HRY.out.free
      have cf0 := cf 0
      have cf1 := cf 1
      have cf2 := cf 2
      have cf3 := cf 3
      have cf4 := cf 4
      have cg0 := cg 0
      have cg1 := cg 1
      have cg2 := cg 2
      have cg3 := cg 3
      have cg4 := cg 4
      clear cf cg
      clear DN hv
      go_upto_region 16 with fail
      have HRT := Lib.hid (HRY.out.setN n1)
      obtain ⟨Z, hZ⟩ : ∃ Z : ExtO (fun q => q = B ∨ q = B + 1) V3, Y.1.setCell ⟨B + 1, 1, none⟩ (.int .i64 n1) = Z.1 := ⟨⟨_, Y.2.trans (kept_set1.weaken2 fun q e => Or.inr e)⟩, rfl⟩
      rw [hZ] at HRT ⊢
      clear hZ HRY
      clear c0 c1 c2 c3 c4 c5 c6 c7 c8 c9 cf0 cf1 cf2 cf3 cf4 cg0 cg1 cg2 cg3 cg4
      have ⟨c0, c1, c2, c3, c4⟩ := HRT.out.cells
      have ⟨c5, c6, c7, c8, c9⟩ := HRT.out.zeros
      have ⟨cf, cg⟩ := HRT.out.free
      have cf0 := cf 0
      have cf1 := cf 1
      have cf2 := cf 2
      have cf3 := cf 3
      have cf4 := cf 4
      have cg0 := cg 0
      have cg1 := cg 1
      have cg2 := cg 2
      have cg3 := cg 3
      have cg4 := cg 4
      clear cf cg
      have HQ := Lib.hid HRT.out.out
      have HE := Lib.hid (num_ret (i := 6) (nn := n1) (o := o1) (sg := true) (l := sB q) HRW.out HI.out.symm (by rw [numP_is]; exact HO1.out) (by rw [numP_is]; exact HV1.out))
      go_wp2_with fail
      obtain ⟨W9, h9, ⟨z0, z1, z2, z3, z4⟩, hk9⟩ := HQ.out
      rw [h9]
      have HF : Hid (Below w.heap.size w W9) := Lib.hid (FIN.out ⟨W9, Z.2.trans (hk9.weaken2 fun _ e => Or.inl e)⟩)
      clear h9 hk9
      refine bodyPost_ret (v := .tuple #[.agg #[.int .i64 6, .int .i64 n1, .int .i64 0, .int .i64 0, .string ⟨#[]⟩], .bool o1]) (by simp [results, Tryz.results22, go_sem, z0, z1, z2, z3, z4]) rfl ?_
      exact ⟨⟨6, n1, 0, 0, ⟨#[]⟩⟩, (by rw [HE.out.1]; rfl), HE.out.2, HF.out⟩
    have h5f : (i == 5) = false := by rw [beq_eq_false_iff_ne]; omega
    have h6f : (i == 6) = false := by rw [beq_eq_false_iff_ne]; omega
    have h5g : decide (i = 5) = false := by rw [decide_eq_false_iff_not]; omega
    have h6g : decide (i = 6) = false := by rw [decide_eq_false_iff_not]; omega
    have hsg : signed k = false := by
     unfold signed
     rw [beq_eq_false_iff_ne.2 h5, beq_eq_false_iff_ne.2 h6]
     rfl
    rw [hsg] at HRW
    clear h0 hk8 hk11 hk hi hle h5 h6 hsg
    have DN := Lib.hid (rnumber_any q false X.1 (HG.out.below (FIN.out X)) HLQ.out)
    obtain ⟨o1, ho⟩ : ∃ o, (numW false (sB q)).isSome = o := ⟨_, rfl⟩
    rw [ho] at DN
    have HO1 := Lib.hid ho
    clear ho
    go_wp2_with (first | (go_at_call 16; refine (DS.out _).mono ?_; rintro e w5 ⟨rfl, rfl⟩) | (go_at_call 19; refine (DT.out _).mono ?_; rintro e w5 ⟨rfl, rfl⟩) | (go_at_call 36; refine DN.out.mono ?_; rintro e w5 ⟨n1, rfl, hv, hbd⟩; refine Hid.out ?_))
    refine Lib.hid ?_
    have HV1 := Lib.hid hv
    have HRY := Lib.hid (HR.out.below hbd)
    obtain ⟨Y, rfl⟩ : ∃ Z : ExtO (fun q => q = B ∨ q = B + 1) V3, w5 = Z.1 := ⟨⟨_, X.2.trans (Kept.of_below hbd)⟩, rfl⟩
    clear hbd HR
    clear c0 c1 c2 c3 c4 c5 c6 c7 c8 c9 cf0 cf1 cf2 cf3 cf4 cg0 cg1 cg2 cg3 cg4
    have ⟨c0, c1, c2, c3, c4⟩ := HRY.out.cells
    have ⟨c5, c6, c7, c8, c9⟩ := HRY.out.zeros
    have ⟨cf, cg⟩ := HRY.out.free
    have cf0 := cf 0
    have cf1 := cf 1
    have cf2 := cf 2
    have cf3 := cf 3
    have cf4 := cf 4
    have cg0 := cg 0
    have cg1 := cg 1
    have cg2 := cg 2
    have cg3 := cg 3
    have cg4 := cg 4
    clear cf cg
    clear DN hv
    go_upto_region 16 with fail
    have HRT := Lib.hid (HRY.out.setN n1)
    obtain ⟨Z, hZ⟩ : ∃ Z : ExtO (fun q => q = B ∨ q = B + 1) V3, Y.1.setCell ⟨B + 1, 1, none⟩ (.int .i64 n1) = Z.1 := ⟨⟨_, Y.2.trans (kept_set1.weaken2 fun q e => Or.inr e)⟩, rfl⟩
    rw [hZ] at HRT ⊢
    clear hZ HRY
    clear c0 c1 c2 c3 c4 c5 c6 c7 c8 c9 cf0 cf1 cf2 cf3 cf4 cg0 cg1 cg2 cg3 cg4
    have ⟨c0, c1, c2, c3, c4⟩ := HRT.out.cells
    have ⟨c5, c6, c7, c8, c9⟩ := HRT.out.zeros
    have ⟨cf, cg⟩ := HRT.out.free
    have cf0 := cf 0
    have cf1 := cf 1
    have cf2 := cf 2
    have cf3 := cf 3
    have cf4 := cf 4
    have cg0 := cg 0
    have cg1 := cg 1
    have cg2 := cg 2
    have cg3 := cg 3
    have cg4 := cg 4
    clear cf cg
    have HQ := Lib.hid HRT.out.out
    have HE := Lib.hid (num_ret (i := i) (nn := n1) (o := o1) (sg := false) (l := sB q) HRW.out HI.out.symm (by rw [numP_is]; exact HO1.out) (by rw [numP_is]; exact HV1.out))
    go_wp2_with fail
    obtain ⟨W9, h9, ⟨z0, z1, z2, z3, z4⟩, hk9⟩ := HQ.out
    rw [h9]
    have HF : Hid (Below w.heap.size w W9) := Lib.hid (FIN.out ⟨W9, Z.2.trans (hk9.weaken2 fun _ e => Or.inl e)⟩)
    clear h9 hk9
    refine bodyPost_ret (v := .tuple #[.agg #[.int .i64 i, .int .i64 n1, .int .i64 0, .int .i64 0, .string ⟨#[]⟩], .bool o1]) (by simp [results, Tryz.results22, go_sem, z0, z1, z2, z3, z4]) rfl ?_
    exact ⟨⟨i, n1, 0, 0, ⟨#[]⟩⟩, (by rw [HE.out.1]; rfl), HE.out.2, HF.out⟩
end Go.Proofs.YtcngjbfbdonpeaaGreatDoor
