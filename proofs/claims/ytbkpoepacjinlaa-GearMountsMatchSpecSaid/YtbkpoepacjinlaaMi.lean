/- Several texts of this claim in one. -/
import Derived.Test.YtbkpoepacjinlaaTb
import Derived.Test.YtbkpoepacjinlaaHl
import Derived.Laws.AppendOwn
import Derived.Laws.StructEq
import Derived.Test.YtbkpoepacjinlaaGi
import Derived.Test.YtbkpoepacjinlaaGy
import Derived.Test.YtbkpoepacjinlaaTa
import Derived.Lib.SliceRun
import Derived.Shelf.SlSortCmp.WholeK
import Derived.Test.YtbkpoepacjinlaaGt
import Derived.Test.YtbkpoepacjinlaaGx
import Derived.Test.YtbkpoepacjinlaaGb
import Derived.Sort.Grow
import Derived.Ground.SlsfProg
import Derived.Test.YtbkpoepacjinlaaProg
import Derived.Test.YtbkpoepacjinlaaGz
import Derived.RangeFuncBox
import Derived.Laws.OwnMore
import Derived.Laws.IdiomCopy
import Derived.Test.YtbkpoepacjinlaaGq
import Derived.Test.YtbkpoepacjinlaaGu
import Derived.Test.YtbkpoepacjinlaaRows
import Derived.ProofKit
import Derived.OpenShut
import Derived.Lib.SmallJoins
import Derived.Carry
import Derived.ChangeMaps5
/- Gear: the mounts of each slot, in a map (program). -/
namespace Go.Proofs.Ytbkpoepacjinlaa
open Go.RowKit Go.BigFrame Go.ChangeMaps Go.WideMaps

/-- a slice's header -/
abbrev Hdr := Option (Nat × Nat × Nat)
def hval : Hdr → Value
  | none => .slice none 0 0
  | some (g, n, c) => .slice (some ⟨g, 0, none⟩) n c
def hdat : Hdr → DataW Unit
  | none => .nil
  | some (g, n, c) => .agg [.lit (.int .i64 g), .lit (.int .i64 n), .lit (.int .i64 c)]
def hdrR : Value → Option (DataW Unit × List MemPlace)
  | .slice none 0 0 => some (.nil, [])
  | .slice (some ⟨g, 0, none⟩) n c => some (.agg [.lit (.int .i64 g), .lit (.int .i64 n), .lit (.int .i64 c)], [])
  | _ => none
theorem hdrR_inv : ∀ v x ps, hdrR v = some (hdat x, ps) → v = hval x := by
  intro v x ps h
  unfold hdrR at h
  split at h
  · cases x with
    | none => rfl
    | some y => simp [hdat] at h
  · cases x with
    | none => simp [hdat] at h
    | some y =>
      obtain ⟨a, b, c⟩ := y
      simp only [hdat, Option.some.injEq, Prod.mk.injEq, DataW.agg.injEq, List.cons.injEq, DataW.lit.injEq, Lit.int.injEq] at h
      obtain ⟨⟨⟨_, h1⟩, ⟨_, h2⟩, ⟨_, h3⟩, _⟩, _⟩ := h
      have e1 := Int.ofNat.inj h1
      have e2 := Int.ofNat.inj h2
      have e3 := Int.ofNat.inj h3
      subst e1 e2 e3
      rfl
  · cases h
def mcells (ms : List Pcs.Mnt) : List Value := ms.flatMap mcell
/-- two operations that may come up -/
theorem held_two {P : Program} {Q : Exit → Act → World → Prop} {C : World → Prop} {l : List Oper} {i j fuel : Nat} {listed : Array Bool} {a : Act} {w : World} (oi oj : Oper) (hi : nth l i = some oi) (hj : nth l j = some oj) (hr : Region.ready .any l.toArray listed = [i, j])
    (hwi : Region.wanted oi (yielded l.toArray a.tmps) = true) (hwj : Region.wanted oj (yielded l.toArray a.tmps) = true)
    (h1 : ∀ K : Act → World → Prop, (∀ a' w', C w' → wpAnyH P .any l.toArray Q C fuel (listed.setIfInBounds i true) a' w' → K a' w') → oi.wp P a w K Q)
    (h2 : ∀ K : Act → World → Prop, (∀ a' w', C w' → wpAnyH P .any l.toArray Q C fuel (listed.setIfInBounds j true) a' w' → K a' w') → oj.wp P a w K Q) : wpAnyH P .any l.toArray Q C (fuel + 1) listed a w := by
  rw [nth_eq] at hi hj
  refine wpAnyH_all hr (by simp) fun q hq => ?_
  simp only [List.mem_cons, List.not_mem_nil, or_false] at hq
  rcases hq with rfl | rfl
  · unfold wpOp
    simp only [hi, hwi, if_true]
    exact Or.inl (h1 _ fun a' w' h3 h4 => ⟨h3, h4⟩)
  · unfold wpOp
    simp only [hj, hwj, if_true]
    exact Or.inl (h2 _ fun a' w' h3 h4 => ⟨h3, h4⟩)
theorem wp_lookup_str {α : Type} {P : Program} {k e t : TypeId} {R : Value → Option (DataW Unit × List MemPlace)} {b n : Nat} {dat : α → DataW Unit} {zd : DataW Unit} {f : ByteArray → α} {w : World} {o : Oper} {a : Act} {K : Act → World → Prop} {Q : Exit → Act → World → Prop} (m x : Operand) (hop : o.op = .lookup t m x false)
    (hk : P.underlying k = some .string) (ht : P.underlying t = some (.map k e)) {z : Value} (hz : (zeroValue e).run P w = .ok z w) {zp : List MemPlace} (hzd : R z = some (zd, zp)) (val : α → Value) (hR : ∀ v x ps, R v = some (dat x, ps) → v = val x)
    (hm : a.eval m = .map (some b)) (hown : StrMap w P k R b n dat zd f) {s : ByteArray} (hx : a.eval x = .string s) (hs : s.size ≤ maxLen) (hK : K (a.put o.dst (val (f s))) w) : o.wp P a w K Q := by
  have hrun := hown.look hk ht hz hzd val hR hs
  unfold Oper.wp
  simp [execOp, hop, hm, hx, hrun, Result.andThen]
  exact hK
/-- the mounts of each slot lie in rows of the call's own -/
structure Had (w : World) (base : Nat) (g : Gar) (k : Nat) (hd : ByteArray → Hdr) : Prop where
  row : ∀ s, w.ownsRow base 54 4 (hval (hd s)) (Gar.mountsK g s k).length (mcells (Gar.mountsK g s k))
  nil : ∀ s, Gar.mountsK g s k = [] → hd s = none
theorem Had.kept {w w' : World} {base : Nat} {g : Gar} {k : Nat} {hd : ByteArray → Hdr} (h : Had w base g k hd) {O : Nat → Prop} (hk : Kept O w w') (hO : ∀ b, base ≤ b → ¬ O b) : Had w' base g k hd := by
  refine ⟨fun s => ?_, h.nil⟩
  obtain ⟨h1, h2⟩ := h.row s
  refine ⟨h1, ?_⟩
  rcases h2 with h7 | ⟨q, cap, cur, e1, e2, e3, e4⟩
  · exact Or.inl h7
  · exact Or.inr ⟨q, cap, cur, e1, e2, (hk.block q (lt_of_block e3) (hO q e2)).trans e3, e4⟩
theorem mountsK_mem {g : Gar} {s : ByteArray} {k : Nat} {m : Pcs.Mnt} (h : m ∈ Gar.mountsK g s k) : m.s = s := by
  obtain ⟨i, _, h2, rfl⟩ := Gar.mem_mountsK h
  exact h2
/-- the first cell of a row names its slot -/
theorem Had.first {w : World} {base : Nat} {g : Gar} {k : Nat} {hd : ByteArray → Hdr} (h : Had w base g k hd) {s : ByteArray} {q : Nat} (hq : (hval (hd s)).ownBlock = some q) : w.cell? ⟨q, 0, none⟩ = some (.string s) := by
  cases hl : Gar.mountsK g s k with
  | nil => rw [h.nil s hl] at hq; simp [hval, Value.ownBlock] at hq
  | cons m l =>
    have h1 := (h.row s).cells hq 0 (.string s) (by
      rw [hl]
      have : m.s = s := mountsK_mem (k := k) (g := g) (by rw [hl]; simp)
      simp [mcells, mcell, this])
    rwa [addr_add0] at h1
theorem Had.apart {w : World} {base : Nat} {g : Gar} {k : Nat} {hd : ByteArray → Hdr} (h : Had w base g k hd) {s s' : ByteArray} (hs : s' ≠ s) : (hval (hd s')).ownBlock = none ∨ (hval (hd s')).ownBlock ≠ (hval (hd s)).ownBlock := by
  cases h1 : (hval (hd s')).ownBlock with
  | none => exact Or.inl rfl
  | some q =>
    refine Or.inr fun h2 => hs ?_
    have h3 := h.first h1
    have h4 := h.first h2.symm
    rw [h3] at h4
    injection h4 with h4
    injection h4
/-- one mount more -/
theorem Had.step {w w1 w2 : World} {base B : Nat} {g : Gar} {k : Nat} {hd : ByteArray → Hdr} {y : Hdr} (h : Had w base g k hd) (hB : B < base) (h1 : w.grownBy w1 (hval (hd (g.ms k))).ownBlock)
    (ho : w1.ownsRow base 54 4 (hval y) ((Gar.mountsK g (g.ms k) k).length + 1) (mcells (Gar.mountsK g (g.ms k) k) ++ mcell (g.mnt k))) (h2 : w1.grownBy w2 (some B)) : Had w2 base g (k + 1) (setF hd (g.ms k) y) := by
  have nb : ∀ {v : Value} {n : Nat} {xs : List Value} {w : World}, w.ownsRow base 54 4 v n xs → v.ownBlock = none ∨ v.ownBlock ≠ some B := fun {v n xs w} h => by
    cases hv : v.ownBlock with
    | none => exact Or.inl rfl
    | some q => exact Or.inr fun e => by injection e with e; have := (h.lt q hv).1; omega
  refine ⟨fun s => ?_, fun s hs => ?_⟩
  · by_cases e : g.ms k = s
    · subst e
      rw [Gar.mountsK, if_pos rfl, List.length_append]
      unfold setF
      rw [if_pos rfl]
      unfold mcells
      rw [List.flatMap_append]
      have := ho.kept h2 (nb ho)
      simpa [mcells] using this
    · rw [Gar.mountsK, if_neg e]
      unfold setF
      rw [if_neg (fun e' => e e'.symm)]
      have h3 := (h.row s).kept h1 (h.apart (fun e' => e e'.symm))
      exact h3.kept h2 (nb h3)
  · by_cases e : g.ms k = s
    · rw [Gar.mountsK, if_pos e] at hs
      simp at hs
    · rw [Gar.mountsK, if_neg e] at hs
      unfold setF
      rw [if_neg (fun e' => e e'.symm)]
      exact h.nil s hs
end Go.Proofs.Ytbkpoepacjinlaa

/- Gear: the mounts of each slot, in a map: the walk (program; printed by wip/g/gen_had.py). -/
namespace Go.Proofs.Ytbkpoepacjinlaa
open Go.RowKit Go.BigFrame

theorem mcell_one {m : Pcs.Mnt} {u : Value} (hu : u ∈ mcell m) : u.oneCell' = true := by
  simp only [mcell, List.mem_cons, List.not_mem_nil, or_false] at hu
  rcases hu with rfl | rfl | rfl | rfl <;> rfl
theorem own_hdr {w : World} {base e size n : Nat} {v : Value} {xs : List Value} (h : w.ownsRow base e size v n xs) (hn : 0 < n) : ∃ y : Hdr, v = hval y := by
  obtain ⟨g, cap, rfl, _⟩ := h.form hn
  exact ⟨some (g, n, cap), rfl⟩
theorem hdrR_of (y : Hdr) : hdrR (hval y) = some (hdat y, []) := by
  cases y <;> rfl
theorem Kept.weaken {O O' : Nat → Prop} {a b : World} (h : Kept O a b) (hO : ∀ q, O q → O' q) : Kept O' a b := ⟨h.os, h.tape, h.output, h.size, fun k hk ho => h.block k hk (fun e => ho (hO k e))⟩
theorem grown_of {w w' w'' : World} {r : Option Nat} (h : Below w.heap.size w w') (k : w'.grownBy w'' r) : w.grownBy w'' r :=
  ⟨k.os.trans h.os, k.tape.trans h.tape, k.output.trans h.output, Nat.le_trans h.size k.size, fun i hi hr => (k.block i (Nat.lt_of_lt_of_le hi h.size) hr).trans (h.block i hi)⟩
theorem mnt_len {g : Gar} {s : ByteArray} : ∀ k, (Gar.mountsK g s k).length ≤ k
  | 0 => by simp [Gar.mountsK]
  | k + 1 => by
    rw [Gar.mountsK]
    have := mnt_len (g := g) (s := s) k
    split <;> simp <;> omega
set_option maxHeartbeats 4000000 in
set_option maxRecDepth 100000 in
theorem had_any (g : Gar) (a0 a1 a2 a3 : Option Addr) (c0 c1 c2 c3 : Nat) (w : World) (h : GarIn w g a0 a1 a2 a3) (hnm : g.nm ≤ 2000) :
    Calls Try.prog 109 #[garV g a0 a1 a2 a3 c0 c1 c2 c3] w fun e w' => Below w.heap.size w w' ∧ ∃ B base hd, e = .returned (.map (some B)) ∧ w.heap.size ≤ B ∧ B < base ∧ StrMap w' Try.prog 9 hdrR B g.nm hdat .nil hd ∧ Had w' base g g.nm hd := by
  have HG := Lib.hid h
  have hl2 := h.l2
  clear h
  have HUS := Lib.hid (show Try.prog.underlying 9 = some .string by kernel_rfl)
  have HUH := Lib.hid (show Try.prog.underlying 141 = some (.map 9 24) by kernel_rfl)
  have HUM := Lib.hid (show Try.prog.underlying 24 = some (.slice 54) by kernel_rfl)
  have HzH := Lib.hid (show ∀ u : World, (zeroValue 24).run Try.prog u = .ok (.slice none 0 0) u from fun u => by kernel_rfl)
  obtain ⟨i0, hi0, hy0, hy1, hy2⟩ := info_parts (show (Try.prog.info? 54).map (fun i => (i.zero, i.size, i.bytes)) = some (some (.agg #[.string ⟨#[]⟩, .string ⟨#[]⟩, .int .i64 0, .int .i64 0]), 4, 48) by kernel_rfl)
  have HI0 := Lib.hid hi0
  have HY0 := Lib.hid hy0
  have HY1 := Lib.hid hy1
  have HY2 := Lib.hid hy2
  clear hi0 hy0 hy1 hy2
  unfold garV
  have hmm := @run_makeMap Try.prog
  obtain ⟨W0, hW0, hb0, hs0, hl0'⟩ := alloc_cells w #[.slice a0 g.np c0, .slice a1 g.ns c1, .slice a2 g.nm c2, .slice a3 g.nu c3] 27
  obtain ⟨W, hW⟩ : ∃ W, W0.alloc (.map #[] 0) = W := ⟨_, rfl⟩
  have hbw : Below W0.heap.size W0 W := hW ▸ below_al W0 _
  have hsw : W.heap.size = W0.heap.size + 1 := by rw [← hW, World.size_alloc]
  have e2 := below_cell hbw (hl0' 2 _ rfl)
  have hm0 : StrMap W Try.prog 9 hdrR W0.heap.size 0 hdat .nil (fun _ => none) := by
    rw [← hW]
    exact StrMap.made W0 _ _ _ (fun s => rfl)
  obtain ⟨B, hB⟩ : ∃ B, W0.heap.size = B := ⟨_, rfl⟩
  rw [hB] at hm0 hsw hs0
  obtain ⟨base, hbase⟩ : ∃ base, W.heap.size = base := ⟨_, rfl⟩
  have hBb : B < base := by omega
  have HBB := Lib.hid hBb
  have hwb : w.heap.size < B := by omega
  have HBW := Lib.hid (hb0.trans (hbw.mono (by omega)))
  have HM0 := Lib.hid hm0
  have HH0 : Hid (Had W base g 0 (fun _ => none)) := Lib.hid ⟨fun s => World.ownsRow_nil _ _ _ _, fun s _ => rfl⟩
  have HW : Hid ((w.alloc (.cells #[.slice a0 g.np c0, .slice a1 g.ns c1, .slice a2 g.nm c2, .slice a3 g.nu c3] 27)).alloc (.map #[] 0) = W) := Lib.hid (by rw [hW0, hW])
  have HBe : Hid (w.heap.size + 1 = B) := Lib.hid hs0.symm
  have HBASE0 := Lib.hid hbase
  clear hW0 hW hb0 hbw hsw hl0' hm0 hB hbase hs0
  go_enter Try.func109, Try.ntmps109
  go_upto_region 2 with (fail)
  rw [HW.out, HBe.out]
  go_wp2_with fail
  go_loopw [10] (fun iv wr => ∃ (k : Nat), iv = .int .i64 k ∧ k ≤ g.nm ∧ Hid (∃ hd, StrMap wr Try.prog 9 hdrR B k hdat .nil hd ∧ Had wr base g k hd) ∧ Hid (Kept (fun b => b = B ∨ base ≤ b) W wr)) (fun iv _ => g.nm - (intOf iv).toNat)
  case atStart => exact ⟨0, rfl, by omega, Lib.hid ⟨_, HM0.out, HH0.out⟩, Lib.hid (Kept.refl _ _)⟩
  case round =>
    obtain ⟨k, rfl, hk, HE, HK⟩ := hrel
    obtain ⟨hd, hm, hh⟩ := HE.out
    by_cases hlt : k < g.nm
    · have t1 : decide ((k : Int) < (g.nm : Int)) = true := by rw [decide_eq_true_eq]; omega
      have hgr := HG.out.r2.below HBW.out (Nat.le_refl _)
      obtain ⟨b, off, rfl, hbl0, _⟩ := HG.out.r2.here (by omega)
      obtain ⟨b', off', hbe, hbl, hc⟩ := (Kept.row hgr HK.out (fun b' off' e => by injection e with e; injection e with e _; omega)).here (by omega)
      obtain ⟨rfl, rfl⟩ : b = b' ∧ off = off' := by injection hbe with e; injection e with e1 e2; exact ⟨e1, e2⟩
      have e0 : wr.cell? ⟨b, off + k * 4, none⟩ = some (.string (g.ms k)) := hc k hlt 0 (by omega)
      have e1 : wr.cell? ⟨b, off + k * 4 + 1, none⟩ = some (.string (g.mp k)) := hc k hlt 1 (by omega)
      have e2 : wr.cell? ⟨b, off + k * 4 + 2, none⟩ = some (.int .i64 (g.mf k)) := hc k hlt 2 (by omega)
      have e3 : wr.cell? ⟨b, off + k * 4 + 3, none⟩ = some (.int .i64 (g.mt k)) := hc k hlt 3 (by omega)
      obtain ⟨V, hV, hvb, hvs, hvq⟩ := alloc_block wr #[.string (g.ms k), .string (g.mp k), .int .i64 (g.mf k), .int .i64 (g.mt k)] 54
      have HV' := Lib.hid hV
      have HVB := Lib.hid hvb
      have hszw : base ≤ wr.heap.size := by rw [← HBASE0.out]; exact HK.out.size
      have HHAD := Lib.hid (hh.kept (Kept.of_below (O := fun _ => False) hvb) (by simp))
      have HMV := Lib.hid (hm.keptO (Kept.of_below (O := fun _ => False) hvb) (by simp))
      have hv0 : ∃ v0, hval (hd (g.ms k)) = v0 := ⟨_, rfl⟩
      obtain ⟨v0, hv0⟩ := hv0
      have HV0 := Lib.hid hv0
      have hrw := hh.row (g.ms k)
      rw [hv0] at hrw
      have hno := not_own hrw (Or.inr (Nat.le_refl wr.heap.size))
      have hweak : ∀ q, (q = B ∨ v0.ownBlock = some q) → (q = B ∨ base ≤ q) := fun q hq => hq.elim Or.inl (fun h => Or.inr (hrw.lt q h).1)
      have HWEAK := Lib.hid hweak
      have hnl : ¬ (wr.heap.size = B ∨ v0.ownBlock = some wr.heap.size) := by
        rintro (h | h)
        · omega
        · exact hno h
      have L0 : ∀ Z : ExtO (fun b => b = B ∨ v0.ownBlock = some b) V, Z.1.cell? ⟨wr.heap.size, 0, none⟩ = some (.string (g.ms k)) := ExtO.ex hnl (block_cell hvq rfl)
      have L1 : ∀ Z : ExtO (fun b => b = B ∨ v0.ownBlock = some b) V, Z.1.cell? ⟨wr.heap.size, 1, none⟩ = some (.string (g.mp k)) := ExtO.ex hnl (block_cell hvq rfl)
      have L2 : ∀ Z : ExtO (fun b => b = B ∨ v0.ownBlock = some b) V, Z.1.cell? ⟨wr.heap.size, 2, none⟩ = some (.int .i64 (g.mf k)) := ExtO.ex hnl (block_cell hvq rfl)
      have L3 : ∀ Z : ExtO (fun b => b = B ∨ v0.ownBlock = some b) V, Z.1.cell? ⟨wr.heap.size, 3, none⟩ = some (.int .i64 (g.mt k)) := ExtO.ex hnl (block_cell hvq rfl)
      have hln := mnt_len (g := g) (s := g.ms k) k
      have HLEN : Hid ((Gar.mountsK g (g.ms k) k).length ≤ 2000) := Lib.hid (by omega)
      have HKM : Hid (k < maxLen) := Lib.hid (by unfold maxLen; omega)
      have HSZK := Lib.hid (HG.out.z2 k hlt).1
      have HSV : Hid (base ≤ V.heap.size) := Lib.hid (by omega)
      clear hh hm hrw hno hweak hnl hvb hvs hvq hV hv0 hc hgr hln HE hbe
      go_upto_region 5 with (fail)
      rw [HV'.out]
      refine held_start (C := fun w' => ∃ Z : ExtO (fun b => b = B ∨ v0.ownBlock = some b) V, w' = Z.1) (by kernel_rfl) ?_
      obtain ⟨Y0, hY0, hy0⟩ : ∃ Z : ExtO (fun b => b = B ∨ v0.ownBlock = some b) V, ({ V with drawn := V.drawn + 1 } : World) = Z.1 ∧ Below V.heap.size V Z.1 := ⟨⟨{ V with drawn := V.drawn + 1 }, ⟨rfl, rfl, rfl, Nat.le_refl _, fun _ _ _ => rfl⟩⟩, rfl, ⟨rfl, rfl, rfl, Nat.le_refl _, fun _ _ => rfl⟩⟩
      rw [hY0]
      have HVY := Lib.hid hy0
      have HMY := Lib.hid (HMV.out.keptO (Kept.of_below (O := fun _ => False) hy0) (by simp))
      clear hY0 hy0
      refine held_quiet (by kernel_rfl) (fun _ _ d _ _ h => by cases d <;> exact h) ⟨Y0, rfl⟩ [0, 1, 2, 3, 4, 5, 7] 4 _ _ (by kernel_rfl) ?_
      change wpQuiet _ _ _ _ (_ :: _ :: _ :: _ :: _ :: _ :: _ :: []) _
      repeat go_big_quiet_step (fail)
      refine wpQuiet_nil ?_
      refine held_two (i := 6) (j := 8) _ _ rfl rfl (by kernel_rfl) rfl rfl (fun K hK => ?_) (fun K hK => ?_)
      · refine wp_lookup_str (.tmp 17) (.tmp 19) rfl HUS.out HUH.out (HzH.out _) (zp := []) rfl hval hdrR_inv rfl HMY.out rfl HSZK.out ?_
        rw [HV0.out]
        refine hK _ _ ⟨Y0, rfl⟩ ?_
        clear hK K
        simp only [Act.put, List.setIfInBounds_toArray, List.set_cons_zero, List.set_cons_succ]
        refine held_do (i := 8) _ rfl (by kernel_rfl) rfl (fun K hK => ?_)
        go_simp
        obtain ⟨Wb, hWb, hwb1, hwb2, hwq⟩ := alloc_block Y0.1 #[.string (g.ms k), .string (g.mp k), .int .i64 (g.mf k), .int .i64 (g.mt k)] 54
        rw [hWb]
        have hvz := below_step HVY.out hwb1
        obtain ⟨Zb, rfl⟩ : ∃ Z : ExtO (fun b => b = B ∨ v0.ownBlock = some b) V, Wb = Z.1 := ⟨⟨Wb, Kept.of_below hvz⟩, rfl⟩
        have HVZ := Lib.hid hvz
        have HWQ := Lib.hid hwq
        have HMZB := Lib.hid (HMV.out.keptO (Kept.of_below (O := fun _ => False) hvz) (by simp))
        have HHZB := Lib.hid (HHAD.out.kept (Kept.of_below (O := fun _ => False) hvz) (by simp))
        refine hK _ _ ⟨Zb, rfl⟩ ?_
        clear hWb hwb1 hwb2 hwq hvz hK K
        refine held_do (i := 9) _ rfl (by kernel_rfl) rfl (fun K hK => ?_)
        have hrow := HHZB.out.row (g.ms k)
        rw [HV0.out] at hrow
        have HROW := Lib.hid hrow
        clear hrow
        refine wp_append_own Zb.1 (.tmp 20) (.tmp 22) 24 rfl base 54 i0 (.agg #[.string ⟨#[]⟩, .string ⟨#[]⟩, .int .i64 0, .int .i64 0]) 4 48 HUM.out HI0.out HY0.out HY1.out HY2.out rfl (by decide) v0 _ _ rfl HROW.out ⟨Y0.1.heap.size, 0, none⟩ 1 1 (mcell (g.mnt k)) rfl rfl (fun j u hu => by rw [addr_add0]; exact block_cell HWQ.out (by simpa [mcell, Gar.mnt] using hu)) (fun u hu => mcell_one hu) (by have := HLEN.out; unfold maxLen; omega) (by have := HLEN.out; omega) (Nat.le_trans HSV.out HVZ.out.size) (fun v5 w5 hown5 hg5 _ => ?_)
        obtain ⟨y, hy⟩ := own_hdr hown5 (by omega)
        subst hy
        have hmz := HMZB.out.kept hg5 (by
          intro e
          have := (HROW.out.lt B e.symm).1
          have := HBB.out
          omega)
        have HMZ := Lib.hid hmz
        have hgg := grown_of HVZ.out hg5
        rw [← HV0.out] at hgg
        have HGG := Lib.hid hgg
        have HOW := Lib.hid hown5
        obtain ⟨Z5, rfl⟩ : ∃ Z : ExtO (fun b => b = B ∨ v0.ownBlock = some b) V, w5 = Z.1 := ⟨⟨w5, Zb.2.grown hg5 (fun q hq _ => Or.inr hq)⟩, rfl⟩
        refine hK _ _ ⟨Z5, rfl⟩ ?_
        clear hmz hgg hg5 hown5 hK K
        simp only [Act.put, List.setIfInBounds_toArray, List.set_cons_zero, List.set_cons_succ]
        refine held_do (i := 10) _ rfl (by kernel_rfl) rfl (fun K hK => ?_)
        refine wp_update_str (.tmp 14) (.tmp 16) (.tmp 23) rfl HUS.out HUH.out rfl HMZ.out HKM.out rfl HSZK.out rfl (y := y) (hdrR_of y) (fun w6 hm6 hg6 => ?_)
        have HM6 := Lib.hid hm6
        have HHAD6 := Lib.hid (HHAD.out.step HBB.out HGG.out HOW.out hg6)
        obtain ⟨Z6, rfl⟩ : ∃ Z : ExtO (fun b => b = B ∨ v0.ownBlock = some b) V, w6 = Z.1 := ⟨⟨w6, Z5.2.grown hg6 (fun q hq _ => by injection hq with hq; exact Or.inl hq.symm)⟩, rfl⟩
        refine hK _ _ ⟨Z6, rfl⟩ ?_
        clear hg6 hm6 hK K
        simp only [Act.put]
        refine wpAnyH_done (by kernel_rfl) ?_ _
        go_wp2_with fail
        go_roundw
        case rel => exact ⟨k + 1, by go_num, by omega, Lib.hid ⟨_, HM6.out, HHAD6.out⟩, Lib.hid ((HK.out.trans (Kept.of_below HVB.out)).trans (Z6.2.weaken HWEAK.out))⟩
        case measure => simp [intOf]; omega
      · go_simp
        obtain ⟨Wb, hWb, hwb1, hwb2, hwq⟩ := alloc_block Y0.1 #[.string (g.ms k), .string (g.mp k), .int .i64 (g.mf k), .int .i64 (g.mt k)] 54
        rw [hWb]
        have hvz := below_step HVY.out hwb1
        obtain ⟨Zb, rfl⟩ : ∃ Z : ExtO (fun b => b = B ∨ v0.ownBlock = some b) V, Wb = Z.1 := ⟨⟨Wb, Kept.of_below hvz⟩, rfl⟩
        have HVZ := Lib.hid hvz
        have HWQ := Lib.hid hwq
        have HMZB := Lib.hid (HMV.out.keptO (Kept.of_below (O := fun _ => False) hvz) (by simp))
        have HHZB := Lib.hid (HHAD.out.kept (Kept.of_below (O := fun _ => False) hvz) (by simp))
        refine hK _ _ ⟨Zb, rfl⟩ ?_
        clear hWb hwb1 hwb2 hwq hvz hK K
        refine held_do (i := 6) _ rfl (by kernel_rfl) rfl (fun K hK => ?_)
        refine wp_lookup_str (.tmp 17) (.tmp 19) rfl HUS.out HUH.out (HzH.out _) (zp := []) rfl hval hdrR_inv rfl HMZB.out rfl HSZK.out ?_
        rw [HV0.out]
        refine hK _ _ ⟨Zb, rfl⟩ ?_
        clear hK K
        simp only [Act.put, List.setIfInBounds_toArray, List.set_cons_zero, List.set_cons_succ]
        refine held_do (i := 9) _ rfl (by kernel_rfl) rfl (fun K hK => ?_)
        have hrow := HHZB.out.row (g.ms k)
        rw [HV0.out] at hrow
        have HROW := Lib.hid hrow
        clear hrow
        refine wp_append_own Zb.1 (.tmp 20) (.tmp 22) 24 rfl base 54 i0 (.agg #[.string ⟨#[]⟩, .string ⟨#[]⟩, .int .i64 0, .int .i64 0]) 4 48 HUM.out HI0.out HY0.out HY1.out HY2.out rfl (by decide) v0 _ _ rfl HROW.out ⟨Y0.1.heap.size, 0, none⟩ 1 1 (mcell (g.mnt k)) rfl rfl (fun j u hu => by rw [addr_add0]; exact block_cell HWQ.out (by simpa [mcell, Gar.mnt] using hu)) (fun u hu => mcell_one hu) (by have := HLEN.out; unfold maxLen; omega) (by have := HLEN.out; omega) (Nat.le_trans HSV.out HVZ.out.size) (fun v5 w5 hown5 hg5 _ => ?_)
        obtain ⟨y, hy⟩ := own_hdr hown5 (by omega)
        subst hy
        have hmz := HMZB.out.kept hg5 (by
          intro e
          have := (HROW.out.lt B e.symm).1
          have := HBB.out
          omega)
        have HMZ := Lib.hid hmz
        have hgg := grown_of HVZ.out hg5
        rw [← HV0.out] at hgg
        have HGG := Lib.hid hgg
        have HOW := Lib.hid hown5
        obtain ⟨Z5, rfl⟩ : ∃ Z : ExtO (fun b => b = B ∨ v0.ownBlock = some b) V, w5 = Z.1 := ⟨⟨w5, Zb.2.grown hg5 (fun q hq _ => Or.inr hq)⟩, rfl⟩
        refine hK _ _ ⟨Z5, rfl⟩ ?_
        clear hmz hgg hg5 hown5 hK K
        simp only [Act.put, List.setIfInBounds_toArray, List.set_cons_zero, List.set_cons_succ]
        refine held_do (i := 10) _ rfl (by kernel_rfl) rfl (fun K hK => ?_)
        refine wp_update_str (.tmp 14) (.tmp 16) (.tmp 23) rfl HUS.out HUH.out rfl HMZ.out HKM.out rfl HSZK.out rfl (y := y) (hdrR_of y) (fun w6 hm6 hg6 => ?_)
        have HM6 := Lib.hid hm6
        have HHAD6 := Lib.hid (HHAD.out.step HBB.out HGG.out HOW.out hg6)
        obtain ⟨Z6, rfl⟩ : ∃ Z : ExtO (fun b => b = B ∨ v0.ownBlock = some b) V, w6 = Z.1 := ⟨⟨w6, Z5.2.grown hg6 (fun q hq _ => by injection hq with hq; exact Or.inl hq.symm)⟩, rfl⟩
        refine hK _ _ ⟨Z6, rfl⟩ ?_
        clear hg6 hm6 hK K
        simp only [Act.put]
        refine wpAnyH_done (by kernel_rfl) ?_ _
        go_wp2_with fail
        go_roundw
        case rel => exact ⟨k + 1, by go_num, by omega, Lib.hid ⟨_, HM6.out, HHAD6.out⟩, Lib.hid ((HK.out.trans (Kept.of_below HVB.out)).trans (Z6.2.weaken HWEAK.out))⟩
        case measure => simp [intOf]; omega
    · have t1 : decide ((k : Int) < (g.nm : Int)) = false := by rw [decide_eq_false_iff_not]; omega
      have t1' : decide (k < g.nm) = false := by simpa using hlt
      obtain rfl : k = g.nm := by omega
      have hbk := Kept.below HBW.out HK.out HBW.out.size (fun q hq => by have := HBB.out; omega)
      have HBK := Lib.hid hbk
      have HMM := Lib.hid hm
      have HHH := Lib.hid hh
      clear hlt HE hm hh hbk
      go_wp2_with fail
      go_ret
      exact ⟨HBK.out, B, base, hd, rfl, by omega, HBB.out, HMM.out, HHH.out⟩
end Go.Proofs.Ytbkpoepacjinlaa

/- Gear: all pieces in their order, and the protocol of what is called for each. -/
namespace Go.Proofs.Ytbkpoepacjinlaa
open Go.RowKit Go.BigFrame

/-- a piece that is told: its use, slot, part, seconds, way -/
structure Ev where
  i : Nat
  s : ByteArray
  p : ByteArray
  sec : Int
  way : Int
def pcsOf (g : Gar) (i j : Nat) : List Pcs.Pc := Pcs.pieces (g.uf i) (g.uf i + g.us i) (g.mounts (g.sn j))
def evP (g : Gar) (i j q : Nat) : Ev := ⟨i, g.sn j, (pget (pcsOf g i j) q).1, (pget (pcsOf g i j) q).2, wayG (g.uw i) (g.us i) (secW (pcsOf g i j)) (pcsOf g i j).length q⟩
def evQ (g : Gar) (i j : Nat) : Nat → List Ev
  | 0 => []
  | q + 1 => evQ g i j q ++ [evP g i j q]
def evS (g : Gar) (i : Nat) : Nat → List Ev
  | 0 => []
  | j + 1 => evS g i j ++ (if g.sr j = g.ur i then evQ g i j (pcsOf g i j).length else [])
def evG (g : Gar) : Nat → List Ev
  | 0 => []
  | i + 1 => evG g i ++ evS g i g.ns
def evV (g : Gar) (e : Ev) : Value := .agg #[.string (g.un e.i), .string e.s, .string e.p, .int .i64 e.sec, .int .i64 e.way]

/-- what is kept while pieces are told: 'Inv done S w': the called one has been told 'done'; it may write to the blocks S alone, and to new ones -/
structure Pr (Inv : List Ev → (Nat → Prop) → World → Prop) (done : List Ev) (S0 : Nat → Prop) (V wr : World) : Prop where
  ex : ∃ S : Nat → Prop, Inv done S wr ∧ (∀ b, S b → S0 b ∨ V.heap.size ≤ b) ∧ (∀ b, S b → b < wr.heap.size)
  kept : Kept S0 V wr
theorem Pr.start {Inv : List Ev → (Nat → Prop) → World → Prop} {done : List Ev} {S : Nat → Prop} {V : World} (h : Inv done S V) (hb : ∀ b, S b → b < V.heap.size) : Pr Inv done S V V :=
  ⟨⟨S, h, fun _ hb => Or.inl hb, hb⟩, Kept.refl _ _⟩
theorem Pr.below {Inv : List Ev → (Nat → Prop) → World → Prop} (hkeep : ∀ done S W W', Inv done S W → Below W.heap.size W W' → Inv done S W') {done : List Ev} {S0 : Nat → Prop} {V wr wr' : World} (h : Pr Inv done S0 V wr) (hb : Below wr.heap.size wr wr') : Pr Inv done S0 V wr' := by
  obtain ⟨S, h1, h2, h3⟩ := h.ex
  exact ⟨⟨S, hkeep _ _ _ _ h1 hb, h2, fun b hS => Nat.lt_of_lt_of_le (h3 b hS) hb.size⟩, h.kept.trans (Kept.of_below hb)⟩
/-- a later base: what lies there and may not be written is kept from now on -/
theorem Pr.rebase {Inv : List Ev → (Nat → Prop) → World → Prop} (hkeep : ∀ done S W W', Inv done S W → Below W.heap.size W W' → Inv done S W') {done : List Ev} {S0 : Nat → Prop} {V wr V' : World} (h : Pr Inv done S0 V wr) (hb : Below wr.heap.size wr V') :
    ∃ S : Nat → Prop, Pr Inv done S V' V' ∧ (∀ b, S b → b < wr.heap.size) ∧ (∀ b, b < V.heap.size → ¬ S0 b → ¬ S b) ∧ ∀ done' wr', Pr Inv done' S V' wr' → Pr Inv done' S0 V wr' := by
  obtain ⟨S, h1, h2, h3⟩ := h.ex
  refine ⟨S, Pr.start (hkeep _ _ _ _ h1 hb) (fun b hS => Nat.lt_of_lt_of_le (h3 b hS) hb.size), h3, fun b hb1 hb2 hS => (h2 b hS).elim hb2 (fun h => by omega), fun done' wr' h' => ?_⟩
  obtain ⟨S', g1, g2, g3⟩ := h'.ex
  have hVV' : V.heap.size ≤ V'.heap.size := Nat.le_trans h.kept.size hb.size
  refine ⟨⟨S', g1, fun b hb' => (g2 b hb').elim (h2 b) (fun h => Or.inr (by omega)), g3⟩, ?_⟩
  refine ⟨h'.kept.os.trans (hb.os.trans h.kept.os), h'.kept.tape.trans (hb.tape.trans h.kept.tape), h'.kept.output.trans (hb.output.trans h.kept.output), Nat.le_trans hVV' h'.kept.size, fun k hk ho => ?_⟩
  have hkS : ¬ S k := fun hS => (h2 k hS).elim ho (fun h => by omega)
  exact (h'.kept.block k (by omega) hkS).trans ((hb.block k (Nat.lt_of_lt_of_le hk h.kept.size)).trans (h.kept.block k hk ho))
/-- one piece is told -/
theorem Pr.told {Inv : List Ev → (Nat → Prop) → World → Prop} (hkeep : ∀ done S W W', Inv done S W → Below W.heap.size W W' → Inv done S W') {done : List Ev} {S0 : Nat → Prop} {V wr Wc : World} (h : Pr Inv done S0 V wr) (hb : Below wr.heap.size wr Wc) :
    ∃ S : Nat → Prop, Inv done S Wc ∧ (∀ b, S b → b < Wc.heap.size) ∧ ∀ done' S' W', Inv done' S' W' → (∀ b, S' b → S b ∨ Wc.heap.size ≤ b) → (∀ b, S' b → b < W'.heap.size) → Kept S Wc W' → Pr Inv done' S0 V W' := by
  obtain ⟨S, h1, h2, h3⟩ := h.ex
  have hV : V.heap.size ≤ Wc.heap.size := Nat.le_trans h.kept.size hb.size
  refine ⟨S, hkeep _ _ _ _ h1 hb, fun b hS => Nat.lt_of_lt_of_le (h3 b hS) hb.size, fun done' S' W' g1 g2 g3 gk => ⟨⟨S', g1, fun b hb' => (g2 b hb').elim (h2 b) (fun h => Or.inr (by omega)), g3⟩, ?_⟩⟩
  refine ⟨gk.os.trans (hb.os.trans h.kept.os), gk.tape.trans (hb.tape.trans h.kept.tape), gk.output.trans (hb.output.trans h.kept.output), Nat.le_trans hV gk.size, fun k hk ho => ?_⟩
  have hkS : ¬ S k := fun hS => (h2 k hS).elim ho (fun h => by omega)
  exact (gk.block k (by omega) hkS).trans ((hb.block k (Nat.lt_of_lt_of_le hk h.kept.size)).trans (h.kept.block k hk ho))
theorem flatN {β : Type} {f : β → List Value} {m : Nat} (d : β) (hf : ∀ q, (f q).length = m) : ∀ (l : List β) (k j : Nat), k < l.length → j < m → (l.flatMap f)[k * m + j]? = (f (l.getD k d))[j]?
  | [], k, j, h, _ => by simp at h
  | q :: l, 0, j, _, hj => by
    rw [List.flatMap_cons, Nat.zero_mul, Nat.zero_add, List.getElem?_append_left (by rw [hf]; exact hj)]
    rfl
  | q :: l, k + 1, j, h, hj => by
    rw [List.flatMap_cons, List.getElem?_append_right (by rw [hf, Nat.succ_mul]; omega), hf, show (k + 1) * m + j - m = k * m + j by rw [Nat.succ_mul]; omega]
    exact flatN d hf l k j (by simpa using h) hj
/-- the row of a slot, as a slice that piecesOf may read -/
theorem Had.rowK {w : World} {base : Nat} {g : Gar} {k : Nat} {hd : ByteArray → Hdr} (h : Had w base g k hd) (s : ByteArray) :
    ∃ (am : Option Addr) (cm : Nat), hval (hd s) = .slice am (Gar.mountsK g s k).length cm ∧ RowK w am (Gar.mountsK g s k).length 4 (fun i => mcell (mget (Gar.mountsK g s k) i)) := by
  have hr := h.row s
  rcases hr.2 with ⟨e, hn⟩ | ⟨q, cap, cur, e, _, h3, _⟩
  · exact ⟨none, 0, by rw [e, hn], ⟨fun h => by omega⟩⟩
  · refine ⟨some ⟨q, 0, none⟩, cap, e, ⟨fun hl => ⟨q, 0, rfl, lt_of_block h3, fun i hi j hj => ?_⟩⟩⟩
    have hc := flatN (f := mcell) (m := 4) ⟨⟨#[]⟩, ⟨#[]⟩, 0, 0⟩ (fun q => rfl) (Gar.mountsK g s k) i j hi hj
    have hv : ∃ v, (mcell (mget (Gar.mountsK g s k) i))[j]? = some v := ⟨_, List.getElem?_eq_getElem (by simpa [mcell] using hj)⟩
    obtain ⟨v, hv⟩ := hv
    have h6 := hr.cells (g := q) (by rw [e]; rfl) (i * 4 + j) v (hc.trans hv)
    rw [addr_add0] at h6
    rw [Nat.zero_add, hv]
    exact h6
end Go.Proofs.Ytbkpoepacjinlaa

/- Gear: eachPiece of the program (printed by wip/g/gen_each.py). -/
namespace Go.Proofs.Ytbkpoepacjinlaa
open Go.RowKit Go.BigFrame
open Gar (chk)

def useAt (g : Gar) (i : Nat) : Value := useV (g.un i) (g.ur i) (g.uf i) (g.us i) (g.uw i)
theorem evG_pre (g : Gar) (a : Nat) : ∀ b, a ≤ b → ∃ r, evG g b = evG g a ++ r
  | 0, h => ⟨[], by rw [Nat.le_zero.1 h]; simp⟩
  | b + 1, h => by
    by_cases e : a = b + 1
    · exact ⟨[], by rw [e]; simp⟩
    · obtain ⟨r, hr⟩ := evG_pre g a b (by omega)
      exact ⟨r ++ evS g b g.ns, by rw [evG, hr, List.append_assoc]⟩
theorem evS_pre (g : Gar) (i a : Nat) : ∀ b, a ≤ b → ∃ r, evS g i b = evS g i a ++ r
  | 0, h => ⟨[], by rw [Nat.le_zero.1 h]; simp⟩
  | b + 1, h => by
    by_cases e : a = b + 1
    · exact ⟨[], by rw [e]; simp⟩
    · obtain ⟨r, hr⟩ := evS_pre g i a b (by omega)
      exact ⟨r ++ (if g.sr b = g.ur i then evQ g i b (pcsOf g i b).length else []), by rw [evS, hr, List.append_assoc]⟩
theorem evQ_pre (g : Gar) (i j a : Nat) : ∀ b, a ≤ b → ∃ r, evQ g i j b = evQ g i j a ++ r
  | 0, h => ⟨[], by rw [Nat.le_zero.1 h]; simp⟩
  | b + 1, h => by
    by_cases e : a = b + 1
    · exact ⟨[], by rw [e]; simp⟩
    · obtain ⟨r, hr⟩ := evQ_pre g i j a b (by omega)
      exact ⟨r ++ [evP g i j b], by rw [evQ, hr, List.append_assoc]⟩
theorem ev_pre {g : Gar} {i j q : Nat} (hi : i < g.nu) (hj : j < g.ns) (hev : evS g i (j + 1) = evS g i j ++ evQ g i j (pcsOf g i j).length) (hq : q < (pcsOf g i j).length) : ∃ rest, evG g g.nu = (evG g i ++ evS g i j ++ evQ g i j q) ++ evP g i j q :: rest := by
  obtain ⟨r1, h1⟩ := evG_pre g (i + 1) g.nu (by omega)
  obtain ⟨r2, h2⟩ := evS_pre g i (j + 1) g.ns (by omega)
  obtain ⟨r3, h3⟩ := evQ_pre g i j (q + 1) (pcsOf g i j).length (by omega)
  rw [evQ] at h3
  rw [h3] at hev
  rw [hev] at h2
  rw [evG, h2] at h1
  exact ⟨r3 ++ r2 ++ r1, by rw [h1]; simp [List.append_assoc]⟩
theorem Had.to {w w' : World} {base B0 : Nat} {g : Gar} {k : Nat} {hd : ByteArray → Hdr} (h : Had w base g k hd) (hb : ∀ q, B0 ≤ q → q < w.heap.size → w'.heap[q]? = w.heap[q]?) (hB : B0 ≤ base) : Had w' base g k hd := by
  refine ⟨fun s => ?_, h.nil⟩
  obtain ⟨h1, h2⟩ := h.row s
  refine ⟨h1, ?_⟩
  rcases h2 with h7 | ⟨q, cap, cur, e1, e2, e3, e4⟩
  · exact Or.inl h7
  · exact Or.inr ⟨q, cap, cur, e1, e2, (hb q (by omega) (lt_of_block e3)).trans e3, e4⟩
theorem StrMap.to {α : Type} {w w' : World} {P : Program} {k : TypeId} {R : Value → Option (DataW Unit × List MemPlace)} {b n : Nat} {dat : α → DataW Unit} {zd : DataW Unit} {f : ByteArray → α} (h : StrMap w P k R b n dat zd f) (hb : w'.heap[b]? = w.heap[b]?) : StrMap w' P k R b n dat zd f := by
  obtain ⟨D, ⟨es, clock, h1, h2⟩, h3⟩ := h.ex
  exact ⟨D, ⟨es, clock, hb.trans h1, h2⟩, h3⟩
theorem pcsOf_of (g : Gar) (i j : Nat) : Pcs.pieces (g.uf i) (g.uf i + g.us i) (Gar.mountsK g (g.sn j) g.nm) = pcsOf g i j := rfl
set_option maxHeartbeats 8000000 in
set_option maxRecDepth 100000 in
theorem eachPiece_any (g : Gar) (a0 a1 a2 a3 : Option Addr) (c0 c1 c2 c3 : Nat) (w : World) (h : GarIn w g a0 a1 a2 a3) (hchk : chk g = 0) (fid : FuncId) (caps : Array Value) (hcf : ∀ args w, Sem.run Try.prog (callFunc fid args) w = .ok (.enter fid args) w)
    (Inv : List Ev → (Nat → Prop) → World → Prop) (hkeep : ∀ done S W W', Inv done S W → Below W.heap.size W W' → Inv done S W')
    (hcall : ∀ (done : List Ev) (S : Nat → Prop) (W : World) (ev : Ev), Inv done S W → (∀ b, S b → b < W.heap.size) → ev.i < g.nu → (∃ rest, evG g g.nu = done ++ ev :: rest) →
      Calls Try.prog fid (#[useAt g ev.i, evV g ev] ++ caps) W fun e W' => e = .returned (.tuple #[]) ∧ ∃ S' : Nat → Prop, Inv (done ++ [ev]) S' W' ∧ (∀ b, S' b → S b ∨ W.heap.size ≤ b) ∧ (∀ b, S' b → b < W'.heap.size) ∧ Kept S W W')
    (S0 : Nat → Prop) (hinv : Inv [] S0 w) (hS0 : ∀ b, S0 b → b < w.heap.size) (hg1 : ∀ b off, a1 = some ⟨b, off, none⟩ → 0 < g.ns → ¬ S0 b) (hg3 : ∀ b off, a3 = some ⟨b, off, none⟩ → 0 < g.nu → ¬ S0 b) :
    Calls Try.prog 59 #[garV g a0 a1 a2 a3 c0 c1 c2 c3, .func (.func fid) #[] caps] w fun e w' => e = .returned (.tuple #[]) ∧ Pr Inv (evG g g.nu) S0 w w' := by
  have HG := Lib.hid h
  have HCF := Lib.hid hcf
  have HKEEP := Lib.hid hkeep
  have HCALL := Lib.hid hcall
  have HG1 := Lib.hid hg1
  have HG3 := Lib.hid hg3
  have hl1 := h.l1
  have hl3 := h.l3
  have HCK := Lib.hid (Gar.chk_parts hchk)
  have hnm := HCK.out.2.2.1
  have HPR := Lib.hid (Pr.start hinv hS0)
  have HUS := Lib.hid (show Try.prog.underlying 9 = some .string by kernel_rfl)
  have HUH := Lib.hid (show Try.prog.underlying 141 = some (.map 9 24) by kernel_rfl)
  have HzH := Lib.hid (show ∀ u : World, (zeroValue 24).run Try.prog u = .ok (.slice none 0 0) u from fun u => by kernel_rfl)
  have DH := Lib.hid (fun (W : World) (hb : Below w.heap.size w W) => had_any g a0 a1 a2 a3 c0 c1 c2 c3 W (HG.out.below hb) hnm)
  clear h hcf hkeep hcall hg1 hg3 hchk hinv hnm
  unfold garV at DH ⊢
  obtain ⟨W0, hW0, hb0, hs0, hl0'⟩ := alloc_cells w #[.slice a0 g.np c0, .slice a1 g.ns c1, .slice a2 g.nm c2, .slice a3 g.nu c3] 27
  have e0 := hl0' 0 _ rfl
  have e1 := hl0' 1 _ rfl
  have e2 := hl0' 2 _ rfl
  have e3 := hl0' 3 _ rfl
  have HB0 := Lib.hid hb0
  have HW0 := Lib.hid hW0
  have hs0' : w.heap.size < W0.heap.size := by omega
  clear hl0' hW0 hb0 hs0
  go_enter Try.func59, Try.ntmps59
  go_upto_region 1 with (fail)
  rw [HW0.out]
  go_wp2_with fail
  refine (DH.out _ HB0.out).mono ?_
  rintro e W ⟨hbW, B, base, hd, rfl, hB0, hBb, hmW, hhW⟩
  have hbw := HB0.out.trans (hbW.mono (Nat.le_of_lt hs0'))
  have HBW := Lib.hid hbw
  have HMW := Lib.hid hmW
  have HHW := Lib.hid hhW
  have hnot : ∀ b, w.heap.size ≤ b → ¬ S0 b := fun b hb hS => by have := hS0 b hS; omega
  have HNOT := Lib.hid hnot
  obtain ⟨S1, hp1, hs1a, hs1b, hs1c⟩ := Pr.rebase HKEEP.out HPR.out HBW.out
  have hn1 : ∀ b, w.heap.size ≤ b → ¬ S1 b := fun b hb hS => by have := hs1a b hS; omega
  have HN1 := Lib.hid hn1
  have hr3 : ∀ b off, a3 = some ⟨b, off, none⟩ → 0 < g.nu → ¬ S1 b := fun b off ha hn => by
    obtain ⟨b', off', h1, h2, _⟩ := HG.out.r3.here hn
    rw [ha] at h1
    injection h1 with h1
    injection h1 with h1 _
    exact hs1b b (by omega) (HG3.out b off ha hn)
  have hr1 : ∀ b off, a1 = some ⟨b, off, none⟩ → 0 < g.ns → b < w.heap.size ∧ ¬ S1 b := fun b off ha hn => by
    obtain ⟨b', off', h1, h2, _⟩ := HG.out.r1.here hn
    rw [ha] at h1
    injection h1 with h1
    injection h1 with h1 _
    exact ⟨by omega, hs1b b (by omega) (HG1.out b off ha hn)⟩
  have HR3 := Lib.hid hr3
  have HR1 := Lib.hid hr1
  have HP1 := Lib.hid hp1
  have HS1C := Lib.hid hs1c
  have f1 := below_cell hbW e1
  have f3 := below_cell hbW e3
  have hwW : w.heap.size < W.heap.size := Nat.lt_of_lt_of_le hs0' hbW.size
  clear hp1 hs1a hs1b hs1c hr3 hr1 hbW hbw hmW hhW hnot HPR e0 e1 e2 e3
  go_wp2_with fail
  go_loopw [16] (fun iv wr => ∃ (i : Nat), iv = .int .i64 i ∧ i ≤ g.nu ∧ Hid (Pr Inv (evG g i) S1 W wr)) (fun iv _ => g.nu - (intOf iv).toNat)
  case atStart => exact ⟨0, rfl, by omega, HP1⟩
  case round =>
    obtain ⟨i, rfl, hi, HP⟩ := hrel
    by_cases hlt : i < g.nu
    · have t1 : decide ((i : Int) < (g.nu : Int)) = true := by rw [decide_eq_true_eq]; omega
      have hk1 := HP.out.kept
      obtain ⟨b, off, rfl, hbl, hc⟩ := (Kept.row (HG.out.r3.below HBW.out (Nat.le_refl _)) hk1 (fun b off e => HR3.out b off e (by omega))).here (by omega)
      have e0 : wr.cell? ⟨b, off + i * 5, none⟩ = some (.string (g.un i)) := hc i hlt 0 (by omega)
      have e1 : wr.cell? ⟨b, off + i * 5 + 1, none⟩ = some (.string (g.ur i)) := hc i hlt 1 (by omega)
      have e2 : wr.cell? ⟨b, off + i * 5 + 2, none⟩ = some (.int .i64 (g.uf i)) := hc i hlt 2 (by omega)
      have e3 : wr.cell? ⟨b, off + i * 5 + 3, none⟩ = some (.int .i64 (g.us i)) := hc i hlt 3 (by omega)
      have e4 : wr.cell? ⟨b, off + i * 5 + 4, none⟩ = some (.int .i64 (g.uw i)) := hc i hlt 4 (by omega)
      obtain ⟨V1, hV1, hvb, hvs, hvq⟩ := alloc_block wr #[.string (g.un i), .string (g.ur i), .int .i64 (g.uf i), .int .i64 (g.us i), .int .i64 (g.uw i)] 38
      obtain ⟨S2, hp2, hs2a, hs2b, hs2c⟩ := Pr.rebase HKEEP.out HP.out hvb
      have hn2 : ∀ b, b < W.heap.size → ¬ S1 b → ¬ S2 b := hs2b
      have g1 : V1.cell? ⟨w.heap.size, 1, none⟩ = some (.slice a1 g.ns c1) := below_cell hvb (hk1.cell (HN1.out _ (Nat.le_refl _)) f1)
      have HV1 := Lib.hid hV1
      have HP2 := Lib.hid hp2
      have HS2C := Lib.hid hs2c
      have HKW : Hid (Kept S1 W V1) := Lib.hid (hk1.trans (Kept.of_below hvb))
      have HN2 := Lib.hid hn2
      have hloc : ¬ S2 wr.heap.size := fun hS => by have := hs2a _ hS; omega
      have HLOC := Lib.hid hloc
      have hvl : wr.heap.size < V1.heap.size := by omega
      have HVQ := Lib.hid hvq
      have hwl : W.heap.size ≤ wr.heap.size := hk1.size
      obtain ⟨p6, hp6⟩ : ∃ p6, wr.heap.size = p6 := ⟨_, rfl⟩
      rw [hp6] at HLOC HVQ hwl hvl
      have HP6E := Lib.hid hp6
      have hur := Gar.use_right HCK.out.2.2.2.2.2.2.2.2 hlt
      have HUR := Lib.hid hur
      clear hc hk1 hV1 hvb hvs hvq hp2 hs2a hs2b hs2c hn2 hloc hur hp6
      go_upto_region 5 with (fail)
      rw [HV1.out, HP6E.out]
      go_wp2_with fail
      clear g1
      go_loopw [23] (fun iv wr => ∃ (j : Nat), iv = .int .i64 j ∧ j ≤ g.ns ∧ Hid (Pr Inv (evG g i ++ evS g i j) S2 V1 wr)) (fun iv _ => g.ns - (intOf iv).toNat)
      case atStart => exact ⟨0, rfl, by omega, Lib.hid (by rw [evS, List.append_nil]; exact HP2.out)⟩
      case round =>
        obtain ⟨j, rfl, hj, HPJ⟩ := hrel
        by_cases hltj : j < g.ns
        · have t2 : decide ((j : Int) < (g.ns : Int)) = true := by rw [decide_eq_true_eq]; omega
          have hkj := HPJ.out.kept
          have hkv : ∀ b, b < W.heap.size → ¬ S1 b → ∀ o, W.heap[b]? = some o → wr.heap[b]? = some o := fun b hb h1 o ho => (hkj.block b (Nat.lt_of_lt_of_le hb HKW.out.size) (HN2.out b hb h1)).trans ((HKW.out.block b hb h1).trans ho)
          obtain ⟨b1, off1, rfl, hbl1, hc1⟩ := HG.out.r1.here (by omega)
          have hbs := HR1.out b1 off1 rfl (by omega)
          have hr1w : ∀ q, q < g.ns → ∀ z, z < 2 → wr.cell? ⟨b1, off1 + q * 2 + z, none⟩ = ([.string (g.sn q), .string (g.sr q)] : List Value)[z]? := fun q hq z hz => by
            have h1 := (HBW.out.block b1 hbl1)
            have h2 := (HKW.out.block b1 (by omega) hbs.2)
            have h3 := (hkj.block b1 (Nat.lt_of_lt_of_le (by omega : b1 < W.heap.size) HKW.out.size) (HN2.out b1 (by omega) hbs.2))
            exact (World.cell?_of_block (h3.trans (h2.trans h1))).trans (hc1 q hq z hz)
          have s0 : wr.cell? ⟨b1, off1 + j * 2, none⟩ = some (.string (g.sn j)) := hr1w j hltj 0 (by omega)
          have s1 : wr.cell? ⟨b1, off1 + j * 2 + 1, none⟩ = some (.string (g.sr j)) := hr1w j hltj 1 (by omega)
          have hbw1 : b1 < wr.heap.size := by
            have h1 := hkj.size
            have h2 := HKW.out.size
            omega
          obtain ⟨V2, hV2, hvb2, hvs2, hvq2⟩ := alloc_block wr #[.string (g.sn j), .string (g.sr j)] 40
          have u0 : ∀ z v, (#[.string (g.un i), .string (g.ur i), .int .i64 (g.uf i), .int .i64 (g.us i), .int .i64 (g.uw i)] : Array Value)[z]? = some v → V2.cell? ⟨p6, z, none⟩ = some v := fun z v hv =>
            below_cell hvb2 (hkj.cell HLOC.out (block_cell HVQ.out hv))
          have x0 := u0 0 _ rfl
          have x1 := u0 1 _ rfl
          have x2 := u0 2 _ rfl
          have x3 := u0 3 _ rfl
          have x4 := u0 4 _ rfl
          have y0 : V2.cell? ⟨wr.heap.size, 0, none⟩ = some (.string (g.sn j)) := block_cell hvq2 rfl
          have y1 : V2.cell? ⟨wr.heap.size, 1, none⟩ = some (.string (g.sr j)) := block_cell hvq2 rfl
          have hse := str_eq (g.sr j) (g.ur i)
          have HV2 := Lib.hid hV2
          have HVB2 := Lib.hid hvb2
          have HKJ := Lib.hid hkj
          clear hV2 hvb2 hvq2 hkv hc1 hr1w u0 hkj
          by_cases hrig : g.sr j = g.ur i
          · rw [show decide (g.sr j = g.ur i) = true by simpa using hrig] at hse
            have hne : ((g.sr j).toList != (g.ur i).toList) = false := by rw [bne, hse]; rfl
            have hev : evS g i (j + 1) = evS g i j ++ evQ g i j (pcsOf g i j).length := by rw [evS, if_pos hrig]
            have HEV := Lib.hid hev
            clear hev hrig
            have hVW : ∀ q, w.heap.size ≤ q → q < W.heap.size → V2.heap[q]? = W.heap[q]? := fun q h1 h2 => by
              have k1 := HKW.out.block q h2 (HN1.out q h1)
              have k2 := HKJ.out.block q (Nat.lt_of_lt_of_le h2 HKW.out.size) (HN2.out q h2 (HN1.out q h1))
              have k3 := HVB2.out.block q (Nat.lt_of_lt_of_le h2 (Nat.le_trans HKW.out.size HKJ.out.size))
              exact k3.trans (k2.trans k1)
            have hhv := HHW.out.to hVW (by omega)
            have hmv := HMW.out.to (hVW B (by omega) HMW.out.lt)
            obtain ⟨am, cm, hval1, hrowk⟩ := hhv.rowK (g.sn j)
            have kS : (Instr.lookup 141 (.map (some B)) (.string (g.sn j)) false).run Try.prog V2 = .ok (hval (hd (g.sn j))) V2 :=
              StrMap.look (val := hval) hmv HUS.out HUH.out (HzH.out _) (zp := []) rfl hdrR_inv (HG.out.z1 j hltj).1
            rw [hval1] at kS
            have hur := HUR.out
            have hln := mnt_len (g := g) (s := g.sn j) g.nm
            have DP := Lib.hid (piecesOf_any (g.un i) (g.ur i) (g.uf i) (g.us i) (g.uw i) (g.sn j) am cm (Gar.mountsK g (g.sn j) g.nm) V2 hrowk (by omega) (by omega) (by omega) (by omega) (by omega) (by omega) (by have := HCK.out.2.2.1; omega) (Gar.ord_mounts HCK.out.2.2.2.2.2.2.1 HCK.out.2.2.2.2.2.2.2.1 (g.sn j) g.nm (Nat.le_refl _)))
            rw [pcsOf_of] at DP
            have hgood : Good (pcsOf g i j) (g.us i) := good_pieces (Gar.ord_mounts HCK.out.2.2.2.2.2.2.1 HCK.out.2.2.2.2.2.2.2.1 (g.sn j) g.nm (Nat.le_refl _)) (by omega)
            have hnl := hgood.len
            have hnl2 : ((pcsOf g i j).length : Int) ≤ 1000000 := by omega
            unfold useV at DP
            clear hhv hmv hval1 hrowk hur hln hVW hgood hnl hne
            go_upto_region 8 with (fail)
            rw [HV2.out]
            go_wp2_with fail
            refine DP.out.mono ?_
            rintro e w3 ⟨gq, capq, rfl, hgq, hrow, hbp⟩
            have hb23 := below_step HVB2.out hbp
            obtain ⟨S4, hp4, hs4a, hs4b, hs4c⟩ := Pr.rebase HKEEP.out HPJ.out hb23
            have v0 := below_cell hbp x0
            have v1 := below_cell hbp x1
            have v2 := below_cell hbp x2
            have v3 := below_cell hbp x3
            have v4 := below_cell hbp x4
            have hl6 : ¬ S4 p6 := hs4b p6 hvl HLOC.out
            have hlq : ¬ S4 gq := fun hS => by have := hs4a gq hS; omega
            have HL6 := Lib.hid hl6
            have HLQ := Lib.hid hlq
            have HP4 := Lib.hid hp4
            have HS4C := Lib.hid hs4c
            have HROW := Lib.hid hrow
            clear hb23 hp4 hs4a hs4b hs4c hl6 hlq hrow hbp kS x0 x1 x2 x3 x4 y0 y1 s0 s1 hse DP
            go_wp2_with fail
            go_loopw [41] (fun iv wr => ∃ (q : Nat), iv = .int .i64 q ∧ q ≤ (pcsOf g i j).length ∧ Hid (Pr Inv (evG g i ++ evS g i j ++ evQ g i j q) S4 w3 wr)) (fun iv _ => (pcsOf g i j).length - (intOf iv).toNat)
            case atStart => exact ⟨0, rfl, by omega, Lib.hid (by rw [evQ, List.append_nil]; exact HP4.out)⟩
            case round =>
              obtain ⟨q, rfl, hq, HPQ⟩ := hrel
              by_cases hltq : q < (pcsOf g i j).length
              · have t3 : decide ((q : Int) < ((pcsOf g i j).length : Int)) = true := by rw [decide_eq_true_eq]; omega
                have t3' : decide (q < (pcsOf g i j).length) = true := by simpa using hltq
                have hk3 := HPQ.out.kept
                have hrq := Kept.row HROW.out hk3 (fun b off e => by injection e with e; injection e with e _; subst e; exact HLQ.out)
                have hz : ∀ z v, z < 5 → (pcellW (g.un i) (g.sn j) (pget (pcsOf g i j) q) (wayG (g.uw i) (g.us i) (secW (pcsOf g i j)) (pcsOf g i j).length q))[z]? = some v → wr.cell? ⟨gq, q * 5 + z, none⟩ = some v := fun z v hz hv => by
                  have h6 := hrq.at hltq hz
                  rw [Nat.zero_add] at h6
                  rw [h6, hv]
                have z0 : wr.cell? ⟨gq, q * 5, none⟩ = some (.string (g.un i)) := hz 0 _ (by omega) rfl
                have z1 : wr.cell? ⟨gq, q * 5 + 1, none⟩ = some (.string (g.sn j)) := hz 1 _ (by omega) rfl
                have z2 : wr.cell? ⟨gq, q * 5 + 2, none⟩ = some (.string (pget (pcsOf g i j) q).1) := hz 2 _ (by omega) rfl
                have z3 : wr.cell? ⟨gq, q * 5 + 3, none⟩ = some (.int .i64 (pget (pcsOf g i j) q).2) := hz 3 _ (by omega) rfl
                have z4 : wr.cell? ⟨gq, q * 5 + 4, none⟩ = some (.int .i64 (wayG (g.uw i) (g.us i) (secW (pcsOf g i j)) (pcsOf g i j).length q)) := hz 4 _ (by omega) rfl
                have hevq : evG g i ++ evS g i j ++ evQ g i j (q + 1) = (evG g i ++ evS g i j ++ evQ g i j q) ++ [evP g i j q] := by rw [evQ, ← List.append_assoc]
                have HEVQ := Lib.hid hevq
                obtain ⟨Wc, hWc, hwb, hws, hwq⟩ := alloc_block wr #[.string (g.un i), .string (g.sn j), .string (pget (pcsOf g i j) q).1, .int .i64 (pget (pcsOf g i j) q).2, .int .i64 (wayG (g.uw i) (g.us i) (secW (pcsOf g i j)) (pcsOf g i j).length q)] 42
                obtain ⟨S5, hi5, hs5, hc5⟩ := Pr.told HKEEP.out HPQ.out hwb
                have DC := Lib.hid (HCALL.out _ S5 Wc (evP g i j q) hi5 hs5 hlt (ev_pre hlt hltj HEV.out hltq))
                unfold useAt useV evV evP at DC
                have HC5 := Lib.hid hc5
                have HWC := Lib.hid hWc
                have m0 := below_cell hwb (hk3.cell HL6.out v0)
                have m1 := below_cell hwb (hk3.cell HL6.out v1)
                have m2 := below_cell hwb (hk3.cell HL6.out v2)
                have m3 := below_cell hwb (hk3.cell HL6.out v3)
                have m4 := below_cell hwb (hk3.cell HL6.out v4)
                have n0 : Wc.cell? ⟨wr.heap.size, 0, none⟩ = some (.string (g.un i)) := block_cell hwq rfl
                have n1 : Wc.cell? ⟨wr.heap.size, 1, none⟩ = some (.string (g.sn j)) := block_cell hwq rfl
                have n2 : Wc.cell? ⟨wr.heap.size, 2, none⟩ = some (.string (pget (pcsOf g i j) q).1) := block_cell hwq rfl
                have n3 : Wc.cell? ⟨wr.heap.size, 3, none⟩ = some (.int .i64 (pget (pcsOf g i j) q).2) := block_cell hwq rfl
                have n4 : Wc.cell? ⟨wr.heap.size, 4, none⟩ = some (.int .i64 (wayG (g.uw i) (g.us i) (secW (pcsOf g i j)) (pcsOf g i j).length q)) := block_cell hwq rfl
                have hbgq : gq < wr.heap.size := (hrq.here (by omega)).elim fun b h => h.elim fun off h => by obtain ⟨h1, h2, _⟩ := h; injection h1 with h1; injection h1 with h1 _; omega
                have hcf := HCF.out
                clear hk3 hrq hz hevq hWc hwb hwq hi5 hs5 hc5
                go_upto_region 12 with (fail)
                rw [HWC.out]
                go_wp2_with fail
                refine DC.out.mono ?_
                rintro e w5 ⟨rfl, S6, g1, g2, g3, gk⟩
                have HPN := Lib.hid (HC5.out _ S6 w5 g1 g2 g3 gk)
                clear g1 g2 g3 gk hcf
                go_wp2_with fail
                go_roundw
                case rel => exact ⟨q + 1, by go_num, by omega, Lib.hid (by rw [HEVQ.out]; exact HPN.out)⟩
                case measure => simp [intOf]; omega
              · have t3 : decide ((q : Int) < ((pcsOf g i j).length : Int)) = false := by rw [decide_eq_false_iff_not]; omega
                have t3' : decide (q < (pcsOf g i j).length) = false := by simpa using hltq
                obtain rfl : q = (pcsOf g i j).length := by omega
                clear hltq
                go_wp2_with fail
                go_roundw
                case rel => exact ⟨j + 1, by go_num, by omega, Lib.hid (by rw [HEV.out, ← List.append_assoc]; exact HS4C.out _ _ HPQ.out)⟩
                case measure => simp [intOf]; omega
          · rw [show decide (g.sr j = g.ur i) = false by simpa using hrig] at hse
            have hne : ((g.sr j).toList != (g.ur i).toList) = true := by rw [bne, hse]; rfl
            have hev : evS g i (j + 1) = evS g i j := by rw [evS, if_neg hrig, List.append_nil]
            have HEV := Lib.hid hev
            clear hev hrig
            go_upto_region 8 with (fail)
            rw [HV2.out]
            go_wp2_with fail
            go_roundw
            case rel => exact ⟨j + 1, by go_num, by omega, Lib.hid (by rw [HEV.out]; exact Pr.below HKEEP.out HPJ.out HVB2.out)⟩
            case measure => simp [intOf]; omega
        · have t2 : decide ((j : Int) < (g.ns : Int)) = false := by rw [decide_eq_false_iff_not]; omega
          have t2' : decide (j < g.ns) = false := by simpa using hltj
          obtain rfl : j = g.ns := by omega
          clear hltj
          go_wp2_with fail
          go_roundw
          case rel => exact ⟨i + 1, by go_num, by omega, Lib.hid (by rw [evG]; exact HS2C.out _ _ HPJ.out)⟩
          case measure => simp [intOf]; omega
    · have t1 : decide ((i : Int) < (g.nu : Int)) = false := by rw [decide_eq_false_iff_not]; omega
      have t1' : decide (i < g.nu) = false := by simpa using hlt
      obtain rfl : i = g.nu := by omega
      clear hlt
      go_wp2_with fail
      go_end0
      exact ⟨rfl, HS1C.out _ _ HP.out⟩
end Go.Proofs.Ytbkpoepacjinlaa

/- An append to a row of the call's own: where the new row lies (the old block, or a new one). -/
namespace Go.Proofs.Ytbkpoepacjinlaa
open Go.RowKit

theorem append_where {P : Program} (w : World) (base : Nat) (t ty e : TypeId) (i : TypeInfo) (z : Value) (size bytes : Nat) (ht : P.underlying t = some (.slice e)) (hi : P.info? e = some i) (hz : i.zero = some z)
    (hsize : i.size = size) (hby : i.bytes = bytes) (hsz : 0 < size) (v : Value) (n : Nat) (xs : List Value) (hown : w.ownsRow base e size v n xs)
    (a : Addr) (m c : Nat) (news : List Value) (hl : news.length = m * size) (hnews : ∀ j u, news[j]? = some u → w.cell? (a.add j) = some u) (h1 : ∀ u ∈ news, u.oneCell' = true) (hm : 0 < m)
    (h63 : n + m ≤ maxLen) (hbytes : (n + m) * bytes ≤ 140737488355328) :
    ∃ v' w', (Builtin.append_ #[t, t] ty #[v, .slice (some a) m c]).run P w = .ok v' w' ∧ (v'.ownBlock = v.ownBlock ∨ v'.ownBlock = some w.heap.size) := by
  subst hsize
  subst hby
  have hsmall : n + m ≤ 9223372036854775807 := by simp only [maxLen] at h63; omega
  rcases hown.2 with ⟨rfl, rfl⟩ | ⟨g, cap, cur, rfl, _, hg, hnc, _, hcs, _⟩
  · exact ⟨_, _, run_append_nil w t ty e i z ht hi hz a m c news hl hnews hm (by omega) (by have hb := hbytes; simp only [Nat.zero_add] at hb; omega), Or.inr rfl⟩
  · by_cases hroom : n + m ≤ cap
    · have hfit : n * i.size + news.length ≤ cur.size := by rw [hl, hcs, ← Nat.add_mul]; exact Nat.mul_le_mul_right _ hroom
      exact ⟨_, _, run_append_room w t ty e i ht hi g n cap cur hg a m c news hl hnews h1 hroom hfit, Or.inl rfl⟩
    · have holds : ∀ j u, xs[j]? = some u → w.cell? ((⟨g, 0, none⟩ : Addr).add j) = some u := hown.cells (g := g) rfl
      exact ⟨_, _, run_append_grow w t ty e i z ht hi hz ⟨g, 0, none⟩ n cap xs hown.1 holds a m c news hl hnews (by omega) (by omega) (growslice_fits (by omega) hbytes), Or.inr rfl⟩
theorem wpList_append_where {P : Program} (w : World) {ops : Array Oper} {rest : List Oper} {o : Oper} {a : Act} {Q : Exit → Act → World → Prop} (hgd : o.guard = none) (s x : Operand) (t : TypeId)
    (ho : o.op = .call { callee := .builtin .append, args := #[s, x], argTypes := #[t, t] })
    (base : Nat) (e : TypeId) (i : TypeInfo) (z : Value) (size bytes : Nat) (ht : P.underlying t = some (.slice e)) (hi : P.info? e = some i) (hz : i.zero = some z)
    (hsize : i.size = size) (hby : i.bytes = bytes) (hzs : z.cells.size = size) (hsz : 0 < size)
    (v : Value) (n : Nat) (xs : List Value) (hs : a.eval s = v) (hown : w.ownsRow base e size v n xs)
    (ad : Addr) (m c : Nat) (news : List Value) (hx : a.eval x = .slice (some ad) m c) (hm : 0 < m) (hl : news.length = m * size) (hnews : ∀ j u, news[j]? = some u → w.cell? (ad.add j) = some u) (h1 : ∀ u ∈ news, u.oneCell' = true)
    (h63 : n + m ≤ maxLen) (hbytes : (n + m) * bytes ≤ 140737488355328) (hbase : base ≤ w.heap.size)
    (h : ∀ v' w', w'.ownsRow base e size v' (n + m) (xs ++ news) → w.grownBy w' v.ownBlock → (v'.ownBlock = v.ownBlock ∨ v'.ownBlock = some w.heap.size) → wpList P ops Q rest (a.put o.dst v') w') : wpList P ops Q (o :: rest) a w := by
  refine wpList_plain hgd fun K hK => ?_
  obtain ⟨v', w', hr, h2, h3, _⟩ := run_append_own (P := P) w base t o.type e i z size bytes ht hi hz hsize hby hzs hsz v n xs hown ad m c news hl hnews h1 h63 hbytes hbase
  obtain ⟨v2, w2, hr2, h4⟩ := append_where (P := P) w base t o.type e i z size bytes ht hi hz hsize hby hsz v n xs hown ad m c news hl hnews h1 hm h63 hbytes
  rw [hr] at hr2
  injection hr2 with e1 e2
  subst e1
  unfold Oper.wp execOp
  simp only [ho, resolve, invoke, builtin, Sem.run_bind, Sem.run_pure, Result.andThen_ok, List.map_toArray, List.map_cons, List.map_nil, hs, hx, hr]
  exact hK _ _ (h v' w' h2 h3 h4)
end Go.Proofs.Ytbkpoepacjinlaa

/- Gear: Pieces of the program. -/
namespace Go.Proofs.Ytbkpoepacjinlaa
open Go.RowKit Go.BigFrame
open Gar (chk)

/-- the cells of a piece that was told -/
def evC (g : Gar) (e : Ev) : List Value := [.string (g.un e.i), .string e.s, .string e.p, .int .i64 e.sec, .int .i64 e.way]
def evCs (g : Gar) (l : List Ev) : List Value := l.flatMap (evC g)
theorem evQ_len (g : Gar) (i j : Nat) : ∀ n, (evQ g i j n).length = n
  | 0 => rfl
  | n + 1 => by rw [evQ, List.length_append, evQ_len g i j n]; rfl
theorem evS_len {g : Gar} (h : chk g = 0) {i : Nat} (hi : i < g.nu) (j : Nat) : (evS g i j).length ≤ j * 1000000 := by
  induction j with
  | zero => exact Nat.zero_le _
  | succ j ih =>
    obtain ⟨_, _, _, _, _, _, hm, ho, hu⟩ := Gar.chk_parts h
    have hur := Gar.use_right hu hi
    have hg : Good (pcsOf g i j) (g.us i) := good_pieces (Gar.ord_mounts hm ho (g.sn j) g.nm (Nat.le_refl _)) (by omega)
    have hl := hg.len
    rw [evS, List.length_append]
    split
    · rw [evQ_len]; omega
    · rw [List.length_nil, Nat.add_zero]
      exact Nat.le_trans ih (Nat.mul_le_mul_right _ (Nat.le_succ j))
theorem evG_le {g : Gar} {M : Nat} (hM : ∀ i, i < g.nu → (evS g i g.ns).length ≤ M) : ∀ i, i ≤ g.nu → (evG g i).length ≤ i * M
  | 0, _ => Nat.zero_le _
  | i + 1, hi => by
    have ih := evG_le hM i (by omega)
    have h1 := hM i (by omega)
    rw [evG, List.length_append, Nat.succ_mul]
    omega
theorem evG_len {g : Gar} (h : chk g = 0) (i : Nat) (hi : i ≤ g.nu) : (evG g i).length ≤ i * 100000000 :=
  evG_le (fun i hi => by
    have h1 := evS_len h hi g.ns
    have h2 := (Gar.chk_parts h).2.1
    omega) i hi
/-- what Pieces' closure keeps: the row that it appends to -/
def PInv (g : Gar) (base c : Nat) (done : List Ev) (S : Nat → Prop) (W : World) : Prop :=
  ∃ v, W.heap[c]? = some (.cells #[v] 34 (0, 0)) ∧ W.ownsRow base 42 5 v done.length (evCs g done) ∧ (∀ b, S b ↔ (b = c ∨ v.ownBlock = some b)) ∧ c < base ∧ base ≤ W.heap.size
theorem PInv.keep {g : Gar} {base c : Nat} (done : List Ev) (S : Nat → Prop) (W W' : World) (h : PInv g base c done S W) (hb : Below W.heap.size W W') : PInv g base c done S W' := by
  obtain ⟨v, h1, h2, h3, h4, h5⟩ := h
  exact ⟨v, below_block hb h1, h2.kept (row := none) ⟨hb.os, hb.tape, hb.output, hb.size, fun k hk _ => hb.block k hk⟩ (by cases v.ownBlock <;> simp), h3, h4, Nat.le_trans h5 hb.size⟩
set_option maxHeartbeats 2000000 in
set_option maxRecDepth 100000 in
theorem piecesCl_any (g : Gar) (base c : Nat) (done : List Ev) (S : Nat → Prop) (W : World) (ev : Ev) (h : PInv g base c done S W) (hn : done.length ≤ 1000000000000) :
    Calls Try.prog 60 (#[useAt g ev.i, evV g ev] ++ #[.pointer (some ⟨c, 0, none⟩)]) W fun e W' => e = .returned (.tuple #[]) ∧ ∃ S' : Nat → Prop, PInv g base c (done ++ [ev]) S' W' ∧ (∀ b, S' b → S b ∨ W.heap.size ≤ b) ∧ (∀ b, S' b → b < W'.heap.size) ∧ Kept S W W' := by
  obtain ⟨v, hv, ho, hS, hcb, hbW⟩ := h
  unfold useAt useV evV
  obtain ⟨W1, hW1, hb1, hs1, _⟩ := alloc_block W #[.string (g.un ev.i), .string (g.ur ev.i), .int .i64 (g.uf ev.i), .int .i64 (g.us ev.i), .int .i64 (g.uw ev.i)] 38
  obtain ⟨W2, hW2, hb2, hs2, hq2⟩ := alloc_block W1 #[.string (g.un ev.i), .string ev.s, .string ev.p, .int .i64 ev.sec, .int .i64 ev.way] 42
  have hb12 := below_step hb1 hb2
  have hv2 := below_block hb12 hv
  have ho2 : W2.ownsRow base 42 5 v done.length (evCs g done) := ho.kept (row := none) ⟨hb12.os, hb12.tape, hb12.output, hb12.size, fun k hk _ => hb12.block k hk⟩ (by cases v.ownBlock <;> simp)
  have k0 := cell_of_one hv2
  have l0 : W2.cell? ⟨W1.heap.size, 0, none⟩ = some (.string (g.un ev.i)) := block_cell hq2 rfl
  have l1 : W2.cell? ⟨W1.heap.size, 1, none⟩ = some (.string ev.s) := block_cell hq2 rfl
  have l2 : W2.cell? ⟨W1.heap.size, 2, none⟩ = some (.string ev.p) := block_cell hq2 rfl
  have l3 : W2.cell? ⟨W1.heap.size, 3, none⟩ = some (.int .i64 ev.sec) := block_cell hq2 rfl
  have l4 : W2.cell? ⟨W1.heap.size, 4, none⟩ = some (.int .i64 ev.way) := block_cell hq2 rfl
  obtain ⟨i0, hi0, hz0, hz1, hz2⟩ := info_parts (show (Try.prog.info? 42).map (fun i => (i.zero, i.size, i.bytes)) = some (some (.agg #[.string ⟨#[]⟩, .string ⟨#[]⟩, .string ⟨#[]⟩, .int .i64 0, .int .i64 0]), 5, 64) by kernel_rfl)
  have HI0 := Lib.hid hi0
  have HZ0 := Lib.hid hz0
  have HZ1 := Lib.hid hz1
  have HZ2 := Lib.hid hz2
  have HU := Lib.hid (show Try.prog.underlying 34 = some (.slice 42) by kernel_rfl)
  have HO2 := Lib.hid ho2
  have HV2 := Lib.hid hv2
  have HB12 := Lib.hid hb12
  have HS := Lib.hid hS
  have HO := Lib.hid ho
  have HE12 : Hid (((W.alloc (.cells #[.string (g.un ev.i), .string (g.ur ev.i), .int .i64 (g.uf ev.i), .int .i64 (g.us ev.i), .int .i64 (g.uw ev.i)] 38)).alloc (.cells #[.string (g.un ev.i), .string ev.s, .string ev.p, .int .i64 ev.sec, .int .i64 ev.way] 42)) = W2) := Lib.hid (by rw [hW1, hW2])
  have HE1 : Hid (W.heap.size + 1 = W1.heap.size) := Lib.hid hs1.symm
  have hbW2 : base ≤ W2.heap.size := Nat.le_trans hbW hb12.size
  have hcW : c < W.heap.size := lt_of_block hv
  clear hi0 hz0 hz1 hz2 ho2 hv2 hb12 hS ho hv hW1 hW2 hb1 hb2 hq2 hs2 hs1
  go_enter Try.func60, Try.ntmps60
  go_upto_region 1 with (fail)
  rw [HE12.out, HE1.out]
  go_wp2_with (at_builtin; refine wpList_append_where _ rfl (.tmp 5) (.tmp 7) 34 rfl base 42 i0 (.agg #[.string ⟨#[]⟩, .string ⟨#[]⟩, .string ⟨#[]⟩, .int .i64 0, .int .i64 0]) 5 64 HU.out HI0.out HZ0.out HZ1.out HZ2.out rfl (by decide) v done.length (evCs g done) rfl (HO2.out.alloc _) ⟨W2.heap.size, 0, none⟩ 1 1 (evC g ev) rfl (by decide) rfl ?c1 ?c2 ?c3 ?c4 ?c5 ?_)
  case c1 =>
    intro j u hu
    rw [addr_add0, World.cell?_alloc_at _ _ _ _ rfl]
    simpa [evC] using hu
  case c2 =>
    intro u hu
    simp only [evC, List.mem_cons, List.not_mem_nil, or_false] at hu
    rcases hu with rfl | rfl | rfl | rfl | rfl <;> rfl
  case c3 => unfold maxLen; omega
  case c4 => omega
  case c5 => simp; omega
  intro v' w1 hown1 hg1 hwhere
  obtain ⟨g', cap', rfl, _, hgl⟩ := hown1.form (by omega)
  have hnc : ¬ some c = v.ownBlock := fun e => by have := (HO.out.lt c e.symm).1; omega
  have hk1 : Kept S W w1 := (Kept.of_below (HB12.out.trans ((below_al W2 _).mono HB12.out.size))).grown hg1 (fun q hq _ => (HS.out q).2 (Or.inr hq))
  have b0 : w1.heap[c]? = some (.cells #[v] 34 (0, 0)) := (hg1.block c (by simp; have := lt_of_block HV2.out; omega) hnc).trans (below_block (below_al W2 _) HV2.out)
  have k0' := cell_of_one b0
  have f0 := free_of_one b0
  have HOWN := Lib.hid hown1
  have HK1 := Lib.hid hk1
  have HB0 := Lib.hid b0
  have HWH := Lib.hid hwhere
  clear hown1 hg1 hk1 b0 k0 l0 l1 l2 l3 l4 hwhere hnc
  go_wp2_with fail
  go_end0
  refine ⟨rfl, fun b => b = c ∨ g' = b, ⟨_, one_setCell HB0.out, ?_, fun b => by simp [Value.ownBlock], hcb, ?_⟩, ?_, ?_, kept_set HK1.out ((HS.out c).2 (Or.inl rfl)) _⟩
  · rw [List.length_append, show evCs g (done ++ [ev]) = evCs g done ++ evC g ev by simp [evCs]]
    exact ownsRow_setCell_other HOWN.out (by simp [Value.ownBlock]; intro e; have := (HOWN.out.lt g' rfl).1; omega) _
  · exact Nat.le_trans (Nat.le_trans hbW HK1.out.size) (by simp [World.setCell])
  · intro b hb
    rcases hb with rfl | rfl
    · exact Or.inl ((HS.out b).2 (Or.inl rfl))
    · rcases HWH.out with e | e
      · exact Or.inl ((HS.out _).2 (Or.inr (by rw [← e]; rfl)))
      · simp [Value.ownBlock] at e
        have := HB12.out.size
        exact Or.inr (by omega)
  · intro b hb
    have : (w1.setCell ⟨c, 0, none⟩ (.slice (some ⟨g', 0, none⟩) (done.length + 1) cap')).heap.size = w1.heap.size := by simp [World.setCell]
    rw [this]
    rcases hb with rfl | rfl
    · exact lt_of_block HB0.out
    · exact hgl
set_option maxHeartbeats 2000000 in
set_option maxRecDepth 100000 in
/-- Pieces: of a garage that is not right nothing; else all pieces, in a row of its own -/
theorem gPieces_any (g : Gar) (a0 a1 a2 a3 : Option Addr) (c0 c1 c2 c3 : Nat) (w : World) (h : GarIn w g a0 a1 a2 a3) :
    Calls Try.prog 18 #[garV g a0 a1 a2 a3 c0 c1 c2 c3] w fun e w' => Below w.heap.size w w' ∧
      ((chk g ≠ 0 ∧ e = .returned (.tuple #[.slice none 0 0, .int .i64 (chk g)])) ∨ (chk g = 0 ∧ ∃ v base, w.heap.size ≤ base ∧ e = .returned (.tuple #[v, .int .i64 0]) ∧ w'.ownsRow base 42 5 v (evG g g.nu).length (evCs g (evG g g.nu)))) := by
  have HG := Lib.hid h
  have DC0 := Lib.hid (fun (W : World) (hb : Below w.heap.size w W) => gCheck_any g a0 a1 a2 a3 c0 c1 c2 c3 W (HG.out.below hb))
  unfold garV at DC0 ⊢
  have hmf : ∀ fn first cap w, (Instr.makeFunc fn first cap).run Try.prog w = .ok (.func fn first cap) w := fun _ _ _ _ => rfl
  obtain ⟨W0, hW0, hb0, hs0, hl0'⟩ := alloc_cells w #[.slice a0 g.np c0, .slice a1 g.ns c1, .slice a2 g.nm c2, .slice a3 g.nu c3] 27
  have G0 := Ext.ex (hl0' 0 _ rfl)
  have G1 := Ext.ex (hl0' 1 _ rfl)
  have G2 := Ext.ex (hl0' 2 _ rfl)
  have G3 := Ext.ex (hl0' 3 _ rfl)
  have HW0 := Lib.hid hW0
  have HB0 := Lib.hid hb0
  have hs0' : w.heap.size ≤ W0.heap.size := by omega
  have DC := Lib.hid (fun (Y : Ext W0) => DC0.out Y.1 (Y.down HB0.out hs0'))
  clear hl0' hW0 hb0 hs0 DC0 h
  by_cases hc : chk g = 0
  · have HC := Lib.hid hc
    rw [hc] at DC
    clear hc
    go_enter Try.func18, Try.ntmps18
    go_upto_region 1 with (fail)
    rw [HW0.out]
    refine ext_wp fun X => ?_
    go_wp2_with fail
    refine (Ext.calls _ (DC.out _)).mono ?_
    rintro e w2 ⟨rfl, Y, rfl⟩
    have g0 := G0 Y
    have g1 := G1 Y
    have g2 := G2 Y
    have g3 := G3 Y
    have hy := Y.down HB0.out hs0'
    obtain ⟨y, hyy⟩ : ∃ y, Y.1 = y := ⟨_, rfl⟩
    rw [hyy] at g0 g1 g2 g3 hy ⊢
    clear hyy Y G0 G1 G2 G3 DC
    obtain ⟨W1, hW1, hb1, hs1, hq1⟩ := alloc_block y #[.slice none 0 0] 34
    have hyw : w.heap.size ≤ y.heap.size := hy.size
    have k0 := below_cell hb1 g0
    have k1 := below_cell hb1 g1
    have k2 := below_cell hb1 g2
    have k3 := below_cell hb1 g3
    have hw1 : Below w.heap.size w W1 := hy.trans (hb1.mono hyw)
    have HLE := Lib.hid (evG_len HC.out g.nu (Nat.le_refl _))
    have hnu := (Gar.chk_parts HC.out).2.2.2.1
    have hblk : ∀ (a : Option Addr) (b off : Nat) {len kk : Nat} {V : Nat → List Value}, RowK w a len kk V → a = some ⟨b, off, none⟩ → 0 < len → ¬ b = y.heap.size := fun a b off {len kk V} hr ha hl => by
      obtain ⟨b', off', h1, h2, _⟩ := hr.here hl
      rw [ha] at h1
      injection h1 with h1
      injection h1 with h1 _
      omega
    have DE := eachPiece_any g a0 a1 a2 a3 c0 c1 c2 c3 W1 (HG.out.below hw1) HC.out 60 #[.pointer (some ⟨y.heap.size, 0, none⟩)] (fun _ _ => rfl) (PInv g W1.heap.size y.heap.size) (fun done S W W' => PInv.keep done S W W')
      (fun done S W ev hi _ _ hp => piecesCl_any g W1.heap.size y.heap.size done S W ev hi (by
        obtain ⟨rest, hr⟩ := hp
        have := congrArg List.length hr
        rw [List.length_append] at this
        have := HLE.out
        omega)) (fun b => b = y.heap.size)
      ⟨.slice none 0 0, hq1, World.ownsRow_nil _ _ _ _, fun b => by simp [Value.ownBlock], by omega, Nat.le_refl _⟩ (fun b hb => by omega) (fun b off ha hl => hblk a1 b off HG.out.r1 ha hl) (fun b off ha hl => hblk a3 b off HG.out.r3 ha hl)
    unfold garV at DE
    have HDE := Lib.hid DE
    have HW1 := Lib.hid hW1
    have HWW := Lib.hid hw1
    have hc0 : y.heap.size < W1.heap.size := by omega
    clear DE hW1 hb1 hs1 hq1 g0 g1 g2 g3 hy hw1 hblk
    go_upto_region 5 with (fail)
    rw [HW1.out]
    go_wp2_with fail
    refine HDE.out.mono ?_
    rintro e w3 ⟨rfl, hpr⟩
    obtain ⟨S, ⟨v, h1, h2, h3, h4, h5⟩, _, _⟩ := hpr.ex
    have hk3 := cell_of_one h1
    have HF := Lib.hid (Kept.below HWW.out hpr.kept HWW.out.size (fun k hk => by omega))
    have H2 := Lib.hid h2
    clear hpr h1 h2 h3 h4 h5
    go_wp2_with fail
    go_ret2
    exact ⟨HF.out, Or.inr ⟨HC.out, v, W1.heap.size, HWW.out.size, rfl, H2.out⟩⟩
  · have HC := Lib.hid hc
    have n1 : (chk g != 0) = true := by rw [bne_iff_ne]; exact hc
    clear hc
    go_enter Try.func18, Try.ntmps18
    go_upto_region 1 with (fail)
    rw [HW0.out]
    refine ext_wp fun X => ?_
    go_wp2_with fail
    refine (Ext.calls _ (DC.out _)).mono ?_
    rintro e w2 ⟨rfl, Y, rfl⟩
    go_wp2_with fail
    go_ret2
    exact ⟨Y.down HB0.out hs0', Or.inl ⟨HC.out, rfl⟩⟩
end Go.Proofs.Ytbkpoepacjinlaa

/- Gear: the small garage of the laws. -/
namespace Go.Proofs.Ytbkpoepacjinlaa
open Go.RowKit Go.BigFrame
open Gar (chk)

def bs (l : List UInt8) : ByteArray := ⟨l.toArray⟩
/-- the small garage -/
def smallG : Gar where
  np := 2
  ns := 1
  nm := 2
  nu := 1
  pn i := if i = 0 then bs [99, 49] else bs [99, 50]
  pc i := if i = 0 then 100 else 0
  sn _ := bs [99, 104, 97, 105, 110]
  sr _ := bs [98, 105, 107, 101]
  ms _ := bs [99, 104, 97, 105, 110]
  mp i := if i = 0 then bs [99, 49] else bs [99, 50]
  mf i := if i = 0 then 0 else 1000
  mt i := if i = 0 then 1000 else -1
  un _ := bs [117]
  ur _ := bs [98, 105, 107, 101]
  uf _ := 900
  us _ := 200
  uw _ := 1001
set_option maxHeartbeats 2000000 in
set_option maxRecDepth 100000 in
theorem small_any (w : World) : Calls Try.prog 58 #[] w fun e w' => ∃ a0 a1 a2 a3 c0 c1 c2 c3, e = .returned (garV smallG a0 a1 a2 a3 c0 c1 c2 c3) ∧ GarIn w' smallG a0 a1 a2 a3 ∧ Below w.heap.size w w' := by
  obtain ⟨V0, h0, b0, s0, q0⟩ := alloc_block w #[.slice (some ⟨w.heap.size + 1, 0, none⟩) 2 2, .slice (some ⟨w.heap.size + 1 + 1, 0, none⟩) 1 1, .slice (some ⟨w.heap.size + 1 + 1 + 1, 0, none⟩) 2 2, .slice (some ⟨w.heap.size + 1 + 1 + 1 + 1, 0, none⟩) 1 1] 27
  obtain ⟨V1, h1, b1, s1, q1⟩ := alloc_block V0 #[.string ⟨#[99, 49]⟩, .int .i64 100, .string ⟨#[99, 50]⟩, .int .i64 0] 94
  obtain ⟨V2, h2, b2, s2, q2⟩ := alloc_block V1 #[.string ⟨#[99, 104, 97, 105, 110]⟩, .string ⟨#[98, 105, 107, 101]⟩] 40
  obtain ⟨V3, h3, b3, s3, q3⟩ := alloc_block V2 #[.string ⟨#[99, 104, 97, 105, 110]⟩, .string ⟨#[99, 49]⟩, .int .i64 0, .int .i64 1000, .string ⟨#[99, 104, 97, 105, 110]⟩, .string ⟨#[99, 50]⟩, .int .i64 1000, .int .i64 (-1)] 54
  obtain ⟨V4, h4, b4, s4, q4⟩ := alloc_block V3 #[.string ⟨#[117]⟩, .string ⟨#[98, 105, 107, 101]⟩, .int .i64 900, .int .i64 200, .int .i64 1001] 38
  have HE : Hid (((((w.alloc (.cells #[.slice (some ⟨w.heap.size + 1, 0, none⟩) 2 2, .slice (some ⟨w.heap.size + 1 + 1, 0, none⟩) 1 1, .slice (some ⟨w.heap.size + 1 + 1 + 1, 0, none⟩) 2 2, .slice (some ⟨w.heap.size + 1 + 1 + 1 + 1, 0, none⟩) 1 1] 27)).alloc (.cells #[.string ⟨#[99, 49]⟩, .int .i64 100, .string ⟨#[99, 50]⟩, .int .i64 0] 94)).alloc (.cells #[.string ⟨#[99, 104, 97, 105, 110]⟩, .string ⟨#[98, 105, 107, 101]⟩] 40)).alloc (.cells #[.string ⟨#[99, 104, 97, 105, 110]⟩, .string ⟨#[99, 49]⟩, .int .i64 0, .int .i64 1000, .string ⟨#[99, 104, 97, 105, 110]⟩, .string ⟨#[99, 50]⟩, .int .i64 1000, .int .i64 (-1)] 54)).alloc (.cells #[.string ⟨#[117]⟩, .string ⟨#[98, 105, 107, 101]⟩, .int .i64 900, .int .i64 200, .int .i64 1001] 38) = V4) := Lib.hid (by rw [h0, h1, h2, h3, h4])
  have r0 := below_block b4 (below_block b3 (below_block b2 (below_block b1 q0)))
  have r1 := below_block b4 (below_block b3 (below_block b2 q1))
  have r2 := below_block b4 (below_block b3 q2)
  have r3 := below_block b4 q3
  rw [s0] at r1 s1
  rw [s1] at r2 s2
  rw [s2] at r3 s3
  rw [s3] at q4 s4
  have hb : Below w.heap.size w V4 := b0.trans ((b1.mono (by omega)).trans ((b2.mono (by omega)).trans ((b3.mono (by omega)).trans (b4.mono (by omega)))))
  have g0 : V4.cell? ⟨w.heap.size, 0, none⟩ = some (.slice (some ⟨w.heap.size + 1, 0, none⟩) 2 2) := block_cell r0 rfl
  have g1 : V4.cell? ⟨w.heap.size, 1, none⟩ = some (.slice (some ⟨w.heap.size + 1 + 1, 0, none⟩) 1 1) := block_cell r0 rfl
  have g2 : V4.cell? ⟨w.heap.size, 2, none⟩ = some (.slice (some ⟨w.heap.size + 1 + 1 + 1, 0, none⟩) 2 2) := block_cell r0 rfl
  have g3 : V4.cell? ⟨w.heap.size, 3, none⟩ = some (.slice (some ⟨w.heap.size + 1 + 1 + 1 + 1, 0, none⟩) 1 1) := block_cell r0 rfl
  have HGI : Hid (GarIn V4 smallG (some ⟨w.heap.size + 1, 0, none⟩) (some ⟨w.heap.size + 1 + 1, 0, none⟩) (some ⟨w.heap.size + 1 + 1 + 1, 0, none⟩) (some ⟨w.heap.size + 1 + 1 + 1 + 1, 0, none⟩)) := Lib.hid
    ⟨⟨fun _ => ⟨_, 0, rfl, lt_of_block r1, fun i hi j hj => by
        have hi : i < 2 := hi
        match i, hi, j, hj with
        | 0, _, 0, _ => exact block_cell r1 rfl
        | 0, _, 1, _ => exact block_cell r1 rfl
        | 1, _, 0, _ => exact block_cell r1 rfl
        | 1, _, 1, _ => exact block_cell r1 rfl⟩⟩,
     ⟨fun _ => ⟨_, 0, rfl, lt_of_block r2, fun i hi j hj => by
        have hi : i < 1 := hi
        match i, hi, j, hj with
        | 0, _, 0, _ => exact block_cell r2 rfl
        | 0, _, 1, _ => exact block_cell r2 rfl⟩⟩,
     ⟨fun _ => ⟨_, 0, rfl, lt_of_block r3, fun i hi j hj => by
        have hi : i < 2 := hi
        match i, hi, j, hj with
        | 0, _, 0, _ => exact block_cell r3 rfl
        | 0, _, 1, _ => exact block_cell r3 rfl
        | 0, _, 2, _ => exact block_cell r3 rfl
        | 0, _, 3, _ => exact block_cell r3 rfl
        | 1, _, 0, _ => exact block_cell r3 rfl
        | 1, _, 1, _ => exact block_cell r3 rfl
        | 1, _, 2, _ => exact block_cell r3 rfl
        | 1, _, 3, _ => exact block_cell r3 rfl⟩⟩,
     ⟨fun _ => ⟨_, 0, rfl, lt_of_block q4, fun i hi j hj => by
        have hi : i < 1 := hi
        match i, hi, j, hj with
        | 0, _, 0, _ => exact block_cell q4 rfl
        | 0, _, 1, _ => exact block_cell q4 rfl
        | 0, _, 2, _ => exact block_cell q4 rfl
        | 0, _, 3, _ => exact block_cell q4 rfl
        | 0, _, 4, _ => exact block_cell q4 rfl⟩⟩,
     fun i _ => by show (if i = 0 then bs [99, 49] else bs [99, 50]).size ≤ maxLen; split <;> decide, fun _ _ => by show (bs [99, 104, 97, 105, 110]).size ≤ maxLen ∧ (bs [98, 105, 107, 101]).size ≤ maxLen; decide, fun i _ => ⟨by show (bs [99, 104, 97, 105, 110]).size ≤ maxLen; decide, by show (if i = 0 then bs [99, 49] else bs [99, 50]).size ≤ maxLen; split <;> decide⟩, fun _ _ => by show (bs [117]).size ≤ maxLen ∧ (bs [98, 105, 107, 101]).size ≤ maxLen; decide, by decide, by decide, by decide, by decide⟩
  have HB := Lib.hid hb
  clear hb h0 h1 h2 h3 h4 b0 b1 b2 b3 b4 s0 s1 s2 s3 s4 q0 q1 q2 q3 q4 r0 r1 r2 r3
  go_enter Try.func58, Try.ntmps58
  go_wp2_with fail
  rw [HE.out]
  exact bodyPost_ret (v := .agg #[.slice (some ⟨w.heap.size + 1, 0, none⟩) 2 2, .slice (some ⟨w.heap.size + 1 + 1, 0, none⟩) 1 1, .slice (some ⟨w.heap.size + 1 + 1 + 1, 0, none⟩) 2 2, .slice (some ⟨w.heap.size + 1 + 1 + 1 + 1, 0, none⟩) 1 1]) (by simp [results, Try.results58, go_sem, g0, g1, g2, g3]) rfl ⟨_, _, _, _, 2, 1, 2, 1, rfl, HGI.out, HB.out⟩
end Go.Proofs.Ytbkpoepacjinlaa

/- Gear: two rows of pieces are equal (the library's Equal at pieces). -/
namespace Go.Proofs.Ytbkpoepacjinlaa
open Go.RowKit Go.BigFrame

/-- a row of pieces, as functions -/
structure PRow where
  n : Nat
  u : Nat → ByteArray
  s : Nat → ByteArray
  p : Nat → ByteArray
  c : Nat → Int
  y : Nat → Int
def PRow.cells (r : PRow) (i : Nat) : List Value := [.string (r.u i), .string (r.s i), .string (r.p i), .int .i64 (r.c i), .int .i64 (r.y i)]
def PRow.eqAt (r q : PRow) (i : Nat) : Bool := decide (r.u i = q.u i) && decide (r.s i = q.s i) && decide (r.p i = q.p i) && decide (r.c i = q.c i) && decide (r.y i = q.y i)
def PRow.eq (r q : PRow) : Bool := decide (r.n = q.n) && (List.range r.n).all fun i => r.eqAt q i
set_option maxHeartbeats 2000000 in
theorem eqPiece (a b c a' b' c' : ByteArray) (d e d' e' : Int) (w : World) :
    (Op.equalIn 10000 42 (.agg #[.string a, .string b, .string c, .int .i64 d, .int .i64 e]) (.agg #[.string a', .string b', .string c', .int .i64 d', .int .i64 e'])).run Try.prog w = .ok (decide (a = a') && decide (b = b') && decide (c = c') && decide (d = d') && decide (e = e')) w := by
  have u3 := Try.underlying3
  have a3 := Try.isAgg3
  have z3 := Try.sizeOf3
  have u9 := Try.underlying9
  have a9 := Try.isAgg9
  have z9 := Try.sizeOf9
  have hS : Try.prog.underlying 42 = some (.struct (Try.prog.fieldsOf 42)) := by kernel_rfl
  have hp : Try.prog.stoodInHeld 42 = false := by kernel_rfl
  have h1 := str_eq a a'
  have h2 := str_eq b b'
  have h3 := str_eq c c'
  rw [show (10000 : Nat) = 9999 + 1 from rfl, run_equalIn_agg w 9999 42 _ _ hS hp]
  simp only [Program.fieldsOf, Try.underlying42]
  generalize decide (a = a') = b1 at h1 ⊢
  generalize decide (b = b') = b2 at h2 ⊢
  generalize decide (c = c') = b3 at h3 ⊢
  have h4 : (d == d') = decide (d = d') := rfl
  have h5 : (e == e') = decide (e = e') := rfl
  generalize decide (d = d') = b4 at h4 ⊢
  generalize decide (e = e') = b5 at h5 ⊢
  cases b1 <;> cases b2 <;> cases b3 <;> cases b4 <;> cases b5 <;> go_simp
set_option maxHeartbeats 2000000 in
set_option maxRecDepth 100000 in
theorem equalP_any (r q : PRow) (a b : Option Addr) (c d : Nat) (w : World) (hr : RowK w a r.n 5 r.cells) (hq : RowK w b q.n 5 q.cells) (hl : (r.n : Int) ≤ 9223372036854775807) (hl' : (q.n : Int) ≤ 9223372036854775807) :
    Calls Try.prog 30 #[.slice a r.n c, .slice b q.n d] w fun e w' => e = .returned (.bool (r.eq q)) ∧ ∃ m, w' = w.drewN m := by
  by_cases hn : r.n = q.n
  · have hneq : ((r.n : Int) != (q.n : Int)) = false := by rw [hn]; simp
    have HR := Lib.hid hr
    have HQ := Lib.hid hq
    have HN := Lib.hid hn
    clear hr hq hn
    go_enter Try.func30, Try.ntmps30
    go_wp2_with fail
    go_loopw [13] (fun iv wr => ∃ (k : Nat), iv = .int .i64 k ∧ k ≤ r.n ∧ (∃ m, wr = w.drewN m) ∧ Hid (∀ i, i < k → r.eqAt q i = true)) (fun iv _ => r.n - (intOf iv).toNat)
    case atStart => exact ⟨0, rfl, by omega, ⟨0, rfl⟩, Lib.hid (fun i hi => by omega)⟩
    case round =>
      obtain ⟨k, rfl, hk, ⟨m, rfl⟩, HE⟩ := hrel
      by_cases hlt : k < r.n
      · have t1 : decide ((k : Int) < (r.n : Int)) = true := by rw [decide_eq_true_eq]; omega
        have t1' : decide (k < r.n) = true := by simpa using hlt
        have hkq : k < q.n := by have := HN.out; omega
        have t2 : (k : Int) < (q.n : Int) := by omega
        obtain ⟨b1, o1, rfl, hb1, hc1⟩ := HR.out.here (by omega)
        obtain ⟨b2, o2, rfl, hb2, hc2⟩ := HQ.out.here (by omega)
        have e0 : w.cell? ⟨b1, o1 + k * 5, none⟩ = some (.string (r.u k)) := hc1 k hlt 0 (by omega)
        have e1 : w.cell? ⟨b1, o1 + k * 5 + 1, none⟩ = some (.string (r.s k)) := hc1 k hlt 1 (by omega)
        have e2 : w.cell? ⟨b1, o1 + k * 5 + 2, none⟩ = some (.string (r.p k)) := hc1 k hlt 2 (by omega)
        have e3 : w.cell? ⟨b1, o1 + k * 5 + 3, none⟩ = some (.int .i64 (r.c k)) := hc1 k hlt 3 (by omega)
        have e4 : w.cell? ⟨b1, o1 + k * 5 + 4, none⟩ = some (.int .i64 (r.y k)) := hc1 k hlt 4 (by omega)
        have f0 : w.cell? ⟨b2, o2 + k * 5, none⟩ = some (.string (q.u k)) := hc2 k hkq 0 (by omega)
        have f1 : w.cell? ⟨b2, o2 + k * 5 + 1, none⟩ = some (.string (q.s k)) := hc2 k hkq 1 (by omega)
        have f2 : w.cell? ⟨b2, o2 + k * 5 + 2, none⟩ = some (.string (q.p k)) := hc2 k hkq 2 (by omega)
        have f3 : w.cell? ⟨b2, o2 + k * 5 + 3, none⟩ = some (.int .i64 (q.c k)) := hc2 k hkq 3 (by omega)
        have f4 : w.cell? ⟨b2, o2 + k * 5 + 4, none⟩ = some (.int .i64 (q.y k)) := hc2 k hkq 4 (by omega)
        clear hc1 hc2
        have hgd : Try.prog.eqGuardType Try.prog.depth 42 = false := by kernel_rfl
        have hq : ∀ W, (Op.equalIn 10000 42 (.agg #[.string (r.u k), .string (r.s k), .string (r.p k), .int .i64 (r.c k), .int .i64 (r.y k)]) (.agg #[.string (q.u k), .string (q.s k), .string (q.p k), .int .i64 (q.c k), .int .i64 (q.y k)])).run Try.prog W = .ok (r.eqAt q k) W := fun W => eqPiece _ _ _ _ _ _ _ _ _ _ W
        cases hb : r.eqAt q k
        · rw [hb] at hq
          have HF : Hid (r.eq q = false) := Lib.hid (by
            unfold PRow.eq
            rw [Bool.and_eq_false_iff]
            exact Or.inr (by rw [List.all_eq_false]; exact ⟨k, List.mem_range.2 hlt, by rw [hb]; simp⟩))
          clear hb
          go_wp2_with fail
          go_quiet (fail)
          go_wp2_with fail
          go_ret
          exact ⟨ret_bool HF.out.symm, m + nq, by rw [World.drewN_drewN]⟩
        · rw [hb] at hq
          have HE2 : Hid (∀ i, i < k + 1 → r.eqAt q i = true) := Lib.hid (fun i hi => by
            by_cases e : i = k
            · subst e; exact hb
            · exact HE.out i (by omega))
          clear hb
          go_wp2_with fail
          go_quiet (fail)
          go_wp2_with fail
          go_roundw
          case rel => exact ⟨k + 1, by go_num, by omega, ⟨_, rfl⟩, HE2⟩
          case measure => simp [intOf]; omega
      · have t1 : decide ((k : Int) < (r.n : Int)) = false := by rw [decide_eq_false_iff_not]; omega
        have t1' : decide (k < r.n) = false := by simpa using hlt
        have HF : Hid (r.eq q = true) := Lib.hid (by
          unfold PRow.eq
          rw [Bool.and_eq_true, decide_eq_true_eq, List.all_eq_true]
          exact ⟨HN.out, fun i hi => HE.out i (by have := List.mem_range.1 hi; omega)⟩)
        clear hlt
        go_wp2_with fail
        go_ret
        exact ⟨ret_bool HF.out.symm, _, rfl⟩
  · have hneq : ((r.n : Int) != (q.n : Int)) = true := by rw [bne_iff_ne]; omega
    go_enter Try.func30, Try.ntmps30
    go_wp2_with fail
    go_ret
    exact ⟨ret_bool (by unfold PRow.eq; simp [hn]), 0, rfl⟩
end Go.Proofs.Ytbkpoepacjinlaa

/- Gear: the small garage has the pieces that are told. -/
namespace Go.Proofs.Ytbkpoepacjinlaa
open Go.RowKit Go.BigFrame
open Gar (chk)

theorem small_chk : chk smallG = 0 := by kernel_rfl
def smallL : List Pcs.Pc := [(bs [99, 49], 100), (bs [99, 50], 100)]
theorem small_pcs : pcsOf smallG 0 0 = smallL := by kernel_rfl
theorem small_ord : ordL (Shr.rst 1001 200 (secW smallL)) 2 = [0, 1] := by
  refine Shr.IsOrd.unique (ordL_ord _ _) ⟨List.Perm.refl _, ?_⟩
  refine List.Pairwise.cons (fun b hb => ?_) (List.Pairwise.cons (fun b hb => by simp at hb) List.Pairwise.nil)
  simp only [List.mem_singleton] at hb
  subst hb
  exact Or.inr ⟨by kernel_rfl, by decide⟩
theorem small_way (i : Nat) (h : i = 0 ∨ i = 1) : wayG 1001 200 (secW smallL) 2 i = if i = 0 then 501 else 500 := by
  unfold wayG
  rw [small_ord]
  rcases h with rfl | rfl
  · kernel_rfl
  · kernel_rfl
theorem small_evs : evG smallG smallG.nu = [⟨0, bs [99, 104, 97, 105, 110], bs [99, 49], 100, 501⟩, ⟨0, bs [99, 104, 97, 105, 110], bs [99, 50], 100, 500⟩] := by
  show evG smallG 1 = _
  rw [evG, evG, List.nil_append]
  show evS smallG 0 1 = _
  rw [evS, evS, List.nil_append, if_pos (by rfl), small_pcs]
  show evQ smallG 0 0 2 = _
  rw [evQ, evQ, evQ]
  simp only [List.nil_append, List.singleton_append, evP, small_pcs]
  have h0 := small_way 0 (Or.inl rfl)
  have h1 := small_way 1 (Or.inr rfl)
  rw [show wayG (smallG.uw 0) (smallG.us 0) (secW smallL) smallL.length 0 = 501 from h0, show wayG (smallG.uw 0) (smallG.us 0) (secW smallL) smallL.length 1 = 500 from h1]
  rfl
def smallR : PRow where
  n := 2
  u _ := bs [117]
  s _ := bs [99, 104, 97, 105, 110]
  p i := if i = 0 then bs [99, 49] else bs [99, 50]
  c _ := 100
  y i := if i = 0 then 501 else 500
theorem small_cells : evCs smallG (evG smallG smallG.nu) = [.string (bs [117]), .string (bs [99, 104, 97, 105, 110]), .string (bs [99, 49]), .int .i64 100, .int .i64 501, .string (bs [117]), .string (bs [99, 104, 97, 105, 110]), .string (bs [99, 50]), .int .i64 100, .int .i64 500] := by
  rw [small_evs]
  rfl
theorem smallR_row {w : World} {g : Nat} (h : ∀ j u, ([.string (bs [117]), .string (bs [99, 104, 97, 105, 110]), .string (bs [99, 49]), .int .i64 100, .int .i64 501, .string (bs [117]), .string (bs [99, 104, 97, 105, 110]), .string (bs [99, 50]), .int .i64 100, .int .i64 500] : List Value)[j]? = some u → w.cell? ⟨g, j, none⟩ = some u) (hl : g < w.heap.size) : RowK w (some ⟨g, 0, none⟩) smallR.n 5 smallR.cells :=
  ⟨fun _ => ⟨g, 0, rfl, hl, fun i hi j hj => by
    have hi : i < 2 := hi
    match i, hi, j, hj with
    | 0, _, 0, _ => exact h 0 _ rfl
    | 0, _, 1, _ => exact h 1 _ rfl
    | 0, _, 2, _ => exact h 2 _ rfl
    | 0, _, 3, _ => exact h 3 _ rfl
    | 0, _, 4, _ => exact h 4 _ rfl
    | 1, _, 0, _ => exact h 5 _ rfl
    | 1, _, 1, _ => exact h 6 _ rfl
    | 1, _, 2, _ => exact h 7 _ rfl
    | 1, _, 3, _ => exact h 8 _ rfl
    | 1, _, 4, _ => exact h 9 _ rfl⟩⟩
theorem smallR_eq : smallR.eq smallR = true := by kernel_rfl
set_option maxHeartbeats 2000000 in
set_option maxRecDepth 100000 in
theorem told_any (w : World) : Calls Try.prog 17 #[] w fun e w' => e = .returned (.bool true) ∧ Below w.heap.size w w' := by
  have HS := Lib.hid (small_any w)
  go_enter Try.func17, Try.ntmps17
  go_wp2_with fail
  refine HS.out.mono ?_
  rintro e w1 ⟨a0, a1, a2, a3, c0, c1, c2, c3, rfl, hg, hb⟩
  have HP := Lib.hid (gPieces_any smallG a0 a1 a2 a3 c0 c1 c2 c3 w1 hg)
  have HB := Lib.hid hb
  clear hg hb HS
  unfold garV at HP ⊢
  go_wp2_with fail
  refine HP.out.mono ?_
  rintro e w2 ⟨hb2, hcase⟩
  have HB2 := Lib.hid (HB.out.trans (hb2.mono HB.out.size))
  clear hb2
  rcases hcase with ⟨hne, _⟩ | ⟨_, v, base, hbase, rfl, hown⟩
  · exact absurd small_chk hne
  rw [small_cells, show (evG smallG smallG.nu).length = 2 by rw [small_evs]; rfl] at hown
  obtain ⟨g, cap, rfl, hg1, hg2⟩ := hown.form (by omega)
  have HR : Hid (RowK w2 (some ⟨g, 0, none⟩) smallR.n 5 smallR.cells) := Lib.hid (smallR_row (fun j u hu => by
    have := hown.cells (g := g) rfl j u hu
    rwa [addr_add0] at this) hg2)
  clear hown
  obtain ⟨W, hW, hbW, hsW, hqW⟩ := alloc_block w2 #[.string ⟨#[117]⟩, .string ⟨#[99, 104, 97, 105, 110]⟩, .string ⟨#[99, 49]⟩, .int .i64 100, .int .i64 501, .string ⟨#[117]⟩, .string ⟨#[99, 104, 97, 105, 110]⟩, .string ⟨#[99, 50]⟩, .int .i64 100, .int .i64 500] 42
  have HE := Lib.hid (equalP_any smallR smallR (some ⟨g, 0, none⟩) (some ⟨w2.heap.size, 0, none⟩) cap 2 W (HR.out.below hbW (Nat.le_refl _)) (smallR_row (fun j u hu => block_cell hqW (by rw [← Array.getElem?_toList]; exact hu)) (by omega)) (by decide) (by decide))
  rw [smallR_eq] at HE
  have HW := Lib.hid hW
  have HBW := Lib.hid (HB2.out.trans (hbW.mono HB2.out.size))
  clear hW hbW hsW hqW
  go_wp2_with fail
  rw [HW.out]
  refine HE.out.mono ?_
  rintro e w3 ⟨rfl, m, rfl⟩
  go_wp2_with fail
  go_ret
  exact ⟨rfl, below_drewN HBW.out m⟩
end Go.Proofs.Ytbkpoepacjinlaa

/- Gear: what the pieces say of a moment (plain laws for GearPiecesFollowMounts). -/
namespace Go.Proofs.Ytbkpoepacjinlaa
open Go.RowKit Go.BigFrame
open Gar (chk chkS momG endG)

theorem less_irr : ∀ a : List UInt8, Op.bytesLess a a = false
  | [] => rfl
  | a :: l => by simp [Op.bytesLess, less_irr l]
theorem less_trans : ∀ a b c : List UInt8, Op.bytesLess a b = true → Op.bytesLess b c = true → Op.bytesLess a c = true
  | _, _, [], _, h => by cases h2 : Op.bytesLess _ [] <;> simp_all [Op.bytesLess]
  | _, [], _ :: _, h, _ => by simp [Op.bytesLess] at h
  | [], _ :: _, _ :: _, _, _ => rfl
  | a :: x, b :: y, c :: z, h1, h2 => by
    simp only [Op.bytesLess, Bool.or_eq_true, Bool.and_eq_true, decide_eq_true_eq, beq_iff_eq] at h1 h2 ⊢
    rcases h1 with h1 | ⟨rfl, h1⟩
    · rcases h2 with h2 | ⟨rfl, h2⟩
      · exact Or.inl (UInt8.lt_trans h1 h2)
      · exact Or.inl h1
    · rcases h2 with h2 | ⟨rfl, h2⟩
      · exact Or.inl h2
      · exact Or.inr ⟨rfl, less_trans x y z h1 h2⟩
end Go.Proofs.Ytbkpoepacjinlaa

/- Gear: the part at a moment, as In finds it. -/
namespace Go.Proofs.Ytbkpoepacjinlaa
open Go.RowKit Go.BigFrame
open Gar (chk mountsK)

end Go.Proofs.Ytbkpoepacjinlaa

/- Gear: the law's walk of the pieces, as a state (plain laws for GearPiecesFollowMounts). -/
namespace Go.Proofs.Ytbkpoepacjinlaa
open Go.RowKit Go.BigFrame
open Gar (chk momG hasS)

end Go.Proofs.Ytbkpoepacjinlaa

/- Gear: how much a part was used, in plain lists. -/
namespace Go.Proofs.Ytbkpoepacjinlaa
open Go.RowKit Go.BigFrame
open Gar (chk)
open Shr (sumF quo rst)

/-- how much a part was used: seconds, way, uses; the last use -/
structure WSt where
  sec : Int
  way : Int
  uses : Int
  last : ByteArray
def wearE (g : Gar) (part : ByteArray) (f t : Int) (st : WSt) (e : Ev) : WSt :=
  if e.p = part ∧ f ≤ g.uf e.i ∧ g.uf e.i < t then ⟨st.sec + e.sec, st.way + e.way, if g.un e.i = st.last then st.uses else st.uses + 1, g.un e.i⟩ else st
def wear0 : WSt := ⟨0, 0, 0, ⟨#[]⟩⟩
def wearL (g : Gar) (part : ByteArray) (f t : Int) (l : List Ev) : WSt := l.foldl (wearE g part f t) wear0
end Go.Proofs.Ytbkpoepacjinlaa

/- Gear: how much a part was used (program). -/
namespace Go.Proofs.Ytbkpoepacjinlaa
open Go.RowKit Go.BigFrame
open Gar (chk)

theorem cells_setCell {w : World} {b i : Nat} {cs : Array Value} {u : Value} {t : TypeId} (h : w.heap[b]? = some (.cells cs t (0, 0))) : (w.setCell ⟨b, i, none⟩ u).heap[b]? = some (.cells (cs.setIfInBounds i u) t (0, 0)) := by
  have hlt := lt_of_block h
  have h' : w.heap[b] = .cells cs t (0, 0) := by simpa [Array.getElem?_eq_getElem hlt] using h
  show (w.heap.modify b _)[b]? = _
  rw [Array.getElem?_eq_getElem (by simpa using hlt), Array.getElem_modify_self, h']
  rfl
theorem block_free {w : World} {b i : Nat} {cs : Array Value} {T : TypeId} (h : w.heap[b]? = some (.cells cs T (0, 0))) : w.frozen? ⟨b, i, none⟩ = false := by simp [World.frozen?, h]
def wearV (st : WSt) : Array Value := #[.int .i64 st.sec, .int .i64 st.way, .int .i64 st.uses]
/-- what wearOf's closure has captured -/
structure WInv (g : Gar) (part : ByteArray) (f t : Int) (B : Nat) (done : List Ev) (S : Nat → Prop) (W : World) : Prop where
  hp : W.heap[B + 1]? = some (.cells #[.string part] 9 (0, 0))
  hf : W.heap[B + 2]? = some (.cells #[.int .i64 f] 3 (0, 0))
  ht : W.heap[B + 3]? = some (.cells #[.int .i64 t] 3 (0, 0))
  hw : W.heap[B + 5]? = some (.cells (wearV (wearL g part f t done)) 60 (0, 0))
  hl : W.heap[B + 6]? = some (.cells #[.string (wearL g part f t done).last] 9 (0, 0))
  hS : ∀ b, S b ↔ b = B + 5 ∨ b = B + 6
theorem WInv.keep {g : Gar} {part : ByteArray} {f t : Int} {B : Nat} (done : List Ev) (S : Nat → Prop) (W W' : World) (h : WInv g part f t B done S W) (hb : Below W.heap.size W W') : WInv g part f t B done S W' :=
  ⟨below_block hb h.hp, below_block hb h.hf, below_block hb h.ht, below_block hb h.hw, below_block hb h.hl, h.hS⟩
theorem WInv.end {g : Gar} {part : ByteArray} {f t : Int} {B : Nat} {done : List Ev} {S : Nat → Prop} {W W2 W3 : World} (hb : Below W.heap.size W W2) (hS : ∀ b, S b ↔ b = B + 5 ∨ b = B + 6)
    (hp : W2.heap[B + 1]? = some (.cells #[.string part] 9 (0, 0))) (hf : W2.heap[B + 2]? = some (.cells #[.int .i64 f] 3 (0, 0))) (ht : W2.heap[B + 3]? = some (.cells #[.int .i64 t] 3 (0, 0)))
    (hk : ∀ b, b ≠ B + 5 → b ≠ B + 6 → W3.heap[b]? = W2.heap[b]?) (hsz : W3.heap.size = W2.heap.size) (hos : W3.os = W2.os) (htp : W3.tape = W2.tape) (hou : W3.output = W2.output)
    (hw : W3.heap[B + 5]? = some (.cells (wearV (wearL g part f t done)) 60 (0, 0))) (hl : W3.heap[B + 6]? = some (.cells #[.string (wearL g part f t done).last] 9 (0, 0))) :
    ∃ S' : Nat → Prop, WInv g part f t B done S' W3 ∧ (∀ b, S' b → S b ∨ W.heap.size ≤ b) ∧ (∀ b, S' b → b < W3.heap.size) ∧ Kept S W W3 := by
  refine ⟨S, ⟨(hk _ (by omega) (by omega)).trans hp, (hk _ (by omega) (by omega)).trans hf, (hk _ (by omega) (by omega)).trans ht, hw, hl, hS⟩, fun b h => Or.inl h, fun b h => ?_, ⟨hos.trans hb.os, htp.trans hb.tape, hou.trans hb.output, by rw [hsz]; exact hb.size, fun b h1 h2 => ?_⟩⟩
  · rcases (hS b).1 h with rfl | rfl
    · exact lt_of_block hw
    · exact lt_of_block hl
  · exact (hk b (fun e => h2 ((hS b).2 (Or.inl e))) (fun e => h2 ((hS b).2 (Or.inr e)))).trans (hb.block b h1)
end Go.Proofs.Ytbkpoepacjinlaa

/- Gear: wearOf of the program. -/
namespace Go.Proofs.Ytbkpoepacjinlaa
open Go.RowKit Go.BigFrame
open Gar (chk)

theorem allocs_below : ∀ (l : List Obj) (w : World), Below w.heap.size w (l.foldl World.alloc w) ∧ (l.foldl World.alloc w).heap.size = w.heap.size + l.length
  | [], w => ⟨Below.refl _ _, rfl⟩
  | o :: l, w => by
    obtain ⟨h1, h2⟩ := allocs_below l (w.alloc o)
    rw [List.foldl_cons]
    refine ⟨below_step (below_al w o) h1, ?_⟩
    rw [h2, World.size_alloc, List.length_cons]
    omega
theorem allocs_at : ∀ (l : List Obj) (w : World) (k : Nat) (o : Obj), l[k]? = some o → (l.foldl World.alloc w).heap[w.heap.size + k]? = some o
  | [], w, k, o, h => by simp at h
  | o' :: l, w, 0, o, h => by
    rw [List.foldl_cons]
    have : o' = o := by simpa using h
    subst this
    exact below_block (allocs_below l (w.alloc o')).1 (heap_alloc_new w o')
  | o' :: l, w, k + 1, o, h => by
    rw [List.foldl_cons]
    have := allocs_at l (w.alloc o') k o (by simpa using h)
    rw [World.size_alloc] at this
    rwa [show w.heap.size + (k + 1) = w.heap.size + 1 + k by omega]
/-- the world behind some allocations, under one name -/
theorem allocs (w : World) (l : List Obj) : ∃ V, l.foldl World.alloc w = V ∧ Below w.heap.size w V ∧ V.heap.size = w.heap.size + l.length ∧ ∀ k o, l[k]? = some o → V.heap[w.heap.size + k]? = some o :=
  ⟨_, rfl, (allocs_below l w).1, (allocs_below l w).2, fun k o h => allocs_at l w k o h⟩
end Go.Proofs.Ytbkpoepacjinlaa

/- Gear: IndexFunc and ContainsFunc over mounts; when a part was served (program). -/
namespace Go.Proofs.Ytbkpoepacjinlaa
open Go.RowKit Go.BigFrame
open Gar (chk momG hasS hasP)

/-- a row of services; a row of plans -/
structure Servs where
  n : Nat
  p : Nat → ByteArray
  t : Nat → Int
structure Cares where
  n : Nat
  s : Nat → ByteArray
  w : Nat → Int
  d : Nat → Int
def Servs.cells (v : Servs) (i : Nat) : List Value := [.string (v.p i), .int .i64 (v.t i)]
def Cares.cells (c : Cares) (i : Nat) : List Value := [.string (c.s i), .int .i64 (c.w i), .int .i64 (c.d i)]
end Go.Proofs.Ytbkpoepacjinlaa

/- Gear: checkCare of the program. -/
namespace Go.Proofs.Ytbkpoepacjinlaa
open Go.RowKit Go.BigFrame
open Gar (chk momG hasS hasP)

theorem ge_not_lt (z : Int) : decide (0 ≤ z) = !decide (z < 0) := by
  rw [Bool.eq_iff_iff]
  simp
theorem hasS_ge (g : Gar) (s : ByteArray) : decide (0 ≤ idxF (fun i => decide (g.sn i = s)) g.ns 0) = hasS g s := by rw [ge_not_lt, hasS_idx, Bool.not_not]
theorem hasP_ge (g : Gar) (s : ByteArray) : decide (0 ≤ idxF (fun i => decide (g.pn i = s)) g.np 0) = hasP g s := by rw [ge_not_lt, hasP_idx, Bool.not_not]
theorem hasS_at' (g : Gar) (a0 a1 a2 a3 : Option Addr) (c0 c1 c2 c3 : Nat) (name : ByteArray) (w : World) (h : GarIn w g a0 a1 a2 a3) :
    Calls Try.prog 43 #[garV g a0 a1 a2 a3 c0 c1 c2 c3, .string name] w fun e w' => e = .returned (.bool (hasS g name)) ∧ Below w.heap.size w w' := by
  have := hasS_any g a0 a1 a2 a3 c0 c1 c2 c3 name w h
  rwa [hasS_ge] at this
theorem hasP_at' (g : Gar) (a0 a1 a2 a3 : Option Addr) (c0 c1 c2 c3 : Nat) (name : ByteArray) (w : World) (h : GarIn w g a0 a1 a2 a3) :
    Calls Try.prog 66 #[garV g a0 a1 a2 a3 c0 c1 c2 c3, .string name] w fun e w' => e = .returned (.bool (hasP g name)) ∧ Below w.heap.size w w' := by
  have := hasP_any g a0 a1 a2 a3 c0 c1 c2 c3 name w h
  rwa [hasP_ge] at this

end Go.Proofs.Ytbkpoepacjinlaa

/- A row of a call's own in a loop that appends to it: what is kept (tools). -/
namespace Go.Proofs.Ytbkpoepacjinlaa
open Go.RowKit Go.BigFrame

theorem ownsRow_below {W W' : World} {base e k n : Nat} {v : Value} {xs : List Value} (h : W.ownsRow base e k v n xs) (hb : Below W.heap.size W W') : W'.ownsRow base e k v n xs :=
  h.kept (row := none) ⟨hb.os, hb.tape, hb.output, hb.size, fun k hk _ => hb.block k hk⟩ (by cases v.ownBlock <;> simp)
/-- the row v, which began as v0 in the world V: whatever else was there is kept -/
structure OwnR (V wr : World) (base e k : Nat) (v0 v : Value) (n : Nat) (xs : List Value) : Prop where
  own : wr.ownsRow base e k v n xs
  kept : Kept (fun b => v0.ownBlock = some b) V wr
  lies : ∀ b, v.ownBlock = some b → v0.ownBlock = some b ∨ V.heap.size ≤ b
section
variable {V wr wr' : World} {base e k n : Nat} {v0 v : Value} {xs : List Value}
theorem OwnR.start (h : V.ownsRow base e k v n xs) : OwnR V V base e k v v n xs := ⟨h, Kept.refl _ _, fun _ h => Or.inl h⟩
theorem OwnR.below (h : OwnR V wr base e k v0 v n xs) (hb : Below wr.heap.size wr wr') : OwnR V wr' base e k v0 v n xs := ⟨ownsRow_below h.own hb, h.kept.trans (Kept.of_below hb), h.lies⟩
theorem OwnR.append {W2 w' : World} {v' : Value} {n' : Nat} {xs' : List Value} (h : OwnR V wr base e k v0 v n xs) (hb : Below wr.heap.size wr W2) (ho : w'.ownsRow base e k v' n' xs') (hg : W2.grownBy w' v.ownBlock) (hw : v'.ownBlock = v.ownBlock ∨ v'.ownBlock = some W2.heap.size) :
    OwnR V w' base e k v0 v' n' xs' := by
  refine ⟨ho, (h.kept.trans (Kept.of_below hb)).grown hg (fun q hq hl => (h.lies q hq).elim id (fun h => by omega)), fun b hb' => ?_⟩
  rcases hw with e | e
  · exact h.lies b (by rw [← e]; exact hb')
  · rw [e] at hb'
    injection hb' with hb'
    exact Or.inr (by have := h.kept.size; have := hb.size; omega)
theorem OwnR.down {n0 B : Nat} {xs0 : List Value} (h : OwnR V wr base e k v0 v n xs) {w : World} (hb : Below B w V) (hB : B ≤ V.heap.size) (hBb : B ≤ base) (ho : V.ownsRow base e k v0 n0 xs0) : Below B w wr :=
  Kept.below hb h.kept hB (fun b hb1 e => by have := (ho.lt b e).1; omega)
theorem OwnR.row (h : OwnR V wr base e k v0 v n xs) {a : Option Addr} {len kk : Nat} {R : Nat → List Value} (hr : RowK V a len kk R) (hn : ∀ b off, a = some ⟨b, off, none⟩ → ¬ v0.ownBlock = some b) : RowK wr a len kk R := Kept.row hr h.kept hn
theorem OwnR.cell (h : OwnR V wr base e k v0 v n xs) {p : Addr} {u : Value} (hn : ¬ v0.ownBlock = some p.block) (hc : V.cell? p = some u) : wr.cell? p = some u := h.kept.cell hn hc
end
end Go.Proofs.Ytbkpoepacjinlaa

/- Gear: Dues of the program. -/
namespace Go.Proofs.Ytbkpoepacjinlaa
open Go.RowKit Go.BigFrame
open Gar (chk momG hasS hasP)

/-- what is due -/
structure Duc where
  part : ByteArray
  slot : ByteArray
  plan : Nat
  way : Int
  days : Int
end Go.Proofs.Ytbkpoepacjinlaa

/- Gear: a service makes nothing due earlier (plain law for GearServiceHelps). -/
namespace Go.Proofs.Ytbkpoepacjinlaa
open Go.RowKit Go.BigFrame
open Gar (chk momG hasS hasP)

/-- two lists of what is due, one beside the other -/
def DRel (P : Prop) : List Duc → List Duc → Prop
  | [], [] => True
  | a :: l, b :: l' => (P → a.way ≤ b.way ∧ a.days ≤ b.days) ∧ DRel P l l'
  | _, _ => False
theorem DRel.append {P : Prop} : ∀ {a b c d : List Duc}, DRel P a b → DRel P c d → DRel P (a ++ c) (b ++ d)
  | [], [], _, _, _, h => h
  | _ :: _, _ :: _, _, _, h, h' => ⟨h.1, DRel.append h.2 h'⟩
  | [], _ :: _, _, _, h, _ => h.elim
  | _ :: _, [], _, _, h, _ => h.elim
theorem DRel.length {P : Prop} : ∀ {a b : List Duc}, DRel P a b → a.length = b.length
  | [], [], _ => rfl
  | _ :: _, _ :: _, h => by rw [List.length_cons, List.length_cons, DRel.length h.2]
  | [], _ :: _, h => h.elim
  | _ :: _, [], h => h.elim
end Go.Proofs.Ytbkpoepacjinlaa

/- Gear: a row of services cloned, and one more; ContainsFunc over mounts (for GearServiceHelps). -/
namespace Go.Proofs.Ytbkpoepacjinlaa
open Go.RowKit Go.BigFrame
open Gar (chk momG hasS hasP)

theorem row_cells {w : World} {b off n k : Nat} {f : Nat → List Value} (hf : ∀ i, (f i).length = k) (hk : 0 < k) (h : ∀ i, i < n → ∀ j, j < k → w.cell? ⟨b, off + i * k + j, none⟩ = (f i)[j]?) :
    ∀ j u, ((List.range n).flatMap f)[j]? = some u → w.cell? ⟨b, off + j, none⟩ = some u := by
  intro j u hu
  have hl : ((List.range n).flatMap f).length = n * k := by
    clear h hu
    induction n with
    | zero => simp
    | succ n ih => rw [List.range_succ, List.flatMap_append, List.length_append, ih]; simp [hf, Nat.succ_mul]
  have hj : j < n * k := by
    rw [← hl]
    exact (List.getElem?_eq_some_iff.1 hu).1
  have hq : j / k < n := (Nat.div_lt_iff_lt_mul hk).2 hj
  have hr : j % k < k := Nat.mod_lt _ hk
  have he : j = j / k * k + j % k := by rw [Nat.mul_comm]; exact (Nat.div_add_mod j k).symm
  rw [he] at hu
  rw [flatN (f := f) (m := k) 0 hf (List.range n) (j / k) (j % k) (by simpa using hq) hr] at hu
  rw [List.getD_eq_getElem?_getD, List.getElem?_range hq, Option.getD_some] at hu
  rw [← hu, ← h _ hq _ hr]
  congr 2
  omega
theorem own_row {w : World} {base e k n : Nat} {v : Value} {f : Nat → List Value} (hf : ∀ i, (f i).length = k) (hr : w.ownsRow base e k v n ((List.range n).flatMap f)) : ∃ (am : Option Addr) (cm : Nat), v = .slice am n cm ∧ RowK w am n k f := by
  rcases hr.2 with ⟨e, hn⟩ | ⟨q, cap, cur, e, _, h3, _⟩
  · exact ⟨none, 0, by rw [e, hn], ⟨fun h => by omega⟩⟩
  · refine ⟨some ⟨q, 0, none⟩, cap, e, ⟨fun hl => ⟨q, 0, rfl, lt_of_block h3, fun i hi j hj => ?_⟩⟩⟩
    have hc := flatN (f := f) (m := k) 0 hf (List.range n) i j (by simpa using hi) hj
    rw [List.getD_eq_getElem?_getD, List.getElem?_range hi, Option.getD_some] at hc
    have hv : ∃ v, (f i)[j]? = some v := ⟨_, List.getElem?_eq_getElem (by rw [hf]; exact hj)⟩
    obtain ⟨v, hv⟩ := hv
    have h6 := hr.cells (g := q) (by rw [e]; rfl) (i * k + j) v (hc.trans hv)
    rw [addr_add0] at h6
    rw [Nat.zero_add, hv]
    exact h6
end Go.Proofs.Ytbkpoepacjinlaa

/- Tools for rows of a call's own: sorted by the library; appended from a row that came in (any program). -/
namespace Go.Proofs.Ytbkpoepacjinlaa
open Go.RowKit Go.BigFrame

section sorted
open Go.Sort
variable {α : Type} {enc : α → List Value} {k : Nat}
theorem flat_len (hk : ∀ x, (enc x).length = k) : ∀ l : List α, (l.flatMap enc).length = l.length * k
  | [] => by simp
  | x :: l => by rw [List.flatMap_cons, List.length_append, hk, flat_len hk l, List.length_cons, Nat.succ_mul]; omega
theorem perm_one {lt : α → α → Bool} (hO : SWO lt) : ∀ (l1 l2 : List α), l1.Perm l2 → l1.Pairwise (fun x y => lt x y = true) → l2.Pairwise (fun x y => lt x y = true) → l1 = l2
  | [], l2, hp, _, _ => by rw [List.nil_perm.1 hp]
  | a :: l1, [], hp, _, _ => by have := hp.length_eq; simp at this
  | a :: l1, b :: l2, hp, h1, h2 => by
    rw [List.pairwise_cons] at h1 h2
    have hab : a = b := by
      rcases List.mem_cons.1 (hp.subset (List.mem_cons_self (a := a) (l := l1))) with e | ha
      · exact e
      · rcases List.mem_cons.1 (hp.symm.subset (List.mem_cons_self (a := b) (l := l2))) with e | hb
        · exact e.symm
        · have := hO.trans _ _ _ (h1.1 b hb) (h2.1 a ha)
          rw [hO.irrefl] at this
          cases this
    subst hab
    rw [perm_one hO l1 l2 (List.Perm.cons_inv hp) h1.2 h2.2]
variable [Inhabited α]
theorem flat_at (hk : ∀ x, (enc x).length = k) : ∀ (l : List α) (i j : Nat), i < l.length → j < k → (l.flatMap enc)[i * k + j]? = (enc (l.getD i default))[j]?
  | [], i, j, h, _ => absurd h (by simp)
  | x :: l, 0, j, _, hj => by
    rw [List.flatMap_cons, Nat.zero_mul, Nat.zero_add, List.getElem?_append_left (by rw [hk]; exact hj)]
    rfl
  | x :: l, i + 1, j, h, hj => by
    rw [List.flatMap_cons, List.getElem?_append_right (by rw [hk, Nat.succ_mul]; omega), hk, show (i + 1) * k + j - k = i * k + j by rw [Nat.succ_mul]; omega]
    rw [flat_at hk l i j (by simpa using h) hj]
    rfl
theorem flatK_list (hk : ∀ x, (enc x).length = k) (l : List α) : (flatK enc k l.toArray).toList = l.flatMap enc := by
  apply List.ext_getElem?
  intro t
  by_cases h : t < l.length * k
  · have k0 : 0 < k := by
      rcases Nat.eq_zero_or_pos k with e | e
      · subst e; simp at h
      · exact e
    have h1 : t / k < l.length := (Nat.div_lt_iff_lt_mul k0).2 h
    have h2 : t % k < k := Nat.mod_lt _ k0
    have e := flat_at hk l (t / k) (t % k) h1 h2
    rw [Nat.mul_comm, Nat.div_add_mod] at e
    have hs : t < (flatK enc k l.toArray).size := by rw [size_flatK]; simpa using h
    rw [e, Array.getElem?_toList, Array.getElem?_eq_getElem hs]
    have g := get_flatK enc k l.toArray t (by simpa using h)
    rw [getElem!_pos _ t hs] at g
    have h3 : t % k < (enc (l.getD (t / k) default)).length := by rw [hk]; exact h2
    rw [List.getElem?_eq_getElem h3, g]
    congr 1
    have e2 : l.toArray[t / k]! = l.getD (t / k) default := by
      rw [getElem!_pos _ _ (by simpa using h1)]
      simp [List.getD_eq_getElem?_getD, List.getElem?_eq_getElem h1]
    rw [e2, getElem!_pos (enc (l.getD (t / k) default)) (t % k) h3]
  · rw [List.getElem?_eq_none (by rw [Array.length_toList, size_flatK]; simpa using h), List.getElem?_eq_none (by rw [flat_len hk]; omega)]
theorem own_holds (hk : ∀ x, (enc x).length = k) {w : World} {base g n cap : Nat} {e : TypeId} {l : List α} (h : w.ownsRow base e k (.slice (some ⟨g, 0, none⟩) n cap) n (l.flatMap enc)) : HoldsK enc k w g 0 l.toArray := by
  intro j hj
  have hl : l.length * k = n * k := by rw [← flat_len hk, h.1]
  have hj2 : j < n * k := by rw [← hl]; simpa using hj
  refine ⟨?_, by rw [Nat.zero_add]; exact h.frozenAt j⟩
  rw [Nat.zero_add, h.cellAt j hj2, ← flatK_list hk, Array.getElem?_toList, Array.getElem?_eq_getElem hj]
  show _ = some (flatK enc k l.toArray)[j]!
  rw [getElem!_pos _ j hj]
theorem heap_sortedK {w : World} {g n : Nat} {os : Array Obj} {cur F : Array Value} {e : TypeId} {fr : Nat × Nat} (hb : w.heap[g]? = some (.cells cur e fr)) :
    (grow (putRow id (Sort.ahead w n) g 0 F) os).heap[g]? = some (.cells (putCells id 0 F cur) e fr) := by
  have hg : g < w.heap.size := (Array.getElem?_eq_some_iff.1 hb).1
  rw [heap_grow_old _ _ (by simpa using hg)]
  simp [putRow, mapBlock, Sort.ahead, Array.getElem?_modify, hb, onCells]
theorem take_putCellsK (cur F : Array Value) (h : F.size ≤ cur.size) : (putCells id 0 F cur).toList.take F.size = F.toList := by
  apply List.ext_getElem?
  intro j
  by_cases hj : j < F.size
  · rw [List.getElem?_take_of_lt hj, Array.getElem?_toList]
    simp [putCells, hj, show j < cur.size by omega]
  · rw [List.getElem?_take_eq_none (by omega), List.getElem?_eq_none (by simp; omega)]
theorem own_sorted (hk : ∀ x, (enc x).length = k) {w : World} {base g n cap : Nat} {e : TypeId} {l : List α} {d : Array α} (h : w.ownsRow base e k (.slice (some ⟨g, 0, none⟩) n cap) n (l.flatMap enc)) (hd : d.size = l.length) (m : Nat) (os : Array Obj) :
    (sortWorldK enc k w g 0 m d os).ownsRow base e k (.slice (some ⟨g, 0, none⟩) n cap) n (d.toList.flatMap enc) ∧ w.grownBy (sortWorldK enc k w g 0 m d os) (some g) := by
  have hl : l.length * k = n * k := by rw [← flat_len hk, h.1]
  have hF : (flatK enc k d).toList = d.toList.flatMap enc := flatK_list hk d.toList
  have hFs : (flatK enc k d).size = n * k := by rw [size_flatK, hd, hl]
  refine ⟨⟨by rw [flat_len hk, ← hl, ← hd]; simp, ?_⟩, ⟨rfl, rfl, rfl, by simp [sortWorldK, putRowK, size_grow], fun q hq hne => ?_⟩⟩
  · rcases h.2 with ⟨h0, _⟩ | ⟨g', cap', cur, hv, hg, hb, hn, hcap, hcs, _⟩
    · cases h0
    · injection hv with h1 h2 h3
      injection h1 with h1
      injection h1 with h1
      subst h1
      subst h3
      refine Or.inr ⟨g, cap, putCells id 0 (flatK enc k d) cur, rfl, hg, heap_sortedK hb, hn, hcap, by simp [putCells, hcs], ?_⟩
      rw [← hF, ← hFs]
      exact take_putCellsK cur _ (by rw [hFs, hcs]; exact Nat.mul_le_mul_right _ hn)
  · unfold sortWorldK putRowK
    rw [heap_grow_old _ _ (by simpa using hq)]
    have : g ≠ q := fun e => hne (by rw [e])
    simp [putRow, mapBlock, Sort.ahead, Array.getElem?_modify, this]
/-- what the sort leaves is the one sorted row, where all elements differ in the order -/
theorem sorted_one {lt : α → α → Bool} (hO : SWO lt) {l l' : List α} {d : Array α} (hp : PermIn 0 l.toArray.size l.toArray d) (hs : SortedIn lt 0 l.toArray.size d) (hl : l'.Perm l) (hl' : l'.Pairwise (fun x y => lt x y = true)) : d.toList = l' := by
  obtain ⟨h1, _, h3⟩ := hp
  have e1 : d.extract 0 l.toArray.size = d := by rw [← h1]; simp
  have e2 : l.toArray.extract 0 l.toArray.size = l.toArray := by simp
  rw [e1, e2] at h3
  have hpd : d.toList.Perm l' := (show d.toList.Perm l from h3).trans hl.symm
  refine perm_one hO _ _ hpd ?_ hl'
  have hd : l'.Pairwise (fun x y => lt x y = true ∨ lt y x = true) := hl'.imp fun h => Or.inl h
  have hd2 : d.toList.Pairwise (fun x y => lt x y = true ∨ lt y x = true) := (List.Perm.pairwise_iff (fun h => h.symm) hpd).2 hd
  rw [List.pairwise_iff_getElem] at hd2 ⊢
  intro i j hi hj hij
  have hsz : l.toArray.size = d.size := h1.symm
  have := hs i j (Nat.zero_le _) hij (by rw [hsz]; simpa using hj)
  rw [getElem!_pos d j (by simpa using hj), getElem!_pos d i (by simpa using hi)] at this
  rcases hd2 i j hi hj hij with h | h
  · exact h
  · simp only [Array.getElem_toList] at h
    rw [h] at this
    cases this
end sorted

section kept
theorem ownsRow_kept {w w' : World} {base e k n : Nat} {v : Value} {xs : List Value} {O : Nat → Prop} (h : w.ownsRow base e k v n xs) (hk : Kept O w w') (hO : ∀ b, base ≤ b → ¬ O b) : w'.ownsRow base e k v n xs := by
  obtain ⟨h1, h2⟩ := h
  refine ⟨h1, ?_⟩
  rcases h2 with h7 | ⟨q, cap, cur, e1, e2, e3, e4⟩
  · exact Or.inl h7
  · exact Or.inr ⟨q, cap, cur, e1, e2, (hk.block q (lt_of_block e3) (hO q e2)).trans e3, e4⟩
/-- a row of the call's own and where it lies: address, capacity -/
theorem ownRow_hdr {w : World} {base e k n : Nat} {v : Value} {f : Nat → List Value} (hf : ∀ i, (f i).length = k) (hr : w.ownsRow base e k v n ((List.range n).flatMap f)) : ∃ (am : Option Addr) (cm : Nat), v = .slice am n cm ∧ n ≤ cm ∧ RowK w am n k f := by
  obtain ⟨am, cm, h1, h2⟩ := own_row hf hr
  refine ⟨am, cm, h1, ?_, h2⟩
  rcases hr.2 with ⟨e, hn⟩ | ⟨q, cap, cur, e, _, _, h3, _⟩
  · omega
  · rw [h1] at e
    injection e with _ _ e
    omega
/-- four cells stored -/
theorem store4 {w : World} {b : Nat} {T : TypeId} {u0 u1 u2 u3 : Value} (h : w.heap[b]? = some (.cells #[u0, u1, u2, u3] T (0, 0))) (v0 v1 v2 v3 : Value) :
    ∃ W, (((w.setCell ⟨b, 0, none⟩ v0).setCell ⟨b, 1, none⟩ v1).setCell ⟨b, 2, none⟩ v2).setCell ⟨b, 3, none⟩ v3 = W ∧ W.heap[b]? = some (.cells #[v0, v1, v2, v3] T (0, 0)) ∧ Kept (fun k => k = b) w W ∧ W.heap.size = w.heap.size :=
  ⟨_, rfl, cells_setCell (cells_setCell (cells_setCell (cells_setCell h))), kept_set (O := fun k => k = b) (kept_set (O := fun k => k = b) (kept_set (O := fun k => k = b) (kept_set (O := fun k => k = b) (Kept.refl _ _) rfl _) rfl _) rfl _) rfl _, by simp [World.setCell]⟩
end kept

section append
variable {P : Program} {o : Oper} {a : Act} {K : Act → World → Prop} {Q : Exit → Act → World → Prop}
theorem grown_self (w : World) (row : Option Nat) : w.grownBy w row := ⟨rfl, rfl, rfl, Nat.le_refl _, fun _ _ _ => rfl⟩
theorem run_append_none' {w : World} (base : Nat) (t ty e : TypeId) (i : TypeInfo) (size c : Nat) (ht : P.underlying t = some (.slice e)) (hi : P.info? e = some i)
    (v : Value) (n : Nat) (xs : List Value) (hown : w.ownsRow base e size v n xs) : (Builtin.append_ #[t, t] ty #[v, .slice none 0 c]).run P w = .ok v w := by
  rcases hown.2 with ⟨rfl, rfl⟩ | ⟨g, cap, cur, rfl, _, _, hnc, _⟩
  · simp [Builtin.append_, run_underlying ht, sizeOf, typeInfo, hi, Builtin.lenOf, Builtin.firstCells]
  · simp [Builtin.append_, run_underlying ht, sizeOf, typeInfo, hi, Builtin.lenOf, Builtin.firstCells, hnc, storeCells]
theorem rows_at {w : World} {ad : Addr} {m k : Nat} {f : Nat → List Value} (hf : ∀ i, (f i).length = k) (hk : 0 < k) (hr : RowK w (some ad) m k f) : ∀ j u, ((List.range m).flatMap f)[j]? = some u → w.cell? (ad.add j) = some u := by
  intro j u hj
  rcases Nat.eq_zero_or_pos m with h | h
  · rw [h] at hj; simp at hj
  · obtain ⟨b, off, h1, _, h2⟩ := hr.here h
    injection h1 with h1
    subst h1
    rw [show (⟨b, off, none⟩ : Addr).add j = ⟨b, off + j, none⟩ by unfold Addr.add; split <;> simp_all]
    exact row_cells hf hk h2 j u hj
theorem rng_len {k : Nat} {f : Nat → List Value} (hf : ∀ i, (f i).length = k) (m : Nat) : ((List.range m).flatMap f).length = m * k := by
  induction m with
  | zero => simp
  | succ n ih => rw [List.range_succ, List.flatMap_append, List.length_append, ih]; simp [hf, Nat.succ_mul]
/-- append of a row that came in (nil, or not) to a row of the call's own -/
theorem wp_append_row (w : World) (s x : Operand) (t : TypeId) (ho : o.op = .call { callee := .builtin .append, args := #[s, x], argTypes := #[t, t] })
    (base : Nat) (e : TypeId) (i : TypeInfo) (z : Value) (size bytes : Nat) (ht : P.underlying t = some (.slice e)) (hi : P.info? e = some i) (hz : i.zero = some z)
    (hsize : i.size = size) (hby : i.bytes = bytes) (hzs : z.cells.size = size) (hsz : 0 < size) (v : Value) (n : Nat) (xs : List Value) (hs : a.eval s = v) (hown : w.ownsRow base e size v n xs)
    (av : Option Addr) (m c : Nat) (f : Nat → List Value) (hf : ∀ i, (f i).length = size) (h1 : ∀ i, ∀ u ∈ f i, u.oneCell' = true) (hx : a.eval x = .slice av m c) (hr : RowK w av m size f)
    (h63 : n + m ≤ maxLen) (hbytes : (n + m) * bytes ≤ 140737488355328) (hbase : base ≤ w.heap.size)
    (h : ∀ v' w', w'.ownsRow base e size v' (n + m) (xs ++ (List.range m).flatMap f) → w.grownBy w' v.ownBlock → K (a.put o.dst v') w') : o.wp P a w K Q := by
  cases av with
  | none =>
    have h0 : m = 0 := by
      rcases Nat.eq_zero_or_pos m with h | h
      · exact h
      · obtain ⟨b, off, h1, _⟩ := hr.here h
        cases h1
    subst h0
    have hrun := run_append_none' (P := P) (w := w) base t o.type e i size c ht hi v n xs hown
    unfold Oper.wp execOp
    simp only [ho, resolve, invoke, builtin, Sem.run_bind, Sem.run_pure, Result.andThen_ok, List.map_toArray, List.map_cons, List.map_nil, hs, hx, hrun]
    exact h v w (by simpa using hown) (grown_self w _)
  | some ad =>
    refine wp_append_own w s x t ho base e i z size bytes ht hi hz hsize hby hzs hsz v n xs hs hown ad m c _ hx (rng_len hf m) (rows_at hf hsz hr) ?_ h63 hbytes hbase fun v' w' h2 h3 _ => h v' w' h2 h3
    intro u hu
    obtain ⟨j, _, hj⟩ := List.mem_flatMap.1 hu
    exact h1 j u hj
end append
end Go.Proofs.Ytbkpoepacjinlaa

/- Gear: a garage in new memory: slices.Clone at its four rows, cloned of the program, copied of the reference. (Printed by gen_clone.py.) -/
namespace Go.Proofs.Ytbkpoepacjinlaa
open Go.RowKit Go.BigFrame
open Gar (chk momG hasS hasP)

def Gar.cellsP (g : Gar) (i : Nat) : List Value := [.string (g.pn i), .int .i64 (g.pc i)]
theorem cellsP_one (g : Gar) (i : Nat) : ∀ u ∈ g.cellsP i, u.oneCell' = true := by
  intro u hu
  simp only [Gar.cellsP, List.mem_cons, List.not_mem_nil, or_false] at hu
  rcases hu with rfl | rfl <;> rfl
def Gar.cellsS (g : Gar) (i : Nat) : List Value := [.string (g.sn i), .string (g.sr i)]
theorem cellsS_one (g : Gar) (i : Nat) : ∀ u ∈ g.cellsS i, u.oneCell' = true := by
  intro u hu
  simp only [Gar.cellsS, List.mem_cons, List.not_mem_nil, or_false] at hu
  rcases hu with rfl | rfl <;> rfl
def Gar.cellsM (g : Gar) (i : Nat) : List Value := [.string (g.ms i), .string (g.mp i), .int .i64 (g.mf i), .int .i64 (g.mt i)]
theorem cellsM_one (g : Gar) (i : Nat) : ∀ u ∈ g.cellsM i, u.oneCell' = true := by
  intro u hu
  simp only [Gar.cellsM, List.mem_cons, List.not_mem_nil, or_false] at hu
  rcases hu with rfl | rfl | rfl | rfl <;> rfl
def Gar.cellsU (g : Gar) (i : Nat) : List Value := [.string (g.un i), .string (g.ur i), .int .i64 (g.uf i), .int .i64 (g.us i), .int .i64 (g.uw i)]
theorem cellsU_one (g : Gar) (i : Nat) : ∀ u ∈ g.cellsU i, u.oneCell' = true := by
  intro u hu
  simp only [Gar.cellsU, List.mem_cons, List.not_mem_nil, or_false] at hu
  rcases hu with rfl | rfl | rfl | rfl | rfl <;> rfl
set_option maxHeartbeats 2000000 in
set_option maxRecDepth 100000 in
theorem cloneGearPart_any (n : Nat) (f : Nat → List Value) (hf : ∀ i, (f i).length = 2) (h1 : ∀ i, ∀ u ∈ f i, u.oneCell' = true) (av : Option Addr) (cv : Nat) (w : World) (hv : RowK w av n 2 f) (hn : n ≤ 9223372036854775807) (hbig : n * 24 ≤ 140737488355328) :
    Calls Try.prog 127 #[.slice av n cv] w fun e w' => ∃ v', e = .returned v' ∧ w'.ownsRow w.heap.size 94 2 v' n ((List.range n).flatMap f) ∧ Below w.heap.size w w' := by
  have HU := Lib.hid (show Try.prog.underlying 22 = some (.slice 94) by kernel_rfl)
  have hq : ∀ (w : World) (a : Option Addr) (n c n' c' : Nat), (binOp .eql 22 (.slice a n c) (.slice none n' c')).run Try.prog w = .ok (.bool a.isNone) w := fun w a n c n' c' => Lib.run_eql_slice_nil w _ _ a n c n' c' HU.out
  have u22 : ∀ w, Sem.run Try.prog (underlying 22) w = .ok (TypeDesc.slice 94) w := run_underlying HU.out
  cases av with
  | none =>
    have h0 : n = 0 := by
      rcases Nat.eq_zero_or_pos n with h | h
      · exact h
      · obtain ⟨b, off, h1, _⟩ := hv.here h
        cases h1
    subst h0
    clear hv
    go_enter Try.func127, Try.ntmps127
    go_wp2_with fail
    go_ret
    exact ⟨_, rfl, World.ownsRow_nil _ _ _ _, Below.refl _ _⟩
  | some a =>
    obtain ⟨i0, hi0, hz0, hz1, hz2⟩ := info_parts (show (Try.prog.info? 94).map (fun i => (i.zero, i.size, i.bytes)) = some (some (.agg #[.string ⟨#[]⟩, .int .i64 0]), 2, 24) by kernel_rfl)
    have HI0 := Lib.hid hi0
    have HZ0 := Lib.hid hz0
    have HZ1 := Lib.hid hz1
    have HZ2 := Lib.hid hz2
    have HC := Lib.hid (rows_at hf (by omega) hv)
    have HL := Lib.hid (rng_len hf n)
    have H1 := Lib.hid (show ∀ u ∈ (List.range n).flatMap f, u.oneCell' = true from fun u hu => by
      obtain ⟨j, _, hj⟩ := List.mem_flatMap.1 hu
      exact h1 j u hj)
    generalize (List.range n).flatMap f = xs at HC HL H1 ⊢
    clear hi0 hz0 hz1 hz2 hv hf h1
    go_enter Try.func127, Try.ntmps127
    go_wp2_with (at_builtin; refine wpList_append_own _ rfl _ _ 22 rfl w.heap.size 94 i0 (.agg #[.string ⟨#[]⟩, .int .i64 0]) 2 24 HU.out HI0.out HZ0.out HZ1.out HZ2.out rfl (by decide) _ _ _ rfl (World.ownsRow_made w #[] 0 (Nat.le_refl _) (Nat.zero_le _) (by simp)) a n cv xs rfl ?qc1 ?qc2 ?qc3 ?qc4 ?qc5 ?qc6 ?_)
    case qc1 => exact HL.out
    case qc2 =>
      intro j u hj
      exact Lib.cell?_alloc_some _ (HC.out j u hj)
    case qc3 => exact H1.out
    case qc4 => rw [Nat.zero_add]; unfold maxLen; exact hn
    case qc5 => rw [Nat.zero_add]; exact hbig
    case qc6 => simp
    intro v' w1 hown hgrow hnil
    go_wp2_with fail
    go_ret
    exact ⟨v', rfl, by simpa using hown, ((Below.refl _ w).alloc (Nat.le_refl _) _).grown hgrow (by simp) (by intro k hk; simp [Value.ownBlock] at hk; omega)⟩

set_option maxHeartbeats 2000000 in
set_option maxRecDepth 100000 in
theorem cloneSlot_any (n : Nat) (f : Nat → List Value) (hf : ∀ i, (f i).length = 2) (h1 : ∀ i, ∀ u ∈ f i, u.oneCell' = true) (av : Option Addr) (cv : Nat) (w : World) (hv : RowK w av n 2 f) (hn : n ≤ 9223372036854775807) (hbig : n * 32 ≤ 140737488355328) :
    Calls Try.prog 128 #[.slice av n cv] w fun e w' => ∃ v', e = .returned v' ∧ w'.ownsRow w.heap.size 40 2 v' n ((List.range n).flatMap f) ∧ Below w.heap.size w w' := by
  have HU := Lib.hid (show Try.prog.underlying 23 = some (.slice 40) by kernel_rfl)
  have hq : ∀ (w : World) (a : Option Addr) (n c n' c' : Nat), (binOp .eql 23 (.slice a n c) (.slice none n' c')).run Try.prog w = .ok (.bool a.isNone) w := fun w a n c n' c' => Lib.run_eql_slice_nil w _ _ a n c n' c' HU.out
  have u22 : ∀ w, Sem.run Try.prog (underlying 23) w = .ok (TypeDesc.slice 40) w := run_underlying HU.out
  cases av with
  | none =>
    have h0 : n = 0 := by
      rcases Nat.eq_zero_or_pos n with h | h
      · exact h
      · obtain ⟨b, off, h1, _⟩ := hv.here h
        cases h1
    subst h0
    clear hv
    go_enter Try.func128, Try.ntmps128
    go_wp2_with fail
    go_ret
    exact ⟨_, rfl, World.ownsRow_nil _ _ _ _, Below.refl _ _⟩
  | some a =>
    obtain ⟨i0, hi0, hz0, hz1, hz2⟩ := info_parts (show (Try.prog.info? 40).map (fun i => (i.zero, i.size, i.bytes)) = some (some (.agg #[.string ⟨#[]⟩, .string ⟨#[]⟩]), 2, 32) by kernel_rfl)
    have HI0 := Lib.hid hi0
    have HZ0 := Lib.hid hz0
    have HZ1 := Lib.hid hz1
    have HZ2 := Lib.hid hz2
    have HC := Lib.hid (rows_at hf (by omega) hv)
    have HL := Lib.hid (rng_len hf n)
    have H1 := Lib.hid (show ∀ u ∈ (List.range n).flatMap f, u.oneCell' = true from fun u hu => by
      obtain ⟨j, _, hj⟩ := List.mem_flatMap.1 hu
      exact h1 j u hj)
    generalize (List.range n).flatMap f = xs at HC HL H1 ⊢
    clear hi0 hz0 hz1 hz2 hv hf h1
    go_enter Try.func128, Try.ntmps128
    go_wp2_with (at_builtin; refine wpList_append_own _ rfl _ _ 23 rfl w.heap.size 40 i0 (.agg #[.string ⟨#[]⟩, .string ⟨#[]⟩]) 2 32 HU.out HI0.out HZ0.out HZ1.out HZ2.out rfl (by decide) _ _ _ rfl (World.ownsRow_made w #[] 0 (Nat.le_refl _) (Nat.zero_le _) (by simp)) a n cv xs rfl ?qc1 ?qc2 ?qc3 ?qc4 ?qc5 ?qc6 ?_)
    case qc1 => exact HL.out
    case qc2 =>
      intro j u hj
      exact Lib.cell?_alloc_some _ (HC.out j u hj)
    case qc3 => exact H1.out
    case qc4 => rw [Nat.zero_add]; unfold maxLen; exact hn
    case qc5 => rw [Nat.zero_add]; exact hbig
    case qc6 => simp
    intro v' w1 hown hgrow hnil
    go_wp2_with fail
    go_ret
    exact ⟨v', rfl, by simpa using hown, ((Below.refl _ w).alloc (Nat.le_refl _) _).grown hgrow (by simp) (by intro k hk; simp [Value.ownBlock] at hk; omega)⟩

set_option maxHeartbeats 2000000 in
set_option maxRecDepth 100000 in
theorem cloneMount_any (n : Nat) (f : Nat → List Value) (hf : ∀ i, (f i).length = 4) (h1 : ∀ i, ∀ u ∈ f i, u.oneCell' = true) (av : Option Addr) (cv : Nat) (w : World) (hv : RowK w av n 4 f) (hn : n ≤ 9223372036854775807) (hbig : n * 48 ≤ 140737488355328) :
    Calls Try.prog 129 #[.slice av n cv] w fun e w' => ∃ v', e = .returned v' ∧ w'.ownsRow w.heap.size 54 4 v' n ((List.range n).flatMap f) ∧ Below w.heap.size w w' := by
  have HU := Lib.hid (show Try.prog.underlying 24 = some (.slice 54) by kernel_rfl)
  have hq : ∀ (w : World) (a : Option Addr) (n c n' c' : Nat), (binOp .eql 24 (.slice a n c) (.slice none n' c')).run Try.prog w = .ok (.bool a.isNone) w := fun w a n c n' c' => Lib.run_eql_slice_nil w _ _ a n c n' c' HU.out
  have u22 : ∀ w, Sem.run Try.prog (underlying 24) w = .ok (TypeDesc.slice 54) w := run_underlying HU.out
  cases av with
  | none =>
    have h0 : n = 0 := by
      rcases Nat.eq_zero_or_pos n with h | h
      · exact h
      · obtain ⟨b, off, h1, _⟩ := hv.here h
        cases h1
    subst h0
    clear hv
    go_enter Try.func129, Try.ntmps129
    go_wp2_with fail
    go_ret
    exact ⟨_, rfl, World.ownsRow_nil _ _ _ _, Below.refl _ _⟩
  | some a =>
    obtain ⟨i0, hi0, hz0, hz1, hz2⟩ := info_parts (show (Try.prog.info? 54).map (fun i => (i.zero, i.size, i.bytes)) = some (some (.agg #[.string ⟨#[]⟩, .string ⟨#[]⟩, .int .i64 0, .int .i64 0]), 4, 48) by kernel_rfl)
    have HI0 := Lib.hid hi0
    have HZ0 := Lib.hid hz0
    have HZ1 := Lib.hid hz1
    have HZ2 := Lib.hid hz2
    have HC := Lib.hid (rows_at hf (by omega) hv)
    have HL := Lib.hid (rng_len hf n)
    have H1 := Lib.hid (show ∀ u ∈ (List.range n).flatMap f, u.oneCell' = true from fun u hu => by
      obtain ⟨j, _, hj⟩ := List.mem_flatMap.1 hu
      exact h1 j u hj)
    generalize (List.range n).flatMap f = xs at HC HL H1 ⊢
    clear hi0 hz0 hz1 hz2 hv hf h1
    go_enter Try.func129, Try.ntmps129
    go_wp2_with (at_builtin; refine wpList_append_own _ rfl _ _ 24 rfl w.heap.size 54 i0 (.agg #[.string ⟨#[]⟩, .string ⟨#[]⟩, .int .i64 0, .int .i64 0]) 4 48 HU.out HI0.out HZ0.out HZ1.out HZ2.out rfl (by decide) _ _ _ rfl (World.ownsRow_made w #[] 0 (Nat.le_refl _) (Nat.zero_le _) (by simp)) a n cv xs rfl ?qc1 ?qc2 ?qc3 ?qc4 ?qc5 ?qc6 ?_)
    case qc1 => exact HL.out
    case qc2 =>
      intro j u hj
      exact Lib.cell?_alloc_some _ (HC.out j u hj)
    case qc3 => exact H1.out
    case qc4 => rw [Nat.zero_add]; unfold maxLen; exact hn
    case qc5 => rw [Nat.zero_add]; exact hbig
    case qc6 => simp
    intro v' w1 hown hgrow hnil
    go_wp2_with fail
    go_ret
    exact ⟨v', rfl, by simpa using hown, ((Below.refl _ w).alloc (Nat.le_refl _) _).grown hgrow (by simp) (by intro k hk; simp [Value.ownBlock] at hk; omega)⟩

set_option maxHeartbeats 2000000 in
set_option maxRecDepth 100000 in
theorem cloneUse_any (n : Nat) (f : Nat → List Value) (hf : ∀ i, (f i).length = 5) (h1 : ∀ i, ∀ u ∈ f i, u.oneCell' = true) (av : Option Addr) (cv : Nat) (w : World) (hv : RowK w av n 5 f) (hn : n ≤ 9223372036854775807) (hbig : n * 56 ≤ 140737488355328) :
    Calls Try.prog 130 #[.slice av n cv] w fun e w' => ∃ v', e = .returned v' ∧ w'.ownsRow w.heap.size 38 5 v' n ((List.range n).flatMap f) ∧ Below w.heap.size w w' := by
  have HU := Lib.hid (show Try.prog.underlying 25 = some (.slice 38) by kernel_rfl)
  have hq : ∀ (w : World) (a : Option Addr) (n c n' c' : Nat), (binOp .eql 25 (.slice a n c) (.slice none n' c')).run Try.prog w = .ok (.bool a.isNone) w := fun w a n c n' c' => Lib.run_eql_slice_nil w _ _ a n c n' c' HU.out
  have u22 : ∀ w, Sem.run Try.prog (underlying 25) w = .ok (TypeDesc.slice 38) w := run_underlying HU.out
  cases av with
  | none =>
    have h0 : n = 0 := by
      rcases Nat.eq_zero_or_pos n with h | h
      · exact h
      · obtain ⟨b, off, h1, _⟩ := hv.here h
        cases h1
    subst h0
    clear hv
    go_enter Try.func130, Try.ntmps130
    go_wp2_with fail
    go_ret
    exact ⟨_, rfl, World.ownsRow_nil _ _ _ _, Below.refl _ _⟩
  | some a =>
    obtain ⟨i0, hi0, hz0, hz1, hz2⟩ := info_parts (show (Try.prog.info? 38).map (fun i => (i.zero, i.size, i.bytes)) = some (some (.agg #[.string ⟨#[]⟩, .string ⟨#[]⟩, .int .i64 0, .int .i64 0, .int .i64 0]), 5, 56) by kernel_rfl)
    have HI0 := Lib.hid hi0
    have HZ0 := Lib.hid hz0
    have HZ1 := Lib.hid hz1
    have HZ2 := Lib.hid hz2
    have HC := Lib.hid (rows_at hf (by omega) hv)
    have HL := Lib.hid (rng_len hf n)
    have H1 := Lib.hid (show ∀ u ∈ (List.range n).flatMap f, u.oneCell' = true from fun u hu => by
      obtain ⟨j, _, hj⟩ := List.mem_flatMap.1 hu
      exact h1 j u hj)
    generalize (List.range n).flatMap f = xs at HC HL H1 ⊢
    clear hi0 hz0 hz1 hz2 hv hf h1
    go_enter Try.func130, Try.ntmps130
    go_wp2_with (at_builtin; refine wpList_append_own _ rfl _ _ 25 rfl w.heap.size 38 i0 (.agg #[.string ⟨#[]⟩, .string ⟨#[]⟩, .int .i64 0, .int .i64 0, .int .i64 0]) 5 56 HU.out HI0.out HZ0.out HZ1.out HZ2.out rfl (by decide) _ _ _ rfl (World.ownsRow_made w #[] 0 (Nat.le_refl _) (Nat.zero_le _) (by simp)) a n cv xs rfl ?qc1 ?qc2 ?qc3 ?qc4 ?qc5 ?qc6 ?_)
    case qc1 => exact HL.out
    case qc2 =>
      intro j u hj
      exact Lib.cell?_alloc_some _ (HC.out j u hj)
    case qc3 => exact H1.out
    case qc4 => rw [Nat.zero_add]; unfold maxLen; exact hn
    case qc5 => rw [Nat.zero_add]; exact hbig
    case qc6 => simp
    intro v' w1 hown hgrow hnil
    go_wp2_with fail
    go_ret
    exact ⟨v', rfl, by simpa using hown, ((Below.refl _ w).alloc (Nat.le_refl _) _).grown hgrow (by simp) (by intro k hk; simp [Value.ownBlock] at hk; omega)⟩

/-- a garage's four rows lie in memory of the call's own -/
structure OwnG (w : World) (base : Nat) (g : Gar) (b0 b1 b2 b3 : Option Addr) (d0 d1 d2 d3 : Nat) : Prop where
  o0 : w.ownsRow base 94 2 (.slice b0 g.np d0) g.np ((List.range g.np).flatMap g.cellsP)
  o1 : w.ownsRow base 40 2 (.slice b1 g.ns d1) g.ns ((List.range g.ns).flatMap g.cellsS)
  o2 : w.ownsRow base 54 4 (.slice b2 g.nm d2) g.nm ((List.range g.nm).flatMap g.cellsM)
  o3 : w.ownsRow base 38 5 (.slice b3 g.nu d3) g.nu ((List.range g.nu).flatMap g.cellsU)
theorem ownRow_of {w : World} {base e k n cm : Nat} {am : Option Addr} {f : Nat → List Value} (hf : ∀ i, (f i).length = k) (hr : w.ownsRow base e k (.slice am n cm) n ((List.range n).flatMap f)) : n ≤ cm ∧ RowK w am n k f := by
  obtain ⟨am', cm', h1, h2, h3⟩ := ownRow_hdr hf hr
  injection h1 with h4 h5 h6
  subst h4
  subst h6
  exact ⟨h2, h3⟩
theorem OwnG.kept {w w' : World} {base : Nat} {g : Gar} {b0 b1 b2 b3 : Option Addr} {d0 d1 d2 d3 : Nat} {O : Nat → Prop} (h : OwnG w base g b0 b1 b2 b3 d0 d1 d2 d3) (hk : Kept O w w') (hO : ∀ b, base ≤ b → ¬ O b) : OwnG w' base g b0 b1 b2 b3 d0 d1 d2 d3 :=
  ⟨ownsRow_kept h.o0 hk hO, ownsRow_kept h.o1 hk hO, ownsRow_kept h.o2 hk hO, ownsRow_kept h.o3 hk hO⟩
theorem ownsRow_lower {w : World} {base base' e k n : Nat} {v : Value} {xs : List Value} (h : w.ownsRow base e k v n xs) (hb : base' ≤ base) : w.ownsRow base' e k v n xs := by
  refine ⟨h.1, ?_⟩
  rcases h.2 with h2 | ⟨g, cap, cur, h3, h4, h5⟩
  · exact Or.inl h2
  · exact Or.inr ⟨g, cap, cur, h3, Nat.le_trans hb h4, h5⟩

set_option maxHeartbeats 8000000 in
set_option maxRecDepth 100000 in
theorem cloned_any (g : Gar) (a0 a1 a2 a3 : Option Addr) (c0 c1 c2 c3 : Nat) (w : World) (h : GarIn w g a0 a1 a2 a3) (hchk : chk g = 0) :
    Calls Try.prog 78 #[garV g a0 a1 a2 a3 c0 c1 c2 c3] w fun e w' => ∃ b0 b1 b2 b3 d0 d1 d2 d3, e = .returned (garV g b0 b1 b2 b3 d0 d1 d2 d3) ∧ OwnG w' w.heap.size g b0 b1 b2 b3 d0 d1 d2 d3 ∧ Below w.heap.size w w' := by
  have hpt := Gar.chk_parts hchk
  have HL := Lib.hid (show g.np ≤ 500 ∧ g.ns ≤ 100 ∧ g.nm ≤ 2000 ∧ g.nu ≤ 5000 from ⟨hpt.1, hpt.2.1, hpt.2.2.1, hpt.2.2.2.1⟩)
  obtain ⟨V, hV, hb, hs', hq⟩ := allocs w [.cells #[.slice a0 g.np c0, .slice a1 g.ns c1, .slice a2 g.nm c2, .slice a3 g.nu c3] 27, .cells #[.slice none 0 0, .slice none 0 0, .slice none 0 0, .slice none 0 0] 27]
  have hs : V.heap.size = w.heap.size + 2 := hs'
  clear hs'
  have hne : ¬ w.heap.size = w.heap.size + 1 := by omega
  have G0 := ExtO.ex (O := fun b => b = w.heap.size + 1) (p := ⟨w.heap.size, 0, none⟩) hne (show V.cell? ⟨w.heap.size, 0, none⟩ = some (.slice a0 g.np c0) from block_cell (hq 0 _ rfl) rfl)
  have G1 := ExtO.ex (O := fun b => b = w.heap.size + 1) (p := ⟨w.heap.size, 1, none⟩) hne (show V.cell? ⟨w.heap.size, 1, none⟩ = some (.slice a1 g.ns c1) from block_cell (hq 0 _ rfl) rfl)
  have G2 := ExtO.ex (O := fun b => b = w.heap.size + 1) (p := ⟨w.heap.size, 2, none⟩) hne (show V.cell? ⟨w.heap.size, 2, none⟩ = some (.slice a2 g.nm c2) from block_cell (hq 0 _ rfl) rfl)
  have G3 := ExtO.ex (O := fun b => b = w.heap.size + 1) (p := ⟨w.heap.size, 3, none⟩) hne (show V.cell? ⟨w.heap.size, 3, none⟩ = some (.slice a3 g.nu c3) from block_cell (hq 0 _ rfl) rfl)
  have HR := Lib.hid (show V.heap[w.heap.size + 1]? = some (.cells #[.slice none 0 0, .slice none 0 0, .slice none 0 0, .slice none 0 0] 27 (0, 0)) from hq 1 _ rfl)
  have HB := Lib.hid hb
  have HS := Lib.hid hs
  have hbs : w.heap.size ≤ V.heap.size := by omega
  have HDN := Lib.hid (fun (X : ExtO (fun b => b = w.heap.size + 1) V) => X.down hb hbs (fun k hk e => by omega))
  have HIN := Lib.hid (fun (X : ExtO (fun b => b = w.heap.size + 1) V) => h.below (HDN.out X))
  have HV2 := Lib.hid (show (w.alloc (.cells #[.slice a0 g.np c0, .slice a1 g.ns c1, .slice a2 g.nm c2, .slice a3 g.nu c3] 27)).alloc (.cells #[.slice none 0 0, .slice none 0 0, .slice none 0 0, .slice none 0 0] 27) = V from hV)
  have D0 := Lib.hid (fun (X : ExtO (fun b => b = w.heap.size + 1) V) => cloneGearPart_any g.np g.cellsP (fun _ => rfl) (cellsP_one g) a0 c0 X.1 (HIN.out X).r0 (by have := HL.out; omega) (by have := HL.out; omega))
  have D1 := Lib.hid (fun (X : ExtO (fun b => b = w.heap.size + 1) V) => cloneSlot_any g.ns g.cellsS (fun _ => rfl) (cellsS_one g) a1 c1 X.1 (HIN.out X).r1 (by have := HL.out; omega) (by have := HL.out; omega))
  have D2 := Lib.hid (fun (X : ExtO (fun b => b = w.heap.size + 1) V) => cloneMount_any g.nm g.cellsM (fun _ => rfl) (cellsM_one g) a2 c2 X.1 (HIN.out X).r2 (by have := HL.out; omega) (by have := HL.out; omega))
  have D3 := Lib.hid (fun (X : ExtO (fun b => b = w.heap.size + 1) V) => cloneUse_any g.nu g.cellsU (fun _ => rfl) (cellsU_one g) a3 c3 X.1 (HIN.out X).r3 (by have := HL.out; omega) (by have := HL.out; omega))
  unfold garV
  clear h hV hb hs hq hpt hchk hne hbs
  go_enter Try.func78, Try.ntmps78
  go_upto_region 1 with (fail)
  rw [HV2.out]
  refine held_start (C := fun w' => ∃ Z : ExtO (fun b => b = w.heap.size + 1) V, w' = Z.1) (by kernel_rfl) ?_
  obtain ⟨Z0, hZ0⟩ : ∃ Z : ExtO (fun b => b = w.heap.size + 1) V, ({ V with drawn := V.drawn + 1 } : World) = Z.1 := ⟨⟨{ V with drawn := V.drawn + 1 }, ⟨rfl, rfl, rfl, Nat.le_refl _, fun _ _ _ => rfl⟩⟩, rfl⟩
  have HR0 := Lib.hid (show Z0.1.heap[w.heap.size + 1]? = some (.cells #[.slice none 0 0, .slice none 0 0, .slice none 0 0, .slice none 0 0] 27 (0, 0)) by rw [← hZ0]; exact HR.out)
  rw [hZ0]
  clear hZ0
  refine held_quiet (by kernel_rfl) (fun _ _ d _ _ h => by cases d <;> exact h) ⟨Z0, rfl⟩ [0, 1, 3, 4, 6, 7, 9, 10] 6 _ _ (by kernel_rfl) ?_
  change wpQuiet _ _ _ _ (_ :: _ :: _ :: _ :: _ :: _ :: _ :: _ :: []) _
  repeat go_big_quiet_step (fail)
  refine wpQuiet_nil ?_
  refine held_do (i := 2) _ rfl (by kernel_rfl) rfl (fun K hK => ?_)
  go_simp
  refine (D0.out Z0).mono ?_
  rintro e w1 ⟨v0, rfl, hown0, hb0⟩
  obtain ⟨b0, d0, rfl, _, _⟩ := ownRow_hdr (f := g.cellsP) (fun _ => rfl) hown0
  have HO0 := Lib.hid (ownsRow_lower hown0 (base' := V.heap.size) Z0.2.size)
  have HR1 := Lib.hid (below_block hb0 HR0.out)
  obtain ⟨Z1, rfl⟩ : ∃ Z : ExtO (fun b => b = w.heap.size + 1) V, w1 = Z.1 := ⟨⟨w1, Z0.2.trans (Kept.of_below hb0)⟩, rfl⟩
  refine hK _ _ ⟨Z1, rfl⟩ ?_
  clear hK K hown0 hb0
  try simp only [Act.put, List.setIfInBounds_toArray, List.set_cons_zero, List.set_cons_succ]
  refine held_do (i := 5) _ rfl (by kernel_rfl) rfl (fun K hK => ?_)
  go_simp
  refine (D1.out Z1).mono ?_
  rintro e w2 ⟨v1, rfl, hown1, hb1⟩
  obtain ⟨b1, d1, rfl, _, _⟩ := ownRow_hdr (f := g.cellsS) (fun _ => rfl) hown1
  have HO1 := Lib.hid (ownsRow_lower hown1 (base' := V.heap.size) Z1.2.size)
  have HO0 := Lib.hid (ownsRow_below HO0.out hb1)
  have HR2 := Lib.hid (below_block hb1 HR1.out)
  obtain ⟨Z2, rfl⟩ : ∃ Z : ExtO (fun b => b = w.heap.size + 1) V, w2 = Z.1 := ⟨⟨w2, Z1.2.trans (Kept.of_below hb1)⟩, rfl⟩
  refine hK _ _ ⟨Z2, rfl⟩ ?_
  clear hK K hown1 hb1
  try simp only [Act.put, List.setIfInBounds_toArray, List.set_cons_zero, List.set_cons_succ]
  refine held_do (i := 8) _ rfl (by kernel_rfl) rfl (fun K hK => ?_)
  go_simp
  refine (D2.out Z2).mono ?_
  rintro e w3 ⟨v2, rfl, hown2, hb2⟩
  obtain ⟨b2, d2, rfl, _, _⟩ := ownRow_hdr (f := g.cellsM) (fun _ => rfl) hown2
  have HO2 := Lib.hid (ownsRow_lower hown2 (base' := V.heap.size) Z2.2.size)
  have HO0 := Lib.hid (ownsRow_below HO0.out hb2)
  have HO1 := Lib.hid (ownsRow_below HO1.out hb2)
  have HR3 := Lib.hid (below_block hb2 HR2.out)
  obtain ⟨Z3, rfl⟩ : ∃ Z : ExtO (fun b => b = w.heap.size + 1) V, w3 = Z.1 := ⟨⟨w3, Z2.2.trans (Kept.of_below hb2)⟩, rfl⟩
  refine hK _ _ ⟨Z3, rfl⟩ ?_
  clear hK K hown2 hb2
  try simp only [Act.put, List.setIfInBounds_toArray, List.set_cons_zero, List.set_cons_succ]
  refine held_do (i := 11) _ rfl (by kernel_rfl) rfl (fun K hK => ?_)
  go_simp
  refine (D3.out Z3).mono ?_
  rintro e w4 ⟨v3, rfl, hown3, hb3⟩
  obtain ⟨b3, d3, rfl, _, _⟩ := ownRow_hdr (f := g.cellsU) (fun _ => rfl) hown3
  have HO3 := Lib.hid (ownsRow_lower hown3 (base' := V.heap.size) Z3.2.size)
  have HO0 := Lib.hid (ownsRow_below HO0.out hb3)
  have HO1 := Lib.hid (ownsRow_below HO1.out hb3)
  have HO2 := Lib.hid (ownsRow_below HO2.out hb3)
  have HR4 := Lib.hid (below_block hb3 HR3.out)
  obtain ⟨Z4, rfl⟩ : ∃ Z : ExtO (fun b => b = w.heap.size + 1) V, w4 = Z.1 := ⟨⟨w4, Z3.2.trans (Kept.of_below hb3)⟩, rfl⟩
  refine hK _ _ ⟨Z4, rfl⟩ ?_
  clear hK K hown3 hb3
  try simp only [Act.put, List.setIfInBounds_toArray, List.set_cons_zero, List.set_cons_succ]
  refine held_do (i := 12) _ rfl (by kernel_rfl) rfl (fun K hK => ?_)
  go_simp
  refine hK _ _ ⟨Z4, rfl⟩ ?_
  clear hK K
  try simp only [Act.put, List.setIfInBounds_toArray, List.set_cons_zero, List.set_cons_succ]
  have q0 : Z4.1.cell? ⟨w.heap.size + 1, 0, none⟩ = some (.slice none 0 0) := block_cell HR4.out rfl
  have z0 : Z4.1.frozen? ⟨w.heap.size + 1, 0, none⟩ = false := block_free HR4.out
  have q1 : Z4.1.cell? ⟨w.heap.size + 1, 1, none⟩ = some (.slice none 0 0) := block_cell HR4.out rfl
  have z1 : Z4.1.frozen? ⟨w.heap.size + 1, 1, none⟩ = false := block_free HR4.out
  have q2 : Z4.1.cell? ⟨w.heap.size + 1, 2, none⟩ = some (.slice none 0 0) := block_cell HR4.out rfl
  have z2 : Z4.1.frozen? ⟨w.heap.size + 1, 2, none⟩ = false := block_free HR4.out
  have q3 : Z4.1.cell? ⟨w.heap.size + 1, 3, none⟩ = some (.slice none 0 0) := block_cell HR4.out rfl
  have z3 : Z4.1.frozen? ⟨w.heap.size + 1, 3, none⟩ = false := block_free HR4.out
  refine held_do (i := 13) _ rfl (by kernel_rfl) rfl (fun K hK => ?_)
  go_simp
  obtain ⟨W5, hW5, hr5, hk5, _⟩ := store4 HR4.out (.slice b0 g.np d0) (.slice b1 g.ns d1) (.slice b2 g.nm d2) (.slice b3 g.nu d3)
  rw [hW5]
  have HB5 : Hid (Below w.heap.size w W5) := Lib.hid (HDN.out ⟨W5, Z4.2.trans hk5⟩)
  have HOG : Hid (OwnG W5 w.heap.size g b0 b1 b2 b3 d0 d1 d2 d3) := Lib.hid (by
    have hv := HS.out
    have low : ∀ b, V.heap.size ≤ b → ¬ b = w.heap.size + 1 := fun b hb e => by omega
    exact ⟨ownsRow_lower (ownsRow_kept HO0.out hk5 low) (by omega), ownsRow_lower (ownsRow_kept HO1.out hk5 low) (by omega), ownsRow_lower (ownsRow_kept HO2.out hk5 low) (by omega), ownsRow_lower (ownsRow_kept HO3.out hk5 low) (by omega)⟩)
  refine hK _ _ ⟨⟨W5, Z4.2.trans hk5⟩, rfl⟩ ?_
  clear hK K hW5 hk5
  have x0 : W5.cell? ⟨w.heap.size + 1, 0, none⟩ = some (.slice b0 g.np d0) := block_cell hr5 rfl
  have x1 : W5.cell? ⟨w.heap.size + 1, 1, none⟩ = some (.slice b1 g.ns d1) := block_cell hr5 rfl
  have x2 : W5.cell? ⟨w.heap.size + 1, 2, none⟩ = some (.slice b2 g.nm d2) := block_cell hr5 rfl
  have x3 : W5.cell? ⟨w.heap.size + 1, 3, none⟩ = some (.slice b3 g.nu d3) := block_cell hr5 rfl
  clear hr5
  refine wpAnyH_done (by kernel_rfl) ?_ _
  go_wp2_with fail
  exact bodyPost_ret (v := garV g b0 b1 b2 b3 d0 d1 d2 d3) (by unfold garV; simp [results, Try.results78, go_sem, x0, x1, x2, x3]) rfl ⟨b0, b1, b2, b3, d0, d1, d2, d3, rfl, HOG.out, HB5.out⟩
set_option maxHeartbeats 8000000 in
set_option maxRecDepth 100000 in
theorem copied_any (g : Gar) (a0 a1 a2 a3 : Option Addr) (c0 c1 c2 c3 : Nat) (w : World) (h : GarIn w g a0 a1 a2 a3) (hchk : chk g = 0) :
    Calls Try.prog 80 #[garV g a0 a1 a2 a3 c0 c1 c2 c3] w fun e w' => ∃ b0 b1 b2 b3 d0 d1 d2 d3, e = .returned (garV g b0 b1 b2 b3 d0 d1 d2 d3) ∧ OwnG w' w.heap.size g b0 b1 b2 b3 d0 d1 d2 d3 ∧ Below w.heap.size w w' := by
  have hpt := Gar.chk_parts hchk
  have HL := Lib.hid (show g.np ≤ 500 ∧ g.ns ≤ 100 ∧ g.nm ≤ 2000 ∧ g.nu ≤ 5000 from ⟨hpt.1, hpt.2.1, hpt.2.2.1, hpt.2.2.2.1⟩)
  obtain ⟨V, hV, hb, hs', hq⟩ := allocs w [.cells #[.slice a0 g.np c0, .slice a1 g.ns c1, .slice a2 g.nm c2, .slice a3 g.nu c3] 27, .cells #[.slice none 0 0, .slice none 0 0, .slice none 0 0, .slice none 0 0] 27]
  have hs : V.heap.size = w.heap.size + 2 := hs'
  clear hs'
  have hne : ¬ w.heap.size = w.heap.size + 1 := by omega
  have G0 := ExtO.ex (O := fun b => b = w.heap.size + 1) (p := ⟨w.heap.size, 0, none⟩) hne (show V.cell? ⟨w.heap.size, 0, none⟩ = some (.slice a0 g.np c0) from block_cell (hq 0 _ rfl) rfl)
  have G1 := ExtO.ex (O := fun b => b = w.heap.size + 1) (p := ⟨w.heap.size, 1, none⟩) hne (show V.cell? ⟨w.heap.size, 1, none⟩ = some (.slice a1 g.ns c1) from block_cell (hq 0 _ rfl) rfl)
  have G2 := ExtO.ex (O := fun b => b = w.heap.size + 1) (p := ⟨w.heap.size, 2, none⟩) hne (show V.cell? ⟨w.heap.size, 2, none⟩ = some (.slice a2 g.nm c2) from block_cell (hq 0 _ rfl) rfl)
  have G3 := ExtO.ex (O := fun b => b = w.heap.size + 1) (p := ⟨w.heap.size, 3, none⟩) hne (show V.cell? ⟨w.heap.size, 3, none⟩ = some (.slice a3 g.nu c3) from block_cell (hq 0 _ rfl) rfl)
  have HR := Lib.hid (show V.heap[w.heap.size + 1]? = some (.cells #[.slice none 0 0, .slice none 0 0, .slice none 0 0, .slice none 0 0] 27 (0, 0)) from hq 1 _ rfl)
  have HB := Lib.hid hb
  have HS := Lib.hid hs
  have hbs : w.heap.size ≤ V.heap.size := by omega
  have HDN := Lib.hid (fun (X : ExtO (fun b => b = w.heap.size + 1) V) => X.down hb hbs (fun k hk e => by omega))
  have HIN := Lib.hid (fun (X : ExtO (fun b => b = w.heap.size + 1) V) => h.below (HDN.out X))
  have HV2 := Lib.hid (show (w.alloc (.cells #[.slice a0 g.np c0, .slice a1 g.ns c1, .slice a2 g.nm c2, .slice a3 g.nu c3] 27)).alloc (.cells #[.slice none 0 0, .slice none 0 0, .slice none 0 0, .slice none 0 0] 27) = V from hV)
  obtain ⟨i0, hi0, hz00, hz01, hz02⟩ := info_parts (show (Try.prog.info? 94).map (fun i => (i.zero, i.size, i.bytes)) = some (some (.agg #[.string ⟨#[]⟩, .int .i64 0]), 2, 24) by kernel_rfl)
  have HU0 := Lib.hid (show Try.prog.underlying 22 = some (.slice 94) by kernel_rfl)
  have HI0 := Lib.hid (And.intro hi0 (And.intro hz00 (And.intro hz01 hz02)))
  clear hi0 hz00 hz01 hz02
  obtain ⟨i1, hi1, hz10, hz11, hz12⟩ := info_parts (show (Try.prog.info? 40).map (fun i => (i.zero, i.size, i.bytes)) = some (some (.agg #[.string ⟨#[]⟩, .string ⟨#[]⟩]), 2, 32) by kernel_rfl)
  have HU1 := Lib.hid (show Try.prog.underlying 23 = some (.slice 40) by kernel_rfl)
  have HI1 := Lib.hid (And.intro hi1 (And.intro hz10 (And.intro hz11 hz12)))
  clear hi1 hz10 hz11 hz12
  obtain ⟨i2, hi2, hz20, hz21, hz22⟩ := info_parts (show (Try.prog.info? 54).map (fun i => (i.zero, i.size, i.bytes)) = some (some (.agg #[.string ⟨#[]⟩, .string ⟨#[]⟩, .int .i64 0, .int .i64 0]), 4, 48) by kernel_rfl)
  have HU2 := Lib.hid (show Try.prog.underlying 24 = some (.slice 54) by kernel_rfl)
  have HI2 := Lib.hid (And.intro hi2 (And.intro hz20 (And.intro hz21 hz22)))
  clear hi2 hz20 hz21 hz22
  obtain ⟨i3, hi3, hz30, hz31, hz32⟩ := info_parts (show (Try.prog.info? 38).map (fun i => (i.zero, i.size, i.bytes)) = some (some (.agg #[.string ⟨#[]⟩, .string ⟨#[]⟩, .int .i64 0, .int .i64 0, .int .i64 0]), 5, 56) by kernel_rfl)
  have HU3 := Lib.hid (show Try.prog.underlying 25 = some (.slice 38) by kernel_rfl)
  have HI3 := Lib.hid (And.intro hi3 (And.intro hz30 (And.intro hz31 hz32)))
  clear hi3 hz30 hz31 hz32
  unfold garV
  clear h hV hb hs hq hpt hchk hne hbs
  go_enter Try.func80, Try.ntmps80
  go_upto_region 1 with (fail)
  rw [HV2.out]
  refine held_start (C := fun w' => ∃ Z : ExtO (fun b => b = w.heap.size + 1) V, w' = Z.1) (by kernel_rfl) ?_
  obtain ⟨Z0, hZ0⟩ : ∃ Z : ExtO (fun b => b = w.heap.size + 1) V, ({ V with drawn := V.drawn + 1 } : World) = Z.1 := ⟨⟨{ V with drawn := V.drawn + 1 }, ⟨rfl, rfl, rfl, Nat.le_refl _, fun _ _ _ => rfl⟩⟩, rfl⟩
  have HR0 := Lib.hid (show Z0.1.heap[w.heap.size + 1]? = some (.cells #[.slice none 0 0, .slice none 0 0, .slice none 0 0, .slice none 0 0] 27 (0, 0)) by rw [← hZ0]; exact HR.out)
  rw [hZ0]
  clear hZ0
  refine held_quiet (by kernel_rfl) (fun _ _ d _ _ h => by cases d <;> exact h) ⟨Z0, rfl⟩ [0, 1, 3, 4, 6, 7, 9, 10] 6 _ _ (by kernel_rfl) ?_
  change wpQuiet _ _ _ _ (_ :: _ :: _ :: _ :: _ :: _ :: _ :: _ :: []) _
  repeat go_big_quiet_step (fail)
  refine wpQuiet_nil ?_
  refine held_do (i := 2) _ rfl (by kernel_rfl) rfl (fun K hK => ?_)
  refine wp_append_row Z0.1 _ _ 22 rfl V.heap.size 94 i0 (.agg #[.string ⟨#[]⟩, .int .i64 0]) 2 24 HU0.out HI0.out.1 HI0.out.2.1 HI0.out.2.2.1 HI0.out.2.2.2 rfl (by decide) (.slice none 0 0) 0 [] rfl (World.ownsRow_nil _ _ _ _) a0 g.np c0 g.cellsP (fun _ => rfl) (cellsP_one g) rfl (HIN.out Z0).r0 (by have := HL.out; unfold maxLen; omega) (by have := HL.out; omega) Z0.2.size fun v0 w1 hown0 hg => ?_
  rw [Nat.zero_add, List.nil_append] at hown0
  have hb0 : Below Z0.1.heap.size Z0.1 w1 := ⟨hg.os, hg.tape, hg.output, hg.size, fun q hq => hg.block q hq (by simp [Value.ownBlock])⟩
  obtain ⟨b0, d0, rfl, _, _⟩ := ownRow_hdr (f := g.cellsP) (fun _ => rfl) hown0
  have HO0 := Lib.hid hown0
  have HR1 := Lib.hid (below_block hb0 HR0.out)
  obtain ⟨Z1, rfl⟩ : ∃ Z : ExtO (fun b => b = w.heap.size + 1) V, w1 = Z.1 := ⟨⟨w1, Z0.2.trans (Kept.of_below hb0)⟩, rfl⟩
  refine hK _ _ ⟨Z1, rfl⟩ ?_
  clear hK K hown0 hb0 hg
  try simp only [Act.put, List.setIfInBounds_toArray, List.set_cons_zero, List.set_cons_succ]
  refine held_do (i := 5) _ rfl (by kernel_rfl) rfl (fun K hK => ?_)
  refine wp_append_row Z1.1 _ _ 23 rfl V.heap.size 40 i1 (.agg #[.string ⟨#[]⟩, .string ⟨#[]⟩]) 2 32 HU1.out HI1.out.1 HI1.out.2.1 HI1.out.2.2.1 HI1.out.2.2.2 rfl (by decide) (.slice none 0 0) 0 [] rfl (World.ownsRow_nil _ _ _ _) a1 g.ns c1 g.cellsS (fun _ => rfl) (cellsS_one g) rfl (HIN.out Z1).r1 (by have := HL.out; unfold maxLen; omega) (by have := HL.out; omega) Z1.2.size fun v1 w2 hown1 hg => ?_
  rw [Nat.zero_add, List.nil_append] at hown1
  have hb1 : Below Z1.1.heap.size Z1.1 w2 := ⟨hg.os, hg.tape, hg.output, hg.size, fun q hq => hg.block q hq (by simp [Value.ownBlock])⟩
  obtain ⟨b1, d1, rfl, _, _⟩ := ownRow_hdr (f := g.cellsS) (fun _ => rfl) hown1
  have HO1 := Lib.hid hown1
  have HO0 := Lib.hid (ownsRow_below HO0.out hb1)
  have HR2 := Lib.hid (below_block hb1 HR1.out)
  obtain ⟨Z2, rfl⟩ : ∃ Z : ExtO (fun b => b = w.heap.size + 1) V, w2 = Z.1 := ⟨⟨w2, Z1.2.trans (Kept.of_below hb1)⟩, rfl⟩
  refine hK _ _ ⟨Z2, rfl⟩ ?_
  clear hK K hown1 hb1 hg
  try simp only [Act.put, List.setIfInBounds_toArray, List.set_cons_zero, List.set_cons_succ]
  refine held_do (i := 8) _ rfl (by kernel_rfl) rfl (fun K hK => ?_)
  refine wp_append_row Z2.1 _ _ 24 rfl V.heap.size 54 i2 (.agg #[.string ⟨#[]⟩, .string ⟨#[]⟩, .int .i64 0, .int .i64 0]) 4 48 HU2.out HI2.out.1 HI2.out.2.1 HI2.out.2.2.1 HI2.out.2.2.2 rfl (by decide) (.slice none 0 0) 0 [] rfl (World.ownsRow_nil _ _ _ _) a2 g.nm c2 g.cellsM (fun _ => rfl) (cellsM_one g) rfl (HIN.out Z2).r2 (by have := HL.out; unfold maxLen; omega) (by have := HL.out; omega) Z2.2.size fun v2 w3 hown2 hg => ?_
  rw [Nat.zero_add, List.nil_append] at hown2
  have hb2 : Below Z2.1.heap.size Z2.1 w3 := ⟨hg.os, hg.tape, hg.output, hg.size, fun q hq => hg.block q hq (by simp [Value.ownBlock])⟩
  obtain ⟨b2, d2, rfl, _, _⟩ := ownRow_hdr (f := g.cellsM) (fun _ => rfl) hown2
  have HO2 := Lib.hid hown2
  have HO0 := Lib.hid (ownsRow_below HO0.out hb2)
  have HO1 := Lib.hid (ownsRow_below HO1.out hb2)
  have HR3 := Lib.hid (below_block hb2 HR2.out)
  obtain ⟨Z3, rfl⟩ : ∃ Z : ExtO (fun b => b = w.heap.size + 1) V, w3 = Z.1 := ⟨⟨w3, Z2.2.trans (Kept.of_below hb2)⟩, rfl⟩
  refine hK _ _ ⟨Z3, rfl⟩ ?_
  clear hK K hown2 hb2 hg
  try simp only [Act.put, List.setIfInBounds_toArray, List.set_cons_zero, List.set_cons_succ]
  refine held_do (i := 11) _ rfl (by kernel_rfl) rfl (fun K hK => ?_)
  refine wp_append_row Z3.1 _ _ 25 rfl V.heap.size 38 i3 (.agg #[.string ⟨#[]⟩, .string ⟨#[]⟩, .int .i64 0, .int .i64 0, .int .i64 0]) 5 56 HU3.out HI3.out.1 HI3.out.2.1 HI3.out.2.2.1 HI3.out.2.2.2 rfl (by decide) (.slice none 0 0) 0 [] rfl (World.ownsRow_nil _ _ _ _) a3 g.nu c3 g.cellsU (fun _ => rfl) (cellsU_one g) rfl (HIN.out Z3).r3 (by have := HL.out; unfold maxLen; omega) (by have := HL.out; omega) Z3.2.size fun v3 w4 hown3 hg => ?_
  rw [Nat.zero_add, List.nil_append] at hown3
  have hb3 : Below Z3.1.heap.size Z3.1 w4 := ⟨hg.os, hg.tape, hg.output, hg.size, fun q hq => hg.block q hq (by simp [Value.ownBlock])⟩
  obtain ⟨b3, d3, rfl, _, _⟩ := ownRow_hdr (f := g.cellsU) (fun _ => rfl) hown3
  have HO3 := Lib.hid hown3
  have HO0 := Lib.hid (ownsRow_below HO0.out hb3)
  have HO1 := Lib.hid (ownsRow_below HO1.out hb3)
  have HO2 := Lib.hid (ownsRow_below HO2.out hb3)
  have HR4 := Lib.hid (below_block hb3 HR3.out)
  obtain ⟨Z4, rfl⟩ : ∃ Z : ExtO (fun b => b = w.heap.size + 1) V, w4 = Z.1 := ⟨⟨w4, Z3.2.trans (Kept.of_below hb3)⟩, rfl⟩
  refine hK _ _ ⟨Z4, rfl⟩ ?_
  clear hK K hown3 hb3 hg
  try simp only [Act.put, List.setIfInBounds_toArray, List.set_cons_zero, List.set_cons_succ]
  refine held_do (i := 12) _ rfl (by kernel_rfl) rfl (fun K hK => ?_)
  go_simp
  refine hK _ _ ⟨Z4, rfl⟩ ?_
  clear hK K
  try simp only [Act.put, List.setIfInBounds_toArray, List.set_cons_zero, List.set_cons_succ]
  have q0 : Z4.1.cell? ⟨w.heap.size + 1, 0, none⟩ = some (.slice none 0 0) := block_cell HR4.out rfl
  have z0 : Z4.1.frozen? ⟨w.heap.size + 1, 0, none⟩ = false := block_free HR4.out
  have q1 : Z4.1.cell? ⟨w.heap.size + 1, 1, none⟩ = some (.slice none 0 0) := block_cell HR4.out rfl
  have z1 : Z4.1.frozen? ⟨w.heap.size + 1, 1, none⟩ = false := block_free HR4.out
  have q2 : Z4.1.cell? ⟨w.heap.size + 1, 2, none⟩ = some (.slice none 0 0) := block_cell HR4.out rfl
  have z2 : Z4.1.frozen? ⟨w.heap.size + 1, 2, none⟩ = false := block_free HR4.out
  have q3 : Z4.1.cell? ⟨w.heap.size + 1, 3, none⟩ = some (.slice none 0 0) := block_cell HR4.out rfl
  have z3 : Z4.1.frozen? ⟨w.heap.size + 1, 3, none⟩ = false := block_free HR4.out
  refine held_do (i := 13) _ rfl (by kernel_rfl) rfl (fun K hK => ?_)
  go_simp
  obtain ⟨W5, hW5, hr5, hk5, _⟩ := store4 HR4.out (.slice b0 g.np d0) (.slice b1 g.ns d1) (.slice b2 g.nm d2) (.slice b3 g.nu d3)
  rw [hW5]
  have HB5 : Hid (Below w.heap.size w W5) := Lib.hid (HDN.out ⟨W5, Z4.2.trans hk5⟩)
  have HOG : Hid (OwnG W5 w.heap.size g b0 b1 b2 b3 d0 d1 d2 d3) := Lib.hid (by
    have hv := HS.out
    have low : ∀ b, V.heap.size ≤ b → ¬ b = w.heap.size + 1 := fun b hb e => by omega
    exact ⟨ownsRow_lower (ownsRow_kept HO0.out hk5 low) (by omega), ownsRow_lower (ownsRow_kept HO1.out hk5 low) (by omega), ownsRow_lower (ownsRow_kept HO2.out hk5 low) (by omega), ownsRow_lower (ownsRow_kept HO3.out hk5 low) (by omega)⟩)
  refine hK _ _ ⟨⟨W5, Z4.2.trans hk5⟩, rfl⟩ ?_
  clear hK K hW5 hk5
  have x0 : W5.cell? ⟨w.heap.size + 1, 0, none⟩ = some (.slice b0 g.np d0) := block_cell hr5 rfl
  have x1 : W5.cell? ⟨w.heap.size + 1, 1, none⟩ = some (.slice b1 g.ns d1) := block_cell hr5 rfl
  have x2 : W5.cell? ⟨w.heap.size + 1, 2, none⟩ = some (.slice b2 g.nm d2) := block_cell hr5 rfl
  have x3 : W5.cell? ⟨w.heap.size + 1, 3, none⟩ = some (.slice b3 g.nu d3) := block_cell hr5 rfl
  clear hr5
  refine wpAnyH_done (by kernel_rfl) ?_ _
  go_wp2_with fail
  exact bodyPost_ret (v := garV g b0 b1 b2 b3 d0 d1 d2 d3) (by unfold garV; simp [results, Try.results80, go_sem, x0, x1, x2, x3]) rfl ⟨b0, b1, b2, b3, d0, d1, d2, d3, rfl, HOG.out, HB5.out⟩
end Go.Proofs.Ytbkpoepacjinlaa

/- Gear: a use more, or less: what Add and Drop return, in plain lists. -/
namespace Go.Proofs.Ytbkpoepacjinlaa
open Go Go.Sort
open Gar (endG momG chkP chkS chkM chkU chk anyOver overB hasS hasP befM befU chkUse)

theorem strLt_irr (a : ByteArray) : strLt a a = false := less_irr _
theorem strLt_trans {a b c : ByteArray} (h : strLt a b = true) (k : strLt b c = true) : strLt a c = true := less_trans _ _ _ h k
theorem toList_inj {a b : ByteArray} (h : a.toList = b.toList) : a = b := by
  rw [ByteArray.toList_eq, ByteArray.toList_eq] at h
  cases a with
  | mk x =>
    cases b with
    | mk y => rw [show x = y from Array.toList_inj.1 h]
theorem strLt_tot (a b : ByteArray) : strLt a b = true ∨ strLt b a = true ∨ a = b := by
  have h := str_le a b
  cases hb : strLt b a with
  | true => exact Or.inr (Or.inl rfl)
  | false =>
    rw [hb] at h
    simp only [Bool.not_false, Bool.or_eq_true, beq_iff_eq] at h
    rcases h with h | h
    · exact Or.inl h
    · exact Or.inr (Or.inr (toList_inj h))
section
variable {f1 f2 f3 : Int} {s1 s2 s3 : ByteArray}
theorem befB_iff : befB f1 f2 s1 s2 = true ↔ f1 < f2 ∨ (f1 = f2 ∧ strLt s1 s2 = true) := by simp [befB]
theorem befB_irr (f : Int) (s : ByteArray) : befB f f s s = false := by
  cases h : befB f f s s with
  | false => rfl
  | true =>
    rcases befB_iff.1 h with h | ⟨_, h⟩
    · omega
    · rw [strLt_irr] at h; cases h
theorem befB_trans (h : befB f1 f2 s1 s2 = true) (k : befB f2 f3 s2 s3 = true) : befB f1 f3 s1 s3 = true := by
  rw [befB_iff] at *
  rcases h with h | ⟨h1, h2⟩ <;> rcases k with k | ⟨k1, k2⟩
  · exact Or.inl (by omega)
  · exact Or.inl (by omega)
  · exact Or.inl (by omega)
  · exact Or.inr ⟨by omega, strLt_trans h2 k2⟩
theorem befB_tot (f1 f2 : Int) (s1 s2 : ByteArray) : befB f1 f2 s1 s2 = true ∨ befB f2 f1 s2 s1 = true ∨ (f1 = f2 ∧ s1 = s2) := by
  rw [befB_iff, befB_iff]
  rcases Int.lt_trichotomy f1 f2 with h | h | h
  · exact Or.inl (Or.inl h)
  · rcases strLt_tot s1 s2 with k | k | k
    · exact Or.inl (Or.inr ⟨h, k⟩)
    · exact Or.inr (Or.inl (Or.inr ⟨h.symm, k⟩))
    · exact Or.inr (Or.inr ⟨h, k⟩)
  · exact Or.inr (Or.inl (Or.inl h))
theorem befB_ntrans (h : befB f1 f2 s1 s2 = false) (k : befB f2 f3 s2 s3 = false) : befB f1 f3 s1 s3 = false := by
  have h' : befB f2 f1 s2 s1 = true ∨ (f1 = f2 ∧ s1 = s2) := (befB_tot f1 f2 s1 s2).resolve_left (by rw [h]; simp)
  have k' : befB f3 f2 s3 s2 = true ∨ (f2 = f3 ∧ s2 = s3) := (befB_tot f2 f3 s2 s3).resolve_left (by rw [k]; simp)
  cases e : befB f1 f3 s1 s3 with
  | false => rfl
  | true =>
    rcases h' with h' | ⟨rfl, rfl⟩
    · rcases k' with k' | ⟨rfl, rfl⟩
      · have := befB_trans (befB_trans k' h') e
        rw [befB_irr] at this; cases this
      · rw [h] at e; cases e
    · rw [k] at e; cases e
end
theorem swo_bef {α : Type} (f : α → Int) (s : α → ByteArray) : SWO (fun x y : α => befB (f x) (f y) (s x) (s y)) :=
  ⟨fun _ => befB_irr _ _, fun _ _ _ h k => befB_trans h k, fun _ _ _ h k => befB_ntrans h k⟩
theorem lt_ord {α : Type} (f : α → Int) (s : α → ByteArray) : ltOf (fun x y : α => ordI (f x) (f y) (s x) (s y)) = fun x y : α => befB (f x) (f y) (s x) (s y) := by
  funext x y
  have h := ord_neg (f x) (f y) (s x) (s y)
  unfold ltOf
  cases hb : befB (f x) (f y) (s x) (s y) with
  | true => rw [hb] at h; simp at h; rw [decide_eq_true_eq]; exact h
  | false => rw [hb] at h; simp at h; rw [decide_eq_false_iff_not]; exact Int.not_lt.2 h

/-! a sorted row and one more -/
section ins
variable {α : Type} {lt : α → α → Bool}
def insL (lt : α → α → Bool) (u : α) : List α → List α
  | [] => [u]
  | a :: l => if lt a u = true then a :: insL lt u l else u :: a :: l
theorem insL_perm (u : α) : ∀ l : List α, (insL lt u l).Perm (l ++ [u])
  | [] => List.Perm.refl _
  | a :: l => by
    rw [insL]
    split
    · exact (insL_perm u l).cons a
    · exact (List.perm_append_singleton u (a :: l)).symm
theorem insL_len (u : α) (l : List α) : (insL lt u l).length = l.length + 1 := by rw [(insL_perm u l).length_eq]; simp
theorem insL_mem {u x : α} {l : List α} (h : x ∈ insL lt u l) : x = u ∨ x ∈ l := by
  have := (insL_perm u l).subset h
  simp at this
  exact this.symm
theorem insL_sorted (hO : SWO lt) (u : α) : ∀ l : List α, l.Pairwise (fun x y => lt x y = true) → (∀ x, x ∈ l → lt x u = true ∨ lt u x = true) → (insL lt u l).Pairwise (fun x y => lt x y = true)
  | [], _, _ => by simp [insL]
  | a :: l, h, hd => by
    rw [List.pairwise_cons] at h
    rw [insL]
    split
    · rename_i ha
      rw [List.pairwise_cons]
      refine ⟨fun x hx => ?_, insL_sorted hO u l h.2 fun x hx => hd x (by simp [hx])⟩
      rcases insL_mem hx with rfl | hx
      · exact ha
      · exact h.1 x hx
    · rename_i ha
      have hua : lt u a = true := (hd a (by simp)).resolve_left ha
      rw [List.pairwise_cons, List.pairwise_cons]
      refine ⟨fun x hx => ?_, h⟩
      rcases List.mem_cons.1 hx with rfl | hx
      · exact hua
      · exact hO.trans _ _ _ hua (h.1 x hx)
/-- the walk along the row: what stands before it is passed by -/
theorem insL_pass {u : α} : ∀ (l1 l2 : List α), (∀ x, x ∈ l1 → lt x u = true) → insL lt u (l1 ++ l2) = l1 ++ insL lt u l2
  | [], _, _ => rfl
  | a :: l1, l2, h => by
    rw [List.cons_append, insL, if_pos (h a (by simp)), insL_pass l1 l2 fun x hx => h x (by simp [hx])]
    rfl
theorem insL_stop {u : α} {l : List α} (h : ∀ a r, l = a :: r → lt a u = false) : insL lt u l = u :: l := by
  cases l with
  | nil => rfl
  | cons a r => rw [insL, if_neg (by rw [h a r rfl]; simp)]
end ins

structure Us where
  n : ByteArray
  r : ByteArray
  f : Int
  s : Int
  x : Int
instance : Inhabited Us := ⟨⟨⟨#[]⟩, ⟨#[]⟩, 0, 0, 0⟩⟩
def encU (u : Us) : List Value := [.string u.n, .string u.r, .int .i64 u.f, .int .i64 u.s, .int .i64 u.x]
def befs (a b : Us) : Bool := befB a.f b.f a.n b.n
def insU (u : Us) (l : List Us) : List Us := insL befs u l
def fineU (u : Us) : Prop := chkUse u.n u.r false u.f u.s u.x = 0
def named (nm : ByteArray) (l : List Us) : Bool := l.any fun y => decide (y.n = nm)
namespace Gar
def use (g : Gar) (i : Nat) : Us := ⟨g.un i, g.ur i, g.uf i, g.us i, g.uw i⟩
def uses (g : Gar) : List Us := (List.range g.nu).map g.use
theorem uses_len (g : Gar) : g.uses.length = g.nu := by simp [uses]
theorem uses_get (g : Gar) {i : Nat} (h : i < g.nu) : g.uses[i]'(by rw [uses_len]; exact h) = g.use i := by simp [uses]
/-- the garage that is returned with an error -/
def zero : Gar := ⟨0, 0, 0, 0, fun _ => ⟨#[]⟩, fun _ => 0, fun _ => ⟨#[]⟩, fun _ => ⟨#[]⟩, fun _ => ⟨#[]⟩, fun _ => ⟨#[]⟩, fun _ => 0, fun _ => 0, fun _ => ⟨#[]⟩, fun _ => ⟨#[]⟩, fun _ => 0, fun _ => 0, fun _ => 0⟩
def useErr (g : Gar) (u : Us) : Int := chkUse u.n u.r (named u.n g.uses) u.f u.s u.x
def addErr (g : Gar) (u : Us) : Int := if chk g ≠ 0 then chk g else if useErr g u ≠ 0 then useErr g u else if 5000 ≤ g.nu then 3 else 0
def without (nm : ByteArray) (l : List Us) : List Us := l.filter fun y => !decide (y.n = nm)
theorem chkUse_false {n r : ByteArray} {tw : Bool} {f s x : Int} (h : chkUse n r tw f s x = 0) : tw = false ∧ chkUse n r false f s x = 0 := by
  cases tw with
  | false => exact ⟨rfl, h⟩
  | true =>
    unfold chkUse at h
    split at h
    · omega
    · simp at h
theorem add_zero {g : Gar} {u : Us} (h : addErr g u = 0) : chk g = 0 ∧ fineU u ∧ named u.n g.uses = false ∧ g.nu < 5000 := by
  unfold addErr at h
  split at h
  · rename_i a; exact absurd h a
  · split at h
    · rename_i a b; exact absurd h b
    · rename_i a b
      split at h
      · omega
      · obtain ⟨h1, h2⟩ := chkUse_false (show useErr g u = 0 by simpa using b)
        exact ⟨by simpa using a, h2, h1, by omega⟩
end Gar
end Go.Proofs.Ytbkpoepacjinlaa

/- Gear: the orders of mounts and of uses, for the library's sort: what they lay and draw. -/
namespace Go.Proofs.Ytbkpoepacjinlaa
open Go.RowKit Go.BigFrame Go.Sort
open Gar (momG endG)

set_option maxHeartbeats 2000000 in
set_option maxRecDepth 100000 in
theorem mountOrder_grow (s p s' p' : ByteArray) (f t f' t' : Int) (w : World) :
    Calls Try.prog 90 #[mountV s p f t, mountV s' p' f' t'] w fun e w' => e = .returned (.int .i64 (ordI f f' s s')) ∧ ∃ q os', w' = grow (w.drewN q) os' := by
  have D1 := Lib.hid (fun W => Try.cmp_Compare_int f f' W)
  have D2 := Lib.hid (fun W => Try.strings_Compare s s' W)
  unfold mountV
  rw [show ordI f f' s s' = orI (Lib.compareInt f f') (Lib.compareBytes s.data.toList s'.data.toList) from rfl]
  generalize Lib.compareInt f f' = ci at D1 ⊢
  generalize Lib.compareBytes s.data.toList s'.data.toList = cb at D2 ⊢
  have DO := Lib.hid (fun b W h0 h1 => or_any ci cb b W h0 h1)
  have HB := Lib.hid (((Below.refl w.heap.size w).alloc (Nat.le_refl _) (.cells #[.string s, .string p, .int .i64 f, .int .i64 t] 54)).alloc (by simp) (.cells #[.string s', .string p', .int .i64 f', .int .i64 t'] 54))
  have c0 : ∀ i, ((w.alloc (.cells #[.string s, .string p, .int .i64 f, .int .i64 t] 54)).alloc (.cells #[.string s', .string p', .int .i64 f', .int .i64 t'] 54)).cell? ⟨w.heap.size, i, none⟩ = (#[.string s, .string p, .int .i64 f, .int .i64 t] : Array Value)[i]? := by
    intro i
    rw [World.cell?_alloc_past _ _ _ (by simp), World.cell?_alloc_at _ _ _ _ rfl]
  have c1 : ∀ i, ((w.alloc (.cells #[.string s, .string p, .int .i64 f, .int .i64 t] 54)).alloc (.cells #[.string s', .string p', .int .i64 f', .int .i64 t'] 54)).cell? ⟨w.heap.size + 1, i, none⟩ = (#[.string s', .string p', .int .i64 f', .int .i64 t'] : Array Value)[i]? := by
    intro i
    rw [World.cell?_alloc_at _ _ _ _ (by simp)]
  have a0 : ((w.alloc (.cells #[.string s, .string p, .int .i64 f, .int .i64 t] 54)).alloc (.cells #[.string s', .string p', .int .i64 f', .int .i64 t'] 54)).cell? ⟨w.heap.size, 0, none⟩ = some (.string s) := c0 0
  have a2 : ((w.alloc (.cells #[.string s, .string p, .int .i64 f, .int .i64 t] 54)).alloc (.cells #[.string s', .string p', .int .i64 f', .int .i64 t'] 54)).cell? ⟨w.heap.size, 2, none⟩ = some (.int .i64 f) := c0 2
  have b0 : ((w.alloc (.cells #[.string s, .string p, .int .i64 f, .int .i64 t] 54)).alloc (.cells #[.string s', .string p', .int .i64 f', .int .i64 t'] 54)).cell? ⟨w.heap.size + 1, 0, none⟩ = some (.string s') := c1 0
  have b2 : ((w.alloc (.cells #[.string s, .string p, .int .i64 f, .int .i64 t] 54)).alloc (.cells #[.string s', .string p', .int .i64 f', .int .i64 t'] 54)).cell? ⟨w.heap.size + 1, 2, none⟩ = some (.int .i64 f') := c1 2
  clear c0 c1
  go_enter Try.func90, Try.ntmps90
  go_wp2_with fail
  have hz : w.heap.size + 1 < ((w.alloc (.cells #[.string s, .string p, .int .i64 f, .int .i64 t] 54)).alloc (.cells #[.string s', .string p', .int .i64 f', .int .i64 t'] 54)).heap.size := by simp only [World.size_alloc]; omega
  obtain ⟨w2, hw2⟩ : ∃ w2, ((w.alloc (.cells #[.string s, .string p, .int .i64 f, .int .i64 t] 54)).alloc (.cells #[.string s', .string p', .int .i64 f', .int .i64 t'] 54)) = w2 := ⟨_, rfl⟩
  rw [hw2] at HB a0 a2 b0 b2 hz ⊢
  have HF : Hid (∃ q os', (w2.alloc (.cells #[.int .i64 ci, .int .i64 cb] 3)).drew = grow (w.drewN q) os') := Lib.hid ⟨1, _, by rw [← hw2, alloc_eq_grow, alloc_eq_grow, alloc_eq_grow, grow_grow, grow_grow]; rfl⟩
  clear hw2
  obtain ⟨B, e1⟩ : ∃ B, w.heap.size = B := ⟨_, rfl⟩
  rw [e1] at a0 a2 b0 b2 hz ⊢
  have E1 := Lib.hid e1
  have HZ := Lib.hid hz
  have hbd : Below w2.heap.size w2 w2.drew := (Below.refl _ _).drew
  clear e1 hz
  have hkeep := keep4 (W := w2) (Wn := (w2.alloc (.cells #[.int .i64 ci, .int .i64 cb] 3)).drew) HZ.out ⟨a0, a2, b0, b2, Below.refl _ _⟩ (((Below.refl _ _).alloc (Nat.le_refl _) _).drew)
  go_region_held3 (fun w' => w'.cell? ⟨B, 0, none⟩ = some (.string s) ∧ w'.cell? ⟨B, 2, none⟩ = some (.int .i64 f) ∧ w'.cell? ⟨B + 1, 0, none⟩ = some (.string s') ∧ w'.cell? ⟨B + 1, 2, none⟩ = some (.int .i64 f') ∧ Below w2.heap.size w2 w')
    (first
      | go_keep
      | assumption
      | exact keep4 (W := w2) HZ.out ⟨a0, a2, b0, b2, Below.refl _ _⟩ (((Below.refl _ _).alloc (Nat.le_refl _) _).drew)
      | exact keep4 HZ.out (by assumption) ((Below.refl _ _).alloc (Nat.le_refl _) _)
      | (go_split_ands; exact keep4 HZ.out ⟨by assumption, by assumption, by assumption, by assumption, by assumption⟩ ((Below.refl _ _).alloc (Nat.le_refl _) _)))
    (first
      | (go_at_call 105; refine (D1.out _).mono ?_; rintro e wn ⟨rfl, rfl⟩)
      | (go_at_call 106; refine (D2.out _).mono ?_; rintro e wn ⟨rfl, rfl⟩)
      | (go_at_call 104; refine (DO.out _ _ (by show (w2.alloc _).cell? _ = _; rw [World.cell?_alloc_at _ _ _ _ rfl]; rfl) (by show (w2.alloc _).cell? _ = _; rw [World.cell?_alloc_at _ _ _ _ rfl]; rfl)).mono ?_; rintro e wn ⟨rfl, rfl⟩))
  go_wp2
  go_ret
  exact ⟨rfl, HF.out⟩
end Go.Proofs.Ytbkpoepacjinlaa

/-
  DERIVED: THE SHELF's CONTRACTS AT THIS DUMP, IN PLAIN WORDS (tools/lay-plain.mjs out of 'TryShelfS.lean', which tools/lay-shelf.mjs wrote): THE SAME DECLARATIONS UNDER THE SAME NAMES: 'import', 'namespace', 'open', 'def', 'theorem' AND NOTHING ELSE: no command of the shelf's: FOR A HAND-IN. Each laying: the table of numbers ('.._ren') and one theorem, a field a fact of the dump's own or the kernel's comparison; each contract: ONE APPLICATION.
-/
namespace Go.Proofs
open Go.Shelf
def Try.sortUse_ren : Go.Shelf.Ren := ⟨fun | 6 => 131 | 15 => 152 | 14 => 151 | 28 => 169 | 29 => 160 | 20 => 161 | 21 => 162 | 22 => 163 | 23 => 164 | 24 => 165 | 25 => 166 | 26 => 167 | 27 => 168 | 46 => 180 | 47 => 181 | 48 => 182 | 49 => 183 | 50 => 184 | 57 => 197 | n => n, fun | 22 => 25 | 24 => 38 | 25 => 99 | 3 => 3 | 39 => 172 | 0 => 0 | 53 => 193 | 55 => 153 | 4 => 4 | 46 => 186 | 45 => 185 | 50 => 190 | 5 => 5 | 9 => 9 | 66 => 201 | 70 => 205 | 76 => 214 | 77 => 215 | n => n, fun | n => n⟩
theorem Try.sortUse : Go.Proofs.SlLaysF0.n6 Try.prog Try.sortUse_ren := {
  mixed := by kernel_rfl
  f6 := ⟨Try.f131.name, by decide, Try.func131.trans (congrArg some (by kernel_rfl))⟩
  f14 := ⟨Try.f151.name, by decide, Try.func151.trans (congrArg some (by kernel_rfl))⟩
  f15 := Try.func152.trans (congrArg some (by kernel_rfl))
  f20 := ⟨Try.f161.name, by decide, Try.func161.trans (congrArg some (by kernel_rfl))⟩
  f21 := ⟨Try.f162.name, by decide, Try.func162.trans (congrArg some (by kernel_rfl))⟩
  f22 := ⟨Try.f163.name, by decide, Try.func163.trans (congrArg some (by kernel_rfl))⟩
  f23 := ⟨Try.f164.name, by decide, Try.func164.trans (congrArg some (by kernel_rfl))⟩
  f24 := ⟨Try.f165.name, by decide, Try.func165.trans (congrArg some (by kernel_rfl))⟩
  f25 := ⟨Try.f166.name, by decide, Try.func166.trans (congrArg some (by kernel_rfl))⟩
  f26 := ⟨Try.f167.name, by decide, Try.func167.trans (congrArg some (by kernel_rfl))⟩
  f27 := ⟨Try.f168.name, by decide, Try.func168.trans (congrArg some (by kernel_rfl))⟩
  f28 := Try.func169.trans (congrArg some (by kernel_rfl))
  f29 := Try.func160.trans (congrArg some (by kernel_rfl))
  f46 := ⟨Try.f180.name, by decide, Try.func180.trans (congrArg some (by kernel_rfl))⟩
  f47 := Try.func181.trans (congrArg some (by kernel_rfl))
  f48 := Try.func182.trans (congrArg some (by kernel_rfl))
  f49 := ⟨Try.f183.name, by decide, Try.func183.trans (congrArg some (by kernel_rfl))⟩
  f50 := ⟨Try.f184.name, by decide, Try.func184.trans (congrArg some (by kernel_rfl))⟩
  f57 := ⟨Try.f197.name, by decide, Try.func197.trans (congrArg some (by kernel_rfl))⟩
  t0 := Try.underlying0
  a0 := Try.isAgg0
  z0 := Try.sizeOf0
  v0 := Try.zeroValue0
  t3 := Try.underlying3
  a3 := Try.isAgg3
  z3 := Try.sizeOf3
  v3 := Try.zeroValue3
  t4 := Try.underlying4
  a4 := Try.isAgg4
  z4 := Try.sizeOf4
  v4 := Try.zeroValue4
  t5 := Try.underlying5
  a5 := Try.isAgg5
  z5 := Try.sizeOf5
  v5 := Try.zeroValue5
  t9 := Try.underlying9
  a9 := Try.isAgg9
  z9 := Try.sizeOf9
  v9 := Try.zeroValue9
  t22 := Try.underlying25
  a22 := Try.isAgg25
  z22 := Try.sizeOf25
  v22 := Try.zeroValue25
  t25 := Try.underlying99
  a25 := Try.isAgg99
  z25 := Try.sizeOf99
  v25 := Try.zeroValue99
  t39 := Try.underlying172
  a39 := Try.isAgg172
  z39 := Try.sizeOf172
  v39 := Try.zeroValue172
  t45 := Try.underlying185
  a45 := Try.isAgg185
  z45 := Try.sizeOf185
  v45 := Try.zeroValue185
  t46 := Try.underlying186
  a46 := Try.isAgg186
  z46 := Try.sizeOf186
  v46 := Try.zeroValue186
  t50 := Try.underlying190
  a50 := Try.isAgg190
  z50 := Try.sizeOf190
  v50 := Try.zeroValue190
  t53 := Try.underlying193
  a53 := Try.isAgg193
  z53 := Try.sizeOf193
  v53 := Try.zeroValue193
  t55 := Try.underlying153
  a55 := Try.isAgg153
  z55 := Try.sizeOf153
  v55 := Try.zeroValue153
  t66 := Try.underlying201
  a66 := Try.isAgg201
  z66 := Try.sizeOf201
  v66 := Try.zeroValue201
  t70 := Try.underlying205
  a70 := Try.isAgg205
  z70 := Try.sizeOf205
  v70 := Try.zeroValue205
  t76 := Try.underlying214
  a76 := Try.isAgg214
  z76 := Try.sizeOf214
  v76 := Try.zeroValue214
  t77 := Try.underlying215
  a77 := Try.isAgg215
  z77 := Try.sizeOf215
  v77 := Try.zeroValue215 }
def Try.sortMnt_ren : Go.Shelf.Ren := ⟨fun | 6 => 132 | 15 => 152 | 14 => 153 | 28 => 169 | 29 => 160 | 20 => 170 | 21 => 171 | 22 => 172 | 23 => 173 | 24 => 174 | 25 => 175 | 26 => 176 | 27 => 177 | 46 => 185 | 47 => 181 | 48 => 182 | 49 => 186 | 50 => 187 | 57 => 198 | n => n, fun | 22 => 24 | 24 => 54 | 25 => 126 | 3 => 3 | 39 => 172 | 0 => 0 | 53 => 193 | 55 => 153 | 4 => 4 | 46 => 186 | 45 => 185 | 50 => 190 | 5 => 5 | 9 => 9 | 66 => 201 | 70 => 205 | 76 => 214 | 77 => 215 | n => n, fun | n => n⟩
theorem Try.sortMnt : Go.Proofs.SlLaysF0.n6 Try.prog Try.sortMnt_ren := {
  mixed := by kernel_rfl
  f6 := ⟨Try.f132.name, by decide, Try.func132.trans (congrArg some (by kernel_rfl))⟩
  f14 := ⟨Try.f153.name, by decide, Try.func153.trans (congrArg some (by kernel_rfl))⟩
  f15 := Try.func152.trans (congrArg some (by kernel_rfl))
  f20 := ⟨Try.f170.name, by decide, Try.func170.trans (congrArg some (by kernel_rfl))⟩
  f21 := ⟨Try.f171.name, by decide, Try.func171.trans (congrArg some (by kernel_rfl))⟩
  f22 := ⟨Try.f172.name, by decide, Try.func172.trans (congrArg some (by kernel_rfl))⟩
  f23 := ⟨Try.f173.name, by decide, Try.func173.trans (congrArg some (by kernel_rfl))⟩
  f24 := ⟨Try.f174.name, by decide, Try.func174.trans (congrArg some (by kernel_rfl))⟩
  f25 := ⟨Try.f175.name, by decide, Try.func175.trans (congrArg some (by kernel_rfl))⟩
  f26 := ⟨Try.f176.name, by decide, Try.func176.trans (congrArg some (by kernel_rfl))⟩
  f27 := ⟨Try.f177.name, by decide, Try.func177.trans (congrArg some (by kernel_rfl))⟩
  f28 := Try.func169.trans (congrArg some (by kernel_rfl))
  f29 := Try.func160.trans (congrArg some (by kernel_rfl))
  f46 := ⟨Try.f185.name, by decide, Try.func185.trans (congrArg some (by kernel_rfl))⟩
  f47 := Try.func181.trans (congrArg some (by kernel_rfl))
  f48 := Try.func182.trans (congrArg some (by kernel_rfl))
  f49 := ⟨Try.f186.name, by decide, Try.func186.trans (congrArg some (by kernel_rfl))⟩
  f50 := ⟨Try.f187.name, by decide, Try.func187.trans (congrArg some (by kernel_rfl))⟩
  f57 := ⟨Try.f198.name, by decide, Try.func198.trans (congrArg some (by kernel_rfl))⟩
  t0 := Try.underlying0
  a0 := Try.isAgg0
  z0 := Try.sizeOf0
  v0 := Try.zeroValue0
  t3 := Try.underlying3
  a3 := Try.isAgg3
  z3 := Try.sizeOf3
  v3 := Try.zeroValue3
  t4 := Try.underlying4
  a4 := Try.isAgg4
  z4 := Try.sizeOf4
  v4 := Try.zeroValue4
  t5 := Try.underlying5
  a5 := Try.isAgg5
  z5 := Try.sizeOf5
  v5 := Try.zeroValue5
  t9 := Try.underlying9
  a9 := Try.isAgg9
  z9 := Try.sizeOf9
  v9 := Try.zeroValue9
  t22 := Try.underlying24
  a22 := Try.isAgg24
  z22 := Try.sizeOf24
  v22 := Try.zeroValue24
  t25 := Try.underlying126
  a25 := Try.isAgg126
  z25 := Try.sizeOf126
  v25 := Try.zeroValue126
  t39 := Try.underlying172
  a39 := Try.isAgg172
  z39 := Try.sizeOf172
  v39 := Try.zeroValue172
  t45 := Try.underlying185
  a45 := Try.isAgg185
  z45 := Try.sizeOf185
  v45 := Try.zeroValue185
  t46 := Try.underlying186
  a46 := Try.isAgg186
  z46 := Try.sizeOf186
  v46 := Try.zeroValue186
  t50 := Try.underlying190
  a50 := Try.isAgg190
  z50 := Try.sizeOf190
  v50 := Try.zeroValue190
  t53 := Try.underlying193
  a53 := Try.isAgg193
  z53 := Try.sizeOf193
  v53 := Try.zeroValue193
  t55 := Try.underlying153
  a55 := Try.isAgg153
  z55 := Try.sizeOf153
  v55 := Try.zeroValue153
  t66 := Try.underlying201
  a66 := Try.isAgg201
  z66 := Try.sizeOf201
  v66 := Try.zeroValue201
  t70 := Try.underlying205
  a70 := Try.isAgg205
  z70 := Try.sizeOf205
  v70 := Try.zeroValue205
  t76 := Try.underlying214
  a76 := Try.isAgg214
  z76 := Try.sizeOf214
  v76 := Try.zeroValue214
  t77 := Try.underlying215
  a77 := Try.isAgg215
  z77 := Try.sizeOf215
  v77 := Try.zeroValue215 }
end Go.Proofs

/- Gear: uses put in order by the library's sort; the closure of Add; Add of the program. -/
namespace Go.Proofs.Ytbkpoepacjinlaa
open Go.RowKit Go.BigFrame
open Gar (chk momG hasS hasP)

section
open Go.Sort
end
end Go.Proofs.Ytbkpoepacjinlaa

/- Gear: Add of the program. (Printed by gen_add.py.) -/
namespace Go.Proofs.Ytbkpoepacjinlaa
open Go.RowKit Go.BigFrame
open Gar (chk momG hasS hasP chkUse useErr addErr)

theorem row_type {w : World} {base e k n : Nat} {v : Value} {xs : List Value} (h : w.ownsRow base e k v n xs) {q : Nat} (hq : v.ownBlock = some q) : ∃ cur, w.heap[q]? = some (.cells cur e (0, 0)) := by
  rcases h.2 with ⟨rfl, _⟩ | ⟨g, cap, cur, rfl, _, h3, _⟩
  · simp [Value.ownBlock] at hq
  · simp only [Value.ownBlock, Option.some.injEq] at hq
    subst hq
    exact ⟨cur, h3⟩
theorem row_box {w : World} {base e k n o T : Nat} {fr : Nat × Nat} {v : Value} {xs : List Value} {c : Array Value} (h : w.ownsRow base e k v n xs) (hb : w.heap[o]? = some (.cells c T fr)) (hne : e ≠ T) : v.ownBlock ≠ some o := by
  intro hq
  obtain ⟨c1, h1⟩ := row_type h hq
  rw [h1] at hb
  injection hb with hb
  injection hb with _ hb
  exact hne hb
theorem grown_block {w w' : World} {row : Option Nat} {o : Nat} {x : Obj} (hg : w.grownBy w' row) (h : w.heap[o]? = some x) (hne : row ≠ some o) : w'.heap[o]? = some x := (hg.block o (lt_of_block h) (fun e => hne e.symm)).trans h
theorem own_keep {w w' : World} {base e k n o : Nat} {v : Value} {xs : List Value} (h : w.ownsRow base e k v n xs) (hk : Kept (fun b => b = o) w w') (hne : v.ownBlock ≠ some o) : w'.ownsRow base e k v n xs :=
  h.kept (row := some o) ⟨hk.os, hk.tape, hk.output, hk.size, fun b hb h => hk.block b hb (fun e => h (by rw [e]))⟩ (Or.inr hne)
/-- a garage is returned, with an error -/
def RetG (w w' : World) (e : Ending) (g' : Gar) (er : Int) : Prop :=
  (∃ b0 b1 b2 b3 d0 d1 d2 d3, e = .returned (.tuple #[garV g' b0 b1 b2 b3 d0 d1 d2 d3, .int .i64 er]) ∧ GarIn w' g' b0 b1 b2 b3 ∧ g'.nm ≤ d2 ∧ g'.nu ≤ d3) ∧ Below w.heap.size w w'
theorem zeroIn (w : World) : GarIn w Gar.zero none none none none :=
  ⟨⟨fun h => absurd h (by simp [Gar.zero])⟩, ⟨fun h => absurd h (by simp [Gar.zero])⟩, ⟨fun h => absurd h (by simp [Gar.zero])⟩, ⟨fun h => absurd h (by simp [Gar.zero])⟩, fun i h => absurd h (by simp [Gar.zero]), fun i h => absurd h (by simp [Gar.zero]), fun i h => absurd h (by simp [Gar.zero]), fun i h => absurd h (by simp [Gar.zero]), by simp [Gar.zero], by simp [Gar.zero], by simp [Gar.zero], by simp [Gar.zero]⟩
theorem RetG.zero {w w' : World} {er : Int} (hb : Below w.heap.size w w') : RetG w w' (.returned (.tuple #[garV Gar.zero none none none none 0 0 0 0, .int .i64 er])) Gar.zero er :=
  ⟨⟨none, none, none, none, 0, 0, 0, 0, rfl, zeroIn w', Nat.le_refl _, Nat.le_refl _⟩, hb⟩

end Go.Proofs.Ytbkpoepacjinlaa

/- Gear: slices.DeleteFunc at uses, in a row of the call's own; the closure of Drop. -/
namespace Go.Proofs.Ytbkpoepacjinlaa
open Go.RowKit Go.BigFrame

/-! one element stored -/
/-! cleared from a place on -/
/-- the loop of DeleteFunc -/
structure DLp (l : List Us) (p : Us → Bool) (base q cap : Nat) (w wr : World) (i j : Nat) (cur : List Us) : Prop where
  jn : j ≤ l.length
  ij : i < j
  len : cur.length = l.length
  pre : cur.take i = (l.take j).filter (fun u => !p u)
  suf : cur.drop j = l.drop j
  row : wr.ownsRow base 38 5 (.slice (some ⟨q, 0, none⟩) l.length cap) l.length (cur.flatMap encU)
  keep : Kept (fun b => b = q) w wr
section
variable {l : List Us} {p : Us → Bool} {base q cap : Nat} {w wr wx : World} {i j : Nat} {cur : List Us}
theorem take_fil {p : Us → Bool} {l : List Us} {j : Nat} (h : j < l.length) : (l.take (j + 1)).filter (fun u => !p u) = (l.take j).filter (fun u => !p u) ++ if p (l.getD j default) = true then [] else [l.getD j default] := by
  rw [List.take_add_one, List.getElem?_eq_getElem h, List.filter_append, List.getD_eq_getElem?_getD, List.getElem?_eq_getElem h]
  cases hb : p l[j] <;> simp [hb]
theorem DLp.below (h : DLp l p base q cap w wr i j cur) (hb : Below wr.heap.size wr wx) : DLp l p base q cap w wx i j cur := ⟨h.jn, h.ij, h.len, h.pre, h.suf, ownsRow_below h.row hb, h.keep.trans (Kept.of_below hb)⟩
theorem DLp.skip (h : DLp l p base q cap w wr i j cur) (hj : j < l.length) (hp : p (l.getD j default) = true) : DLp l p base q cap w wr i (j + 1) cur := by
  refine ⟨hj, by have := h.ij; omega, h.len, ?_, ?_, h.row, h.keep⟩
  · rw [take_fil hj, if_pos hp, List.append_nil, h.pre]
  · have := congrArg (List.drop 1) h.suf
    rwa [List.drop_drop, List.drop_drop] at this
theorem DLp.put (h : DLp l p base q cap w wr i j cur) (hj : j < l.length) (hp : p (l.getD j default) = false) (hr : wx.ownsRow base 38 5 (.slice (some ⟨q, 0, none⟩) l.length cap) l.length ((cur.set i (l.getD j default)).flatMap encU)) (hk : Kept (fun b => b = q) wr wx) :
    DLp l p base q cap w wx (i + 1) (j + 1) (cur.set i (l.getD j default)) := by
  have hi : i < cur.length := by have := h.ij; have := h.len; omega
  refine ⟨hj, by have := h.ij; omega, by rw [List.length_set, h.len], ?_, ?_, hr, h.keep.trans hk⟩
  · rw [take_fil hj, if_neg (by rw [hp]; simp), ← h.pre, List.take_add_one, List.getElem?_eq_getElem (by simpa using hi), List.take_set_of_le (Nat.le_refl _)]
    simp
  · rw [List.drop_set_of_lt (by have := h.ij; omega)]
    have := congrArg (List.drop 1) h.suf
    rwa [List.drop_drop, List.drop_drop] at this
theorem DLp.cell (h : DLp l p base q cap w wr i j cur) (hj : j < l.length) (t : Nat) (ht : t < 5) : wr.cell? ⟨q, j * 5 + t, none⟩ = (encU (l.getD j default))[t]? := by
  have hjc : j < cur.length := by rw [h.len]; exact hj
  rw [h.row.cellAt (j * 5 + t) (by omega), flat_at (enc := encU) (k := 5) (fun _ => rfl) cur j t hjc ht]
  have e : cur.getD j default = l.getD j default := by
    have := congrArg (fun z : List Us => z[0]?) h.suf
    simp only [List.getElem?_drop, Nat.add_zero] at this
    rw [List.getD_eq_getElem?_getD, List.getD_eq_getElem?_getD, this]
  rw [e]
theorem DLp.done (h : DLp l p base q cap w wr i l.length cur) : cur.take i = l.filter (fun u => !p u) ∧ i = (l.filter (fun u => !p u)).length := by
  have := h.pre
  rw [List.take_length] at this
  refine ⟨this, ?_⟩
  rw [← this, List.length_take, h.len]
  have := h.ij
  omega
end
end Go.Proofs.Ytbkpoepacjinlaa

/- Gear: slices.DeleteFunc at uses: the walk; the closure of Drop. -/
namespace Go.Proofs.Ytbkpoepacjinlaa
open Go.RowKit Go.BigFrame
open Gar (chk momG hasS hasP)

end Go.Proofs.Ytbkpoepacjinlaa

/- Gear: Drop of the program. -/
namespace Go.Proofs.Ytbkpoepacjinlaa
open Go.RowKit Go.BigFrame
open Gar (chk momG hasS hasP without)

end Go.Proofs.Ytbkpoepacjinlaa

/- Gear: Add of the reference. (Printed by gen_radd.py.) -/
namespace Go.Proofs.Ytbkpoepacjinlaa
open Go.RowKit Go.BigFrame
open Gar (chk momG hasS hasP chkUse useErr addErr)

theorem wpList_append_row {P : Program} {ops : Array Oper} {rest : List Oper} {o : Oper} {a : Act} {Q : Exit → Act → World → Prop} (w : World) (hgd : o.guard = none) (s x : Operand) (t : TypeId) (ho : o.op = .call { callee := .builtin .append, args := #[s, x], argTypes := #[t, t] })
    (base : Nat) (e : TypeId) (i : TypeInfo) (z : Value) (size bytes : Nat) (ht : P.underlying t = some (.slice e)) (hi : P.info? e = some i) (hz : i.zero = some z)
    (hsize : i.size = size) (hby : i.bytes = bytes) (hzs : z.cells.size = size) (hsz : 0 < size) (v : Value) (n : Nat) (xs : List Value) (hs : a.eval s = v) (hown : w.ownsRow base e size v n xs)
    (av : Option Addr) (m c : Nat) (f : Nat → List Value) (hf : ∀ i, (f i).length = size) (h1 : ∀ i, ∀ u ∈ f i, u.oneCell' = true) (hx : a.eval x = .slice av m c) (hr : RowK w av m size f)
    (h63 : n + m ≤ maxLen) (hbytes : (n + m) * bytes ≤ 140737488355328) (hbase : base ≤ w.heap.size)
    (h : ∀ v' w', w'.ownsRow base e size v' (n + m) (xs ++ (List.range m).flatMap f) → w.grownBy w' v.ownBlock → wpList P ops Q rest (a.put o.dst v') w') : wpList P ops Q (o :: rest) a w :=
  wpList_plain hgd fun _ hK => wp_append_row w s x t ho base e i z size bytes ht hi hz hsize hby hzs hsz v n xs hs hown av m c f hf h1 hx hr h63 hbytes hbase fun v' w' h2 h3 => hK _ _ (h v' w' h2 h3)
def sliceLen : Value → Nat
  | .slice _ n _ => n
  | _ => 0
theorem take_flat (g : Gar) {k : Nat} (h : k < g.nu) : (g.uses.take (k + 1)).flatMap encU = (g.uses.take k).flatMap encU ++ g.cellsU k := by
  rw [List.take_add_one, List.getElem?_eq_getElem (by rw [Gar.uses_len]; exact h), Gar.uses_get g h, List.flatMap_append]
  simp
  rfl
/-- the loop of Add: what stands before the new use is passed by -/
structure RLp (g : Gar) (u : Us) (V wr : World) (o : Nat) (s0 s1 s2 : Value) (k cv : Nat) (av : Option Addr) (v : Value) : Prop where
  kn : k ≤ g.nu
  keep : Kept (fun b => b = o) V wr
  row : wr.ownsRow V.heap.size 38 5 v k ((g.uses.take k).flatMap encU)
  box : wr.heap[o]? = some (.cells #[s0, s1, s2, v] 27 (0, 0))
  src : RowK V av (g.nu - k) 5 (fun i => g.cellsU (k + i))
  apart : ∀ b off, av = some ⟨b, off, none⟩ → b ≠ o
  le : g.nu - k ≤ cv
  pass : ∀ i, i < k → befs (g.use i) u = true
theorem RLp.below {g : Gar} {u : Us} {V wr wx : World} {o : Nat} {s0 s1 s2 : Value} {k cv : Nat} {av : Option Addr} {v : Value} (h : RLp g u V wr o s0 s1 s2 k cv av v) (hb : Below wr.heap.size wr wx) : RLp g u V wx o s0 s1 s2 k cv av v :=
  ⟨h.kn, h.keep.trans (Kept.of_below hb), ownsRow_below h.row hb, below_block hb h.box, h.src, h.apart, h.le, h.pass⟩
theorem RLp.next {g : Gar} {u : Us} {V wr V3 w7 : World} {o : Nat} {s0 s1 s2 : Value} {k cv cv' : Nat} {av av' : Option Addr} {v v' : Value} (h : RLp g u V wr o s0 s1 s2 k cv av v) (hk : k < g.nu) (hb : Below wr.heap.size wr V3) (hg : V3.grownBy w7 v.ownBlock)
    (ho : w7.ownsRow V.heap.size 38 5 v' (k + 1) ((g.uses.take k).flatMap encU ++ g.cellsU k)) (hs : RowK V av' (g.nu - (k + 1)) 5 (fun i => g.cellsU (k + 1 + i))) (ha : ∀ b off, av' = some ⟨b, off, none⟩ → b ≠ o) (hl : g.nu - (k + 1) ≤ cv') (hp : befs (g.use k) u = true) :
    RLp g u V (w7.setCell ⟨o, 3, none⟩ v') o s0 s1 s2 (k + 1) cv' av' v' := by
  have r3 := ownsRow_below h.row hb
  have b3 := below_block hb h.box
  have b7 := grown_block hg b3 (row_box r3 b3 (by decide))
  have k7 : Kept (fun b => b = o) V w7 := (h.keep.trans (Kept.of_below hb)).grown hg (fun q hq hl => by have := (r3.lt q hq).1; omega)
  have k9 : Kept (fun b => b = o) w7 (w7.setCell ⟨o, 3, none⟩ v') := kept_set (O := fun b => b = o) (Kept.refl _ _) rfl _
  refine ⟨hk, k7.trans k9, ?_, cells_setCell b7, hs, ha, hl, fun i hi => ?_⟩
  · rw [take_flat g hk]
    exact own_keep ho k9 (row_box ho b7 (by decide))
  · by_cases e : i = k
    · subst e; exact hp
    · exact h.pass i (by omega)
theorem RLp.stop {g : Gar} {u : Us} {V wr : World} {o : Nat} {s0 s1 s2 : Value} {k cv : Nat} {av : Option Addr} {v : Value} (h : RLp g u V wr o s0 s1 s2 k cv av v) (hs : k = g.nu ∨ (k < g.nu ∧ befs (g.use k) u = false)) : insU u g.uses = g.uses.take k ++ u :: g.uses.drop k := by
  unfold insU
  have hk := h.kn
  conv => lhs; rw [← List.take_append_drop k g.uses]
  rw [insL_pass]
  · rw [insL_stop]
    intro a r he
    rcases hs with hs | ⟨h1, h2⟩
    · rw [List.drop_eq_nil_of_le (by rw [Gar.uses_len]; omega)] at he
      cases he
    · rw [List.drop_eq_getElem_cons (by rw [Gar.uses_len]; exact h1), Gar.uses_get g h1] at he
      injection he with he
      rw [← he]
      exact h2
  · intro x hx
    obtain ⟨i, hi, rfl⟩ := List.getElem_of_mem hx
    rw [List.getElem_take]
    rw [List.length_take, Gar.uses_len] at hi
    rw [Gar.uses_get g (by omega)]
    exact h.pass i (by omega)

end Go.Proofs.Ytbkpoepacjinlaa

/- Gear: Drop of the reference. (Printed by gen_rdrop.py.) -/
namespace Go.Proofs.Ytbkpoepacjinlaa
open Go.RowKit Go.BigFrame
open Gar (chk momG hasS hasP without)

theorem without_step {g : Gar} {k : Nat} (h : k < g.nu) (nm : ByteArray) : without nm (g.uses.take (k + 1)) = without nm (g.uses.take k) ++ if g.un k = nm then [] else [g.use k] := by
  unfold without
  rw [List.take_add_one, List.getElem?_eq_getElem (by rw [Gar.uses_len]; exact h), Gar.uses_get g h, List.filter_append]
  have e : (g.use k).n = g.un k := rfl
  by_cases hb : g.un k = nm <;> simp [e, hb]
/-- the loop of Drop -/
structure RDp (g : Gar) (nm : ByteArray) (V wr : World) (o : Nat) (s0 s1 s2 : Value) (k : Nat) (v : Value) : Prop where
  kn : k ≤ g.nu
  keep : Kept (fun b => b = o) V wr
  row : wr.ownsRow V.heap.size 38 5 v (without nm (g.uses.take k)).length ((without nm (g.uses.take k)).flatMap encU)
  box : wr.heap[o]? = some (.cells #[s0, s1, s2, v] 27 (0, 0))
theorem RDp.below {g : Gar} {nm : ByteArray} {V wr wx : World} {o : Nat} {s0 s1 s2 : Value} {k : Nat} {v : Value} (h : RDp g nm V wr o s0 s1 s2 k v) (hb : Below wr.heap.size wr wx) : RDp g nm V wx o s0 s1 s2 k v :=
  ⟨h.kn, h.keep.trans (Kept.of_below hb), ownsRow_below h.row hb, below_block hb h.box⟩
theorem RDp.skip {g : Gar} {nm : ByteArray} {V wr : World} {o : Nat} {s0 s1 s2 : Value} {k : Nat} {v : Value} (h : RDp g nm V wr o s0 s1 s2 k v) (hk : k < g.nu) (e : g.un k = nm) : RDp g nm V wr o s0 s1 s2 (k + 1) v := by
  refine ⟨hk, h.keep, ?_, h.box⟩
  rw [without_step hk, if_pos e, List.append_nil]
  exact h.row
theorem RDp.add {g : Gar} {nm : ByteArray} {V wr w7 : World} {o : Nat} {s0 s1 s2 : Value} {k : Nat} {v v' : Value} (h : RDp g nm V wr o s0 s1 s2 k v) (hk : k < g.nu) (e : g.un k ≠ nm) (V3 : World) (hb : Below wr.heap.size wr V3) (hg : V3.grownBy w7 v.ownBlock)
    (ho : w7.ownsRow V.heap.size 38 5 v' ((without nm (g.uses.take k)).length + 1) ((without nm (g.uses.take k)).flatMap encU ++ g.cellsU k)) : RDp g nm V (w7.setCell ⟨o, 3, none⟩ v') o s0 s1 s2 (k + 1) v' := by
  have r3 := ownsRow_below h.row hb
  have b3 := below_block hb h.box
  have b7 := grown_block hg b3 (row_box r3 b3 (by decide))
  have k7 : Kept (fun b => b = o) V w7 := (h.keep.trans (Kept.of_below hb)).grown hg (fun q hq hl => by have := (r3.lt q hq).1; omega)
  have k9 : Kept (fun b => b = o) w7 (w7.setCell ⟨o, 3, none⟩ v') := kept_set (O := fun b => b = o) (Kept.refl _ _) rfl _
  refine ⟨hk, k7.trans k9, ?_, cells_setCell b7⟩
  have hr := own_keep ho k9 (row_box ho b7 (by decide))
  rw [without_step hk, if_neg e, List.length_append, List.flatMap_append]
  simpa [encU, Gar.use, Gar.cellsU] using hr

end Go.Proofs.Ytbkpoepacjinlaa

/- Gear: two garages that read alike are the same. (Printed by gen_eq.py.) -/
namespace Go.Proofs.Ytbkpoepacjinlaa
open Go.RowKit Go.BigFrame
open Gar (chk momG hasS hasP)

set_option maxHeartbeats 1000000 in
theorem eqGearPart (x0 : ByteArray) (x1 : Int) (w : World) : (Op.equalIn 10000 94 (.agg #[.string x0, .int .i64 x1]) (.agg #[.string x0, .int .i64 x1])).run Try.prog w = .ok true w := by
  have u3 := Try.underlying3
  have a3 := Try.isAgg3
  have z3 := Try.sizeOf3
  have u9 := Try.underlying9
  have a9 := Try.isAgg9
  have z9 := Try.sizeOf9
  have hS : Try.prog.underlying 94 = some (.struct (Try.prog.fieldsOf 94)) := by kernel_rfl
  have hp : Try.prog.stoodInHeld 94 = false := by kernel_rfl
  rw [show (10000 : Nat) = 9999 + 1 from rfl, run_equalIn_agg w 9999 94 _ _ hS hp]
  simp only [Program.fieldsOf, Try.underlying94]
  go_simp
set_option maxHeartbeats 2000000 in
set_option maxRecDepth 100000 in
theorem equalGearPart_any (n : Nat) (x0 : Nat → ByteArray) (x1 : Nat → Int) (a b : Option Addr) (c d : Nat) (w : World) (hr : RowK w a n 2 (fun i => [.string (x0 i), .int .i64 (x1 i)])) (hq : RowK w b n 2 (fun i => [.string (x0 i), .int .i64 (x1 i)])) (hl : (n : Int) ≤ 9223372036854775807) :
    Calls Try.prog 83 #[.slice a n c, .slice b n d] w fun e w' => e = .returned (.bool true) ∧ ∃ m, w' = w.drewN m := by
  have hneq : ((n : Int) != (n : Int)) = false := by simp
  have HR := Lib.hid hr
  have HQ := Lib.hid hq
  clear hr hq
  go_enter Try.func83, Try.ntmps83
  go_wp2_with fail
  go_loopw [13] (fun iv wr => ∃ (k : Nat), iv = .int .i64 k ∧ k ≤ n ∧ ∃ m, wr = w.drewN m) (fun iv _ => n - (intOf iv).toNat)
  case atStart => exact ⟨0, rfl, by omega, 0, rfl⟩
  case round =>
    obtain ⟨k, rfl, hk, m, rfl⟩ := hrel
    by_cases hlt : k < n
    · have t1 : decide ((k : Int) < (n : Int)) = true := by rw [decide_eq_true_eq]; omega
      have t1' : decide (k < n) = true := by simpa using hlt
      have t2 : (k : Int) < (n : Int) := by omega
      obtain ⟨b1, o1, rfl, hb1, hc1⟩ := HR.out.here (by omega)
      obtain ⟨b2, o2, rfl, hb2, hc2⟩ := HQ.out.here (by omega)
      have e0 : w.cell? ⟨b1, o1 + k * 2, none⟩ = some (.string (x0 k)) := hc1 k hlt 0 (by omega)
      have e1 : w.cell? ⟨b1, o1 + k * 2 + 1, none⟩ = some (.int .i64 (x1 k)) := hc1 k hlt 1 (by omega)
      have f0 : w.cell? ⟨b2, o2 + k * 2, none⟩ = some (.string (x0 k)) := hc2 k hlt 0 (by omega)
      have f1 : w.cell? ⟨b2, o2 + k * 2 + 1, none⟩ = some (.int .i64 (x1 k)) := hc2 k hlt 1 (by omega)
      clear hc1 hc2
      have hgd : Try.prog.eqGuardType Try.prog.depth 94 = false := by kernel_rfl
      generalize x0 k = y0 at *
      generalize x1 k = y1 at *
      have hq : ∀ W, (Op.equalIn 10000 94 (.agg #[.string y0, .int .i64 y1]) (.agg #[.string y0, .int .i64 y1])).run Try.prog W = .ok true W := fun W => eqGearPart _ _ W
      go_wp2_with fail
      go_quiet (fail)
      go_wp2_with fail
      go_roundw
      case rel => exact ⟨k + 1, by go_num, by omega, _, rfl⟩
      case measure => simp [intOf]; omega
    · have t1 : decide ((k : Int) < (n : Int)) = false := by rw [decide_eq_false_iff_not]; omega
      have t1' : decide (k < n) = false := by simpa using hlt
      clear hlt
      go_wp2_with fail
      go_ret
      exact ⟨rfl, _, rfl⟩
set_option maxHeartbeats 1000000 in
theorem eqSlot (x0 : ByteArray) (x1 : ByteArray) (w : World) : (Op.equalIn 10000 40 (.agg #[.string x0, .string x1]) (.agg #[.string x0, .string x1])).run Try.prog w = .ok true w := by
  have u3 := Try.underlying3
  have a3 := Try.isAgg3
  have z3 := Try.sizeOf3
  have u9 := Try.underlying9
  have a9 := Try.isAgg9
  have z9 := Try.sizeOf9
  have hS : Try.prog.underlying 40 = some (.struct (Try.prog.fieldsOf 40)) := by kernel_rfl
  have hp : Try.prog.stoodInHeld 40 = false := by kernel_rfl
  rw [show (10000 : Nat) = 9999 + 1 from rfl, run_equalIn_agg w 9999 40 _ _ hS hp]
  simp only [Program.fieldsOf, Try.underlying40]
  go_simp
set_option maxHeartbeats 2000000 in
set_option maxRecDepth 100000 in
theorem equalSlot_any (n : Nat) (x0 : Nat → ByteArray) (x1 : Nat → ByteArray) (a b : Option Addr) (c d : Nat) (w : World) (hr : RowK w a n 2 (fun i => [.string (x0 i), .string (x1 i)])) (hq : RowK w b n 2 (fun i => [.string (x0 i), .string (x1 i)])) (hl : (n : Int) ≤ 9223372036854775807) :
    Calls Try.prog 84 #[.slice a n c, .slice b n d] w fun e w' => e = .returned (.bool true) ∧ ∃ m, w' = w.drewN m := by
  have hneq : ((n : Int) != (n : Int)) = false := by simp
  have HR := Lib.hid hr
  have HQ := Lib.hid hq
  clear hr hq
  go_enter Try.func84, Try.ntmps84
  go_wp2_with fail
  go_loopw [13] (fun iv wr => ∃ (k : Nat), iv = .int .i64 k ∧ k ≤ n ∧ ∃ m, wr = w.drewN m) (fun iv _ => n - (intOf iv).toNat)
  case atStart => exact ⟨0, rfl, by omega, 0, rfl⟩
  case round =>
    obtain ⟨k, rfl, hk, m, rfl⟩ := hrel
    by_cases hlt : k < n
    · have t1 : decide ((k : Int) < (n : Int)) = true := by rw [decide_eq_true_eq]; omega
      have t1' : decide (k < n) = true := by simpa using hlt
      have t2 : (k : Int) < (n : Int) := by omega
      obtain ⟨b1, o1, rfl, hb1, hc1⟩ := HR.out.here (by omega)
      obtain ⟨b2, o2, rfl, hb2, hc2⟩ := HQ.out.here (by omega)
      have e0 : w.cell? ⟨b1, o1 + k * 2, none⟩ = some (.string (x0 k)) := hc1 k hlt 0 (by omega)
      have e1 : w.cell? ⟨b1, o1 + k * 2 + 1, none⟩ = some (.string (x1 k)) := hc1 k hlt 1 (by omega)
      have f0 : w.cell? ⟨b2, o2 + k * 2, none⟩ = some (.string (x0 k)) := hc2 k hlt 0 (by omega)
      have f1 : w.cell? ⟨b2, o2 + k * 2 + 1, none⟩ = some (.string (x1 k)) := hc2 k hlt 1 (by omega)
      clear hc1 hc2
      have hgd : Try.prog.eqGuardType Try.prog.depth 40 = false := by kernel_rfl
      generalize x0 k = y0 at *
      generalize x1 k = y1 at *
      have hq : ∀ W, (Op.equalIn 10000 40 (.agg #[.string y0, .string y1]) (.agg #[.string y0, .string y1])).run Try.prog W = .ok true W := fun W => eqSlot _ _ W
      go_wp2_with fail
      go_quiet (fail)
      go_wp2_with fail
      go_roundw
      case rel => exact ⟨k + 1, by go_num, by omega, _, rfl⟩
      case measure => simp [intOf]; omega
    · have t1 : decide ((k : Int) < (n : Int)) = false := by rw [decide_eq_false_iff_not]; omega
      have t1' : decide (k < n) = false := by simpa using hlt
      clear hlt
      go_wp2_with fail
      go_ret
      exact ⟨rfl, _, rfl⟩
set_option maxHeartbeats 1000000 in
theorem eqMount (x0 : ByteArray) (x1 : ByteArray) (x2 : Int) (x3 : Int) (w : World) : (Op.equalIn 10000 54 (.agg #[.string x0, .string x1, .int .i64 x2, .int .i64 x3]) (.agg #[.string x0, .string x1, .int .i64 x2, .int .i64 x3])).run Try.prog w = .ok true w := by
  have u3 := Try.underlying3
  have a3 := Try.isAgg3
  have z3 := Try.sizeOf3
  have u9 := Try.underlying9
  have a9 := Try.isAgg9
  have z9 := Try.sizeOf9
  have hS : Try.prog.underlying 54 = some (.struct (Try.prog.fieldsOf 54)) := by kernel_rfl
  have hp : Try.prog.stoodInHeld 54 = false := by kernel_rfl
  rw [show (10000 : Nat) = 9999 + 1 from rfl, run_equalIn_agg w 9999 54 _ _ hS hp]
  simp only [Program.fieldsOf, Try.underlying54]
  go_simp
set_option maxHeartbeats 2000000 in
set_option maxRecDepth 100000 in
theorem equalMount_any (n : Nat) (x0 : Nat → ByteArray) (x1 : Nat → ByteArray) (x2 : Nat → Int) (x3 : Nat → Int) (a b : Option Addr) (c d : Nat) (w : World) (hr : RowK w a n 4 (fun i => [.string (x0 i), .string (x1 i), .int .i64 (x2 i), .int .i64 (x3 i)])) (hq : RowK w b n 4 (fun i => [.string (x0 i), .string (x1 i), .int .i64 (x2 i), .int .i64 (x3 i)])) (hl : (n : Int) ≤ 9223372036854775807) :
    Calls Try.prog 85 #[.slice a n c, .slice b n d] w fun e w' => e = .returned (.bool true) ∧ ∃ m, w' = w.drewN m := by
  have hneq : ((n : Int) != (n : Int)) = false := by simp
  have HR := Lib.hid hr
  have HQ := Lib.hid hq
  clear hr hq
  go_enter Try.func85, Try.ntmps85
  go_wp2_with fail
  go_loopw [13] (fun iv wr => ∃ (k : Nat), iv = .int .i64 k ∧ k ≤ n ∧ ∃ m, wr = w.drewN m) (fun iv _ => n - (intOf iv).toNat)
  case atStart => exact ⟨0, rfl, by omega, 0, rfl⟩
  case round =>
    obtain ⟨k, rfl, hk, m, rfl⟩ := hrel
    by_cases hlt : k < n
    · have t1 : decide ((k : Int) < (n : Int)) = true := by rw [decide_eq_true_eq]; omega
      have t1' : decide (k < n) = true := by simpa using hlt
      have t2 : (k : Int) < (n : Int) := by omega
      obtain ⟨b1, o1, rfl, hb1, hc1⟩ := HR.out.here (by omega)
      obtain ⟨b2, o2, rfl, hb2, hc2⟩ := HQ.out.here (by omega)
      have e0 : w.cell? ⟨b1, o1 + k * 4, none⟩ = some (.string (x0 k)) := hc1 k hlt 0 (by omega)
      have e1 : w.cell? ⟨b1, o1 + k * 4 + 1, none⟩ = some (.string (x1 k)) := hc1 k hlt 1 (by omega)
      have e2 : w.cell? ⟨b1, o1 + k * 4 + 2, none⟩ = some (.int .i64 (x2 k)) := hc1 k hlt 2 (by omega)
      have e3 : w.cell? ⟨b1, o1 + k * 4 + 3, none⟩ = some (.int .i64 (x3 k)) := hc1 k hlt 3 (by omega)
      have f0 : w.cell? ⟨b2, o2 + k * 4, none⟩ = some (.string (x0 k)) := hc2 k hlt 0 (by omega)
      have f1 : w.cell? ⟨b2, o2 + k * 4 + 1, none⟩ = some (.string (x1 k)) := hc2 k hlt 1 (by omega)
      have f2 : w.cell? ⟨b2, o2 + k * 4 + 2, none⟩ = some (.int .i64 (x2 k)) := hc2 k hlt 2 (by omega)
      have f3 : w.cell? ⟨b2, o2 + k * 4 + 3, none⟩ = some (.int .i64 (x3 k)) := hc2 k hlt 3 (by omega)
      clear hc1 hc2
      have hgd : Try.prog.eqGuardType Try.prog.depth 54 = false := by kernel_rfl
      generalize x0 k = y0 at *
      generalize x1 k = y1 at *
      generalize x2 k = y2 at *
      generalize x3 k = y3 at *
      have hq : ∀ W, (Op.equalIn 10000 54 (.agg #[.string y0, .string y1, .int .i64 y2, .int .i64 y3]) (.agg #[.string y0, .string y1, .int .i64 y2, .int .i64 y3])).run Try.prog W = .ok true W := fun W => eqMount _ _ _ _ W
      go_wp2_with fail
      go_quiet (fail)
      go_wp2_with fail
      go_roundw
      case rel => exact ⟨k + 1, by go_num, by omega, _, rfl⟩
      case measure => simp [intOf]; omega
    · have t1 : decide ((k : Int) < (n : Int)) = false := by rw [decide_eq_false_iff_not]; omega
      have t1' : decide (k < n) = false := by simpa using hlt
      clear hlt
      go_wp2_with fail
      go_ret
      exact ⟨rfl, _, rfl⟩
set_option maxHeartbeats 1000000 in
theorem eqUse (x0 : ByteArray) (x1 : ByteArray) (x2 : Int) (x3 : Int) (x4 : Int) (w : World) : (Op.equalIn 10000 38 (.agg #[.string x0, .string x1, .int .i64 x2, .int .i64 x3, .int .i64 x4]) (.agg #[.string x0, .string x1, .int .i64 x2, .int .i64 x3, .int .i64 x4])).run Try.prog w = .ok true w := by
  have u3 := Try.underlying3
  have a3 := Try.isAgg3
  have z3 := Try.sizeOf3
  have u9 := Try.underlying9
  have a9 := Try.isAgg9
  have z9 := Try.sizeOf9
  have hS : Try.prog.underlying 38 = some (.struct (Try.prog.fieldsOf 38)) := by kernel_rfl
  have hp : Try.prog.stoodInHeld 38 = false := by kernel_rfl
  rw [show (10000 : Nat) = 9999 + 1 from rfl, run_equalIn_agg w 9999 38 _ _ hS hp]
  simp only [Program.fieldsOf, Try.underlying38]
  go_simp
set_option maxHeartbeats 2000000 in
set_option maxRecDepth 100000 in
theorem equalUse_any (n : Nat) (x0 : Nat → ByteArray) (x1 : Nat → ByteArray) (x2 : Nat → Int) (x3 : Nat → Int) (x4 : Nat → Int) (a b : Option Addr) (c d : Nat) (w : World) (hr : RowK w a n 5 (fun i => [.string (x0 i), .string (x1 i), .int .i64 (x2 i), .int .i64 (x3 i), .int .i64 (x4 i)])) (hq : RowK w b n 5 (fun i => [.string (x0 i), .string (x1 i), .int .i64 (x2 i), .int .i64 (x3 i), .int .i64 (x4 i)])) (hl : (n : Int) ≤ 9223372036854775807) :
    Calls Try.prog 86 #[.slice a n c, .slice b n d] w fun e w' => e = .returned (.bool true) ∧ ∃ m, w' = w.drewN m := by
  have hneq : ((n : Int) != (n : Int)) = false := by simp
  have HR := Lib.hid hr
  have HQ := Lib.hid hq
  clear hr hq
  go_enter Try.func86, Try.ntmps86
  go_wp2_with fail
  go_loopw [13] (fun iv wr => ∃ (k : Nat), iv = .int .i64 k ∧ k ≤ n ∧ ∃ m, wr = w.drewN m) (fun iv _ => n - (intOf iv).toNat)
  case atStart => exact ⟨0, rfl, by omega, 0, rfl⟩
  case round =>
    obtain ⟨k, rfl, hk, m, rfl⟩ := hrel
    by_cases hlt : k < n
    · have t1 : decide ((k : Int) < (n : Int)) = true := by rw [decide_eq_true_eq]; omega
      have t1' : decide (k < n) = true := by simpa using hlt
      have t2 : (k : Int) < (n : Int) := by omega
      obtain ⟨b1, o1, rfl, hb1, hc1⟩ := HR.out.here (by omega)
      obtain ⟨b2, o2, rfl, hb2, hc2⟩ := HQ.out.here (by omega)
      have e0 : w.cell? ⟨b1, o1 + k * 5, none⟩ = some (.string (x0 k)) := hc1 k hlt 0 (by omega)
      have e1 : w.cell? ⟨b1, o1 + k * 5 + 1, none⟩ = some (.string (x1 k)) := hc1 k hlt 1 (by omega)
      have e2 : w.cell? ⟨b1, o1 + k * 5 + 2, none⟩ = some (.int .i64 (x2 k)) := hc1 k hlt 2 (by omega)
      have e3 : w.cell? ⟨b1, o1 + k * 5 + 3, none⟩ = some (.int .i64 (x3 k)) := hc1 k hlt 3 (by omega)
      have e4 : w.cell? ⟨b1, o1 + k * 5 + 4, none⟩ = some (.int .i64 (x4 k)) := hc1 k hlt 4 (by omega)
      have f0 : w.cell? ⟨b2, o2 + k * 5, none⟩ = some (.string (x0 k)) := hc2 k hlt 0 (by omega)
      have f1 : w.cell? ⟨b2, o2 + k * 5 + 1, none⟩ = some (.string (x1 k)) := hc2 k hlt 1 (by omega)
      have f2 : w.cell? ⟨b2, o2 + k * 5 + 2, none⟩ = some (.int .i64 (x2 k)) := hc2 k hlt 2 (by omega)
      have f3 : w.cell? ⟨b2, o2 + k * 5 + 3, none⟩ = some (.int .i64 (x3 k)) := hc2 k hlt 3 (by omega)
      have f4 : w.cell? ⟨b2, o2 + k * 5 + 4, none⟩ = some (.int .i64 (x4 k)) := hc2 k hlt 4 (by omega)
      clear hc1 hc2
      have hgd : Try.prog.eqGuardType Try.prog.depth 38 = false := by kernel_rfl
      generalize x0 k = y0 at *
      generalize x1 k = y1 at *
      generalize x2 k = y2 at *
      generalize x3 k = y3 at *
      generalize x4 k = y4 at *
      have hq : ∀ W, (Op.equalIn 10000 38 (.agg #[.string y0, .string y1, .int .i64 y2, .int .i64 y3, .int .i64 y4]) (.agg #[.string y0, .string y1, .int .i64 y2, .int .i64 y3, .int .i64 y4])).run Try.prog W = .ok true W := fun W => eqUse _ _ _ _ _ W
      go_wp2_with fail
      go_quiet (fail)
      go_wp2_with fail
      go_roundw
      case rel => exact ⟨k + 1, by go_num, by omega, _, rfl⟩
      case measure => simp [intOf]; omega
    · have t1 : decide ((k : Int) < (n : Int)) = false := by rw [decide_eq_false_iff_not]; omega
      have t1' : decide (k < n) = false := by simpa using hlt
      clear hlt
      go_wp2_with fail
      go_ret
      exact ⟨rfl, _, rfl⟩
theorem Ext.draws {P : Program} {W : World} {f : FuncId} {args : Array Value} {v : Value} (X : Ext W) (h : Calls P f args X.1 fun e w' => e = .returned v ∧ ∃ m, w' = X.1.drewN m) : Calls P f args X.1 fun e w'' => e = .returned v ∧ ∃ Y : Ext W, w'' = Y.1 :=
  h.mono fun _ _ ⟨he, m, hb⟩ => ⟨he, ⟨X.1.drewN m, below_drewN X.2 m⟩, hb⟩
set_option maxHeartbeats 4000000 in
set_option maxRecDepth 100000 in
theorem same_any (g : Gar) (a0 a1 a2 a3 b0 b1 b2 b3 : Option Addr) (c0 c1 c2 c3 d0 d1 d2 d3 : Nat) (w : World) (h : GarIn w g a0 a1 a2 a3) (h' : GarIn w g b0 b1 b2 b3) :
    Calls Try.prog 37 #[garV g a0 a1 a2 a3 c0 c1 c2 c3, garV g b0 b1 b2 b3 d0 d1 d2 d3] w fun e w' => e = .returned (.bool true) ∧ Below w.heap.size w w' := by
  have HG := Lib.hid h
  have HH := Lib.hid h'
  obtain ⟨W0, hW0, hb0, hs0, hq0⟩ := allocs w [.cells #[.slice a0 g.np c0, .slice a1 g.ns c1, .slice a2 g.nm c2, .slice a3 g.nu c3] 27, .cells #[.slice b0 g.np d0, .slice b1 g.ns d1, .slice b2 g.nm d2, .slice b3 g.nu d3] 27]
  have hbs : w.heap.size ≤ W0.heap.size := hb0.size
  have G0 := Ext.ex (show W0.cell? ⟨w.heap.size, 0, none⟩ = some (.slice a0 g.np c0) from block_cell (hq0 0 _ rfl) rfl)
  have H0 := Ext.ex (show W0.cell? ⟨w.heap.size + 1, 0, none⟩ = some (.slice b0 g.np d0) from block_cell (hq0 1 _ rfl) rfl)
  have G1 := Ext.ex (show W0.cell? ⟨w.heap.size, 1, none⟩ = some (.slice a1 g.ns c1) from block_cell (hq0 0 _ rfl) rfl)
  have H1 := Ext.ex (show W0.cell? ⟨w.heap.size + 1, 1, none⟩ = some (.slice b1 g.ns d1) from block_cell (hq0 1 _ rfl) rfl)
  have G2 := Ext.ex (show W0.cell? ⟨w.heap.size, 2, none⟩ = some (.slice a2 g.nm c2) from block_cell (hq0 0 _ rfl) rfl)
  have H2 := Ext.ex (show W0.cell? ⟨w.heap.size + 1, 2, none⟩ = some (.slice b2 g.nm d2) from block_cell (hq0 1 _ rfl) rfl)
  have G3 := Ext.ex (show W0.cell? ⟨w.heap.size, 3, none⟩ = some (.slice a3 g.nu c3) from block_cell (hq0 0 _ rfl) rfl)
  have H3 := Ext.ex (show W0.cell? ⟨w.heap.size + 1, 3, none⟩ = some (.slice b3 g.nu d3) from block_cell (hq0 1 _ rfl) rfl)
  have HW0 := Lib.hid (show (w.alloc (.cells #[.slice a0 g.np c0, .slice a1 g.ns c1, .slice a2 g.nm c2, .slice a3 g.nu c3] 27)).alloc (.cells #[.slice b0 g.np d0, .slice b1 g.ns d1, .slice b2 g.nm d2, .slice b3 g.nu d3] 27) = W0 from hW0)
  have HB := Lib.hid hb0
  have D0 := Lib.hid (fun (Y : Ext W0) => equalGearPart_any g.np g.pn g.pc a0 b0 c0 d0 Y.1 (HG.out.below (Y.down HB.out hbs)).r0 (HH.out.below (Y.down HB.out hbs)).r0 h.l0)
  have D1 := Lib.hid (fun (Y : Ext W0) => equalSlot_any g.ns g.sn g.sr a1 b1 c1 d1 Y.1 (HG.out.below (Y.down HB.out hbs)).r1 (HH.out.below (Y.down HB.out hbs)).r1 h.l1)
  have D2 := Lib.hid (fun (Y : Ext W0) => equalMount_any g.nm g.ms g.mp g.mf g.mt a2 b2 c2 d2 Y.1 (HG.out.below (Y.down HB.out hbs)).r2 (HH.out.below (Y.down HB.out hbs)).r2 h.l2)
  have D3 := Lib.hid (fun (Y : Ext W0) => equalUse_any g.nu g.un g.ur g.uf g.us g.uw a3 b3 c3 d3 Y.1 (HG.out.below (Y.down HB.out hbs)).r3 (HH.out.below (Y.down HB.out hbs)).r3 h.l3)
  unfold garV
  clear h h' hW0 hb0 hq0 hs0
  go_enter Try.func37, Try.ntmps37
  go_upto_region 1 with (fail)
  rw [HW0.out]
  refine ext_wp fun X => ?_
  go_wp2_with fail
  refine (Ext.draws _ (D0.out _)).mono ?_
  rintro e w0 ⟨rfl, Y0, rfl⟩
  go_wp2_with fail
  refine (Ext.draws _ (D1.out _)).mono ?_
  rintro e w1 ⟨rfl, Y1, rfl⟩
  go_wp2_with fail
  refine (Ext.draws _ (D2.out _)).mono ?_
  rintro e w2 ⟨rfl, Y2, rfl⟩
  go_wp2_with fail
  refine (Ext.draws _ (D3.out _)).mono ?_
  rintro e w3 ⟨rfl, Y3, rfl⟩
  go_wp2_with fail
  go_ret
  exact ⟨rfl, Y3.down HB.out hbs⟩
end Go.Proofs.Ytbkpoepacjinlaa

/- Gear: the walks of GearUsesMatchSpec and of GearUsesGoBack. (Printed by gen_ulaw.py.) -/
namespace Go.Proofs.Ytbkpoepacjinlaa
open Go.RowKit Go.BigFrame
open Gar (chk momG hasS hasP addErr)

/-- a call that returns a garage and an error, in a later world -/
theorem RetG.split {w w' : World} {e : Ending} {g' : Gar} {er : Int} (h : RetG w w' e g' er) : ∃ b0 b1 b2 b3 d0 d1 d2 d3, e = .returned (.tuple #[.agg #[.slice b0 g'.np d0, .slice b1 g'.ns d1, .slice b2 g'.nm d2, .slice b3 g'.nu d3], .int .i64 er]) ∧ GarIn w' g' b0 b1 b2 b3 ∧ g'.nm ≤ d2 ∧ g'.nu ≤ d3 ∧ Below w.heap.size w w' := by
  obtain ⟨⟨b0, b1, b2, b3, d0, d1, d2, d3, h1, h2, h3, h4⟩, h5⟩ := h
  exact ⟨b0, b1, b2, b3, d0, d1, d2, d3, h1, h2, h3, h4, h5⟩
theorem Ext.reP {W W' : World} (h : Below W.heap.size W W') {p : World → Prop} (e : ∀ X : Ext W, p X.1) : ∀ X : Ext W', p X.1 := fun X => e ⟨X.1, below_step h X.2⟩
/-- a row of structs that begin with a string does not lie in a box of slices -/
theorem row_notbox {w : World} {a : Option Addr} {n k o T : Nat} {fr : Nat × Nat} {f : Nat → List Value} {v0 v1 v2 v3 : Value} (hr : RowK w a n k f) (hk : 0 < k) (hf : ∃ s, (f 0)[0]? = some (.string s)) (hb : w.heap[o]? = some (.cells #[v0, v1, v2, v3] T fr))
    (hs : ∀ s, v0 ≠ .string s ∧ v1 ≠ .string s ∧ v2 ≠ .string s ∧ v3 ≠ .string s) {w' : World} (hkp : Kept (fun b => b = o) w w') : RowK w' a n k f := by
  refine ⟨fun hl => ?_⟩
  obtain ⟨b, off, rfl, hlt, hc⟩ := hr.here hl
  refine ⟨b, off, rfl, Nat.lt_of_lt_of_le hlt hkp.size, fun i hi j hj => ?_⟩
  refine (World.cell?_of_block (hkp.block b hlt fun e => ?_)).trans (hc i hi j hj)
  subst e
  obtain ⟨s, hs0⟩ := hf
  have h0 := hc 0 hl 0 hk
  rw [hs0, cell_of_row w b _ _ _ _ hb] at h0
  obtain ⟨n0, n1, n2, n3⟩ := hs s
  generalize off + 0 * k + 0 = t at h0
  match t, h0 with
  | 0, h0 => simp at h0; exact n0 h0
  | 1, h0 => simp at h0; exact n1 h0
  | 2, h0 => simp at h0; exact n2 h0
  | 3, h0 => simp at h0; exact n3 h0
  | t + 4, h0 => simp at h0
theorem GarIn.notbox {w w' : World} {g : Gar} {a0 a1 a2 a3 x0 x1 x2 x3 : Option Addr} {n0 n1 n2 n3 d0 d1 d2 d3 o T : Nat} {fr : Nat × Nat} (h : GarIn w g a0 a1 a2 a3) (hb : w.heap[o]? = some (.cells #[.slice x0 n0 d0, .slice x1 n1 d1, .slice x2 n2 d2, .slice x3 n3 d3] T fr)) (hk : Kept (fun b => b = o) w w') : GarIn w' g a0 a1 a2 a3 :=
  have hs : ∀ s, (Value.slice x0 n0 d0) ≠ .string s ∧ (Value.slice x1 n1 d1) ≠ .string s ∧ (Value.slice x2 n2 d2) ≠ .string s ∧ (Value.slice x3 n3 d3) ≠ .string s := fun s => ⟨by simp, by simp, by simp, by simp⟩
  ⟨row_notbox h.r0 (by omega) ⟨_, rfl⟩ hb hs hk, row_notbox h.r1 (by omega) ⟨_, rfl⟩ hb hs hk, row_notbox h.r2 (by omega) ⟨_, rfl⟩ hb hs hk, row_notbox h.r3 (by omega) ⟨_, rfl⟩ hb hs hk, h.z0, h.z1, h.z2, h.z3, h.l0, h.l1, h.l2, h.l3⟩

end Go.Proofs.Ytbkpoepacjinlaa

/- A garage that came in by value: how it reads. -/
namespace Go.Proofs.Ytbkpoepacjinlaa
open Go.ChangeShapes Go.WideShapes Go.ChangeAt Go.RowKit Go.Deep

theorem laidOut : laidOutB Try.prog = true := by kernel_rfl
theorem readGarage : Try.prog.readableRec 27 = true := by kernel_rfl
theorem rowGarage : 27 < Try.prog.types.size := of_decide_eq_true (by kernel_rfl)
def intV : Value → Int
  | .int _ n => n
  | _ => 0
def strV : Value → ByteArray
  | .string s => s
  | _ => ByteArray.empty
theorem RowK.congr {w : World} {a : Option Addr} {len k : Nat} {V V' : Nat → List Value} (h : RowK w a len k V) (he : ∀ i, i < len → V i = V' i) : RowK w a len k V' :=
  ⟨fun h0 => by
    obtain ⟨b, off, e, hb, hc⟩ := h.here h0
    exact ⟨b, off, e, hb, fun i hi j hj => by rw [hc i hi j hj, he i hi]⟩⟩
section
variable {H : Type} {enc : TypeId × Value → H} {P : Program} {w : World} {base : Nat}
theorem field_str {V : List Value} {j : Nat} {t : TypeId} (ht : P.underlying t = some .string) (h : ∃ u n y, V[j]? = some u ∧ DataW.trod enc P w base (fun _ => true) true n t [u] = some y) :
    V[j]? = some (.string (strV (V.getD j (.bool false)))) ∧ (strV (V.getD j (.bool false))).size ≤ maxLen := by
  obtain ⟨u, n, y, hu, hd⟩ := h
  obtain ⟨s, e, _, hs⟩ := DataW.trod_string ht hd
  simp only [List.cons.injEq, and_true] at e
  subst e
  rw [List.getD_eq_getElem?_getD, hu]
  exact ⟨rfl, hs⟩
theorem field_int {V : List Value} {j : Nat} {t : TypeId} (ht : P.underlying t = some (.int .i64)) (h : ∃ u n y, V[j]? = some u ∧ DataW.trod enc P w base (fun _ => true) true n t [u] = some y) :
    V[j]? = some (.int .i64 (intV (V.getD j (.bool false)))) := by
  obtain ⟨u, n, y, hu, hd⟩ := h
  obtain ⟨s, e, _, hs⟩ := DataW.trod_int ht hd
  simp only [List.cons.injEq, and_true] at e
  subst e
  rw [List.getD_eq_getElem?_getD, hu]
  rfl
end
theorem list2 {V : List Value} {a b : Value} (hl : V.length = 2) (h0 : V[0]? = some a) (h1 : V[1]? = some b) : V = [a, b] := by
  match V, hl with
  | [x, y], _ => simp at h0 h1; rw [h0, h1]
theorem list4 {V : List Value} {a b c d : Value} (hl : V.length = 4) (h0 : V[0]? = some a) (h1 : V[1]? = some b) (h2 : V[2]? = some c) (h3 : V[3]? = some d) : V = [a, b, c, d] := by
  match V, hl with
  | [x, y, z, u], _ => simp at h0 h1 h2 h3; rw [h0, h1, h2, h3]
theorem list5 {V : List Value} {a b c d e : Value} (hl : V.length = 5) (h0 : V[0]? = some a) (h1 : V[1]? = some b) (h2 : V[2]? = some c) (h3 : V[3]? = some d) (h4 : V[4]? = some e) : V = [a, b, c, d, e] := by
  match V, hl with
  | [x, y, z, u, v], _ => simp at h0 h1 h2 h3 h4; rw [h0, h1, h2, h3, h4]

set_option maxRecDepth 100000 in
theorem open_garage {H : Type} {enc : TypeId × Value → H} {W : World} {r : Reach} {b0 base : Nat} {v : Value} {d : DataW H} {p : List MemPlace}
    (hv : Value.okWide Try.prog W r b0 27 v) (h : DataW.Trod enc Try.prog W base (fun _ => true) true 27 v d p) :
    ∃ (g : Gar) (a0 a1 a2 a3 : Option Addr) (c0 c1 c2 c3 : Nat), v = garV g a0 a1 a2 a3 c0 c1 c2 c3 ∧ GarIn W g a0 a1 a2 a3 ∧ g.nm ≤ c2 ∧ g.nu ≤ c3 := by
  obtain ⟨v0, v1, v2, v3, y0, y1, y2, y3, m, rfl, _, _, h0, h1, h2, h3⟩ := Go.Joins.open_agg4 Try.underlying27 (by kernel_rfl) (by kernel_rfl) hv h
  obtain ⟨a0, n0, c0, V0, rfl, l0, m0, R0, F0⟩ := open_rowK Try.underlying22 Try.underlying94 (by kernel_rfl) (by decide) (hone_of (by kernel_rfl)) h0
  obtain ⟨a1, n1, c1, V1, rfl, l1, m1, R1, F1⟩ := open_rowK Try.underlying23 Try.underlying40 (by kernel_rfl) (by decide) (hone_of (by kernel_rfl)) h1
  obtain ⟨a2, n2, c2, V2, rfl, l2, m2, R2, F2⟩ := open_rowK Try.underlying24 Try.underlying54 (by kernel_rfl) (by decide) (hone_of (by kernel_rfl)) h2
  obtain ⟨a3, n3, c3, V3, rfl, l3, m3, R3, F3⟩ := open_rowK Try.underlying25 Try.underlying38 (by kernel_rfl) (by decide) (hone_of (by kernel_rfl)) h3
  have hm : maxLen = 9223372036854775807 := rfl
  have S := Try.underlying9
  have I := Try.underlying3
  refine ⟨{ np := n0, ns := n1, nm := n2, nu := n3,
            pn := fun i => strV ((V0 i).getD 0 (.bool false)), pc := fun i => intV ((V0 i).getD 1 (.bool false)),
            sn := fun i => strV ((V1 i).getD 0 (.bool false)), sr := fun i => strV ((V1 i).getD 1 (.bool false)),
            ms := fun i => strV ((V2 i).getD 0 (.bool false)), mp := fun i => strV ((V2 i).getD 1 (.bool false)), mf := fun i => intV ((V2 i).getD 2 (.bool false)), mt := fun i => intV ((V2 i).getD 3 (.bool false)),
            un := fun i => strV ((V3 i).getD 0 (.bool false)), ur := fun i => strV ((V3 i).getD 1 (.bool false)), uf := fun i => intV ((V3 i).getD 2 (.bool false)), us := fun i => intV ((V3 i).getD 3 (.bool false)), uw := fun i => intV ((V3 i).getD 4 (.bool false)) },
    a0, a1, a2, a3, c0, c1, c2, c3, rfl, ⟨?_, ?_, ?_, ?_, ?_, ?_, ?_, ?_, ?_, ?_, ?_, ?_⟩, l2, l3⟩
  · exact R0.congr fun i hi => list2 (F0 i hi).1 (field_str S ((F0 i hi).2 0 _ rfl)).1 (field_int I ((F0 i hi).2 1 _ rfl))
  · exact R1.congr fun i hi => list2 (F1 i hi).1 (field_str S ((F1 i hi).2 0 _ rfl)).1 (field_str S ((F1 i hi).2 1 _ rfl)).1
  · exact R2.congr fun i hi => list4 (F2 i hi).1 (field_str S ((F2 i hi).2 0 _ rfl)).1 (field_str S ((F2 i hi).2 1 _ rfl)).1 (field_int I ((F2 i hi).2 2 _ rfl)) (field_int I ((F2 i hi).2 3 _ rfl))
  · exact R3.congr fun i hi => list5 (F3 i hi).1 (field_str S ((F3 i hi).2 0 _ rfl)).1 (field_str S ((F3 i hi).2 1 _ rfl)).1 (field_int I ((F3 i hi).2 2 _ rfl)) (field_int I ((F3 i hi).2 3 _ rfl)) (field_int I ((F3 i hi).2 4 _ rfl))
  · exact fun i hi => (field_str S ((F0 i hi).2 0 _ rfl)).2
  · exact fun i hi => ⟨(field_str S ((F1 i hi).2 0 _ rfl)).2, (field_str S ((F1 i hi).2 1 _ rfl)).2⟩
  · exact fun i hi => ⟨(field_str S ((F2 i hi).2 0 _ rfl)).2, (field_str S ((F2 i hi).2 1 _ rfl)).2⟩
  · exact fun i hi => ⟨(field_str S ((F3 i hi).2 0 _ rfl)).2, (field_str S ((F3 i hi).2 1 _ rfl)).2⟩
  · show ((n0 : Nat) : Int) ≤ _; omega
  · show ((n1 : Nat) : Int) ≤ _; omega
  · show ((n2 : Nat) : Int) ≤ _; omega
  · show ((n3 : Nat) : Int) ≤ _; omega
end Go.Proofs.Ytbkpoepacjinlaa
