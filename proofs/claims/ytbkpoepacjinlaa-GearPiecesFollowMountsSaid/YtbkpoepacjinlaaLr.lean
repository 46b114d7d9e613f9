/- Several texts of this claim in one. -/
import Derived.Test.YtbkpoepacjinlaaHl
import Derived.Laws.AppendOwn
import Derived.Test.YtbkpoepacjinlaaTg
import Derived.Laws.StructEq
import Derived.Test.YtbkpoepacjinlaaTf
import Derived.Test.YtbkpoepacjinlaaGi
import Derived.Test.YtbkpoepacjinlaaGy
import Derived.Test.YtbkpoepacjinlaaRows
import Derived.ProofKit
import Derived.OpenShut
import Derived.Lib.SmallJoins
import Derived.Carry
import Derived.ChangeMaps5
import Derived.WalkKit
/- An append to a row of the call's own: where the new row lies (the old block, or a new one). -/
namespace Go.Proofs.Ytbkpoepacjinlaa
open Go.RowKit

theorem append_where {P : Program} (w : World) (base : Nat) (t ty e : TypeId) (i : TypeInfo) (z : Value) (size bytes : Nat) (ht : P.underlying t = some (.slice e)) (hi : P.info? e = some i) (hz : i.zero = some z)
    (hsize : i.size = size) (hby : i.bytes = bytes) (hsz : 0 < size) (v : Value) (n : Nat) (xs : List Value) (hown : w.ownsRow base e size v n xs)
    (a : Addr) (m c : Nat) (news : List Value) (hl : news.length = m * size) (hnews : ∀ j u, news[j]? = some u → w.cell? (a.add j) = some u) (h1 : ∀ u ∈ news, u.oneCell' = true) (hm : 0 < m)
    (h63 : n + m ≤ maxLen) (hbytes : (n + m) * bytes ≤ 140737488355328) :
    ∃ v' w', (Builtin.append_ #[t, t] ty #[v, .slice (some a) m c]).run P w = .ok v' w' ∧ (v'.ownBlock = v.ownBlock ∨ v'.ownBlock = some w.heap.size) := by
  subst hsize
  subst hby
  have hsmall : n + m ≤ 9223372036854775807 := by simp only [maxLen] at h63; omega
  rcases hown.2 with ⟨rfl, rfl⟩ | ⟨g, cap, cur, rfl, _, hg, hnc, _, hcs, _⟩
  · exact ⟨_, _, run_append_nil w t ty e i z ht hi hz a m c news hl hnews hm (by omega) (by have hb := hbytes; simp only [Nat.zero_add] at hb; omega), Or.inr rfl⟩
  · by_cases hroom : n + m ≤ cap
    · have hfit : n * i.size + news.length ≤ cur.size := by rw [hl, hcs, ← Nat.add_mul]; exact Nat.mul_le_mul_right _ hroom
      exact ⟨_, _, run_append_room w t ty e i ht hi g n cap cur hg a m c news hl hnews h1 hroom hfit, Or.inl rfl⟩
    · have holds : ∀ j u, xs[j]? = some u → w.cell? ((⟨g, 0, none⟩ : Addr).add j) = some u := hown.cells (g := g) rfl
      exact ⟨_, _, run_append_grow w t ty e i z ht hi hz ⟨g, 0, none⟩ n cap xs hown.1 holds a m c news hl hnews (by omega) (by omega) (growslice_fits (by omega) hbytes), Or.inr rfl⟩
theorem wpList_append_where {P : Program} (w : World) {ops : Array Oper} {rest : List Oper} {o : Oper} {a : Act} {Q : Exit → Act → World → Prop} (hgd : o.guard = none) (s x : Operand) (t : TypeId)
    (ho : o.op = .call { callee := .builtin .append, args := #[s, x], argTypes := #[t, t] })
    (base : Nat) (e : TypeId) (i : TypeInfo) (z : Value) (size bytes : Nat) (ht : P.underlying t = some (.slice e)) (hi : P.info? e = some i) (hz : i.zero = some z)
    (hsize : i.size = size) (hby : i.bytes = bytes) (hzs : z.cells.size = size) (hsz : 0 < size)
    (v : Value) (n : Nat) (xs : List Value) (hs : a.eval s = v) (hown : w.ownsRow base e size v n xs)
    (ad : Addr) (m c : Nat) (news : List Value) (hx : a.eval x = .slice (some ad) m c) (hm : 0 < m) (hl : news.length = m * size) (hnews : ∀ j u, news[j]? = some u → w.cell? (ad.add j) = some u) (h1 : ∀ u ∈ news, u.oneCell' = true)
    (h63 : n + m ≤ maxLen) (hbytes : (n + m) * bytes ≤ 140737488355328) (hbase : base ≤ w.heap.size)
    (h : ∀ v' w', w'.ownsRow base e size v' (n + m) (xs ++ news) → w.grownBy w' v.ownBlock → (v'.ownBlock = v.ownBlock ∨ v'.ownBlock = some w.heap.size) → wpList P ops Q rest (a.put o.dst v') w') : wpList P ops Q (o :: rest) a w := by
  refine wpList_plain hgd fun K hK => ?_
  obtain ⟨v', w', hr, h2, h3, _⟩ := run_append_own (P := P) w base t o.type e i z size bytes ht hi hz hsize hby hzs hsz v n xs hown ad m c news hl hnews h1 h63 hbytes hbase
  obtain ⟨v2, w2, hr2, h4⟩ := append_where (P := P) w base t o.type e i z size bytes ht hi hz hsize hby hsz v n xs hown ad m c news hl hnews h1 hm h63 hbytes
  rw [hr] at hr2
  injection hr2 with e1 e2
  subst e1
  unfold Oper.wp execOp
  simp only [ho, resolve, invoke, builtin, Sem.run_bind, Sem.run_pure, Result.andThen_ok, List.map_toArray, List.map_cons, List.map_nil, hs, hx, hr]
  exact hK _ _ (h v' w' h2 h3 h4)
end Go.Proofs.Ytbkpoepacjinlaa

/- Gear: Pieces of the program. -/
namespace Go.Proofs.Ytbkpoepacjinlaa
open Go.RowKit Go.BigFrame
open Gar (chk)

/-- the cells of a piece that was told -/
def evC (g : Gar) (e : Ev) : List Value := [.string (g.un e.i), .string e.s, .string e.p, .int .i64 e.sec, .int .i64 e.way]
def evCs (g : Gar) (l : List Ev) : List Value := l.flatMap (evC g)
theorem evQ_len (g : Gar) (i j : Nat) : ∀ n, (evQ g i j n).length = n
  | 0 => rfl
  | n + 1 => by rw [evQ, List.length_append, evQ_len g i j n]; rfl
theorem evS_len {g : Gar} (h : chk g = 0) {i : Nat} (hi : i < g.nu) (j : Nat) : (evS g i j).length ≤ j * 1000000 := by
  induction j with
  | zero => exact Nat.zero_le _
  | succ j ih =>
    obtain ⟨_, _, _, _, _, _, hm, ho, hu⟩ := Gar.chk_parts h
    have hur := Gar.use_right hu hi
    have hg : Good (pcsOf g i j) (g.us i) := good_pieces (Gar.ord_mounts hm ho (g.sn j) g.nm (Nat.le_refl _)) (by omega)
    have hl := hg.len
    rw [evS, List.length_append]
    split
    · rw [evQ_len]; omega
    · rw [List.length_nil, Nat.add_zero]
      exact Nat.le_trans ih (Nat.mul_le_mul_right _ (Nat.le_succ j))
theorem evG_le {g : Gar} {M : Nat} (hM : ∀ i, i < g.nu → (evS g i g.ns).length ≤ M) : ∀ i, i ≤ g.nu → (evG g i).length ≤ i * M
  | 0, _ => Nat.zero_le _
  | i + 1, hi => by
    have ih := evG_le hM i (by omega)
    have h1 := hM i (by omega)
    rw [evG, List.length_append, Nat.succ_mul]
    omega
theorem evG_len {g : Gar} (h : chk g = 0) (i : Nat) (hi : i ≤ g.nu) : (evG g i).length ≤ i * 100000000 :=
  evG_le (fun i hi => by
    have h1 := evS_len h hi g.ns
    have h2 := (Gar.chk_parts h).2.1
    omega) i hi
/-- what Pieces' closure keeps: the row that it appends to -/
def PInv (g : Gar) (base c : Nat) (done : List Ev) (S : Nat → Prop) (W : World) : Prop :=
  ∃ v, W.heap[c]? = some (.cells #[v] 34 (0, 0)) ∧ W.ownsRow base 42 5 v done.length (evCs g done) ∧ (∀ b, S b ↔ (b = c ∨ v.ownBlock = some b)) ∧ c < base ∧ base ≤ W.heap.size
theorem PInv.keep {g : Gar} {base c : Nat} (done : List Ev) (S : Nat → Prop) (W W' : World) (h : PInv g base c done S W) (hb : Below W.heap.size W W') : PInv g base c done S W' := by
  obtain ⟨v, h1, h2, h3, h4, h5⟩ := h
  exact ⟨v, below_block hb h1, h2.kept (row := none) ⟨hb.os, hb.tape, hb.output, hb.size, fun k hk _ => hb.block k hk⟩ (by cases v.ownBlock <;> simp), h3, h4, Nat.le_trans h5 hb.size⟩
set_option maxHeartbeats 2000000 in
set_option maxRecDepth 100000 in
theorem piecesCl_any (g : Gar) (base c : Nat) (done : List Ev) (S : Nat → Prop) (W : World) (ev : Ev) (h : PInv g base c done S W) (hn : done.length ≤ 1000000000000) :
    Calls Try.prog 60 (#[useAt g ev.i, evV g ev] ++ #[.pointer (some ⟨c, 0, none⟩)]) W fun e W' => e = .returned (.tuple #[]) ∧ ∃ S' : Nat → Prop, PInv g base c (done ++ [ev]) S' W' ∧ (∀ b, S' b → S b ∨ W.heap.size ≤ b) ∧ (∀ b, S' b → b < W'.heap.size) ∧ Kept S W W' := by
  obtain ⟨v, hv, ho, hS, hcb, hbW⟩ := h
  unfold useAt useV evV
  obtain ⟨W1, hW1, hb1, hs1, _⟩ := alloc_block W #[.string (g.un ev.i), .string (g.ur ev.i), .int .i64 (g.uf ev.i), .int .i64 (g.us ev.i), .int .i64 (g.uw ev.i)] 38
  obtain ⟨W2, hW2, hb2, hs2, hq2⟩ := alloc_block W1 #[.string (g.un ev.i), .string ev.s, .string ev.p, .int .i64 ev.sec, .int .i64 ev.way] 42
  have hb12 := below_step hb1 hb2
  have hv2 := below_block hb12 hv
  have ho2 : W2.ownsRow base 42 5 v done.length (evCs g done) := ho.kept (row := none) ⟨hb12.os, hb12.tape, hb12.output, hb12.size, fun k hk _ => hb12.block k hk⟩ (by cases v.ownBlock <;> simp)
  have k0 := cell_of_one hv2
  have l0 : W2.cell? ⟨W1.heap.size, 0, none⟩ = some (.string (g.un ev.i)) := block_cell hq2 rfl
  have l1 : W2.cell? ⟨W1.heap.size, 1, none⟩ = some (.string ev.s) := block_cell hq2 rfl
  have l2 : W2.cell? ⟨W1.heap.size, 2, none⟩ = some (.string ev.p) := block_cell hq2 rfl
  have l3 : W2.cell? ⟨W1.heap.size, 3, none⟩ = some (.int .i64 ev.sec) := block_cell hq2 rfl
  have l4 : W2.cell? ⟨W1.heap.size, 4, none⟩ = some (.int .i64 ev.way) := block_cell hq2 rfl
  obtain ⟨i0, hi0, hz0, hz1, hz2⟩ := info_parts (show (Try.prog.info? 42).map (fun i => (i.zero, i.size, i.bytes)) = some (some (.agg #[.string ⟨#[]⟩, .string ⟨#[]⟩, .string ⟨#[]⟩, .int .i64 0, .int .i64 0]), 5, 64) by kernel_rfl)
  have HI0 := Lib.hid hi0
  have HZ0 := Lib.hid hz0
  have HZ1 := Lib.hid hz1
  have HZ2 := Lib.hid hz2
  have HU := Lib.hid (show Try.prog.underlying 34 = some (.slice 42) by kernel_rfl)
  have HO2 := Lib.hid ho2
  have HV2 := Lib.hid hv2
  have HB12 := Lib.hid hb12
  have HS := Lib.hid hS
  have HO := Lib.hid ho
  have HE12 : Hid (((W.alloc (.cells #[.string (g.un ev.i), .string (g.ur ev.i), .int .i64 (g.uf ev.i), .int .i64 (g.us ev.i), .int .i64 (g.uw ev.i)] 38)).alloc (.cells #[.string (g.un ev.i), .string ev.s, .string ev.p, .int .i64 ev.sec, .int .i64 ev.way] 42)) = W2) := Lib.hid (by rw [hW1, hW2])
  have HE1 : Hid (W.heap.size + 1 = W1.heap.size) := Lib.hid hs1.symm
  have hbW2 : base ≤ W2.heap.size := Nat.le_trans hbW hb12.size
  have hcW : c < W.heap.size := lt_of_block hv
  clear hi0 hz0 hz1 hz2 ho2 hv2 hb12 hS ho hv hW1 hW2 hb1 hb2 hq2 hs2 hs1
  go_enter Try.func60, Try.ntmps60
  go_upto_region 1 with (fail)
  rw [HE12.out, HE1.out]
  go_wp2_with (at_builtin; refine wpList_append_where _ rfl (.tmp 5) (.tmp 7) 34 rfl base 42 i0 (.agg #[.string ⟨#[]⟩, .string ⟨#[]⟩, .string ⟨#[]⟩, .int .i64 0, .int .i64 0]) 5 64 HU.out HI0.out HZ0.out HZ1.out HZ2.out rfl (by decide) v done.length (evCs g done) rfl (HO2.out.alloc _) ⟨W2.heap.size, 0, none⟩ 1 1 (evC g ev) rfl (by decide) rfl ?c1 ?c2 ?c3 ?c4 ?c5 ?_)
  case c1 =>
    intro j u hu
    rw [addr_add0, World.cell?_alloc_at _ _ _ _ rfl]
    simpa [evC] using hu
  case c2 =>
    intro u hu
    simp only [evC, List.mem_cons, List.not_mem_nil, or_false] at hu
    rcases hu with rfl | rfl | rfl | rfl | rfl <;> rfl
  case c3 => unfold maxLen; omega
  case c4 => omega
  case c5 => simp; omega
  intro v' w1 hown1 hg1 hwhere
  obtain ⟨g', cap', rfl, _, hgl⟩ := hown1.form (by omega)
  have hnc : ¬ some c = v.ownBlock := fun e => by have := (HO.out.lt c e.symm).1; omega
  have hk1 : Kept S W w1 := (Kept.of_below (HB12.out.trans ((below_al W2 _).mono HB12.out.size))).grown hg1 (fun q hq _ => (HS.out q).2 (Or.inr hq))
  have b0 : w1.heap[c]? = some (.cells #[v] 34 (0, 0)) := (hg1.block c (by simp; have := lt_of_block HV2.out; omega) hnc).trans (below_block (below_al W2 _) HV2.out)
  have k0' := cell_of_one b0
  have f0 := free_of_one b0
  have HOWN := Lib.hid hown1
  have HK1 := Lib.hid hk1
  have HB0 := Lib.hid b0
  have HWH := Lib.hid hwhere
  clear hown1 hg1 hk1 b0 k0 l0 l1 l2 l3 l4 hwhere hnc
  go_wp2_with fail
  go_end0
  refine ⟨rfl, fun b => b = c ∨ g' = b, ⟨_, one_setCell HB0.out, ?_, fun b => by simp [Value.ownBlock], hcb, ?_⟩, ?_, ?_, kept_set HK1.out ((HS.out c).2 (Or.inl rfl)) _⟩
  · rw [List.length_append, show evCs g (done ++ [ev]) = evCs g done ++ evC g ev by simp [evCs]]
    exact ownsRow_setCell_other HOWN.out (by simp [Value.ownBlock]; intro e; have := (HOWN.out.lt g' rfl).1; omega) _
  · exact Nat.le_trans (Nat.le_trans hbW HK1.out.size) (by simp [World.setCell])
  · intro b hb
    rcases hb with rfl | rfl
    · exact Or.inl ((HS.out b).2 (Or.inl rfl))
    · rcases HWH.out with e | e
      · exact Or.inl ((HS.out _).2 (Or.inr (by rw [← e]; rfl)))
      · simp [Value.ownBlock] at e
        have := HB12.out.size
        exact Or.inr (by omega)
  · intro b hb
    have : (w1.setCell ⟨c, 0, none⟩ (.slice (some ⟨g', 0, none⟩) (done.length + 1) cap')).heap.size = w1.heap.size := by simp [World.setCell]
    rw [this]
    rcases hb with rfl | rfl
    · exact lt_of_block HB0.out
    · exact hgl
set_option maxHeartbeats 2000000 in
set_option maxRecDepth 100000 in
/-- Pieces: of a garage that is not right nothing; else all pieces, in a row of its own -/
theorem gPieces_any (g : Gar) (a0 a1 a2 a3 : Option Addr) (c0 c1 c2 c3 : Nat) (w : World) (h : GarIn w g a0 a1 a2 a3) :
    Calls Try.prog 18 #[garV g a0 a1 a2 a3 c0 c1 c2 c3] w fun e w' => Below w.heap.size w w' ∧
      ((chk g ≠ 0 ∧ e = .returned (.tuple #[.slice none 0 0, .int .i64 (chk g)])) ∨ (chk g = 0 ∧ ∃ v base, w.heap.size ≤ base ∧ e = .returned (.tuple #[v, .int .i64 0]) ∧ w'.ownsRow base 42 5 v (evG g g.nu).length (evCs g (evG g g.nu)))) := by
  have HG := Lib.hid h
  have DC0 := Lib.hid (fun (W : World) (hb : Below w.heap.size w W) => gCheck_any g a0 a1 a2 a3 c0 c1 c2 c3 W (HG.out.below hb))
  unfold garV at DC0 ⊢
  have hmf : ∀ fn first cap w, (Instr.makeFunc fn first cap).run Try.prog w = .ok (.func fn first cap) w := fun _ _ _ _ => rfl
  obtain ⟨W0, hW0, hb0, hs0, hl0'⟩ := alloc_cells w #[.slice a0 g.np c0, .slice a1 g.ns c1, .slice a2 g.nm c2, .slice a3 g.nu c3] 27
  have G0 := Ext.ex (hl0' 0 _ rfl)
  have G1 := Ext.ex (hl0' 1 _ rfl)
  have G2 := Ext.ex (hl0' 2 _ rfl)
  have G3 := Ext.ex (hl0' 3 _ rfl)
  have HW0 := Lib.hid hW0
  have HB0 := Lib.hid hb0
  have hs0' : w.heap.size ≤ W0.heap.size := by omega
  have DC := Lib.hid (fun (Y : Ext W0) => DC0.out Y.1 (Y.down HB0.out hs0'))
  clear hl0' hW0 hb0 hs0 DC0 h
  by_cases hc : chk g = 0
  · have HC := Lib.hid hc
    rw [hc] at DC
    clear hc
    go_enter Try.func18, Try.ntmps18
    go_upto_region 1 with (fail)
    rw [HW0.out]
    refine ext_wp fun X => ?_
    go_wp2_with fail
    refine (Ext.calls _ (DC.out _)).mono ?_
    rintro e w2 ⟨rfl, Y, rfl⟩
    have g0 := G0 Y
    have g1 := G1 Y
    have g2 := G2 Y
    have g3 := G3 Y
    have hy := Y.down HB0.out hs0'
    obtain ⟨y, hyy⟩ : ∃ y, Y.1 = y := ⟨_, rfl⟩
    rw [hyy] at g0 g1 g2 g3 hy ⊢
    clear hyy Y G0 G1 G2 G3 DC
    obtain ⟨W1, hW1, hb1, hs1, hq1⟩ := alloc_block y #[.slice none 0 0] 34
    have hyw : w.heap.size ≤ y.heap.size := hy.size
    have k0 := below_cell hb1 g0
    have k1 := below_cell hb1 g1
    have k2 := below_cell hb1 g2
    have k3 := below_cell hb1 g3
    have hw1 : Below w.heap.size w W1 := hy.trans (hb1.mono hyw)
    have HLE := Lib.hid (evG_len HC.out g.nu (Nat.le_refl _))
    have hnu := (Gar.chk_parts HC.out).2.2.2.1
    have hblk : ∀ (a : Option Addr) (b off : Nat) {len kk : Nat} {V : Nat → List Value}, RowK w a len kk V → a = some ⟨b, off, none⟩ → 0 < len → ¬ b = y.heap.size := fun a b off {len kk V} hr ha hl => by
      obtain ⟨b', off', h1, h2, _⟩ := hr.here hl
      rw [ha] at h1
      injection h1 with h1
      injection h1 with h1 _
      omega
    have DE := eachPiece_any g a0 a1 a2 a3 c0 c1 c2 c3 W1 (HG.out.below hw1) HC.out 60 #[.pointer (some ⟨y.heap.size, 0, none⟩)] (fun _ _ => rfl) (PInv g W1.heap.size y.heap.size) (fun done S W W' => PInv.keep done S W W')
      (fun done S W ev hi _ _ hp => piecesCl_any g W1.heap.size y.heap.size done S W ev hi (by
        obtain ⟨rest, hr⟩ := hp
        have := congrArg List.length hr
        rw [List.length_append] at this
        have := HLE.out
        omega)) (fun b => b = y.heap.size)
      ⟨.slice none 0 0, hq1, World.ownsRow_nil _ _ _ _, fun b => by simp [Value.ownBlock], by omega, Nat.le_refl _⟩ (fun b hb => by omega) (fun b off ha hl => hblk a1 b off HG.out.r1 ha hl) (fun b off ha hl => hblk a3 b off HG.out.r3 ha hl)
    unfold garV at DE
    have HDE := Lib.hid DE
    have HW1 := Lib.hid hW1
    have HWW := Lib.hid hw1
    have hc0 : y.heap.size < W1.heap.size := by omega
    clear DE hW1 hb1 hs1 hq1 g0 g1 g2 g3 hy hw1 hblk
    go_upto_region 5 with (fail)
    rw [HW1.out]
    go_wp2_with fail
    refine HDE.out.mono ?_
    rintro e w3 ⟨rfl, hpr⟩
    obtain ⟨S, ⟨v, h1, h2, h3, h4, h5⟩, _, _⟩ := hpr.ex
    have hk3 := cell_of_one h1
    have HF := Lib.hid (Kept.below HWW.out hpr.kept HWW.out.size (fun k hk => by omega))
    have H2 := Lib.hid h2
    clear hpr h1 h2 h3 h4 h5
    go_wp2_with fail
    go_ret2
    exact ⟨HF.out, Or.inr ⟨HC.out, v, W1.heap.size, HWW.out.size, rfl, H2.out⟩⟩
  · have HC := Lib.hid hc
    have n1 : (chk g != 0) = true := by rw [bne_iff_ne]; exact hc
    clear hc
    go_enter Try.func18, Try.ntmps18
    go_upto_region 1 with (fail)
    rw [HW0.out]
    refine ext_wp fun X => ?_
    go_wp2_with fail
    refine (Ext.calls _ (DC.out _)).mono ?_
    rintro e w2 ⟨rfl, Y, rfl⟩
    go_wp2_with fail
    go_ret2
    exact ⟨Y.down HB0.out hs0', Or.inl ⟨HC.out, rfl⟩⟩
end Go.Proofs.Ytbkpoepacjinlaa

/- Gear: the small garage of the laws. -/
namespace Go.Proofs.Ytbkpoepacjinlaa
open Go.RowKit Go.BigFrame
open Gar (chk)

def bs (l : List UInt8) : ByteArray := ⟨l.toArray⟩
/-- the small garage -/
def smallG : Gar where
  np := 2
  ns := 1
  nm := 2
  nu := 1
  pn i := if i = 0 then bs [99, 49] else bs [99, 50]
  pc i := if i = 0 then 100 else 0
  sn _ := bs [99, 104, 97, 105, 110]
  sr _ := bs [98, 105, 107, 101]
  ms _ := bs [99, 104, 97, 105, 110]
  mp i := if i = 0 then bs [99, 49] else bs [99, 50]
  mf i := if i = 0 then 0 else 1000
  mt i := if i = 0 then 1000 else -1
  un _ := bs [117]
  ur _ := bs [98, 105, 107, 101]
  uf _ := 900
  us _ := 200
  uw _ := 1001
set_option maxHeartbeats 2000000 in
set_option maxRecDepth 100000 in
theorem small_any (w : World) : Calls Try.prog 58 #[] w fun e w' => ∃ a0 a1 a2 a3 c0 c1 c2 c3, e = .returned (garV smallG a0 a1 a2 a3 c0 c1 c2 c3) ∧ GarIn w' smallG a0 a1 a2 a3 ∧ Below w.heap.size w w' := by
  obtain ⟨V0, h0, b0, s0, q0⟩ := alloc_block w #[.slice (some ⟨w.heap.size + 1, 0, none⟩) 2 2, .slice (some ⟨w.heap.size + 1 + 1, 0, none⟩) 1 1, .slice (some ⟨w.heap.size + 1 + 1 + 1, 0, none⟩) 2 2, .slice (some ⟨w.heap.size + 1 + 1 + 1 + 1, 0, none⟩) 1 1] 27
  obtain ⟨V1, h1, b1, s1, q1⟩ := alloc_block V0 #[.string ⟨#[99, 49]⟩, .int .i64 100, .string ⟨#[99, 50]⟩, .int .i64 0] 94
  obtain ⟨V2, h2, b2, s2, q2⟩ := alloc_block V1 #[.string ⟨#[99, 104, 97, 105, 110]⟩, .string ⟨#[98, 105, 107, 101]⟩] 40
  obtain ⟨V3, h3, b3, s3, q3⟩ := alloc_block V2 #[.string ⟨#[99, 104, 97, 105, 110]⟩, .string ⟨#[99, 49]⟩, .int .i64 0, .int .i64 1000, .string ⟨#[99, 104, 97, 105, 110]⟩, .string ⟨#[99, 50]⟩, .int .i64 1000, .int .i64 (-1)] 54
  obtain ⟨V4, h4, b4, s4, q4⟩ := alloc_block V3 #[.string ⟨#[117]⟩, .string ⟨#[98, 105, 107, 101]⟩, .int .i64 900, .int .i64 200, .int .i64 1001] 38
  have HE : Hid (((((w.alloc (.cells #[.slice (some ⟨w.heap.size + 1, 0, none⟩) 2 2, .slice (some ⟨w.heap.size + 1 + 1, 0, none⟩) 1 1, .slice (some ⟨w.heap.size + 1 + 1 + 1, 0, none⟩) 2 2, .slice (some ⟨w.heap.size + 1 + 1 + 1 + 1, 0, none⟩) 1 1] 27)).alloc (.cells #[.string ⟨#[99, 49]⟩, .int .i64 100, .string ⟨#[99, 50]⟩, .int .i64 0] 94)).alloc (.cells #[.string ⟨#[99, 104, 97, 105, 110]⟩, .string ⟨#[98, 105, 107, 101]⟩] 40)).alloc (.cells #[.string ⟨#[99, 104, 97, 105, 110]⟩, .string ⟨#[99, 49]⟩, .int .i64 0, .int .i64 1000, .string ⟨#[99, 104, 97, 105, 110]⟩, .string ⟨#[99, 50]⟩, .int .i64 1000, .int .i64 (-1)] 54)).alloc (.cells #[.string ⟨#[117]⟩, .string ⟨#[98, 105, 107, 101]⟩, .int .i64 900, .int .i64 200, .int .i64 1001] 38) = V4) := Lib.hid (by rw [h0, h1, h2, h3, h4])
  have r0 := below_block b4 (below_block b3 (below_block b2 (below_block b1 q0)))
  have r1 := below_block b4 (below_block b3 (below_block b2 q1))
  have r2 := below_block b4 (below_block b3 q2)
  have r3 := below_block b4 q3
  rw [s0] at r1 s1
  rw [s1] at r2 s2
  rw [s2] at r3 s3
  rw [s3] at q4 s4
  have hb : Below w.heap.size w V4 := b0.trans ((b1.mono (by omega)).trans ((b2.mono (by omega)).trans ((b3.mono (by omega)).trans (b4.mono (by omega)))))
  have g0 : V4.cell? ⟨w.heap.size, 0, none⟩ = some (.slice (some ⟨w.heap.size + 1, 0, none⟩) 2 2) := block_cell r0 rfl
  have g1 : V4.cell? ⟨w.heap.size, 1, none⟩ = some (.slice (some ⟨w.heap.size + 1 + 1, 0, none⟩) 1 1) := block_cell r0 rfl
  have g2 : V4.cell? ⟨w.heap.size, 2, none⟩ = some (.slice (some ⟨w.heap.size + 1 + 1 + 1, 0, none⟩) 2 2) := block_cell r0 rfl
  have g3 : V4.cell? ⟨w.heap.size, 3, none⟩ = some (.slice (some ⟨w.heap.size + 1 + 1 + 1 + 1, 0, none⟩) 1 1) := block_cell r0 rfl
  have HGI : Hid (GarIn V4 smallG (some ⟨w.heap.size + 1, 0, none⟩) (some ⟨w.heap.size + 1 + 1, 0, none⟩) (some ⟨w.heap.size + 1 + 1 + 1, 0, none⟩) (some ⟨w.heap.size + 1 + 1 + 1 + 1, 0, none⟩)) := Lib.hid
    ⟨⟨fun _ => ⟨_, 0, rfl, lt_of_block r1, fun i hi j hj => by
        have hi : i < 2 := hi
        match i, hi, j, hj with
        | 0, _, 0, _ => exact block_cell r1 rfl
        | 0, _, 1, _ => exact block_cell r1 rfl
        | 1, _, 0, _ => exact block_cell r1 rfl
        | 1, _, 1, _ => exact block_cell r1 rfl⟩⟩,
     ⟨fun _ => ⟨_, 0, rfl, lt_of_block r2, fun i hi j hj => by
        have hi : i < 1 := hi
        match i, hi, j, hj with
        | 0, _, 0, _ => exact block_cell r2 rfl
        | 0, _, 1, _ => exact block_cell r2 rfl⟩⟩,
     ⟨fun _ => ⟨_, 0, rfl, lt_of_block r3, fun i hi j hj => by
        have hi : i < 2 := hi
        match i, hi, j, hj with
        | 0, _, 0, _ => exact block_cell r3 rfl
        | 0, _, 1, _ => exact block_cell r3 rfl
        | 0, _, 2, _ => exact block_cell r3 rfl
        | 0, _, 3, _ => exact block_cell r3 rfl
        | 1, _, 0, _ => exact block_cell r3 rfl
        | 1, _, 1, _ => exact block_cell r3 rfl
        | 1, _, 2, _ => exact block_cell r3 rfl
        | 1, _, 3, _ => exact block_cell r3 rfl⟩⟩,
     ⟨fun _ => ⟨_, 0, rfl, lt_of_block q4, fun i hi j hj => by
        have hi : i < 1 := hi
        match i, hi, j, hj with
        | 0, _, 0, _ => exact block_cell q4 rfl
        | 0, _, 1, _ => exact block_cell q4 rfl
        | 0, _, 2, _ => exact block_cell q4 rfl
        | 0, _, 3, _ => exact block_cell q4 rfl
        | 0, _, 4, _ => exact block_cell q4 rfl⟩⟩,
     fun i _ => by show (if i = 0 then bs [99, 49] else bs [99, 50]).size ≤ maxLen; split <;> decide, fun _ _ => by show (bs [99, 104, 97, 105, 110]).size ≤ maxLen ∧ (bs [98, 105, 107, 101]).size ≤ maxLen; decide, fun i _ => ⟨by show (bs [99, 104, 97, 105, 110]).size ≤ maxLen; decide, by show (if i = 0 then bs [99, 49] else bs [99, 50]).size ≤ maxLen; split <;> decide⟩, fun _ _ => by show (bs [117]).size ≤ maxLen ∧ (bs [98, 105, 107, 101]).size ≤ maxLen; decide, by decide, by decide, by decide, by decide⟩
  have HB := Lib.hid hb
  clear hb h0 h1 h2 h3 h4 b0 b1 b2 b3 b4 s0 s1 s2 s3 s4 q0 q1 q2 q3 q4 r0 r1 r2 r3
  go_enter Try.func58, Try.ntmps58
  go_wp2_with fail
  rw [HE.out]
  exact bodyPost_ret (v := .agg #[.slice (some ⟨w.heap.size + 1, 0, none⟩) 2 2, .slice (some ⟨w.heap.size + 1 + 1, 0, none⟩) 1 1, .slice (some ⟨w.heap.size + 1 + 1 + 1, 0, none⟩) 2 2, .slice (some ⟨w.heap.size + 1 + 1 + 1 + 1, 0, none⟩) 1 1]) (by simp [results, Try.results58, go_sem, g0, g1, g2, g3]) rfl ⟨_, _, _, _, 2, 1, 2, 1, rfl, HGI.out, HB.out⟩
end Go.Proofs.Ytbkpoepacjinlaa

/- Gear: two rows of pieces are equal (the library's Equal at pieces). -/
namespace Go.Proofs.Ytbkpoepacjinlaa
open Go.RowKit Go.BigFrame

/-- a row of pieces, as functions -/
structure PRow where
  n : Nat
  u : Nat → ByteArray
  s : Nat → ByteArray
  p : Nat → ByteArray
  c : Nat → Int
  y : Nat → Int
def PRow.cells (r : PRow) (i : Nat) : List Value := [.string (r.u i), .string (r.s i), .string (r.p i), .int .i64 (r.c i), .int .i64 (r.y i)]
def PRow.eqAt (r q : PRow) (i : Nat) : Bool := decide (r.u i = q.u i) && decide (r.s i = q.s i) && decide (r.p i = q.p i) && decide (r.c i = q.c i) && decide (r.y i = q.y i)
def PRow.eq (r q : PRow) : Bool := decide (r.n = q.n) && (List.range r.n).all fun i => r.eqAt q i
set_option maxHeartbeats 2000000 in
theorem eqPiece (a b c a' b' c' : ByteArray) (d e d' e' : Int) (w : World) :
    (Op.equalIn 10000 42 (.agg #[.string a, .string b, .string c, .int .i64 d, .int .i64 e]) (.agg #[.string a', .string b', .string c', .int .i64 d', .int .i64 e'])).run Try.prog w = .ok (decide (a = a') && decide (b = b') && decide (c = c') && decide (d = d') && decide (e = e')) w := by
  have u3 := Try.underlying3
  have a3 := Try.isAgg3
  have z3 := Try.sizeOf3
  have u9 := Try.underlying9
  have a9 := Try.isAgg9
  have z9 := Try.sizeOf9
  have hS : Try.prog.underlying 42 = some (.struct (Try.prog.fieldsOf 42)) := by kernel_rfl
  have hp : Try.prog.stoodInHeld 42 = false := by kernel_rfl
  have h1 := str_eq a a'
  have h2 := str_eq b b'
  have h3 := str_eq c c'
  rw [show (10000 : Nat) = 9999 + 1 from rfl, run_equalIn_agg w 9999 42 _ _ hS hp]
  simp only [Program.fieldsOf, Try.underlying42]
  generalize decide (a = a') = b1 at h1 ⊢
  generalize decide (b = b') = b2 at h2 ⊢
  generalize decide (c = c') = b3 at h3 ⊢
  have h4 : (d == d') = decide (d = d') := rfl
  have h5 : (e == e') = decide (e = e') := rfl
  generalize decide (d = d') = b4 at h4 ⊢
  generalize decide (e = e') = b5 at h5 ⊢
  cases b1 <;> cases b2 <;> cases b3 <;> cases b4 <;> cases b5 <;> go_simp
set_option maxHeartbeats 2000000 in
set_option maxRecDepth 100000 in
theorem equalP_any (r q : PRow) (a b : Option Addr) (c d : Nat) (w : World) (hr : RowK w a r.n 5 r.cells) (hq : RowK w b q.n 5 q.cells) (hl : (r.n : Int) ≤ 9223372036854775807) (hl' : (q.n : Int) ≤ 9223372036854775807) :
    Calls Try.prog 30 #[.slice a r.n c, .slice b q.n d] w fun e w' => e = .returned (.bool (r.eq q)) ∧ ∃ m, w' = w.drewN m := by
  by_cases hn : r.n = q.n
  · have hneq : ((r.n : Int) != (q.n : Int)) = false := by rw [hn]; simp
    have HR := Lib.hid hr
    have HQ := Lib.hid hq
    have HN := Lib.hid hn
    clear hr hq hn
    go_enter Try.func30, Try.ntmps30
    go_wp2_with fail
    go_loopw [13] (fun iv wr => ∃ (k : Nat), iv = .int .i64 k ∧ k ≤ r.n ∧ (∃ m, wr = w.drewN m) ∧ Hid (∀ i, i < k → r.eqAt q i = true)) (fun iv _ => r.n - (intOf iv).toNat)
    case atStart => exact ⟨0, rfl, by omega, ⟨0, rfl⟩, Lib.hid (fun i hi => by omega)⟩
    case round =>
      obtain ⟨k, rfl, hk, ⟨m, rfl⟩, HE⟩ := hrel
      by_cases hlt : k < r.n
      · have t1 : decide ((k : Int) < (r.n : Int)) = true := by rw [decide_eq_true_eq]; omega
        have t1' : decide (k < r.n) = true := by simpa using hlt
        have hkq : k < q.n := by have := HN.out; omega
        have t2 : (k : Int) < (q.n : Int) := by omega
        obtain ⟨b1, o1, rfl, hb1, hc1⟩ := HR.out.here (by omega)
        obtain ⟨b2, o2, rfl, hb2, hc2⟩ := HQ.out.here (by omega)
        have e0 : w.cell? ⟨b1, o1 + k * 5, none⟩ = some (.string (r.u k)) := hc1 k hlt 0 (by omega)
        have e1 : w.cell? ⟨b1, o1 + k * 5 + 1, none⟩ = some (.string (r.s k)) := hc1 k hlt 1 (by omega)
        have e2 : w.cell? ⟨b1, o1 + k * 5 + 2, none⟩ = some (.string (r.p k)) := hc1 k hlt 2 (by omega)
        have e3 : w.cell? ⟨b1, o1 + k * 5 + 3, none⟩ = some (.int .i64 (r.c k)) := hc1 k hlt 3 (by omega)
        have e4 : w.cell? ⟨b1, o1 + k * 5 + 4, none⟩ = some (.int .i64 (r.y k)) := hc1 k hlt 4 (by omega)
        have f0 : w.cell? ⟨b2, o2 + k * 5, none⟩ = some (.string (q.u k)) := hc2 k hkq 0 (by omega)
        have f1 : w.cell? ⟨b2, o2 + k * 5 + 1, none⟩ = some (.string (q.s k)) := hc2 k hkq 1 (by omega)
        have f2 : w.cell? ⟨b2, o2 + k * 5 + 2, none⟩ = some (.string (q.p k)) := hc2 k hkq 2 (by omega)
        have f3 : w.cell? ⟨b2, o2 + k * 5 + 3, none⟩ = some (.int .i64 (q.c k)) := hc2 k hkq 3 (by omega)
        have f4 : w.cell? ⟨b2, o2 + k * 5 + 4, none⟩ = some (.int .i64 (q.y k)) := hc2 k hkq 4 (by omega)
        clear hc1 hc2
        have hgd : Try.prog.eqGuardType Try.prog.depth 42 = false := by kernel_rfl
        have hq : ∀ W, (Op.equalIn 10000 42 (.agg #[.string (r.u k), .string (r.s k), .string (r.p k), .int .i64 (r.c k), .int .i64 (r.y k)]) (.agg #[.string (q.u k), .string (q.s k), .string (q.p k), .int .i64 (q.c k), .int .i64 (q.y k)])).run Try.prog W = .ok (r.eqAt q k) W := fun W => eqPiece _ _ _ _ _ _ _ _ _ _ W
        cases hb : r.eqAt q k
        · rw [hb] at hq
          have HF : Hid (r.eq q = false) := Lib.hid (by
            unfold PRow.eq
            rw [Bool.and_eq_false_iff]
            exact Or.inr (by rw [List.all_eq_false]; exact ⟨k, List.mem_range.2 hlt, by rw [hb]; simp⟩))
          clear hb
          go_wp2_with fail
          go_quiet (fail)
          go_wp2_with fail
          go_ret
          exact ⟨ret_bool HF.out.symm, m + nq, by rw [World.drewN_drewN]⟩
        · rw [hb] at hq
          have HE2 : Hid (∀ i, i < k + 1 → r.eqAt q i = true) := Lib.hid (fun i hi => by
            by_cases e : i = k
            · subst e; exact hb
            · exact HE.out i (by omega))
          clear hb
          go_wp2_with fail
          go_quiet (fail)
          go_wp2_with fail
          go_roundw
          case rel => exact ⟨k + 1, by go_num, by omega, ⟨_, rfl⟩, HE2⟩
          case measure => simp [intOf]; omega
      · have t1 : decide ((k : Int) < (r.n : Int)) = false := by rw [decide_eq_false_iff_not]; omega
        have t1' : decide (k < r.n) = false := by simpa using hlt
        have HF : Hid (r.eq q = true) := Lib.hid (by
          unfold PRow.eq
          rw [Bool.and_eq_true, decide_eq_true_eq, List.all_eq_true]
          exact ⟨HN.out, fun i hi => HE.out i (by have := List.mem_range.1 hi; omega)⟩)
        clear hlt
        go_wp2_with fail
        go_ret
        exact ⟨ret_bool HF.out.symm, _, rfl⟩
  · have hneq : ((r.n : Int) != (q.n : Int)) = true := by rw [bne_iff_ne]; omega
    go_enter Try.func30, Try.ntmps30
    go_wp2_with fail
    go_ret
    exact ⟨ret_bool (by unfold PRow.eq; simp [hn]), 0, rfl⟩
end Go.Proofs.Ytbkpoepacjinlaa

/- Gear: the small garage has the pieces that are told. -/
namespace Go.Proofs.Ytbkpoepacjinlaa
open Go.RowKit Go.BigFrame
open Gar (chk)

theorem small_chk : chk smallG = 0 := by kernel_rfl
def smallL : List Pcs.Pc := [(bs [99, 49], 100), (bs [99, 50], 100)]
theorem small_pcs : pcsOf smallG 0 0 = smallL := by kernel_rfl
theorem small_ord : ordL (Shr.rst 1001 200 (secW smallL)) 2 = [0, 1] := by
  refine Shr.IsOrd.unique (ordL_ord _ _) ⟨List.Perm.refl _, ?_⟩
  refine List.Pairwise.cons (fun b hb => ?_) (List.Pairwise.cons (fun b hb => by simp at hb) List.Pairwise.nil)
  simp only [List.mem_singleton] at hb
  subst hb
  exact Or.inr ⟨by kernel_rfl, by decide⟩
theorem small_way (i : Nat) (h : i = 0 ∨ i = 1) : wayG 1001 200 (secW smallL) 2 i = if i = 0 then 501 else 500 := by
  unfold wayG
  rw [small_ord]
  rcases h with rfl | rfl
  · kernel_rfl
  · kernel_rfl
theorem small_evs : evG smallG smallG.nu = [⟨0, bs [99, 104, 97, 105, 110], bs [99, 49], 100, 501⟩, ⟨0, bs [99, 104, 97, 105, 110], bs [99, 50], 100, 500⟩] := by
  show evG smallG 1 = _
  rw [evG, evG, List.nil_append]
  show evS smallG 0 1 = _
  rw [evS, evS, List.nil_append, if_pos (by rfl), small_pcs]
  show evQ smallG 0 0 2 = _
  rw [evQ, evQ, evQ]
  simp only [List.nil_append, List.singleton_append, evP, small_pcs]
  have h0 := small_way 0 (Or.inl rfl)
  have h1 := small_way 1 (Or.inr rfl)
  rw [show wayG (smallG.uw 0) (smallG.us 0) (secW smallL) smallL.length 0 = 501 from h0, show wayG (smallG.uw 0) (smallG.us 0) (secW smallL) smallL.length 1 = 500 from h1]
  rfl
def smallR : PRow where
  n := 2
  u _ := bs [117]
  s _ := bs [99, 104, 97, 105, 110]
  p i := if i = 0 then bs [99, 49] else bs [99, 50]
  c _ := 100
  y i := if i = 0 then 501 else 500
theorem small_cells : evCs smallG (evG smallG smallG.nu) = [.string (bs [117]), .string (bs [99, 104, 97, 105, 110]), .string (bs [99, 49]), .int .i64 100, .int .i64 501, .string (bs [117]), .string (bs [99, 104, 97, 105, 110]), .string (bs [99, 50]), .int .i64 100, .int .i64 500] := by
  rw [small_evs]
  rfl
theorem smallR_row {w : World} {g : Nat} (h : ∀ j u, ([.string (bs [117]), .string (bs [99, 104, 97, 105, 110]), .string (bs [99, 49]), .int .i64 100, .int .i64 501, .string (bs [117]), .string (bs [99, 104, 97, 105, 110]), .string (bs [99, 50]), .int .i64 100, .int .i64 500] : List Value)[j]? = some u → w.cell? ⟨g, j, none⟩ = some u) (hl : g < w.heap.size) : RowK w (some ⟨g, 0, none⟩) smallR.n 5 smallR.cells :=
  ⟨fun _ => ⟨g, 0, rfl, hl, fun i hi j hj => by
    have hi : i < 2 := hi
    match i, hi, j, hj with
    | 0, _, 0, _ => exact h 0 _ rfl
    | 0, _, 1, _ => exact h 1 _ rfl
    | 0, _, 2, _ => exact h 2 _ rfl
    | 0, _, 3, _ => exact h 3 _ rfl
    | 0, _, 4, _ => exact h 4 _ rfl
    | 1, _, 0, _ => exact h 5 _ rfl
    | 1, _, 1, _ => exact h 6 _ rfl
    | 1, _, 2, _ => exact h 7 _ rfl
    | 1, _, 3, _ => exact h 8 _ rfl
    | 1, _, 4, _ => exact h 9 _ rfl⟩⟩
theorem smallR_eq : smallR.eq smallR = true := by kernel_rfl
set_option maxHeartbeats 2000000 in
set_option maxRecDepth 100000 in
theorem told_any (w : World) : Calls Try.prog 17 #[] w fun e w' => e = .returned (.bool true) ∧ Below w.heap.size w w' := by
  have HS := Lib.hid (small_any w)
  go_enter Try.func17, Try.ntmps17
  go_wp2_with fail
  refine HS.out.mono ?_
  rintro e w1 ⟨a0, a1, a2, a3, c0, c1, c2, c3, rfl, hg, hb⟩
  have HP := Lib.hid (gPieces_any smallG a0 a1 a2 a3 c0 c1 c2 c3 w1 hg)
  have HB := Lib.hid hb
  clear hg hb HS
  unfold garV at HP ⊢
  go_wp2_with fail
  refine HP.out.mono ?_
  rintro e w2 ⟨hb2, hcase⟩
  have HB2 := Lib.hid (HB.out.trans (hb2.mono HB.out.size))
  clear hb2
  rcases hcase with ⟨hne, _⟩ | ⟨_, v, base, hbase, rfl, hown⟩
  · exact absurd small_chk hne
  rw [small_cells, show (evG smallG smallG.nu).length = 2 by rw [small_evs]; rfl] at hown
  obtain ⟨g, cap, rfl, hg1, hg2⟩ := hown.form (by omega)
  have HR : Hid (RowK w2 (some ⟨g, 0, none⟩) smallR.n 5 smallR.cells) := Lib.hid (smallR_row (fun j u hu => by
    have := hown.cells (g := g) rfl j u hu
    rwa [addr_add0] at this) hg2)
  clear hown
  obtain ⟨W, hW, hbW, hsW, hqW⟩ := alloc_block w2 #[.string ⟨#[117]⟩, .string ⟨#[99, 104, 97, 105, 110]⟩, .string ⟨#[99, 49]⟩, .int .i64 100, .int .i64 501, .string ⟨#[117]⟩, .string ⟨#[99, 104, 97, 105, 110]⟩, .string ⟨#[99, 50]⟩, .int .i64 100, .int .i64 500] 42
  have HE := Lib.hid (equalP_any smallR smallR (some ⟨g, 0, none⟩) (some ⟨w2.heap.size, 0, none⟩) cap 2 W (HR.out.below hbW (Nat.le_refl _)) (smallR_row (fun j u hu => block_cell hqW (by rw [← Array.getElem?_toList]; exact hu)) (by omega)) (by decide) (by decide))
  rw [smallR_eq] at HE
  have HW := Lib.hid hW
  have HBW := Lib.hid (HB2.out.trans (hbW.mono HB2.out.size))
  clear hW hbW hsW hqW
  go_wp2_with fail
  rw [HW.out]
  refine HE.out.mono ?_
  rintro e w3 ⟨rfl, m, rfl⟩
  go_wp2_with fail
  go_ret
  exact ⟨rfl, below_drewN HBW.out m⟩
end Go.Proofs.Ytbkpoepacjinlaa

/- Gear: what the pieces say of a moment (plain laws for GearPiecesFollowMounts). -/
namespace Go.Proofs.Ytbkpoepacjinlaa
open Go.RowKit Go.BigFrame
open Gar (chk chkS momG endG)

theorem less_irr : ∀ a : List UInt8, Op.bytesLess a a = false
  | [] => rfl
  | a :: l => by simp [Op.bytesLess, less_irr l]
theorem less_trans : ∀ a b c : List UInt8, Op.bytesLess a b = true → Op.bytesLess b c = true → Op.bytesLess a c = true
  | _, _, [], _, h => by cases h2 : Op.bytesLess _ [] <;> simp_all [Op.bytesLess]
  | _, [], _ :: _, h, _ => by simp [Op.bytesLess] at h
  | [], _ :: _, _ :: _, _, _ => rfl
  | a :: x, b :: y, c :: z, h1, h2 => by
    simp only [Op.bytesLess, Bool.or_eq_true, Bool.and_eq_true, decide_eq_true_eq, beq_iff_eq] at h1 h2 ⊢
    rcases h1 with h1 | ⟨rfl, h1⟩
    · rcases h2 with h2 | ⟨rfl, h2⟩
      · exact Or.inl (UInt8.lt_trans h1 h2)
      · exact Or.inl h1
    · rcases h2 with h2 | ⟨rfl, h2⟩
      · exact Or.inl h2
      · exact Or.inr ⟨rfl, less_trans x y z h1 h2⟩
theorem chkS_step {g : Gar} : ∀ (n k : Nat), chkS g n k = 0 → ∀ i, k ≤ i → i < k + n → 0 < i → strLt (g.sn (i - 1)) (g.sn i) = true
  | 0, k, _, i, h1, h2, _ => by omega
  | n + 1, k, h, i, h1, h2, h0 => by
    rw [chkS] at h
    split at h
    · omega
    · split at h
      · omega
      · split at h
        · omega
        · rename_i a b c
          by_cases e : i = k
          · subst e
            cases hb : strLt (g.sn (i - 1)) (g.sn i)
            · exact absurd ⟨h0, hb⟩ b
            · rfl
          · exact chkS_step n (k + 1) h i (by omega) (by omega) h0
theorem slot_lt {g : Gar} (h : chkS g g.ns 0 = 0) : ∀ (d i : Nat), i + d + 1 < g.ns → strLt (g.sn i) (g.sn (i + d + 1)) = true
  | 0, i, hi => chkS_step g.ns 0 h (i + 1) (by omega) (by omega) (by omega)
  | d + 1, i, hi => less_trans _ _ _ (slot_lt h d i (by omega)) (chkS_step g.ns 0 h (i + (d + 1) + 1) (by omega) (by omega) (by omega))
theorem slot_inj {g : Gar} (h : chk g = 0) {i j : Nat} (hi : i < g.ns) (hj : j < g.ns) (he : g.sn i = g.sn j) : i = j := by
  have hS := (Gar.chk_parts h).2.2.2.2.2.1
  have no : ∀ i j, i < j → j < g.ns → g.sn i ≠ g.sn j := fun i j hij hj e => by
    have := slot_lt hS (j - i - 1) i (by omega)
    rw [show i + (j - i - 1) + 1 = j by omega, e] at this
    unfold strLt at this
    rw [less_irr] at this
    cases this
  rcases Nat.lt_trichotomy i j with h1 | h1 | h1
  · exact absurd he (no i j h1 hj)
  · exact h1
  · exact absurd he.symm (no j i h1 hi)
theorem use_inj {g : Gar} (h : chk g = 0) {i j : Nat} (hi : i < g.nu) (hj : j < g.nu) (he : g.un i = g.un j) : i = j := by
  have hU := (Gar.chk_parts h).2.2.2.2.2.2.2.2
  rcases Nat.lt_trichotomy i j with h1 | h1 | h1
  · exact absurd he ((Gar.use_right hU hj).2.1 i h1)
  · exact h1
  · exact absurd he.symm ((Gar.use_right hU hi).2.1 j h1)

/-- the law's walk of all pieces: the part of the use u and slot s at the second left -/
def scanE (g : Gar) (u s : ByteArray) : List Ev → Int → Option ByteArray
  | [], _ => none
  | e :: l, left => if g.un e.i = u ∧ e.s = s then (if left < e.sec then some e.p else scanE g u s l (left - e.sec)) else scanE g u s l left
def isE (g : Gar) (u s : ByteArray) (e : Ev) : Bool := decide (g.un e.i = u ∧ e.s = s)
theorem scanE_pick (g : Gar) (u s : ByteArray) : ∀ (l : List Ev) (left : Int), scanE g u s l left = Pcs.pick left ((l.filter (isE g u s)).map fun e => (e.p, e.sec))
  | [], _ => rfl
  | e :: l, left => by
    rw [scanE, List.filter_cons]
    by_cases c : g.un e.i = u ∧ e.s = s
    · rw [if_pos c, show isE g u s e = true by simpa [isE] using c, if_pos rfl, List.map_cons, Pcs.pick]
      simp only [scanE_pick g u s l]
    · rw [if_neg c, show isE g u s e = false by simpa [isE] using c, if_neg (by simp), scanE_pick g u s l]
theorem evQ_mem {g : Gar} {i j : Nat} {e : Ev} : ∀ {n : Nat}, e ∈ evQ g i j n → e.i = i ∧ e.s = g.sn j
  | 0, h => by simp [evQ] at h
  | n + 1, h => by
    rw [evQ] at h
    rcases List.mem_append.1 h with h | h
    · exact evQ_mem h
    · simp at h
      subst h
      exact ⟨rfl, rfl⟩
theorem evQ_map (g : Gar) (i j : Nat) : ∀ n, n ≤ (pcsOf g i j).length → (evQ g i j n).map (fun e => (e.p, e.sec)) = (pcsOf g i j).take n
  | 0, _ => rfl
  | n + 1, h => by
    rw [evQ, List.map_append, evQ_map g i j n (by omega), List.take_succ_eq_append_getElem (show n < (pcsOf g i j).length by omega), List.map_cons, List.map_nil]
    unfold evP pget
    simp only [List.getD_eq_getElem?_getD, List.getElem?_eq_getElem (show n < (pcsOf g i j).length by omega), Option.getD_some]
theorem evS_none (g : Gar) {i k : Nat} (hik : g.un i ≠ g.un k) (s : ByteArray) : ∀ n, (evS g i n).filter (isE g (g.un k) s) = []
  | 0 => rfl
  | n + 1 => by
    rw [evS, List.filter_append, evS_none g hik s n, List.nil_append]
    split
    · exact List.filter_eq_nil_iff.2 fun e he => by simp [isE, (evQ_mem he).1, hik]
    · rfl
theorem evS_one {g : Gar} (h : chk g = 0) {k j : Nat} (hj : j < g.ns) (hr : g.sr j = g.ur k) : ∀ n, n ≤ g.ns → (evS g k n).filter (isE g (g.un k) (g.sn j)) = if j < n then evQ g k j (pcsOf g k j).length else []
  | 0, _ => rfl
  | n + 1, hn => by
    rw [evS, List.filter_append, evS_one h hj hr n (by omega)]
    by_cases c : n = j
    · subst c
      rw [if_neg (by omega), if_pos hr, if_pos (Nat.lt_succ_self _), List.nil_append]
      exact List.filter_eq_self.2 fun e he => by simp [isE, (evQ_mem he).1, (evQ_mem he).2]
    · have hno : g.sn n ≠ g.sn j := fun e => c (slot_inj h (by omega) hj e)
      have : (if g.sr n = g.ur k then evQ g k n (pcsOf g k n).length else []).filter (isE g (g.un k) (g.sn j)) = [] := by
        split
        · exact List.filter_eq_nil_iff.2 fun e he => by simp [isE, (evQ_mem he).2, hno]
        · rfl
      rw [this, List.append_nil]
      by_cases d : j < n
      · rw [if_pos d, if_pos (by omega)]
      · rw [if_neg d, if_neg (by omega)]
theorem evG_one {g : Gar} (h : chk g = 0) {k j : Nat} (hk : k < g.nu) (hj : j < g.ns) (hr : g.sr j = g.ur k) : ∀ n, n ≤ g.nu → (evG g n).filter (isE g (g.un k) (g.sn j)) = if k < n then evQ g k j (pcsOf g k j).length else []
  | 0, _ => rfl
  | n + 1, hn => by
    rw [evG, List.filter_append, evG_one h hk hj hr n (by omega)]
    by_cases c : n = k
    · subst c
      rw [if_neg (by omega), if_pos (by omega), List.nil_append, evS_one h hj hr _ (Nat.le_refl _), if_pos hj]
    · rw [evS_none g (fun e => c (use_inj h (by omega) hk e)), List.append_nil]
      by_cases d : k < n
      · rw [if_pos d, if_pos (by omega)]
      · rw [if_neg d, if_neg (by omega)]
theorem scan_pcs {g : Gar} (h : chk g = 0) {k j : Nat} (hk : k < g.nu) (hj : j < g.ns) (hr : g.sr j = g.ur k) (x : Int) : scanE g (g.un k) (g.sn j) (evG g g.nu) x = Pcs.pick x (pcsOf g k j) := by
  rw [scanE_pick, evG_one h hk hj hr _ (Nat.le_refl _), if_pos hk, evQ_map _ _ _ _ (Nat.le_refl _), List.take_length]
theorem scan_part {g : Gar} (h : chk g = 0) {k j : Nat} (hk : k < g.nu) (hj : j < g.ns) (hr : g.sr j = g.ur k) {x : Int} (h0 : 0 ≤ x) (h1 : x < g.us k) :
    scanE g (g.un k) (g.sn j) (evG g g.nu) x = some (Pcs.partAt (g.mounts (g.sn j)) (g.uf k + x)) := by
  have hp := Gar.chk_parts h
  have ho : Pcs.Ord (g.mounts (g.sn j)) := Gar.ord_mounts hp.2.2.2.2.2.2.1 hp.2.2.2.2.2.2.2.1 _ _ (Nat.le_refl _)
  rw [scan_pcs h hk hj hr]
  unfold pcsOf
  rw [← Pcs.pieces_eq ho (n := (g.us k).toNat) (by omega)]
  have := Pcs.rp_pick ho (last := g.uf k + g.us k) (g.us k).toNat (g.uf k) (g.uf k + x) (by omega) (by omega) (by omega)
  rwa [show g.uf k + x - g.uf k = x by omega] at this
end Go.Proofs.Ytbkpoepacjinlaa

/- Gear: the part at a moment, as In finds it. -/
namespace Go.Proofs.Ytbkpoepacjinlaa
open Go.RowKit Go.BigFrame
open Gar (chk mountsK)

def fromK (g : Gar) (s : ByteArray) : Nat → Nat → List Pcs.Mnt
  | 0, _ => []
  | n + 1, k => if g.ms k = s then g.mnt k :: fromK g s n (k + 1) else fromK g s n (k + 1)
theorem mountsK_from (g : Gar) (s : ByteArray) : ∀ n k, mountsK g s (k + n) = mountsK g s k ++ fromK g s n k
  | 0, k => by simp [fromK]
  | n + 1, k => by
    rw [show k + (n + 1) = (k + 1) + n by omega, mountsK_from g s n (k + 1), fromK, mountsK]
    split
    · simp
    · rfl
theorem part_from (g : Gar) (s : ByteArray) (x : Int) : ∀ n k, Pcs.partAt (fromK g s n k) x = (inR (inF g s x n k)).1
  | 0, _ => rfl
  | n + 1, k => by
    have he : (isG (g.mf k) (g.mt k) x = true) ↔ ((g.mnt k).f ≤ x ∧ x < Pcs.en (g.mnt k)) := by
      unfold isG
      rw [Bool.and_eq_true, decide_eq_true_eq, decide_eq_true_eq]
      rfl
    rw [fromK, inF]
    by_cases c : g.ms k = s
    · rw [if_pos c, Pcs.partAt]
      by_cases d : (g.mnt k).f ≤ x ∧ x < Pcs.en (g.mnt k)
      · rw [if_pos d, if_pos (by rw [Bool.and_eq_true]; exact ⟨by simpa using c, he.2 d⟩)]
        rfl
      · rw [if_neg d, if_neg (by rw [Bool.and_eq_true]; exact fun h => d (he.1 h.2)), part_from g s x n (k + 1)]
    · rw [if_neg c, if_neg (by rw [Bool.and_eq_true]; exact fun h => c (by simpa using h.1)), part_from g s x n (k + 1)]
theorem part_in (g : Gar) (s : ByteArray) (x : Int) : Pcs.partAt (g.mounts s) x = (inR (inF g s x g.nm 0)).1 := by
  have := mountsK_from g s g.nm 0
  rw [Nat.zero_add] at this
  unfold Gar.mounts
  rw [this, show mountsK g s 0 = [] from rfl, List.nil_append, part_from]
end Go.Proofs.Ytbkpoepacjinlaa

/- Gear: the law's walk of the pieces, as a state (plain laws for GearPiecesFollowMounts). -/
namespace Go.Proofs.Ytbkpoepacjinlaa
open Go.RowKit Go.BigFrame
open Gar (chk momG hasS)

/-- what is left, the part, was it found: one piece more -/
def stE (g : Gar) (u s : ByteArray) (st : Int × ByteArray × Bool) (e : Ev) : Int × ByteArray × Bool :=
  if g.un e.i = u ∧ e.s = s ∧ st.2.2 = false then (st.1 - e.sec, if st.1 < e.sec then e.p else st.2.1, decide (st.1 < e.sec)) else st
def ev0 : Ev := ⟨0, ⟨#[]⟩, ⟨#[]⟩, 0, 0⟩
def evA (g : Gar) (q : Nat) : Ev := (evG g g.nu).getD q ev0
def stN (g : Gar) (u s : ByteArray) (x : Int) (q : Nat) : Int × ByteArray × Bool := ((evG g g.nu).take q).foldl (stE g u s) (x, ⟨#[]⟩, false)
theorem stN_succ (g : Gar) (u s : ByteArray) (x : Int) {q : Nat} (h : q < (evG g g.nu).length) : stN g u s x (q + 1) = stE g u s (stN g u s x q) (evA g q) := by
  unfold stN evA
  rw [List.take_succ_eq_append_getElem h, List.foldl_append, List.getD_eq_getElem?_getD, List.getElem?_eq_getElem h]
  rfl
theorem fold_found (g : Gar) (u s : ByteArray) : ∀ (l : List Ev) (st : Int × ByteArray × Bool), st.2.2 = true → l.foldl (stE g u s) st = st
  | [], _, _ => rfl
  | e :: l, st, h => by
    rw [List.foldl_cons, show stE g u s st e = st by unfold stE; rw [if_neg (by rw [h]; simp)], fold_found g u s l st h]
theorem fold_scan (g : Gar) (u s : ByteArray) : ∀ (l : List Ev) (x : Int) (p : ByteArray), (l.foldl (stE g u s) (x, p, false)).2 = (match scanE g u s l x with
    | some q => (q, true)
    | none => (p, false))
  | [], _, _ => rfl
  | e :: l, x, p => by
    rw [List.foldl_cons, scanE]
    by_cases c : g.un e.i = u ∧ e.s = s
    · rw [if_pos c]
      by_cases d : x < e.sec
      · rw [if_pos d, fold_found g u s l _ (by unfold stE; rw [if_pos ⟨c.1, c.2, rfl⟩]; simpa using d)]
        unfold stE
        rw [if_pos ⟨c.1, c.2, rfl⟩]
        simp [d]
      · rw [if_neg d, show stE g u s (x, p, false) e = (x - e.sec, p, false) by unfold stE; rw [if_pos ⟨c.1, c.2, rfl⟩]; simp [d], fold_scan g u s l]
    · rw [if_neg c, show stE g u s (x, p, false) e = (x, p, false) by unfold stE; rw [if_neg (fun h => c ⟨h.1, h.2.1⟩)], fold_scan g u s l]
theorem fold_bound (g : Gar) (u s : ByteArray) : ∀ (l : List Ev) (st : Int × ByteArray × Bool), (∀ e, e ∈ l → 0 ≤ e.sec ∧ e.sec ≤ 1000000) → st.1 ≤ 1000000 → -1000000 ≤ st.1 → (st.2.2 = false → 0 ≤ st.1) →
    (l.foldl (stE g u s) st).1 ≤ 1000000 ∧ -1000000 ≤ (l.foldl (stE g u s) st).1 ∧ ((l.foldl (stE g u s) st).2.2 = false → 0 ≤ (l.foldl (stE g u s) st).1)
  | [], st, _, h1, h2, h3 => ⟨h1, h2, h3⟩
  | e :: l, st, hl, h1, h2, h3 => by
    rw [List.foldl_cons]
    have he := hl e (by simp)
    refine fold_bound g u s l _ (fun x hx => hl x (by simp [hx])) ?_ ?_ ?_
    all_goals (unfold stE; split)
    · rename_i c; show st.1 - e.sec ≤ _; omega
    · exact h1
    · rename_i c; have := h3 c.2.2; show -1000000 ≤ st.1 - e.sec; omega
    · exact h2
    · rename_i c
      intro hd
      have hd : decide (st.1 < e.sec) = false := hd
      rw [decide_eq_false_iff_not] at hd
      show 0 ≤ st.1 - e.sec
      omega
    · exact h3
theorem evQ_sec {g : Gar} {i j : Nat} (hg : Good (pcsOf g i j) (g.us i)) (hu : g.us i ≤ 1000000) {e : Ev} : ∀ {n : Nat}, n ≤ (pcsOf g i j).length → e ∈ evQ g i j n → 0 ≤ e.sec ∧ e.sec ≤ 1000000
  | 0, _, h => by simp [evQ] at h
  | n + 1, hn, h => by
    rw [evQ] at h
    rcases List.mem_append.1 h with h | h
    · exact evQ_sec hg hu (by omega) h
    · simp at h
      subst h
      have hm := pget_mem (show n < (pcsOf g i j).length by omega)
      have h1 := hg.pos _ hm
      have h2 := secs_le hg.pos hm
      have h3 := hg.sum
      show 0 ≤ (pget (pcsOf g i j) n).2 ∧ (pget (pcsOf g i j) n).2 ≤ 1000000
      omega
theorem evS_sec {g : Gar} (h : chk g = 0) {i : Nat} (hi : i < g.nu) {e : Ev} : ∀ {n : Nat}, e ∈ evS g i n → 0 ≤ e.sec ∧ e.sec ≤ 1000000
  | 0, h => by simp [evS] at h
  | n + 1, he => by
    rw [evS] at he
    rcases List.mem_append.1 he with he | he
    · exact evS_sec h hi he
    · split at he
      · have hp := Gar.chk_parts h
        have hur := Gar.use_right hp.2.2.2.2.2.2.2.2 hi
        exact evQ_sec (good_pieces (Gar.ord_mounts hp.2.2.2.2.2.2.1 hp.2.2.2.2.2.2.2.1 (g.sn n) g.nm (Nat.le_refl _)) (by omega)) (by omega) (Nat.le_refl _) he
      · simp at he
theorem evG_sec {g : Gar} (h : chk g = 0) {e : Ev} : ∀ {n : Nat}, n ≤ g.nu → e ∈ evG g n → 0 ≤ e.sec ∧ e.sec ≤ 1000000
  | 0, _, h => by simp [evG] at h
  | n + 1, hn, he => by
    rw [evG] at he
    rcases List.mem_append.1 he with he | he
    · exact evG_sec h (by omega) he
    · exact evS_sec h (by omega) he
theorem evA_sec {g : Gar} (h : chk g = 0) {q : Nat} (hq : q < (evG g g.nu).length) : 0 ≤ (evA g q).sec ∧ (evA g q).sec ≤ 1000000 := by
  refine evG_sec h (Nat.le_refl _) ?_
  unfold evA
  rw [List.getD_eq_getElem?_getD, List.getElem?_eq_getElem hq]
  exact List.getElem_mem hq
theorem stN_bound {g : Gar} (h : chk g = 0) (u s : ByteArray) {x : Int} (h0 : 0 ≤ x) (h1 : x ≤ 1000000) (q : Nat) : (stN g u s x q).1 ≤ 1000000 ∧ -1000000 ≤ (stN g u s x q).1 := by
  have := fold_bound g u s ((evG g g.nu).take q) (x, ⟨#[]⟩, false) (fun e he => evG_sec h (Nat.le_refl _) (List.mem_of_mem_take he)) h1 (by show -1000000 ≤ x; omega) (fun _ => h0)
  exact ⟨this.1, this.2.1⟩
theorem hasS_at {g : Gar} {j : Nat} (h : j < g.ns) : hasS g (g.sn j) = true := by
  unfold hasS
  rw [List.any_eq_true]
  exact ⟨j, List.mem_range.2 h, by simp⟩
/-- behind all pieces the part is the one that In tells -/
theorem stN_end {g : Gar} (h : chk g = 0) {k j : Nat} (hk : k < g.nu) (hj : j < g.ns) (hr : g.sr j = g.ur k) {x : Int} (h0 : 0 ≤ x) (h1 : x < g.us k) (h2 : g.uf k + x ≤ 86399999999) :
    ∃ p b, (stN g (g.un k) (g.sn j) x (evG g g.nu).length).2 = (p, true) ∧ InS g (g.sn j) (g.uf k + x) = (p, b, 0) := by
  have hur := Gar.use_right (Gar.chk_parts h).2.2.2.2.2.2.2.2 hk
  refine ⟨(inR (inF g (g.sn j) (g.uf k + x) g.nm 0)).1, (inR (inF g (g.sn j) (g.uf k + x) g.nm 0)).2, ?_, ?_⟩
  · unfold stN
    rw [List.take_length, fold_scan, scan_part h hk hj hr h0 h1, part_in]
  · unfold InS
    rw [if_neg (by rw [h]; simp), hasS_at hj, if_neg (by simp), show momG (g.uf k + x) = true by unfold momG; rw [Bool.and_eq_true, decide_eq_true_eq, decide_eq_true_eq]; omega, if_neg (by simp)]
/-- the row of the pieces, as it is read -/
theorem evRow {g : Gar} {W : World} {base : Nat} {T : TypeId} {v : Value} {l : List Ev} (hr : W.ownsRow base T 5 v l.length (evCs g l)) :
    ∃ (am : Option Addr) (cm : Nat), v = .slice am l.length cm ∧ RowK W am l.length 5 (fun i => evC g (l.getD i ev0)) := by
  rcases hr.2 with ⟨e, hn⟩ | ⟨q, cap, cur, e, _, h3, _⟩
  · exact ⟨none, 0, by rw [e, hn], ⟨fun h => by omega⟩⟩
  · refine ⟨some ⟨q, 0, none⟩, cap, e, ⟨fun hl => ⟨q, 0, rfl, lt_of_block h3, fun i hi j hj => ?_⟩⟩⟩
    have hc := flatN (f := evC g) (m := 5) ev0 (fun q => rfl) l i j hi hj
    have hv : ∃ v, (evC g (l.getD i ev0))[j]? = some v := ⟨_, List.getElem?_eq_getElem (by simpa [evC] using hj)⟩
    obtain ⟨v, hv⟩ := hv
    have h6 := hr.cells (g := q) (by rw [e]; rfl) (i * 5 + j) v (hc.trans hv)
    rw [addr_add0] at h6
    rw [Nat.zero_add, hv]
    exact h6
end Go.Proofs.Ytbkpoepacjinlaa

/- The law GearPiecesFollowMounts: its walk. -/
namespace Go.Proofs.Ytbkpoepacjinlaa
open Go.RowKit Go.BigFrame
open Gar (chk)

theorem Ext.up {W V : World} (h : Below W.heap.size W V) (Y : Ext V) : ∃ X : Ext W, Y.1 = X.1 := ⟨⟨Y.1, h.trans (Y.2.mono h.size)⟩, rfl⟩
set_option maxHeartbeats 8000000 in
set_option maxRecDepth 100000 in
theorem follow_any (g : Gar) (a0 a1 a2 a3 : Option Addr) (c0 c1 c2 c3 : Nat) (x : Int) (w : World) (h : GarIn w g a0 a1 a2 a3) :
    Calls Try.prog 4 #[garV g a0 a1 a2 a3 c0 c1 c2 c3, .int .i64 x] w fun e w' => e = .returned (.bool true) ∧ Below w.heap.size w w' := by
  have HG := Lib.hid h
  have hl1 := h.l1
  have hl3 := h.l3
  clear h
  have DP0 := Lib.hid (fun (W : World) (hb : Below w.heap.size w W) => gPieces_any g a0 a1 a2 a3 c0 c1 c2 c3 W (HG.out.below hb))
  have DI0 := Lib.hid (fun (s : ByteArray) (m : Int) (W : World) (hb : Below w.heap.size w W) => gIn_any g a0 a1 a2 a3 c0 c1 c2 c3 s m W (HG.out.below hb))
  have DT := Lib.hid (fun W => told_any W)
  unfold garV at DP0 DI0 ⊢
  obtain ⟨W0, hW0, hb0, hs0, hl0'⟩ := alloc_cells w #[.slice a0 g.np c0, .slice a1 g.ns c1, .slice a2 g.nm c2, .slice a3 g.nu c3] 27
  have e0 := hl0' 0 _ rfl
  have e1 := hl0' 1 _ rfl
  have e2 := hl0' 2 _ rfl
  have e3 := hl0' 3 _ rfl
  have HW0 := Lib.hid hW0
  have HB0 := Lib.hid hb0
  have hs0' : w.heap.size ≤ W0.heap.size := by omega
  clear hl0' hW0 hb0 hs0
  go_enter Try.func4, Try.ntmps4
  go_upto_region 1 with (fail)
  rw [HW0.out]
  go_wp2_with fail
  refine (DP0.out _ HB0.out).mono ?_
  rintro e W1 ⟨hb1, hcase⟩
  have HB1 := Lib.hid (HB0.out.trans (hb1.mono hs0'))
  have f0 := below_cell hb1 e0
  have f1 := below_cell hb1 e1
  have f2 := below_cell hb1 e2
  have f3 := below_cell hb1 e3
  clear hb1 e0 e1 e2 e3
  rcases hcase with ⟨hne, rfl⟩ | ⟨hc, v, base, hbase, rfl, hown⟩
  · have n1 : (chk g != 0) = true := by rw [bne_iff_ne]; exact hne
    generalize chk g = ck at n1
    clear hne
    go_wp2_with fail
    refine (DT.out _).mono ?_
    rintro e w3 ⟨rfl, hb3⟩
    go_wp2_with fail
    go_ret
    exact ⟨rfl, HB1.out.trans (hb3.mono HB1.out.size)⟩
  · obtain ⟨am, cm, rfl, hrow⟩ := evRow hown
    have hrow : RowK W1 am (evG g g.nu).length 5 (fun i => evC g (evA g i)) := hrow
    have hel := evG_len hc g.nu (Nat.le_refl _)
    have hpt := Gar.chk_parts hc
    have hnu := hpt.2.2.2.1
    have HST := Lib.hid (fun (u s : ByteArray) (q : Nat) (hq : q < (evG g g.nu).length) => stN_succ g u s x hq)
    have HSB := Lib.hid (fun (u s : ByteArray) (h0 : 0 ≤ x) (h1 : x ≤ 1000000) => stN_bound hc u s h0 h1)
    have HSE := Lib.hid (fun (k j : Nat) (hk : k < g.nu) (hj : j < g.ns) (hr : g.sr j = g.ur k) (h0 : 0 ≤ x) (h1 : x < g.us k) (h2 : g.uf k + x ≤ 86399999999) => stN_end hc hk hj hr h0 h1 h2)
    have HEA := Lib.hid (fun (q : Nat) (hq : q < (evG g g.nu).length) => evA_sec hc hq)
    obtain ⟨n, hn⟩ : ∃ n, (evG g g.nu).length = n := ⟨_, rfl⟩
    rw [hn] at hrow hel HST HSE HEA ⊢
    have hnl : (n : Int) ≤ 9223372036854775807 := by omega
    have HROW := Lib.hid hrow
    have HUR := Lib.hid (fun (i : Nat) (hi : i < g.nu) => Gar.use_right hpt.2.2.2.2.2.2.2.2 hi)
    have HB1S := Lib.hid HB1.out.size
    have G0 := Ext.ex f0
    have G1 := Ext.ex f1
    have G2 := Ext.ex f2
    have G3 := Ext.ex f3
    have n1 : ((0 : Int) != 0) = false := rfl
    clear hrow hown hpt hn hc hel
    go_wp2_with fail
    clear f0 f1 f2 f3
    go_loopw [30] (fun iv wr => ∃ (i : Nat), iv = .int .i64 i ∧ i ≤ g.nu ∧ ∃ X : Ext W1, wr = X.1) (fun iv _ => g.nu - (intOf iv).toNat)
    case atStart => exact ⟨0, rfl, by omega, ⟨W1, Below.refl _ _⟩, rfl⟩
    case round =>
      obtain ⟨i, rfl, hi, X, rfl⟩ := hrel
      by_cases hlt : i < g.nu
      · have t1 : decide ((i : Int) < (g.nu : Int)) = true := by rw [decide_eq_true_eq]; omega
        obtain ⟨b, off, rfl, hbl, hc⟩ := (HG.out.r3.below (X.down HB1.out HB1S.out) (Nat.le_refl _)).here (by omega)
        have e0 : X.1.cell? ⟨b, off + i * 5, none⟩ = some (.string (g.un i)) := hc i hlt 0 (by omega)
        have e1 : X.1.cell? ⟨b, off + i * 5 + 1, none⟩ = some (.string (g.ur i)) := hc i hlt 1 (by omega)
        have e2 : X.1.cell? ⟨b, off + i * 5 + 2, none⟩ = some (.int .i64 (g.uf i)) := hc i hlt 2 (by omega)
        have e3 : X.1.cell? ⟨b, off + i * 5 + 3, none⟩ = some (.int .i64 (g.us i)) := hc i hlt 3 (by omega)
        have e4 : X.1.cell? ⟨b, off + i * 5 + 4, none⟩ = some (.int .i64 (g.uw i)) := hc i hlt 4 (by omega)
        obtain ⟨V1, hV1, hvb, hvs, hvl⟩ := alloc_cells X.1 #[.string (g.un i), .string (g.ur i), .int .i64 (g.uf i), .int .i64 (g.us i), .int .i64 (g.uw i)] 38
        have U0 := Ext.ex (hvl 0 _ rfl)
        have U1 := Ext.ex (hvl 1 _ rfl)
        have U2 := Ext.ex (hvl 2 _ rfl)
        have U3 := Ext.ex (hvl 3 _ rfl)
        have hWV : Below W1.heap.size W1 V1 := X.2.trans (hvb.mono X.2.size)
        have G0' := Ext.re hWV G0
        have G1' := Ext.re hWV G1
        have G2' := Ext.re hWV G2
        have G3' := Ext.re hWV G3
        have HWV := Lib.hid hWV
        have HV1 := Lib.hid hV1
        have HV1S : Hid (w.heap.size ≤ V1.heap.size) := Lib.hid (Nat.le_trans HB1S.out hWV.size)
        have HBV := Lib.hid (HB1.out.trans (hWV.mono HB1S.out))
        have hur := HUR.out i hlt
        have HU := Lib.hid hur
        have hf0 : 0 ≤ g.uf i ∧ g.uf i ≤ 86399999999 := by omega
        have hus : 1 ≤ g.us i ∧ g.us i ≤ 1000000 := by omega
        clear hc hV1 hvb hvs hvl hWV hur
        obtain ⟨p6, hp6⟩ : ∃ p6, X.1.heap.size = p6 := ⟨_, rfl⟩
        rw [hp6] at U0 U1 U2 U3
        have HP6 := Lib.hid hp6
        clear hp6
        go_upto_region 7 with (fail)
        rw [HV1.out, HP6.out]
        refine ext_wp fun X1 => ?_
        clear e0 e1 e2 e3 e4 HP6 HV1 hbl X
        by_cases hgo : 0 ≤ x ∧ x < g.us i ∧ g.uf i + x ≤ 86399999999
        · have d1 : decide (x < 0) = false := by rw [decide_eq_false_iff_not]; omega
          have d2 : decide (g.us i ≤ x) = false := by rw [decide_eq_false_iff_not]; omega
          have d3 : decide (86399999999 < g.uf i + x) = false := by rw [decide_eq_false_iff_not]; omega
          obtain ⟨hg0, hg1, hg2⟩ := hgo
          go_upto_region 8 with (fail)
          go_wp2_with fail
          go_loopw [52] (fun iv wr => ∃ (j : Nat), iv = .int .i64 j ∧ j ≤ g.ns ∧ ∃ X : Ext V1, wr = X.1) (fun iv _ => g.ns - (intOf iv).toNat)
          case atStart => exact ⟨0, rfl, by omega, X1, rfl⟩
          case round =>
            obtain ⟨j, rfl, hj, Y, rfl⟩ := hrel
            by_cases hltj : j < g.ns
            · have t2 : decide ((j : Int) < (g.ns : Int)) = true := by rw [decide_eq_true_eq]; omega
              obtain ⟨b1, off1, rfl, hbl1, hc1⟩ := (HG.out.r1.below (Y.down HBV.out HV1S.out) (Nat.le_refl _)).here (by omega)
              have s0 : Y.1.cell? ⟨b1, off1 + j * 2, none⟩ = some (.string (g.sn j)) := hc1 j hltj 0 (by omega)
              have s1 : Y.1.cell? ⟨b1, off1 + j * 2 + 1, none⟩ = some (.string (g.sr j)) := hc1 j hltj 1 (by omega)
              obtain ⟨V2, hV2, hvb2, hvs2, hvl2⟩ := alloc_cells Y.1 #[.string (g.sn j), .string (g.sr j)] 40
              have S0 := Ext.ex (hvl2 0 _ rfl)
              have S1 := Ext.ex (hvl2 1 _ rfl)
              have hWV2 : Below V1.heap.size V1 V2 := Y.2.trans (hvb2.mono Y.2.size)
              have G0'' := Ext.re hWV2 G0'
              have G1'' := Ext.re hWV2 G1'
              have G2'' := Ext.re hWV2 G2'
              have G3'' := Ext.re hWV2 G3'
              have U0' := Ext.re hWV2 U0
              have U1' := Ext.re hWV2 U1
              have U2' := Ext.re hWV2 U2
              have HWV2 := Lib.hid hWV2
              have HV2 := Lib.hid hV2
              have HV2S : Hid (w.heap.size ≤ V2.heap.size) := Lib.hid (Nat.le_trans HV1S.out hWV2.size)
              have HBV2 := Lib.hid (HBV.out.trans (hWV2.mono HV1S.out))
              have HR2 := Lib.hid (HROW.out.below (HWV.out.trans (hWV2.mono HWV.out.size)) (Nat.le_refl _))
              have hse := str_eq (g.sr j) (g.ur i)
              clear hc1 hV2 hvb2 hvs2 hvl2 hWV2
              obtain ⟨p7, hp7⟩ : ∃ p7, Y.1.heap.size = p7 := ⟨_, rfl⟩
              rw [hp7] at S0 S1
              have HP7 := Lib.hid hp7
              clear hp7
              by_cases hrig : g.sr j = g.ur i
              · rw [show decide (g.sr j = g.ur i) = true by simpa using hrig] at hse
                have hne : ((g.sr j).toList != (g.ur i).toList) = false := by rw [bne, hse]; rfl
                obtain ⟨pf, bf, hend, hin⟩ := HSE.out i j hlt hltj hrig hg0 hg1 hg2
                have DI := Lib.hid (fun (Z : Ext V2) => DI0.out (g.sn j) (g.uf i + x) Z.1 (Z.down HBV2.out HV2S.out))
                rw [hin] at DI
                have hbd := fun q => HSB.out (g.un i) (g.sn j) hg0 (by omega) q
                have hsuc := HST.out (g.un i) (g.sn j)
                obtain ⟨st, hst⟩ : ∃ st : Nat → Int × ByteArray × Bool, stN g (g.un i) (g.sn j) x = st := ⟨_, rfl⟩
                have hst0 : st 0 = (x, ⟨#[]⟩, false) := by rw [← hst]; rfl
                rw [hst] at hend hbd hsuc
                have HEND := Lib.hid hend
                have HSUC := Lib.hid hsuc
                have HBD := Lib.hid hbd
                have HST0 := Lib.hid hst0
                clear hend hin hbd hsuc hst hst0 hrig
                go_upto_region 11 with (fail)
                rw [HV2.out, HP7.out]
                refine ext_wp fun X2 => ?_
                clear s0 s1 hbl1 Y HP7 HV2
                go_wp2_with fail
                clear hne hse
                go_loopw [11, 12, 13, 64] (fun lv pv bv iv wr => ∃ (q : Nat), lv = .int .i64 (st q).1 ∧ pv = .string (st q).2.1 ∧ bv = .bool (st q).2.2 ∧ iv = .int .i64 q ∧ q ≤ n ∧ ∃ X : Ext V2, wr = X.1) (fun _ _ _ iv _ => n - (intOf iv).toNat)
                case atStart => exact ⟨0, by rw [HST0.out], by rw [HST0.out], by rw [HST0.out], rfl, by omega, X2, rfl⟩
                case round =>
                  obtain ⟨q, rfl, rfl, rfl, rfl, hq, Z, rfl⟩ := hrel
                  have hb := HBD.out q
                  by_cases hltq : q < n
                  · have t3 : decide ((q : Int) < (n : Int)) = true := by rw [decide_eq_true_eq]; omega
                    have hs := HSUC.out q hltq
                    have hsec := HEA.out q hltq
                    obtain ⟨bq, offq, rfl, hblq, hcq⟩ := (HR2.out.below Z.2 (Nat.le_refl _)).here (by omega)
                    have z0 : Z.1.cell? ⟨bq, offq + q * 5, none⟩ = some (.string (g.un (evA g q).i)) := hcq q hltq 0 (by omega)
                    have z1 : Z.1.cell? ⟨bq, offq + q * 5 + 1, none⟩ = some (.string (evA g q).s) := hcq q hltq 1 (by omega)
                    have z2 : Z.1.cell? ⟨bq, offq + q * 5 + 2, none⟩ = some (.string (evA g q).p) := hcq q hltq 2 (by omega)
                    have z3 : Z.1.cell? ⟨bq, offq + q * 5 + 3, none⟩ = some (.int .i64 (evA g q).sec) := hcq q hltq 3 (by omega)
                    have z4 : Z.1.cell? ⟨bq, offq + q * 5 + 4, none⟩ = some (.int .i64 (evA g q).way) := hcq q hltq 4 (by omega)
                    generalize evA g q = ev at hs hsec z0 z1 z2 z3 z4
                    obtain ⟨sq, hsq⟩ : ∃ sq, st q = sq := ⟨_, rfl⟩
                    rw [hsq] at hs hb ⊢
                    obtain ⟨l, p, bo⟩ := sq
                    obtain ⟨V3, hV3, hvb3, hvs3, hvl3⟩ := alloc_cells Z.1 #[.string (g.un ev.i), .string ev.s, .string ev.p, .int .i64 ev.sec, .int .i64 ev.way] 42
                    have Q0 := Ext.ex (hvl3 0 _ rfl)
                    have Q1 := Ext.ex (hvl3 1 _ rfl)
                    have Q2 := Ext.ex (hvl3 2 _ rfl)
                    have Q3 := Ext.ex (hvl3 3 _ rfl)
                    have hWV3 : Below V2.heap.size V2 V3 := Z.2.trans (hvb3.mono Z.2.size)
                    have U0'' := Ext.re hWV3 U0'
                    have S0' := Ext.re hWV3 S0
                    have HWV3 := Lib.hid hWV3
                    have HV3 := Lib.hid hV3
                    have hs1 := str_eq (g.un ev.i) (g.un i)
                    have hs2 := str_eq ev.s (g.sn j)
                    clear hcq hV3 hvb3 hvs3 hvl3 hWV3 hsq
                    obtain ⟨p8, hp8⟩ : ∃ p8, Z.1.heap.size = p8 := ⟨_, rfl⟩
                    rw [hp8] at Q0 Q1 Q2 Q3
                    have HP8 := Lib.hid hp8
                    clear hp8
                    unfold stE at hs
                    have hl1' : -1000000 ≤ l ∧ l ≤ 1000000 := ⟨hb.2, hb.1⟩
                    by_cases hm : g.un ev.i = g.un i ∧ ev.s = g.sn j ∧ bo = false
                    · rw [if_pos hm] at hs
                      obtain ⟨m1, m2, rfl⟩ := hm
                      rw [show decide (g.un ev.i = g.un i) = true by simpa using m1] at hs1
                      rw [show decide (ev.s = g.sn j) = true by simpa using m2] at hs2
                      have hn1 : ((g.un ev.i).toList != (g.un i).toList) = false := by rw [bne, hs1]; rfl
                      have hn2 : (ev.s.toList != (g.sn j).toList) = false := by rw [bne, hs2]; rfl
                      clear m1 m2
                      by_cases hls : l < ev.sec
                      · have t4 : decide (l < ev.sec) = true := by simpa using hls
                        rw [if_pos hls, t4] at hs
                        have HS := Lib.hid hs
                        clear hs
                        go_upto_region 16 with (fail)
                        rw [HV3.out, HP8.out]
                        refine ext_wp fun X3 => ?_
                        clear z0 z1 z2 z3 z4 HP8 HV3 hblq Z
                        go_wp2_with fail
                        go_roundw
                        case rel => exact ⟨q + 1, by rw [HS.out], by rw [HS.out], by rw [HS.out], by go_num, by omega, Ext.up HWV3.out X3⟩
                        case measure => simp [intOf]; omega
                      · have t4 : decide (l < ev.sec) = false := by simpa using hls
                        rw [if_neg hls, t4] at hs
                        have HS := Lib.hid hs
                        clear hs
                        go_upto_region 16 with (fail)
                        rw [HV3.out, HP8.out]
                        refine ext_wp fun X3 => ?_
                        clear z0 z1 z2 z3 z4 HP8 HV3 hblq Z
                        go_wp2_with fail
                        go_roundw
                        case rel => exact ⟨q + 1, by rw [HS.out], by rw [HS.out], by rw [HS.out], by go_num, by omega, Ext.up HWV3.out X3⟩
                        case measure => simp [intOf]; omega
                    · rw [if_neg hm] at hs
                      have HS := Lib.hid hs
                      clear hs
                      by_cases m1 : g.un ev.i = g.un i
                      · rw [show decide (g.un ev.i = g.un i) = true by simpa using m1] at hs1
                        have hn1 : ((g.un ev.i).toList != (g.un i).toList) = false := by rw [bne, hs1]; rfl
                        by_cases m2 : ev.s = g.sn j
                        · obtain rfl : bo = true := by
                            cases bo
                            · exact absurd ⟨m1, m2, rfl⟩ hm
                            · rfl
                          rw [show decide (ev.s = g.sn j) = true by simpa using m2] at hs2
                          have hn2 : (ev.s.toList != (g.sn j).toList) = false := by rw [bne, hs2]; rfl
                          clear m1 m2 hm
                          go_upto_region 16 with (fail)
                          rw [HV3.out, HP8.out]
                          refine ext_wp fun X3 => ?_
                          clear z0 z1 z2 z3 z4 HP8 HV3 hblq Z
                          go_wp2_with fail
                          go_roundw
                          case rel => exact ⟨q + 1, by rw [HS.out], by rw [HS.out], by rw [HS.out], by go_num, by omega, Ext.up HWV3.out X3⟩
                          case measure => simp [intOf]; omega
                        · rw [show decide (ev.s = g.sn j) = false by simpa using m2] at hs2
                          have hn2 : (ev.s.toList != (g.sn j).toList) = true := by rw [bne, hs2]; rfl
                          clear m1 m2 hm
                          go_upto_region 16 with (fail)
                          rw [HV3.out, HP8.out]
                          refine ext_wp fun X3 => ?_
                          clear z0 z1 z2 z3 z4 HP8 HV3 hblq Z
                          go_wp2_with fail
                          go_roundw
                          case rel => exact ⟨q + 1, by rw [HS.out], by rw [HS.out], by rw [HS.out], by go_num, by omega, Ext.up HWV3.out X3⟩
                          case measure => simp [intOf]; omega
                      · rw [show decide (g.un ev.i = g.un i) = false by simpa using m1] at hs1
                        have hn1 : ((g.un ev.i).toList != (g.un i).toList) = true := by rw [bne, hs1]; rfl
                        clear hs2 m1 hm
                        go_upto_region 16 with (fail)
                        rw [HV3.out, HP8.out]
                        refine ext_wp fun X3 => ?_
                        clear z0 z1 z2 z3 z4 HP8 HV3 hblq Z
                        go_wp2_with fail
                        go_roundw
                        case rel => exact ⟨q + 1, by rw [HS.out], by rw [HS.out], by rw [HS.out], by go_num, by omega, Ext.up HWV3.out X3⟩
                        case measure => simp [intOf]; omega
                  · have t3 : decide ((q : Int) < (n : Int)) = false := by rw [decide_eq_false_iff_not]; omega
                    have t3' : decide (q < n) = false := by simpa using hltq
                    obtain rfl : q = n := by omega
                    clear hltq
                    have he := HEND.out
                    obtain ⟨sq, hsq⟩ : ∃ sq, st q = sq := ⟨_, rfl⟩
                    rw [hsq] at he ⊢
                    obtain ⟨l, p, bo⟩ := sq
                    simp only [Prod.mk.injEq] at he
                    obtain ⟨rfl, rfl⟩ := he
                    have hpp : (p.toList != p.toList) = false := by simp
                    have n2 : ((0 : Int) != 0) = false := rfl
                    clear hsq hb
                    go_wp2_with fail
                    refine (Ext.calls _ (DI.out _)).mono ?_
                    rintro e w2 ⟨rfl, Z2, rfl⟩
                    unfold tri
                    go_wp2_with fail
                    go_roundw
                    case rel => exact ⟨j + 1, by go_num, by omega, Ext.up HWV2.out Z2⟩
                    case measure => simp [intOf]; omega
              · rw [show decide (g.sr j = g.ur i) = false by simpa using hrig] at hse
                have hne : ((g.sr j).toList != (g.ur i).toList) = true := by rw [bne, hse]; rfl
                go_upto_region 11 with (fail)
                rw [HV2.out, HP7.out]
                refine ext_wp fun X2 => ?_
                clear s0 s1 hbl1 Y HP7 HV2
                go_wp2_with fail
                go_roundw
                case rel => exact ⟨j + 1, by go_num, by omega, Ext.up HWV2.out X2⟩
                case measure => simp [intOf]; omega
            · have t2 : decide ((j : Int) < (g.ns : Int)) = false := by rw [decide_eq_false_iff_not]; omega
              have t2' : decide (j < g.ns) = false := by simpa using hltj
              obtain rfl : j = g.ns := by omega
              clear hltj
              go_wp2_with fail
              go_roundw
              case rel => exact ⟨i + 1, by go_num, by omega, Ext.up HWV.out Y⟩
              case measure => simp [intOf]; omega
        · by_cases k1 : x < 0
          · have d1 : decide (x < 0) = true := by rw [decide_eq_true_eq]; omega
            go_wp2_with fail
            go_roundw
            case rel => exact ⟨i + 1, by go_num, by omega, Ext.up HWV.out X1⟩
            case measure => simp [intOf]; omega
          · have d1 : decide (x < 0) = false := by rw [decide_eq_false_iff_not]; omega
            by_cases k2 : g.us i ≤ x
            · have d2 : decide (g.us i ≤ x) = true := by rw [decide_eq_true_eq]; omega
              go_wp2_with fail
              go_roundw
              case rel => exact ⟨i + 1, by go_num, by omega, Ext.up HWV.out X1⟩
              case measure => simp [intOf]; omega
            · have d2 : decide (g.us i ≤ x) = false := by rw [decide_eq_false_iff_not]; omega
              have d3 : decide (86399999999 < g.uf i + x) = true := by rw [decide_eq_true_eq]; omega
              go_wp2_with fail
              go_roundw
              case rel => exact ⟨i + 1, by go_num, by omega, Ext.up HWV.out X1⟩
              case measure => simp [intOf]; omega
      · have t1 : decide ((i : Int) < (g.nu : Int)) = false := by rw [decide_eq_false_iff_not]; omega
        have t1' : decide (i < g.nu) = false := by simpa using hlt
        obtain rfl : i = g.nu := by omega
        clear hlt
        go_wp2_with fail
        refine (DT.out _).mono ?_
        rintro e w3 ⟨rfl, hb3⟩
        go_wp2_with fail
        go_ret
        exact ⟨rfl, (X.down HB1.out HB1S.out).trans (hb3.mono (X.down HB1.out HB1S.out).size)⟩
end Go.Proofs.Ytbkpoepacjinlaa

/- A garage that came in by value: how it reads. -/
namespace Go.Proofs.Ytbkpoepacjinlaa
open Go.ChangeShapes Go.WideShapes Go.ChangeAt Go.RowKit Go.Deep

theorem laidOut : laidOutB Try.prog = true := by kernel_rfl
theorem readGarage : Try.prog.readableRec 27 = true := by kernel_rfl
theorem rowGarage : 27 < Try.prog.types.size := of_decide_eq_true (by kernel_rfl)
def intV : Value → Int
  | .int _ n => n
  | _ => 0
def strV : Value → ByteArray
  | .string s => s
  | _ => ByteArray.empty
theorem RowK.congr {w : World} {a : Option Addr} {len k : Nat} {V V' : Nat → List Value} (h : RowK w a len k V) (he : ∀ i, i < len → V i = V' i) : RowK w a len k V' :=
  ⟨fun h0 => by
    obtain ⟨b, off, e, hb, hc⟩ := h.here h0
    exact ⟨b, off, e, hb, fun i hi j hj => by rw [hc i hi j hj, he i hi]⟩⟩
section
variable {H : Type} {enc : TypeId × Value → H} {P : Program} {w : World} {base : Nat}
theorem field_str {V : List Value} {j : Nat} {t : TypeId} (ht : P.underlying t = some .string) (h : ∃ u n y, V[j]? = some u ∧ DataW.trod enc P w base (fun _ => true) true n t [u] = some y) :
    V[j]? = some (.string (strV (V.getD j (.bool false)))) ∧ (strV (V.getD j (.bool false))).size ≤ maxLen := by
  obtain ⟨u, n, y, hu, hd⟩ := h
  obtain ⟨s, e, _, hs⟩ := DataW.trod_string ht hd
  simp only [List.cons.injEq, and_true] at e
  subst e
  rw [List.getD_eq_getElem?_getD, hu]
  exact ⟨rfl, hs⟩
theorem field_int {V : List Value} {j : Nat} {t : TypeId} (ht : P.underlying t = some (.int .i64)) (h : ∃ u n y, V[j]? = some u ∧ DataW.trod enc P w base (fun _ => true) true n t [u] = some y) :
    V[j]? = some (.int .i64 (intV (V.getD j (.bool false)))) := by
  obtain ⟨u, n, y, hu, hd⟩ := h
  obtain ⟨s, e, _, hs⟩ := DataW.trod_int ht hd
  simp only [List.cons.injEq, and_true] at e
  subst e
  rw [List.getD_eq_getElem?_getD, hu]
  rfl
end
theorem list2 {V : List Value} {a b : Value} (hl : V.length = 2) (h0 : V[0]? = some a) (h1 : V[1]? = some b) : V = [a, b] := by
  match V, hl with
  | [x, y], _ => simp at h0 h1; rw [h0, h1]
theorem list4 {V : List Value} {a b c d : Value} (hl : V.length = 4) (h0 : V[0]? = some a) (h1 : V[1]? = some b) (h2 : V[2]? = some c) (h3 : V[3]? = some d) : V = [a, b, c, d] := by
  match V, hl with
  | [x, y, z, u], _ => simp at h0 h1 h2 h3; rw [h0, h1, h2, h3]
theorem list5 {V : List Value} {a b c d e : Value} (hl : V.length = 5) (h0 : V[0]? = some a) (h1 : V[1]? = some b) (h2 : V[2]? = some c) (h3 : V[3]? = some d) (h4 : V[4]? = some e) : V = [a, b, c, d, e] := by
  match V, hl with
  | [x, y, z, u, v], _ => simp at h0 h1 h2 h3 h4; rw [h0, h1, h2, h3, h4]

set_option maxRecDepth 100000 in
theorem open_garage {H : Type} {enc : TypeId × Value → H} {W : World} {r : Reach} {b0 base : Nat} {v : Value} {d : DataW H} {p : List MemPlace}
    (hv : Value.okWide Try.prog W r b0 27 v) (h : DataW.Trod enc Try.prog W base (fun _ => true) true 27 v d p) :
    ∃ (g : Gar) (a0 a1 a2 a3 : Option Addr) (c0 c1 c2 c3 : Nat), v = garV g a0 a1 a2 a3 c0 c1 c2 c3 ∧ GarIn W g a0 a1 a2 a3 ∧ g.nm ≤ c2 ∧ g.nu ≤ c3 := by
  obtain ⟨v0, v1, v2, v3, y0, y1, y2, y3, m, rfl, _, _, h0, h1, h2, h3⟩ := Go.Joins.open_agg4 Try.underlying27 (by kernel_rfl) (by kernel_rfl) hv h
  obtain ⟨a0, n0, c0, V0, rfl, l0, m0, R0, F0⟩ := open_rowK Try.underlying22 Try.underlying94 (by kernel_rfl) (by decide) (hone_of (by kernel_rfl)) h0
  obtain ⟨a1, n1, c1, V1, rfl, l1, m1, R1, F1⟩ := open_rowK Try.underlying23 Try.underlying40 (by kernel_rfl) (by decide) (hone_of (by kernel_rfl)) h1
  obtain ⟨a2, n2, c2, V2, rfl, l2, m2, R2, F2⟩ := open_rowK Try.underlying24 Try.underlying54 (by kernel_rfl) (by decide) (hone_of (by kernel_rfl)) h2
  obtain ⟨a3, n3, c3, V3, rfl, l3, m3, R3, F3⟩ := open_rowK Try.underlying25 Try.underlying38 (by kernel_rfl) (by decide) (hone_of (by kernel_rfl)) h3
  have hm : maxLen = 9223372036854775807 := rfl
  have S := Try.underlying9
  have I := Try.underlying3
  refine ⟨{ np := n0, ns := n1, nm := n2, nu := n3,
            pn := fun i => strV ((V0 i).getD 0 (.bool false)), pc := fun i => intV ((V0 i).getD 1 (.bool false)),
            sn := fun i => strV ((V1 i).getD 0 (.bool false)), sr := fun i => strV ((V1 i).getD 1 (.bool false)),
            ms := fun i => strV ((V2 i).getD 0 (.bool false)), mp := fun i => strV ((V2 i).getD 1 (.bool false)), mf := fun i => intV ((V2 i).getD 2 (.bool false)), mt := fun i => intV ((V2 i).getD 3 (.bool false)),
            un := fun i => strV ((V3 i).getD 0 (.bool false)), ur := fun i => strV ((V3 i).getD 1 (.bool false)), uf := fun i => intV ((V3 i).getD 2 (.bool false)), us := fun i => intV ((V3 i).getD 3 (.bool false)), uw := fun i => intV ((V3 i).getD 4 (.bool false)) },
    a0, a1, a2, a3, c0, c1, c2, c3, rfl, ⟨?_, ?_, ?_, ?_, ?_, ?_, ?_, ?_, ?_, ?_, ?_, ?_⟩, l2, l3⟩
  · exact R0.congr fun i hi => list2 (F0 i hi).1 (field_str S ((F0 i hi).2 0 _ rfl)).1 (field_int I ((F0 i hi).2 1 _ rfl))
  · exact R1.congr fun i hi => list2 (F1 i hi).1 (field_str S ((F1 i hi).2 0 _ rfl)).1 (field_str S ((F1 i hi).2 1 _ rfl)).1
  · exact R2.congr fun i hi => list4 (F2 i hi).1 (field_str S ((F2 i hi).2 0 _ rfl)).1 (field_str S ((F2 i hi).2 1 _ rfl)).1 (field_int I ((F2 i hi).2 2 _ rfl)) (field_int I ((F2 i hi).2 3 _ rfl))
  · exact R3.congr fun i hi => list5 (F3 i hi).1 (field_str S ((F3 i hi).2 0 _ rfl)).1 (field_str S ((F3 i hi).2 1 _ rfl)).1 (field_int I ((F3 i hi).2 2 _ rfl)) (field_int I ((F3 i hi).2 3 _ rfl)) (field_int I ((F3 i hi).2 4 _ rfl))
  · exact fun i hi => (field_str S ((F0 i hi).2 0 _ rfl)).2
  · exact fun i hi => ⟨(field_str S ((F1 i hi).2 0 _ rfl)).2, (field_str S ((F1 i hi).2 1 _ rfl)).2⟩
  · exact fun i hi => ⟨(field_str S ((F2 i hi).2 0 _ rfl)).2, (field_str S ((F2 i hi).2 1 _ rfl)).2⟩
  · exact fun i hi => ⟨(field_str S ((F3 i hi).2 0 _ rfl)).2, (field_str S ((F3 i hi).2 1 _ rfl)).2⟩
  · show ((n0 : Nat) : Int) ≤ _; omega
  · show ((n1 : Nat) : Int) ≤ _; omega
  · show ((n2 : Nat) : Int) ≤ _; omega
  · show ((n3 : Nat) : Int) ≤ _; omega
end Go.Proofs.Ytbkpoepacjinlaa

/- GearPiecesFollowMounts: for every input the law returns true, and each argument reads as it did. (The frame is the guide's shell of a law's proof, turned to a garage by value; the walk is follow_any.) -/
namespace Go.Proofs.Ytbkpoepacjinlaa.gearPiecesFollowMountsDone
open Go.ChangeShapes Go.WideShapes Go.ChangeAt Go.RowKit Go.ChangeMaps
set_option linter.unusedVariables false

theorem own : ownKnob Try.prog.godebug = none := by kernel_rfl

set_option maxRecDepth 100000 in
theorem lifted (os : Os) (started : os.Started) (H : Type) (enc : TypeId × Value → H) :
    ReturnsInHanded {} Try.checked os 4 .any (Rows.gearPiecesFollowMountsSpec.pre6 enc Try.prog Try.f4 Rows.gearPiecesFollowMountsRow.domain false) (Rows.gearPiecesFollowMountsSpec.post enc Try.prog Try.f4 false true false false) := by
  refine returnsInHanded_of_change (C := Try.checked) own started (by kernel_rfl) Try.func4
    (ChangeSpec.witness6 (enc := enc) (C := Try.checked) false ⟨#[], #[.agg #[.slice none 0 0, .slice none 0 0, .slice none 0 0, .slice none 0 0], .int .i64 0], []⟩ 8 (by kernel_rfl) (by kernel_rfl) (by kernel_rfl) (by kernel_rfl)) ?_
  intro W base args ds gs before hval0 hW hcnd _
  have hval : ∀ (j : Nat) t v, Try.f4.params[j]? = some t → args[j]? = some v → Value.okWide Try.prog W .any base t v := hval0
  have hW' := hW
  obtain ⟨p, q, hA0, hV, rfl, hfz, hnd⟩ := hW
  have hA : DataW.TrodAll enc Try.prog W 0 (fun _ => true) true Try.f4.params.toList args.toList ds p := hA0
  have hlt := DataW.TrodAll.lt hA
  rw [Try.params4] at hA hval
  obtain ⟨v0, vs0, d0, ds0, p0, q0, hargs, rfl, rfl, h0, r0⟩ := trodAll_cons hA
  obtain ⟨v1, vs1, d1, ds1, p1, q1, rfl, rfl, rfl, h1, r1⟩ := trodAll_cons r0
  obtain ⟨rfl, rfl, rfl⟩ := trodAll_nil r1
  obtain rfl : args = #[v0, v1] := by cases args; simp_all
  obtain ⟨rfl, rfl⟩ := trodVars_none hV
  obtain ⟨g, a0, a1, a2, a3, c0, c1, c2, c3, rfl, hr, hc2, hc3⟩ := open_garage (hval 0 27 v0 rfl rfl) h0
  obtain ⟨m1, rfl, rfl, rfl, w1⟩ := open_int Try.underlying3 (hval 1 3 v1 rfl rfl) h1
  clear hA0 hval0
  simp only [List.append_nil] at hW' hlt
  refine (follow_any g a0 a1 a2 a3 c0 c1 c2 c3 m1 W hr).mono fun e W' hE => ?_
  obtain ⟨he, hg⟩ := hE
  subst he
  have hz := Below.trod laidOut readGarage rowGarage h0 hg hlt
  exact ⟨_, rfl, _, _, _, [], _, [], hW', (trodAll_cons_mk (shut_bool Try.underlying4 _) trodAll_mk0), (trodAll_cons_mk hz (trodAll_cons_mk (shut_int Try.underlying3 w1) trodAll_mk0)), rfl, hg.frame _, fun h => by cases h⟩

theorem over : Rows.gearPiecesFollowMountsRow.holds Try.pinned (OpenSpec.ofChange Rows.gearPiecesFollowMountsSpec) :=
  OpenClaim.holds_of_wide 4 Try.f4 rfl rfl rfl rfl rfl rfl rfl ⟨rfl, rfl, rfl, rfl, rfl⟩ rfl rfl rfl rfl rfl (by kernel_rfl) Try.func4 (by kernel_rfl)
    (of_decide_eq_true (by kernel_rfl)) (by unfold Func.isWrapper; first | (rw [if_pos (by decide +kernel)]; kernel_rfl) | (rw [if_neg (by decide +kernel)]; exact ⟨rfl, rfl⟩))
    (fun os started H enc _ => lifted os started H enc)

/-- The statement. -/
theorem proved : Rows.GearPiecesFollowMountsSaid :=
  over
#print axioms proved
end Go.Proofs.Ytbkpoepacjinlaa.gearPiecesFollowMountsDone
