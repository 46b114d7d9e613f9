/- Several texts of this claim in one. -/
import Derived.Test.YtbkpoepacjinlaaLu
import Derived.Shelf.SlSortCmp.WholeK
import Derived.Lib.SliceRun
import Derived.Test.YtbkpoepacjinlaaGt
import Derived.Test.YtbkpoepacjinlaaGx
import Derived.Test.YtbkpoepacjinlaaGb
import Derived.Sort.Grow
import Derived.Ground.SlsfProg
import Derived.Test.YtbkpoepacjinlaaProg
import Derived.Test.YtbkpoepacjinlaaGz
import Derived.RangeFuncBox
import Derived.Laws.OwnMore
import Derived.Laws.IdiomCopy
/- Tools for rows of a call's own: sorted by the library; appended from a row that came in (any program). -/
namespace Go.Proofs.Ytbkpoepacjinlaa
open Go.RowKit Go.BigFrame

section sorted
open Go.Sort
variable {α : Type} {enc : α → List Value} {k : Nat}
theorem flat_len (hk : ∀ x, (enc x).length = k) : ∀ l : List α, (l.flatMap enc).length = l.length * k
  | [] => by simp
  | x :: l => by rw [List.flatMap_cons, List.length_append, hk, flat_len hk l, List.length_cons, Nat.succ_mul]; omega
theorem perm_one {lt : α → α → Bool} (hO : SWO lt) : ∀ (l1 l2 : List α), l1.Perm l2 → l1.Pairwise (fun x y => lt x y = true) → l2.Pairwise (fun x y => lt x y = true) → l1 = l2
  | [], l2, hp, _, _ => by rw [List.nil_perm.1 hp]
  | a :: l1, [], hp, _, _ => by have := hp.length_eq; simp at this
  | a :: l1, b :: l2, hp, h1, h2 => by
    rw [List.pairwise_cons] at h1 h2
    have hab : a = b := by
      rcases List.mem_cons.1 (hp.subset (List.mem_cons_self (a := a) (l := l1))) with e | ha
      · exact e
      · rcases List.mem_cons.1 (hp.symm.subset (List.mem_cons_self (a := b) (l := l2))) with e | hb
        · exact e.symm
        · have := hO.trans _ _ _ (h1.1 b hb) (h2.1 a ha)
          rw [hO.irrefl] at this
          cases this
    subst hab
    rw [perm_one hO l1 l2 (List.Perm.cons_inv hp) h1.2 h2.2]
variable [Inhabited α]
theorem flat_at (hk : ∀ x, (enc x).length = k) : ∀ (l : List α) (i j : Nat), i < l.length → j < k → (l.flatMap enc)[i * k + j]? = (enc (l.getD i default))[j]?
  | [], i, j, h, _ => absurd h (by simp)
  | x :: l, 0, j, _, hj => by
    rw [List.flatMap_cons, Nat.zero_mul, Nat.zero_add, List.getElem?_append_left (by rw [hk]; exact hj)]
    rfl
  | x :: l, i + 1, j, h, hj => by
    rw [List.flatMap_cons, List.getElem?_append_right (by rw [hk, Nat.succ_mul]; omega), hk, show (i + 1) * k + j - k = i * k + j by rw [Nat.succ_mul]; omega]
    rw [flat_at hk l i j (by simpa using h) hj]
    rfl
theorem flatK_list (hk : ∀ x, (enc x).length = k) (l : List α) : (flatK enc k l.toArray).toList = l.flatMap enc := by
  apply List.ext_getElem?
  intro t
  by_cases h : t < l.length * k
  · have k0 : 0 < k := by
      rcases Nat.eq_zero_or_pos k with e | e
      · subst e; simp at h
      · exact e
    have h1 : t / k < l.length := (Nat.div_lt_iff_lt_mul k0).2 h
    have h2 : t % k < k := Nat.mod_lt _ k0
    have e := flat_at hk l (t / k) (t % k) h1 h2
    rw [Nat.mul_comm, Nat.div_add_mod] at e
    have hs : t < (flatK enc k l.toArray).size := by rw [size_flatK]; simpa using h
    rw [e, Array.getElem?_toList, Array.getElem?_eq_getElem hs]
    have g := get_flatK enc k l.toArray t (by simpa using h)
    rw [getElem!_pos _ t hs] at g
    have h3 : t % k < (enc (l.getD (t / k) default)).length := by rw [hk]; exact h2
    rw [List.getElem?_eq_getElem h3, g]
    congr 1
    have e2 : l.toArray[t / k]! = l.getD (t / k) default := by
      rw [getElem!_pos _ _ (by simpa using h1)]
      simp [List.getD_eq_getElem?_getD, List.getElem?_eq_getElem h1]
    rw [e2, getElem!_pos (enc (l.getD (t / k) default)) (t % k) h3]
  · rw [List.getElem?_eq_none (by rw [Array.length_toList, size_flatK]; simpa using h), List.getElem?_eq_none (by rw [flat_len hk]; omega)]
theorem own_holds (hk : ∀ x, (enc x).length = k) {w : World} {base g n cap : Nat} {e : TypeId} {l : List α} (h : w.ownsRow base e k (.slice (some ⟨g, 0, none⟩) n cap) n (l.flatMap enc)) : HoldsK enc k w g 0 l.toArray := by
  intro j hj
  have hl : l.length * k = n * k := by rw [← flat_len hk, h.1]
  have hj2 : j < n * k := by rw [← hl]; simpa using hj
  refine ⟨?_, by rw [Nat.zero_add]; exact h.frozenAt j⟩
  rw [Nat.zero_add, h.cellAt j hj2, ← flatK_list hk, Array.getElem?_toList, Array.getElem?_eq_getElem hj]
  show _ = some (flatK enc k l.toArray)[j]!
  rw [getElem!_pos _ j hj]
theorem heap_sortedK {w : World} {g n : Nat} {os : Array Obj} {cur F : Array Value} {e : TypeId} {fr : Nat × Nat} (hb : w.heap[g]? = some (.cells cur e fr)) :
    (grow (putRow id (Sort.ahead w n) g 0 F) os).heap[g]? = some (.cells (putCells id 0 F cur) e fr) := by
  have hg : g < w.heap.size := (Array.getElem?_eq_some_iff.1 hb).1
  rw [heap_grow_old _ _ (by simpa using hg)]
  simp [putRow, mapBlock, Sort.ahead, Array.getElem?_modify, hb, onCells]
theorem take_putCellsK (cur F : Array Value) (h : F.size ≤ cur.size) : (putCells id 0 F cur).toList.take F.size = F.toList := by
  apply List.ext_getElem?
  intro j
  by_cases hj : j < F.size
  · rw [List.getElem?_take_of_lt hj, Array.getElem?_toList]
    simp [putCells, hj, show j < cur.size by omega]
  · rw [List.getElem?_take_eq_none (by omega), List.getElem?_eq_none (by simp; omega)]
theorem own_sorted (hk : ∀ x, (enc x).length = k) {w : World} {base g n cap : Nat} {e : TypeId} {l : List α} {d : Array α} (h : w.ownsRow base e k (.slice (some ⟨g, 0, none⟩) n cap) n (l.flatMap enc)) (hd : d.size = l.length) (m : Nat) (os : Array Obj) :
    (sortWorldK enc k w g 0 m d os).ownsRow base e k (.slice (some ⟨g, 0, none⟩) n cap) n (d.toList.flatMap enc) ∧ w.grownBy (sortWorldK enc k w g 0 m d os) (some g) := by
  have hl : l.length * k = n * k := by rw [← flat_len hk, h.1]
  have hF : (flatK enc k d).toList = d.toList.flatMap enc := flatK_list hk d.toList
  have hFs : (flatK enc k d).size = n * k := by rw [size_flatK, hd, hl]
  refine ⟨⟨by rw [flat_len hk, ← hl, ← hd]; simp, ?_⟩, ⟨rfl, rfl, rfl, by simp [sortWorldK, putRowK, size_grow], fun q hq hne => ?_⟩⟩
  · rcases h.2 with ⟨h0, _⟩ | ⟨g', cap', cur, hv, hg, hb, hn, hcap, hcs, _⟩
    · cases h0
    · injection hv with h1 h2 h3
      injection h1 with h1
      injection h1 with h1
      subst h1
      subst h3
      refine Or.inr ⟨g, cap, putCells id 0 (flatK enc k d) cur, rfl, hg, heap_sortedK hb, hn, hcap, by simp [putCells, hcs], ?_⟩
      rw [← hF, ← hFs]
      exact take_putCellsK cur _ (by rw [hFs, hcs]; exact Nat.mul_le_mul_right _ hn)
  · unfold sortWorldK putRowK
    rw [heap_grow_old _ _ (by simpa using hq)]
    have : g ≠ q := fun e => hne (by rw [e])
    simp [putRow, mapBlock, Sort.ahead, Array.getElem?_modify, this]
/-- what the sort leaves is the one sorted row, where all elements differ in the order -/
theorem sorted_one {lt : α → α → Bool} (hO : SWO lt) {l l' : List α} {d : Array α} (hp : PermIn 0 l.toArray.size l.toArray d) (hs : SortedIn lt 0 l.toArray.size d) (hl : l'.Perm l) (hl' : l'.Pairwise (fun x y => lt x y = true)) : d.toList = l' := by
  obtain ⟨h1, _, h3⟩ := hp
  have e1 : d.extract 0 l.toArray.size = d := by rw [← h1]; simp
  have e2 : l.toArray.extract 0 l.toArray.size = l.toArray := by simp
  rw [e1, e2] at h3
  have hpd : d.toList.Perm l' := (show d.toList.Perm l from h3).trans hl.symm
  refine perm_one hO _ _ hpd ?_ hl'
  have hd : l'.Pairwise (fun x y => lt x y = true ∨ lt y x = true) := hl'.imp fun h => Or.inl h
  have hd2 : d.toList.Pairwise (fun x y => lt x y = true ∨ lt y x = true) := (List.Perm.pairwise_iff (fun h => h.symm) hpd).2 hd
  rw [List.pairwise_iff_getElem] at hd2 ⊢
  intro i j hi hj hij
  have hsz : l.toArray.size = d.size := h1.symm
  have := hs i j (Nat.zero_le _) hij (by rw [hsz]; simpa using hj)
  rw [getElem!_pos d j (by simpa using hj), getElem!_pos d i (by simpa using hi)] at this
  rcases hd2 i j hi hj hij with h | h
  · exact h
  · simp only [Array.getElem_toList] at h
    rw [h] at this
    cases this
end sorted

section kept
theorem ownsRow_kept {w w' : World} {base e k n : Nat} {v : Value} {xs : List Value} {O : Nat → Prop} (h : w.ownsRow base e k v n xs) (hk : Kept O w w') (hO : ∀ b, base ≤ b → ¬ O b) : w'.ownsRow base e k v n xs := by
  obtain ⟨h1, h2⟩ := h
  refine ⟨h1, ?_⟩
  rcases h2 with h7 | ⟨q, cap, cur, e1, e2, e3, e4⟩
  · exact Or.inl h7
  · exact Or.inr ⟨q, cap, cur, e1, e2, (hk.block q (lt_of_block e3) (hO q e2)).trans e3, e4⟩
/-- a row of the call's own and where it lies: address, capacity -/
theorem ownRow_hdr {w : World} {base e k n : Nat} {v : Value} {f : Nat → List Value} (hf : ∀ i, (f i).length = k) (hr : w.ownsRow base e k v n ((List.range n).flatMap f)) : ∃ (am : Option Addr) (cm : Nat), v = .slice am n cm ∧ n ≤ cm ∧ RowK w am n k f := by
  obtain ⟨am, cm, h1, h2⟩ := own_row hf hr
  refine ⟨am, cm, h1, ?_, h2⟩
  rcases hr.2 with ⟨e, hn⟩ | ⟨q, cap, cur, e, _, _, h3, _⟩
  · omega
  · rw [h1] at e
    injection e with _ _ e
    omega
/-- four cells stored -/
theorem store4 {w : World} {b : Nat} {T : TypeId} {u0 u1 u2 u3 : Value} (h : w.heap[b]? = some (.cells #[u0, u1, u2, u3] T (0, 0))) (v0 v1 v2 v3 : Value) :
    ∃ W, (((w.setCell ⟨b, 0, none⟩ v0).setCell ⟨b, 1, none⟩ v1).setCell ⟨b, 2, none⟩ v2).setCell ⟨b, 3, none⟩ v3 = W ∧ W.heap[b]? = some (.cells #[v0, v1, v2, v3] T (0, 0)) ∧ Kept (fun k => k = b) w W ∧ W.heap.size = w.heap.size :=
  ⟨_, rfl, cells_setCell (cells_setCell (cells_setCell (cells_setCell h))), kept_set (O := fun k => k = b) (kept_set (O := fun k => k = b) (kept_set (O := fun k => k = b) (kept_set (O := fun k => k = b) (Kept.refl _ _) rfl _) rfl _) rfl _) rfl _, by simp [World.setCell]⟩
end kept

section append
variable {P : Program} {o : Oper} {a : Act} {K : Act → World → Prop} {Q : Exit → Act → World → Prop}
theorem grown_self (w : World) (row : Option Nat) : w.grownBy w row := ⟨rfl, rfl, rfl, Nat.le_refl _, fun _ _ _ => rfl⟩
theorem run_append_none' {w : World} (base : Nat) (t ty e : TypeId) (i : TypeInfo) (size c : Nat) (ht : P.underlying t = some (.slice e)) (hi : P.info? e = some i)
    (v : Value) (n : Nat) (xs : List Value) (hown : w.ownsRow base e size v n xs) : (Builtin.append_ #[t, t] ty #[v, .slice none 0 c]).run P w = .ok v w := by
  rcases hown.2 with ⟨rfl, rfl⟩ | ⟨g, cap, cur, rfl, _, _, hnc, _⟩
  · simp [Builtin.append_, run_underlying ht, sizeOf, typeInfo, hi, Builtin.lenOf, Builtin.firstCells]
  · simp [Builtin.append_, run_underlying ht, sizeOf, typeInfo, hi, Builtin.lenOf, Builtin.firstCells, hnc, storeCells]
theorem rows_at {w : World} {ad : Addr} {m k : Nat} {f : Nat → List Value} (hf : ∀ i, (f i).length = k) (hk : 0 < k) (hr : RowK w (some ad) m k f) : ∀ j u, ((List.range m).flatMap f)[j]? = some u → w.cell? (ad.add j) = some u := by
  intro j u hj
  rcases Nat.eq_zero_or_pos m with h | h
  · rw [h] at hj; simp at hj
  · obtain ⟨b, off, h1, _, h2⟩ := hr.here h
    injection h1 with h1
    subst h1
    rw [show (⟨b, off, none⟩ : Addr).add j = ⟨b, off + j, none⟩ by unfold Addr.add; split <;> simp_all]
    exact row_cells hf hk h2 j u hj
theorem rng_len {k : Nat} {f : Nat → List Value} (hf : ∀ i, (f i).length = k) (m : Nat) : ((List.range m).flatMap f).length = m * k := by
  induction m with
  | zero => simp
  | succ n ih => rw [List.range_succ, List.flatMap_append, List.length_append, ih]; simp [hf, Nat.succ_mul]
/-- append of a row that came in (nil, or not) to a row of the call's own -/
theorem wp_append_row (w : World) (s x : Operand) (t : TypeId) (ho : o.op = .call { callee := .builtin .append, args := #[s, x], argTypes := #[t, t] })
    (base : Nat) (e : TypeId) (i : TypeInfo) (z : Value) (size bytes : Nat) (ht : P.underlying t = some (.slice e)) (hi : P.info? e = some i) (hz : i.zero = some z)
    (hsize : i.size = size) (hby : i.bytes = bytes) (hzs : z.cells.size = size) (hsz : 0 < size) (v : Value) (n : Nat) (xs : List Value) (hs : a.eval s = v) (hown : w.ownsRow base e size v n xs)
    (av : Option Addr) (m c : Nat) (f : Nat → List Value) (hf : ∀ i, (f i).length = size) (h1 : ∀ i, ∀ u ∈ f i, u.oneCell' = true) (hx : a.eval x = .slice av m c) (hr : RowK w av m size f)
    (h63 : n + m ≤ maxLen) (hbytes : (n + m) * bytes ≤ 140737488355328) (hbase : base ≤ w.heap.size)
    (h : ∀ v' w', w'.ownsRow base e size v' (n + m) (xs ++ (List.range m).flatMap f) → w.grownBy w' v.ownBlock → K (a.put o.dst v') w') : o.wp P a w K Q := by
  cases av with
  | none =>
    have h0 : m = 0 := by
      rcases Nat.eq_zero_or_pos m with h | h
      · exact h
      · obtain ⟨b, off, h1, _⟩ := hr.here h
        cases h1
    subst h0
    have hrun := run_append_none' (P := P) (w := w) base t o.type e i size c ht hi v n xs hown
    unfold Oper.wp execOp
    simp only [ho, resolve, invoke, builtin, Sem.run_bind, Sem.run_pure, Result.andThen_ok, List.map_toArray, List.map_cons, List.map_nil, hs, hx, hrun]
    exact h v w (by simpa using hown) (grown_self w _)
  | some ad =>
    refine wp_append_own w s x t ho base e i z size bytes ht hi hz hsize hby hzs hsz v n xs hs hown ad m c _ hx (rng_len hf m) (rows_at hf hsz hr) ?_ h63 hbytes hbase fun v' w' h2 h3 _ => h v' w' h2 h3
    intro u hu
    obtain ⟨j, _, hj⟩ := List.mem_flatMap.1 hu
    exact h1 j u hj
end append
end Go.Proofs.Ytbkpoepacjinlaa

/- Gear: a garage in new memory: slices.Clone at its four rows, cloned of the program, copied of the reference. (Printed by gen_clone.py.) -/
namespace Go.Proofs.Ytbkpoepacjinlaa
open Go.RowKit Go.BigFrame
open Gar (chk momG hasS hasP)

def Gar.cellsP (g : Gar) (i : Nat) : List Value := [.string (g.pn i), .int .i64 (g.pc i)]
theorem cellsP_one (g : Gar) (i : Nat) : ∀ u ∈ g.cellsP i, u.oneCell' = true := by
  intro u hu
  simp only [Gar.cellsP, List.mem_cons, List.not_mem_nil, or_false] at hu
  rcases hu with rfl | rfl <;> rfl
def Gar.cellsS (g : Gar) (i : Nat) : List Value := [.string (g.sn i), .string (g.sr i)]
theorem cellsS_one (g : Gar) (i : Nat) : ∀ u ∈ g.cellsS i, u.oneCell' = true := by
  intro u hu
  simp only [Gar.cellsS, List.mem_cons, List.not_mem_nil, or_false] at hu
  rcases hu with rfl | rfl <;> rfl
def Gar.cellsM (g : Gar) (i : Nat) : List Value := [.string (g.ms i), .string (g.mp i), .int .i64 (g.mf i), .int .i64 (g.mt i)]
theorem cellsM_one (g : Gar) (i : Nat) : ∀ u ∈ g.cellsM i, u.oneCell' = true := by
  intro u hu
  simp only [Gar.cellsM, List.mem_cons, List.not_mem_nil, or_false] at hu
  rcases hu with rfl | rfl | rfl | rfl <;> rfl
def Gar.cellsU (g : Gar) (i : Nat) : List Value := [.string (g.un i), .string (g.ur i), .int .i64 (g.uf i), .int .i64 (g.us i), .int .i64 (g.uw i)]
theorem cellsU_one (g : Gar) (i : Nat) : ∀ u ∈ g.cellsU i, u.oneCell' = true := by
  intro u hu
  simp only [Gar.cellsU, List.mem_cons, List.not_mem_nil, or_false] at hu
  rcases hu with rfl | rfl | rfl | rfl | rfl <;> rfl
set_option maxHeartbeats 2000000 in
set_option maxRecDepth 100000 in
theorem cloneGearPart_any (n : Nat) (f : Nat → List Value) (hf : ∀ i, (f i).length = 2) (h1 : ∀ i, ∀ u ∈ f i, u.oneCell' = true) (av : Option Addr) (cv : Nat) (w : World) (hv : RowK w av n 2 f) (hn : n ≤ 9223372036854775807) (hbig : n * 24 ≤ 140737488355328) :
    Calls Try.prog 127 #[.slice av n cv] w fun e w' => ∃ v', e = .returned v' ∧ w'.ownsRow w.heap.size 94 2 v' n ((List.range n).flatMap f) ∧ Below w.heap.size w w' := by
  have HU := Lib.hid (show Try.prog.underlying 22 = some (.slice 94) by kernel_rfl)
  have hq : ∀ (w : World) (a : Option Addr) (n c n' c' : Nat), (binOp .eql 22 (.slice a n c) (.slice none n' c')).run Try.prog w = .ok (.bool a.isNone) w := fun w a n c n' c' => Lib.run_eql_slice_nil w _ _ a n c n' c' HU.out
  have u22 : ∀ w, Sem.run Try.prog (underlying 22) w = .ok (TypeDesc.slice 94) w := run_underlying HU.out
  cases av with
  | none =>
    have h0 : n = 0 := by
      rcases Nat.eq_zero_or_pos n with h | h
      · exact h
      · obtain ⟨b, off, h1, _⟩ := hv.here h
        cases h1
    subst h0
    clear hv
    go_enter Try.func127, Try.ntmps127
    go_wp2_with fail
    go_ret
    exact ⟨_, rfl, World.ownsRow_nil _ _ _ _, Below.refl _ _⟩
  | some a =>
    obtain ⟨i0, hi0, hz0, hz1, hz2⟩ := info_parts (show (Try.prog.info? 94).map (fun i => (i.zero, i.size, i.bytes)) = some (some (.agg #[.string ⟨#[]⟩, .int .i64 0]), 2, 24) by kernel_rfl)
    have HI0 := Lib.hid hi0
    have HZ0 := Lib.hid hz0
    have HZ1 := Lib.hid hz1
    have HZ2 := Lib.hid hz2
    have HC := Lib.hid (rows_at hf (by omega) hv)
    have HL := Lib.hid (rng_len hf n)
    have H1 := Lib.hid (show ∀ u ∈ (List.range n).flatMap f, u.oneCell' = true from fun u hu => by
      obtain ⟨j, _, hj⟩ := List.mem_flatMap.1 hu
      exact h1 j u hj)
    generalize (List.range n).flatMap f = xs at HC HL H1 ⊢
    clear hi0 hz0 hz1 hz2 hv hf h1
    go_enter Try.func127, Try.ntmps127
    go_wp2_with (at_builtin; refine wpList_append_own _ rfl _ _ 22 rfl w.heap.size 94 i0 (.agg #[.string ⟨#[]⟩, .int .i64 0]) 2 24 HU.out HI0.out HZ0.out HZ1.out HZ2.out rfl (by decide) _ _ _ rfl (World.ownsRow_made w #[] 0 (Nat.le_refl _) (Nat.zero_le _) (by simp)) a n cv xs rfl ?qc1 ?qc2 ?qc3 ?qc4 ?qc5 ?qc6 ?_)
    case qc1 => exact HL.out
    case qc2 =>
      intro j u hj
      exact Lib.cell?_alloc_some _ (HC.out j u hj)
    case qc3 => exact H1.out
    case qc4 => rw [Nat.zero_add]; unfold maxLen; exact hn
    case qc5 => rw [Nat.zero_add]; exact hbig
    case qc6 => simp
    intro v' w1 hown hgrow hnil
    go_wp2_with fail
    go_ret
    exact ⟨v', rfl, by simpa using hown, ((Below.refl _ w).alloc (Nat.le_refl _) _).grown hgrow (by simp) (by intro k hk; simp [Value.ownBlock] at hk; omega)⟩

set_option maxHeartbeats 2000000 in
set_option maxRecDepth 100000 in
theorem cloneSlot_any (n : Nat) (f : Nat → List Value) (hf : ∀ i, (f i).length = 2) (h1 : ∀ i, ∀ u ∈ f i, u.oneCell' = true) (av : Option Addr) (cv : Nat) (w : World) (hv : RowK w av n 2 f) (hn : n ≤ 9223372036854775807) (hbig : n * 32 ≤ 140737488355328) :
    Calls Try.prog 128 #[.slice av n cv] w fun e w' => ∃ v', e = .returned v' ∧ w'.ownsRow w.heap.size 40 2 v' n ((List.range n).flatMap f) ∧ Below w.heap.size w w' := by
  have HU := Lib.hid (show Try.prog.underlying 23 = some (.slice 40) by kernel_rfl)
  have hq : ∀ (w : World) (a : Option Addr) (n c n' c' : Nat), (binOp .eql 23 (.slice a n c) (.slice none n' c')).run Try.prog w = .ok (.bool a.isNone) w := fun w a n c n' c' => Lib.run_eql_slice_nil w _ _ a n c n' c' HU.out
  have u22 : ∀ w, Sem.run Try.prog (underlying 23) w = .ok (TypeDesc.slice 40) w := run_underlying HU.out
  cases av with
  | none =>
    have h0 : n = 0 := by
      rcases Nat.eq_zero_or_pos n with h | h
      · exact h
      · obtain ⟨b, off, h1, _⟩ := hv.here h
        cases h1
    subst h0
    clear hv
    go_enter Try.func128, Try.ntmps128
    go_wp2_with fail
    go_ret
    exact ⟨_, rfl, World.ownsRow_nil _ _ _ _, Below.refl _ _⟩
  | some a =>
    obtain ⟨i0, hi0, hz0, hz1, hz2⟩ := info_parts (show (Try.prog.info? 40).map (fun i => (i.zero, i.size, i.bytes)) = some (some (.agg #[.string ⟨#[]⟩, .string ⟨#[]⟩]), 2, 32) by kernel_rfl)
    have HI0 := Lib.hid hi0
    have HZ0 := Lib.hid hz0
    have HZ1 := Lib.hid hz1
    have HZ2 := Lib.hid hz2
    have HC := Lib.hid (rows_at hf (by omega) hv)
    have HL := Lib.hid (rng_len hf n)
    have H1 := Lib.hid (show ∀ u ∈ (List.range n).flatMap f, u.oneCell' = true from fun u hu => by
      obtain ⟨j, _, hj⟩ := List.mem_flatMap.1 hu
      exact h1 j u hj)
    generalize (List.range n).flatMap f = xs at HC HL H1 ⊢
    clear hi0 hz0 hz1 hz2 hv hf h1
    go_enter Try.func128, Try.ntmps128
    go_wp2_with (at_builtin; refine wpList_append_own _ rfl _ _ 23 rfl w.heap.size 40 i0 (.agg #[.string ⟨#[]⟩, .string ⟨#[]⟩]) 2 32 HU.out HI0.out HZ0.out HZ1.out HZ2.out rfl (by decide) _ _ _ rfl (World.ownsRow_made w #[] 0 (Nat.le_refl _) (Nat.zero_le _) (by simp)) a n cv xs rfl ?qc1 ?qc2 ?qc3 ?qc4 ?qc5 ?qc6 ?_)
    case qc1 => exact HL.out
    case qc2 =>
      intro j u hj
      exact Lib.cell?_alloc_some _ (HC.out j u hj)
    case qc3 => exact H1.out
    case qc4 => rw [Nat.zero_add]; unfold maxLen; exact hn
    case qc5 => rw [Nat.zero_add]; exact hbig
    case qc6 => simp
    intro v' w1 hown hgrow hnil
    go_wp2_with fail
    go_ret
    exact ⟨v', rfl, by simpa using hown, ((Below.refl _ w).alloc (Nat.le_refl _) _).grown hgrow (by simp) (by intro k hk; simp [Value.ownBlock] at hk; omega)⟩

set_option maxHeartbeats 2000000 in
set_option maxRecDepth 100000 in
theorem cloneMount_any (n : Nat) (f : Nat → List Value) (hf : ∀ i, (f i).length = 4) (h1 : ∀ i, ∀ u ∈ f i, u.oneCell' = true) (av : Option Addr) (cv : Nat) (w : World) (hv : RowK w av n 4 f) (hn : n ≤ 9223372036854775807) (hbig : n * 48 ≤ 140737488355328) :
    Calls Try.prog 129 #[.slice av n cv] w fun e w' => ∃ v', e = .returned v' ∧ w'.ownsRow w.heap.size 54 4 v' n ((List.range n).flatMap f) ∧ Below w.heap.size w w' := by
  have HU := Lib.hid (show Try.prog.underlying 24 = some (.slice 54) by kernel_rfl)
  have hq : ∀ (w : World) (a : Option Addr) (n c n' c' : Nat), (binOp .eql 24 (.slice a n c) (.slice none n' c')).run Try.prog w = .ok (.bool a.isNone) w := fun w a n c n' c' => Lib.run_eql_slice_nil w _ _ a n c n' c' HU.out
  have u22 : ∀ w, Sem.run Try.prog (underlying 24) w = .ok (TypeDesc.slice 54) w := run_underlying HU.out
  cases av with
  | none =>
    have h0 : n = 0 := by
      rcases Nat.eq_zero_or_pos n with h | h
      · exact h
      · obtain ⟨b, off, h1, _⟩ := hv.here h
        cases h1
    subst h0
    clear hv
    go_enter Try.func129, Try.ntmps129
    go_wp2_with fail
    go_ret
    exact ⟨_, rfl, World.ownsRow_nil _ _ _ _, Below.refl _ _⟩
  | some a =>
    obtain ⟨i0, hi0, hz0, hz1, hz2⟩ := info_parts (show (Try.prog.info? 54).map (fun i => (i.zero, i.size, i.bytes)) = some (some (.agg #[.string ⟨#[]⟩, .string ⟨#[]⟩, .int .i64 0, .int .i64 0]), 4, 48) by kernel_rfl)
    have HI0 := Lib.hid hi0
    have HZ0 := Lib.hid hz0
    have HZ1 := Lib.hid hz1
    have HZ2 := Lib.hid hz2
    have HC := Lib.hid (rows_at hf (by omega) hv)
    have HL := Lib.hid (rng_len hf n)
    have H1 := Lib.hid (show ∀ u ∈ (List.range n).flatMap f, u.oneCell' = true from fun u hu => by
      obtain ⟨j, _, hj⟩ := List.mem_flatMap.1 hu
      exact h1 j u hj)
    generalize (List.range n).flatMap f = xs at HC HL H1 ⊢
    clear hi0 hz0 hz1 hz2 hv hf h1
    go_enter Try.func129, Try.ntmps129
    go_wp2_with (at_builtin; refine wpList_append_own _ rfl _ _ 24 rfl w.heap.size 54 i0 (.agg #[.string ⟨#[]⟩, .string ⟨#[]⟩, .int .i64 0, .int .i64 0]) 4 48 HU.out HI0.out HZ0.out HZ1.out HZ2.out rfl (by decide) _ _ _ rfl (World.ownsRow_made w #[] 0 (Nat.le_refl _) (Nat.zero_le _) (by simp)) a n cv xs rfl ?qc1 ?qc2 ?qc3 ?qc4 ?qc5 ?qc6 ?_)
    case qc1 => exact HL.out
    case qc2 =>
      intro j u hj
      exact Lib.cell?_alloc_some _ (HC.out j u hj)
    case qc3 => exact H1.out
    case qc4 => rw [Nat.zero_add]; unfold maxLen; exact hn
    case qc5 => rw [Nat.zero_add]; exact hbig
    case qc6 => simp
    intro v' w1 hown hgrow hnil
    go_wp2_with fail
    go_ret
    exact ⟨v', rfl, by simpa using hown, ((Below.refl _ w).alloc (Nat.le_refl _) _).grown hgrow (by simp) (by intro k hk; simp [Value.ownBlock] at hk; omega)⟩

set_option maxHeartbeats 2000000 in
set_option maxRecDepth 100000 in
theorem cloneUse_any (n : Nat) (f : Nat → List Value) (hf : ∀ i, (f i).length = 5) (h1 : ∀ i, ∀ u ∈ f i, u.oneCell' = true) (av : Option Addr) (cv : Nat) (w : World) (hv : RowK w av n 5 f) (hn : n ≤ 9223372036854775807) (hbig : n * 56 ≤ 140737488355328) :
    Calls Try.prog 130 #[.slice av n cv] w fun e w' => ∃ v', e = .returned v' ∧ w'.ownsRow w.heap.size 38 5 v' n ((List.range n).flatMap f) ∧ Below w.heap.size w w' := by
  have HU := Lib.hid (show Try.prog.underlying 25 = some (.slice 38) by kernel_rfl)
  have hq : ∀ (w : World) (a : Option Addr) (n c n' c' : Nat), (binOp .eql 25 (.slice a n c) (.slice none n' c')).run Try.prog w = .ok (.bool a.isNone) w := fun w a n c n' c' => Lib.run_eql_slice_nil w _ _ a n c n' c' HU.out
  have u22 : ∀ w, Sem.run Try.prog (underlying 25) w = .ok (TypeDesc.slice 38) w := run_underlying HU.out
  cases av with
  | none =>
    have h0 : n = 0 := by
      rcases Nat.eq_zero_or_pos n with h | h
      · exact h
      · obtain ⟨b, off, h1, _⟩ := hv.here h
        cases h1
    subst h0
    clear hv
    go_enter Try.func130, Try.ntmps130
    go_wp2_with fail
    go_ret
    exact ⟨_, rfl, World.ownsRow_nil _ _ _ _, Below.refl _ _⟩
  | some a =>
    obtain ⟨i0, hi0, hz0, hz1, hz2⟩ := info_parts (show (Try.prog.info? 38).map (fun i => (i.zero, i.size, i.bytes)) = some (some (.agg #[.string ⟨#[]⟩, .string ⟨#[]⟩, .int .i64 0, .int .i64 0, .int .i64 0]), 5, 56) by kernel_rfl)
    have HI0 := Lib.hid hi0
    have HZ0 := Lib.hid hz0
    have HZ1 := Lib.hid hz1
    have HZ2 := Lib.hid hz2
    have HC := Lib.hid (rows_at hf (by omega) hv)
    have HL := Lib.hid (rng_len hf n)
    have H1 := Lib.hid (show ∀ u ∈ (List.range n).flatMap f, u.oneCell' = true from fun u hu => by
      obtain ⟨j, _, hj⟩ := List.mem_flatMap.1 hu
      exact h1 j u hj)
    generalize (List.range n).flatMap f = xs at HC HL H1 ⊢
    clear hi0 hz0 hz1 hz2 hv hf h1
    go_enter Try.func130, Try.ntmps130
    go_wp2_with (at_builtin; refine wpList_append_own _ rfl _ _ 25 rfl w.heap.size 38 i0 (.agg #[.string ⟨#[]⟩, .string ⟨#[]⟩, .int .i64 0, .int .i64 0, .int .i64 0]) 5 56 HU.out HI0.out HZ0.out HZ1.out HZ2.out rfl (by decide) _ _ _ rfl (World.ownsRow_made w #[] 0 (Nat.le_refl _) (Nat.zero_le _) (by simp)) a n cv xs rfl ?qc1 ?qc2 ?qc3 ?qc4 ?qc5 ?qc6 ?_)
    case qc1 => exact HL.out
    case qc2 =>
      intro j u hj
      exact Lib.cell?_alloc_some _ (HC.out j u hj)
    case qc3 => exact H1.out
    case qc4 => rw [Nat.zero_add]; unfold maxLen; exact hn
    case qc5 => rw [Nat.zero_add]; exact hbig
    case qc6 => simp
    intro v' w1 hown hgrow hnil
    go_wp2_with fail
    go_ret
    exact ⟨v', rfl, by simpa using hown, ((Below.refl _ w).alloc (Nat.le_refl _) _).grown hgrow (by simp) (by intro k hk; simp [Value.ownBlock] at hk; omega)⟩

/-- a garage's four rows lie in memory of the call's own -/
structure OwnG (w : World) (base : Nat) (g : Gar) (b0 b1 b2 b3 : Option Addr) (d0 d1 d2 d3 : Nat) : Prop where
  o0 : w.ownsRow base 94 2 (.slice b0 g.np d0) g.np ((List.range g.np).flatMap g.cellsP)
  o1 : w.ownsRow base 40 2 (.slice b1 g.ns d1) g.ns ((List.range g.ns).flatMap g.cellsS)
  o2 : w.ownsRow base 54 4 (.slice b2 g.nm d2) g.nm ((List.range g.nm).flatMap g.cellsM)
  o3 : w.ownsRow base 38 5 (.slice b3 g.nu d3) g.nu ((List.range g.nu).flatMap g.cellsU)
theorem ownRow_of {w : World} {base e k n cm : Nat} {am : Option Addr} {f : Nat → List Value} (hf : ∀ i, (f i).length = k) (hr : w.ownsRow base e k (.slice am n cm) n ((List.range n).flatMap f)) : n ≤ cm ∧ RowK w am n k f := by
  obtain ⟨am', cm', h1, h2, h3⟩ := ownRow_hdr hf hr
  injection h1 with h4 h5 h6
  subst h4
  subst h6
  exact ⟨h2, h3⟩
theorem OwnG.inG {w : World} {base : Nat} {g : Gar} {b0 b1 b2 b3 : Option Addr} {d0 d1 d2 d3 : Nat} (h : OwnG w base g b0 b1 b2 b3 d0 d1 d2 d3) {w0 : World} {a0 a1 a2 a3 : Option Addr} (h0 : GarIn w0 g a0 a1 a2 a3) : GarIn w g b0 b1 b2 b3 ∧ g.nm ≤ d2 ∧ g.nu ≤ d3 :=
  ⟨⟨(ownRow_of (f := g.cellsP) (fun _ => rfl) h.o0).2, (ownRow_of (f := g.cellsS) (fun _ => rfl) h.o1).2, (ownRow_of (f := g.cellsM) (fun _ => rfl) h.o2).2, (ownRow_of (f := g.cellsU) (fun _ => rfl) h.o3).2, h0.z0, h0.z1, h0.z2, h0.z3, h0.l0, h0.l1, h0.l2, h0.l3⟩, (ownRow_of (f := g.cellsM) (fun _ => rfl) h.o2).1, (ownRow_of (f := g.cellsU) (fun _ => rfl) h.o3).1⟩
theorem OwnG.kept {w w' : World} {base : Nat} {g : Gar} {b0 b1 b2 b3 : Option Addr} {d0 d1 d2 d3 : Nat} {O : Nat → Prop} (h : OwnG w base g b0 b1 b2 b3 d0 d1 d2 d3) (hk : Kept O w w') (hO : ∀ b, base ≤ b → ¬ O b) : OwnG w' base g b0 b1 b2 b3 d0 d1 d2 d3 :=
  ⟨ownsRow_kept h.o0 hk hO, ownsRow_kept h.o1 hk hO, ownsRow_kept h.o2 hk hO, ownsRow_kept h.o3 hk hO⟩
theorem ownsRow_lower {w : World} {base base' e k n : Nat} {v : Value} {xs : List Value} (h : w.ownsRow base e k v n xs) (hb : base' ≤ base) : w.ownsRow base' e k v n xs := by
  refine ⟨h.1, ?_⟩
  rcases h.2 with h2 | ⟨g, cap, cur, h3, h4, h5⟩
  · exact Or.inl h2
  · exact Or.inr ⟨g, cap, cur, h3, Nat.le_trans hb h4, h5⟩

set_option maxHeartbeats 8000000 in
set_option maxRecDepth 100000 in
theorem cloned_any (g : Gar) (a0 a1 a2 a3 : Option Addr) (c0 c1 c2 c3 : Nat) (w : World) (h : GarIn w g a0 a1 a2 a3) (hchk : chk g = 0) :
    Calls Try.prog 78 #[garV g a0 a1 a2 a3 c0 c1 c2 c3] w fun e w' => ∃ b0 b1 b2 b3 d0 d1 d2 d3, e = .returned (garV g b0 b1 b2 b3 d0 d1 d2 d3) ∧ OwnG w' w.heap.size g b0 b1 b2 b3 d0 d1 d2 d3 ∧ Below w.heap.size w w' := by
  have hpt := Gar.chk_parts hchk
  have HL := Lib.hid (show g.np ≤ 500 ∧ g.ns ≤ 100 ∧ g.nm ≤ 2000 ∧ g.nu ≤ 5000 from ⟨hpt.1, hpt.2.1, hpt.2.2.1, hpt.2.2.2.1⟩)
  obtain ⟨V, hV, hb, hs', hq⟩ := allocs w [.cells #[.slice a0 g.np c0, .slice a1 g.ns c1, .slice a2 g.nm c2, .slice a3 g.nu c3] 27, .cells #[.slice none 0 0, .slice none 0 0, .slice none 0 0, .slice none 0 0] 27]
  have hs : V.heap.size = w.heap.size + 2 := hs'
  clear hs'
  have hne : ¬ w.heap.size = w.heap.size + 1 := by omega
  have G0 := ExtO.ex (O := fun b => b = w.heap.size + 1) (p := ⟨w.heap.size, 0, none⟩) hne (show V.cell? ⟨w.heap.size, 0, none⟩ = some (.slice a0 g.np c0) from block_cell (hq 0 _ rfl) rfl)
  have G1 := ExtO.ex (O := fun b => b = w.heap.size + 1) (p := ⟨w.heap.size, 1, none⟩) hne (show V.cell? ⟨w.heap.size, 1, none⟩ = some (.slice a1 g.ns c1) from block_cell (hq 0 _ rfl) rfl)
  have G2 := ExtO.ex (O := fun b => b = w.heap.size + 1) (p := ⟨w.heap.size, 2, none⟩) hne (show V.cell? ⟨w.heap.size, 2, none⟩ = some (.slice a2 g.nm c2) from block_cell (hq 0 _ rfl) rfl)
  have G3 := ExtO.ex (O := fun b => b = w.heap.size + 1) (p := ⟨w.heap.size, 3, none⟩) hne (show V.cell? ⟨w.heap.size, 3, none⟩ = some (.slice a3 g.nu c3) from block_cell (hq 0 _ rfl) rfl)
  have HR := Lib.hid (show V.heap[w.heap.size + 1]? = some (.cells #[.slice none 0 0, .slice none 0 0, .slice none 0 0, .slice none 0 0] 27 (0, 0)) from hq 1 _ rfl)
  have HB := Lib.hid hb
  have HS := Lib.hid hs
  have hbs : w.heap.size ≤ V.heap.size := by omega
  have HDN := Lib.hid (fun (X : ExtO (fun b => b = w.heap.size + 1) V) => X.down hb hbs (fun k hk e => by omega))
  have HIN := Lib.hid (fun (X : ExtO (fun b => b = w.heap.size + 1) V) => h.below (HDN.out X))
  have HV2 := Lib.hid (show (w.alloc (.cells #[.slice a0 g.np c0, .slice a1 g.ns c1, .slice a2 g.nm c2, .slice a3 g.nu c3] 27)).alloc (.cells #[.slice none 0 0, .slice none 0 0, .slice none 0 0, .slice none 0 0] 27) = V from hV)
  have D0 := Lib.hid (fun (X : ExtO (fun b => b = w.heap.size + 1) V) => cloneGearPart_any g.np g.cellsP (fun _ => rfl) (cellsP_one g) a0 c0 X.1 (HIN.out X).r0 (by have := HL.out; omega) (by have := HL.out; omega))
  have D1 := Lib.hid (fun (X : ExtO (fun b => b = w.heap.size + 1) V) => cloneSlot_any g.ns g.cellsS (fun _ => rfl) (cellsS_one g) a1 c1 X.1 (HIN.out X).r1 (by have := HL.out; omega) (by have := HL.out; omega))
  have D2 := Lib.hid (fun (X : ExtO (fun b => b = w.heap.size + 1) V) => cloneMount_any g.nm g.cellsM (fun _ => rfl) (cellsM_one g) a2 c2 X.1 (HIN.out X).r2 (by have := HL.out; omega) (by have := HL.out; omega))
  have D3 := Lib.hid (fun (X : ExtO (fun b => b = w.heap.size + 1) V) => cloneUse_any g.nu g.cellsU (fun _ => rfl) (cellsU_one g) a3 c3 X.1 (HIN.out X).r3 (by have := HL.out; omega) (by have := HL.out; omega))
  unfold garV
  clear h hV hb hs hq hpt hchk hne hbs
  go_enter Try.func78, Try.ntmps78
  go_upto_region 1 with (fail)
  rw [HV2.out]
  refine held_start (C := fun w' => ∃ Z : ExtO (fun b => b = w.heap.size + 1) V, w' = Z.1) (by kernel_rfl) ?_
  obtain ⟨Z0, hZ0⟩ : ∃ Z : ExtO (fun b => b = w.heap.size + 1) V, ({ V with drawn := V.drawn + 1 } : World) = Z.1 := ⟨⟨{ V with drawn := V.drawn + 1 }, ⟨rfl, rfl, rfl, Nat.le_refl _, fun _ _ _ => rfl⟩⟩, rfl⟩
  have HR0 := Lib.hid (show Z0.1.heap[w.heap.size + 1]? = some (.cells #[.slice none 0 0, .slice none 0 0, .slice none 0 0, .slice none 0 0] 27 (0, 0)) by rw [← hZ0]; exact HR.out)
  rw [hZ0]
  clear hZ0
  refine held_quiet (by kernel_rfl) (fun _ _ d _ _ h => by cases d <;> exact h) ⟨Z0, rfl⟩ [0, 1, 3, 4, 6, 7, 9, 10] 6 _ _ (by kernel_rfl) ?_
  change wpQuiet _ _ _ _ (_ :: _ :: _ :: _ :: _ :: _ :: _ :: _ :: []) _
  repeat go_big_quiet_step (fail)
  refine wpQuiet_nil ?_
  refine held_do (i := 2) _ rfl (by kernel_rfl) rfl (fun K hK => ?_)
  go_simp
  refine (D0.out Z0).mono ?_
  rintro e w1 ⟨v0, rfl, hown0, hb0⟩
  obtain ⟨b0, d0, rfl, _, _⟩ := ownRow_hdr (f := g.cellsP) (fun _ => rfl) hown0
  have HO0 := Lib.hid (ownsRow_lower hown0 (base' := V.heap.size) Z0.2.size)
  have HR1 := Lib.hid (below_block hb0 HR0.out)
  obtain ⟨Z1, rfl⟩ : ∃ Z : ExtO (fun b => b = w.heap.size + 1) V, w1 = Z.1 := ⟨⟨w1, Z0.2.trans (Kept.of_below hb0)⟩, rfl⟩
  refine hK _ _ ⟨Z1, rfl⟩ ?_
  clear hK K hown0 hb0
  try simp only [Act.put, List.setIfInBounds_toArray, List.set_cons_zero, List.set_cons_succ]
  refine held_do (i := 5) _ rfl (by kernel_rfl) rfl (fun K hK => ?_)
  go_simp
  refine (D1.out Z1).mono ?_
  rintro e w2 ⟨v1, rfl, hown1, hb1⟩
  obtain ⟨b1, d1, rfl, _, _⟩ := ownRow_hdr (f := g.cellsS) (fun _ => rfl) hown1
  have HO1 := Lib.hid (ownsRow_lower hown1 (base' := V.heap.size) Z1.2.size)
  have HO0 := Lib.hid (ownsRow_below HO0.out hb1)
  have HR2 := Lib.hid (below_block hb1 HR1.out)
  obtain ⟨Z2, rfl⟩ : ∃ Z : ExtO (fun b => b = w.heap.size + 1) V, w2 = Z.1 := ⟨⟨w2, Z1.2.trans (Kept.of_below hb1)⟩, rfl⟩
  refine hK _ _ ⟨Z2, rfl⟩ ?_
  clear hK K hown1 hb1
  try simp only [Act.put, List.setIfInBounds_toArray, List.set_cons_zero, List.set_cons_succ]
  refine held_do (i := 8) _ rfl (by kernel_rfl) rfl (fun K hK => ?_)
  go_simp
  refine (D2.out Z2).mono ?_
  rintro e w3 ⟨v2, rfl, hown2, hb2⟩
  obtain ⟨b2, d2, rfl, _, _⟩ := ownRow_hdr (f := g.cellsM) (fun _ => rfl) hown2
  have HO2 := Lib.hid (ownsRow_lower hown2 (base' := V.heap.size) Z2.2.size)
  have HO0 := Lib.hid (ownsRow_below HO0.out hb2)
  have HO1 := Lib.hid (ownsRow_below HO1.out hb2)
  have HR3 := Lib.hid (below_block hb2 HR2.out)
  obtain ⟨Z3, rfl⟩ : ∃ Z : ExtO (fun b => b = w.heap.size + 1) V, w3 = Z.1 := ⟨⟨w3, Z2.2.trans (Kept.of_below hb2)⟩, rfl⟩
  refine hK _ _ ⟨Z3, rfl⟩ ?_
  clear hK K hown2 hb2
  try simp only [Act.put, List.setIfInBounds_toArray, List.set_cons_zero, List.set_cons_succ]
  refine held_do (i := 11) _ rfl (by kernel_rfl) rfl (fun K hK => ?_)
  go_simp
  refine (D3.out Z3).mono ?_
  rintro e w4 ⟨v3, rfl, hown3, hb3⟩
  obtain ⟨b3, d3, rfl, _, _⟩ := ownRow_hdr (f := g.cellsU) (fun _ => rfl) hown3
  have HO3 := Lib.hid (ownsRow_lower hown3 (base' := V.heap.size) Z3.2.size)
  have HO0 := Lib.hid (ownsRow_below HO0.out hb3)
  have HO1 := Lib.hid (ownsRow_below HO1.out hb3)
  have HO2 := Lib.hid (ownsRow_below HO2.out hb3)
  have HR4 := Lib.hid (below_block hb3 HR3.out)
  obtain ⟨Z4, rfl⟩ : ∃ Z : ExtO (fun b => b = w.heap.size + 1) V, w4 = Z.1 := ⟨⟨w4, Z3.2.trans (Kept.of_below hb3)⟩, rfl⟩
  refine hK _ _ ⟨Z4, rfl⟩ ?_
  clear hK K hown3 hb3
  try simp only [Act.put, List.setIfInBounds_toArray, List.set_cons_zero, List.set_cons_succ]
  refine held_do (i := 12) _ rfl (by kernel_rfl) rfl (fun K hK => ?_)
  go_simp
  refine hK _ _ ⟨Z4, rfl⟩ ?_
  clear hK K
  try simp only [Act.put, List.setIfInBounds_toArray, List.set_cons_zero, List.set_cons_succ]
  have q0 : Z4.1.cell? ⟨w.heap.size + 1, 0, none⟩ = some (.slice none 0 0) := block_cell HR4.out rfl
  have z0 : Z4.1.frozen? ⟨w.heap.size + 1, 0, none⟩ = false := block_free HR4.out
  have q1 : Z4.1.cell? ⟨w.heap.size + 1, 1, none⟩ = some (.slice none 0 0) := block_cell HR4.out rfl
  have z1 : Z4.1.frozen? ⟨w.heap.size + 1, 1, none⟩ = false := block_free HR4.out
  have q2 : Z4.1.cell? ⟨w.heap.size + 1, 2, none⟩ = some (.slice none 0 0) := block_cell HR4.out rfl
  have z2 : Z4.1.frozen? ⟨w.heap.size + 1, 2, none⟩ = false := block_free HR4.out
  have q3 : Z4.1.cell? ⟨w.heap.size + 1, 3, none⟩ = some (.slice none 0 0) := block_cell HR4.out rfl
  have z3 : Z4.1.frozen? ⟨w.heap.size + 1, 3, none⟩ = false := block_free HR4.out
  refine held_do (i := 13) _ rfl (by kernel_rfl) rfl (fun K hK => ?_)
  go_simp
  obtain ⟨W5, hW5, hr5, hk5, _⟩ := store4 HR4.out (.slice b0 g.np d0) (.slice b1 g.ns d1) (.slice b2 g.nm d2) (.slice b3 g.nu d3)
  rw [hW5]
  have HB5 : Hid (Below w.heap.size w W5) := Lib.hid (HDN.out ⟨W5, Z4.2.trans hk5⟩)
  have HOG : Hid (OwnG W5 w.heap.size g b0 b1 b2 b3 d0 d1 d2 d3) := Lib.hid (by
    have hv := HS.out
    have low : ∀ b, V.heap.size ≤ b → ¬ b = w.heap.size + 1 := fun b hb e => by omega
    exact ⟨ownsRow_lower (ownsRow_kept HO0.out hk5 low) (by omega), ownsRow_lower (ownsRow_kept HO1.out hk5 low) (by omega), ownsRow_lower (ownsRow_kept HO2.out hk5 low) (by omega), ownsRow_lower (ownsRow_kept HO3.out hk5 low) (by omega)⟩)
  refine hK _ _ ⟨⟨W5, Z4.2.trans hk5⟩, rfl⟩ ?_
  clear hK K hW5 hk5
  have x0 : W5.cell? ⟨w.heap.size + 1, 0, none⟩ = some (.slice b0 g.np d0) := block_cell hr5 rfl
  have x1 : W5.cell? ⟨w.heap.size + 1, 1, none⟩ = some (.slice b1 g.ns d1) := block_cell hr5 rfl
  have x2 : W5.cell? ⟨w.heap.size + 1, 2, none⟩ = some (.slice b2 g.nm d2) := block_cell hr5 rfl
  have x3 : W5.cell? ⟨w.heap.size + 1, 3, none⟩ = some (.slice b3 g.nu d3) := block_cell hr5 rfl
  clear hr5
  refine wpAnyH_done (by kernel_rfl) ?_ _
  go_wp2_with fail
  exact bodyPost_ret (v := garV g b0 b1 b2 b3 d0 d1 d2 d3) (by unfold garV; simp [results, Try.results78, go_sem, x0, x1, x2, x3]) rfl ⟨b0, b1, b2, b3, d0, d1, d2, d3, rfl, HOG.out, HB5.out⟩
set_option maxHeartbeats 8000000 in
set_option maxRecDepth 100000 in
theorem copied_any (g : Gar) (a0 a1 a2 a3 : Option Addr) (c0 c1 c2 c3 : Nat) (w : World) (h : GarIn w g a0 a1 a2 a3) (hchk : chk g = 0) :
    Calls Try.prog 80 #[garV g a0 a1 a2 a3 c0 c1 c2 c3] w fun e w' => ∃ b0 b1 b2 b3 d0 d1 d2 d3, e = .returned (garV g b0 b1 b2 b3 d0 d1 d2 d3) ∧ OwnG w' w.heap.size g b0 b1 b2 b3 d0 d1 d2 d3 ∧ Below w.heap.size w w' := by
  have hpt := Gar.chk_parts hchk
  have HL := Lib.hid (show g.np ≤ 500 ∧ g.ns ≤ 100 ∧ g.nm ≤ 2000 ∧ g.nu ≤ 5000 from ⟨hpt.1, hpt.2.1, hpt.2.2.1, hpt.2.2.2.1⟩)
  obtain ⟨V, hV, hb, hs', hq⟩ := allocs w [.cells #[.slice a0 g.np c0, .slice a1 g.ns c1, .slice a2 g.nm c2, .slice a3 g.nu c3] 27, .cells #[.slice none 0 0, .slice none 0 0, .slice none 0 0, .slice none 0 0] 27]
  have hs : V.heap.size = w.heap.size + 2 := hs'
  clear hs'
  have hne : ¬ w.heap.size = w.heap.size + 1 := by omega
  have G0 := ExtO.ex (O := fun b => b = w.heap.size + 1) (p := ⟨w.heap.size, 0, none⟩) hne (show V.cell? ⟨w.heap.size, 0, none⟩ = some (.slice a0 g.np c0) from block_cell (hq 0 _ rfl) rfl)
  have G1 := ExtO.ex (O := fun b => b = w.heap.size + 1) (p := ⟨w.heap.size, 1, none⟩) hne (show V.cell? ⟨w.heap.size, 1, none⟩ = some (.slice a1 g.ns c1) from block_cell (hq 0 _ rfl) rfl)
  have G2 := ExtO.ex (O := fun b => b = w.heap.size + 1) (p := ⟨w.heap.size, 2, none⟩) hne (show V.cell? ⟨w.heap.size, 2, none⟩ = some (.slice a2 g.nm c2) from block_cell (hq 0 _ rfl) rfl)
  have G3 := ExtO.ex (O := fun b => b = w.heap.size + 1) (p := ⟨w.heap.size, 3, none⟩) hne (show V.cell? ⟨w.heap.size, 3, none⟩ = some (.slice a3 g.nu c3) from block_cell (hq 0 _ rfl) rfl)
  have HR := Lib.hid (show V.heap[w.heap.size + 1]? = some (.cells #[.slice none 0 0, .slice none 0 0, .slice none 0 0, .slice none 0 0] 27 (0, 0)) from hq 1 _ rfl)
  have HB := Lib.hid hb
  have HS := Lib.hid hs
  have hbs : w.heap.size ≤ V.heap.size := by omega
  have HDN := Lib.hid (fun (X : ExtO (fun b => b = w.heap.size + 1) V) => X.down hb hbs (fun k hk e => by omega))
  have HIN := Lib.hid (fun (X : ExtO (fun b => b = w.heap.size + 1) V) => h.below (HDN.out X))
  have HV2 := Lib.hid (show (w.alloc (.cells #[.slice a0 g.np c0, .slice a1 g.ns c1, .slice a2 g.nm c2, .slice a3 g.nu c3] 27)).alloc (.cells #[.slice none 0 0, .slice none 0 0, .slice none 0 0, .slice none 0 0] 27) = V from hV)
  obtain ⟨i0, hi0, hz00, hz01, hz02⟩ := info_parts (show (Try.prog.info? 94).map (fun i => (i.zero, i.size, i.bytes)) = some (some (.agg #[.string ⟨#[]⟩, .int .i64 0]), 2, 24) by kernel_rfl)
  have HU0 := Lib.hid (show Try.prog.underlying 22 = some (.slice 94) by kernel_rfl)
  have HI0 := Lib.hid (And.intro hi0 (And.intro hz00 (And.intro hz01 hz02)))
  clear hi0 hz00 hz01 hz02
  obtain ⟨i1, hi1, hz10, hz11, hz12⟩ := info_parts (show (Try.prog.info? 40).map (fun i => (i.zero, i.size, i.bytes)) = some (some (.agg #[.string ⟨#[]⟩, .string ⟨#[]⟩]), 2, 32) by kernel_rfl)
  have HU1 := Lib.hid (show Try.prog.underlying 23 = some (.slice 40) by kernel_rfl)
  have HI1 := Lib.hid (And.intro hi1 (And.intro hz10 (And.intro hz11 hz12)))
  clear hi1 hz10 hz11 hz12
  obtain ⟨i2, hi2, hz20, hz21, hz22⟩ := info_parts (show (Try.prog.info? 54).map (fun i => (i.zero, i.size, i.bytes)) = some (some (.agg #[.string ⟨#[]⟩, .string ⟨#[]⟩, .int .i64 0, .int .i64 0]), 4, 48) by kernel_rfl)
  have HU2 := Lib.hid (show Try.prog.underlying 24 = some (.slice 54) by kernel_rfl)
  have HI2 := Lib.hid (And.intro hi2 (And.intro hz20 (And.intro hz21 hz22)))
  clear hi2 hz20 hz21 hz22
  obtain ⟨i3, hi3, hz30, hz31, hz32⟩ := info_parts (show (Try.prog.info? 38).map (fun i => (i.zero, i.size, i.bytes)) = some (some (.agg #[.string ⟨#[]⟩, .string ⟨#[]⟩, .int .i64 0, .int .i64 0, .int .i64 0]), 5, 56) by kernel_rfl)
  have HU3 := Lib.hid (show Try.prog.underlying 25 = some (.slice 38) by kernel_rfl)
  have HI3 := Lib.hid (And.intro hi3 (And.intro hz30 (And.intro hz31 hz32)))
  clear hi3 hz30 hz31 hz32
  unfold garV
  clear h hV hb hs hq hpt hchk hne hbs
  go_enter Try.func80, Try.ntmps80
  go_upto_region 1 with (fail)
  rw [HV2.out]
  refine held_start (C := fun w' => ∃ Z : ExtO (fun b => b = w.heap.size + 1) V, w' = Z.1) (by kernel_rfl) ?_
  obtain ⟨Z0, hZ0⟩ : ∃ Z : ExtO (fun b => b = w.heap.size + 1) V, ({ V with drawn := V.drawn + 1 } : World) = Z.1 := ⟨⟨{ V with drawn := V.drawn + 1 }, ⟨rfl, rfl, rfl, Nat.le_refl _, fun _ _ _ => rfl⟩⟩, rfl⟩
  have HR0 := Lib.hid (show Z0.1.heap[w.heap.size + 1]? = some (.cells #[.slice none 0 0, .slice none 0 0, .slice none 0 0, .slice none 0 0] 27 (0, 0)) by rw [← hZ0]; exact HR.out)
  rw [hZ0]
  clear hZ0
  refine held_quiet (by kernel_rfl) (fun _ _ d _ _ h => by cases d <;> exact h) ⟨Z0, rfl⟩ [0, 1, 3, 4, 6, 7, 9, 10] 6 _ _ (by kernel_rfl) ?_
  change wpQuiet _ _ _ _ (_ :: _ :: _ :: _ :: _ :: _ :: _ :: _ :: []) _
  repeat go_big_quiet_step (fail)
  refine wpQuiet_nil ?_
  refine held_do (i := 2) _ rfl (by kernel_rfl) rfl (fun K hK => ?_)
  refine wp_append_row Z0.1 _ _ 22 rfl V.heap.size 94 i0 (.agg #[.string ⟨#[]⟩, .int .i64 0]) 2 24 HU0.out HI0.out.1 HI0.out.2.1 HI0.out.2.2.1 HI0.out.2.2.2 rfl (by decide) (.slice none 0 0) 0 [] rfl (World.ownsRow_nil _ _ _ _) a0 g.np c0 g.cellsP (fun _ => rfl) (cellsP_one g) rfl (HIN.out Z0).r0 (by have := HL.out; unfold maxLen; omega) (by have := HL.out; omega) Z0.2.size fun v0 w1 hown0 hg => ?_
  rw [Nat.zero_add, List.nil_append] at hown0
  have hb0 : Below Z0.1.heap.size Z0.1 w1 := ⟨hg.os, hg.tape, hg.output, hg.size, fun q hq => hg.block q hq (by simp [Value.ownBlock])⟩
  obtain ⟨b0, d0, rfl, _, _⟩ := ownRow_hdr (f := g.cellsP) (fun _ => rfl) hown0
  have HO0 := Lib.hid hown0
  have HR1 := Lib.hid (below_block hb0 HR0.out)
  obtain ⟨Z1, rfl⟩ : ∃ Z : ExtO (fun b => b = w.heap.size + 1) V, w1 = Z.1 := ⟨⟨w1, Z0.2.trans (Kept.of_below hb0)⟩, rfl⟩
  refine hK _ _ ⟨Z1, rfl⟩ ?_
  clear hK K hown0 hb0 hg
  try simp only [Act.put, List.setIfInBounds_toArray, List.set_cons_zero, List.set_cons_succ]
  refine held_do (i := 5) _ rfl (by kernel_rfl) rfl (fun K hK => ?_)
  refine wp_append_row Z1.1 _ _ 23 rfl V.heap.size 40 i1 (.agg #[.string ⟨#[]⟩, .string ⟨#[]⟩]) 2 32 HU1.out HI1.out.1 HI1.out.2.1 HI1.out.2.2.1 HI1.out.2.2.2 rfl (by decide) (.slice none 0 0) 0 [] rfl (World.ownsRow_nil _ _ _ _) a1 g.ns c1 g.cellsS (fun _ => rfl) (cellsS_one g) rfl (HIN.out Z1).r1 (by have := HL.out; unfold maxLen; omega) (by have := HL.out; omega) Z1.2.size fun v1 w2 hown1 hg => ?_
  rw [Nat.zero_add, List.nil_append] at hown1
  have hb1 : Below Z1.1.heap.size Z1.1 w2 := ⟨hg.os, hg.tape, hg.output, hg.size, fun q hq => hg.block q hq (by simp [Value.ownBlock])⟩
  obtain ⟨b1, d1, rfl, _, _⟩ := ownRow_hdr (f := g.cellsS) (fun _ => rfl) hown1
  have HO1 := Lib.hid hown1
  have HO0 := Lib.hid (ownsRow_below HO0.out hb1)
  have HR2 := Lib.hid (below_block hb1 HR1.out)
  obtain ⟨Z2, rfl⟩ : ∃ Z : ExtO (fun b => b = w.heap.size + 1) V, w2 = Z.1 := ⟨⟨w2, Z1.2.trans (Kept.of_below hb1)⟩, rfl⟩
  refine hK _ _ ⟨Z2, rfl⟩ ?_
  clear hK K hown1 hb1 hg
  try simp only [Act.put, List.setIfInBounds_toArray, List.set_cons_zero, List.set_cons_succ]
  refine held_do (i := 8) _ rfl (by kernel_rfl) rfl (fun K hK => ?_)
  refine wp_append_row Z2.1 _ _ 24 rfl V.heap.size 54 i2 (.agg #[.string ⟨#[]⟩, .string ⟨#[]⟩, .int .i64 0, .int .i64 0]) 4 48 HU2.out HI2.out.1 HI2.out.2.1 HI2.out.2.2.1 HI2.out.2.2.2 rfl (by decide) (.slice none 0 0) 0 [] rfl (World.ownsRow_nil _ _ _ _) a2 g.nm c2 g.cellsM (fun _ => rfl) (cellsM_one g) rfl (HIN.out Z2).r2 (by have := HL.out; unfold maxLen; omega) (by have := HL.out; omega) Z2.2.size fun v2 w3 hown2 hg => ?_
  rw [Nat.zero_add, List.nil_append] at hown2
  have hb2 : Below Z2.1.heap.size Z2.1 w3 := ⟨hg.os, hg.tape, hg.output, hg.size, fun q hq => hg.block q hq (by simp [Value.ownBlock])⟩
  obtain ⟨b2, d2, rfl, _, _⟩ := ownRow_hdr (f := g.cellsM) (fun _ => rfl) hown2
  have HO2 := Lib.hid hown2
  have HO0 := Lib.hid (ownsRow_below HO0.out hb2)
  have HO1 := Lib.hid (ownsRow_below HO1.out hb2)
  have HR3 := Lib.hid (below_block hb2 HR2.out)
  obtain ⟨Z3, rfl⟩ : ∃ Z : ExtO (fun b => b = w.heap.size + 1) V, w3 = Z.1 := ⟨⟨w3, Z2.2.trans (Kept.of_below hb2)⟩, rfl⟩
  refine hK _ _ ⟨Z3, rfl⟩ ?_
  clear hK K hown2 hb2 hg
  try simp only [Act.put, List.setIfInBounds_toArray, List.set_cons_zero, List.set_cons_succ]
  refine held_do (i := 11) _ rfl (by kernel_rfl) rfl (fun K hK => ?_)
  refine wp_append_row Z3.1 _ _ 25 rfl V.heap.size 38 i3 (.agg #[.string ⟨#[]⟩, .string ⟨#[]⟩, .int .i64 0, .int .i64 0, .int .i64 0]) 5 56 HU3.out HI3.out.1 HI3.out.2.1 HI3.out.2.2.1 HI3.out.2.2.2 rfl (by decide) (.slice none 0 0) 0 [] rfl (World.ownsRow_nil _ _ _ _) a3 g.nu c3 g.cellsU (fun _ => rfl) (cellsU_one g) rfl (HIN.out Z3).r3 (by have := HL.out; unfold maxLen; omega) (by have := HL.out; omega) Z3.2.size fun v3 w4 hown3 hg => ?_
  rw [Nat.zero_add, List.nil_append] at hown3
  have hb3 : Below Z3.1.heap.size Z3.1 w4 := ⟨hg.os, hg.tape, hg.output, hg.size, fun q hq => hg.block q hq (by simp [Value.ownBlock])⟩
  obtain ⟨b3, d3, rfl, _, _⟩ := ownRow_hdr (f := g.cellsU) (fun _ => rfl) hown3
  have HO3 := Lib.hid hown3
  have HO0 := Lib.hid (ownsRow_below HO0.out hb3)
  have HO1 := Lib.hid (ownsRow_below HO1.out hb3)
  have HO2 := Lib.hid (ownsRow_below HO2.out hb3)
  have HR4 := Lib.hid (below_block hb3 HR3.out)
  obtain ⟨Z4, rfl⟩ : ∃ Z : ExtO (fun b => b = w.heap.size + 1) V, w4 = Z.1 := ⟨⟨w4, Z3.2.trans (Kept.of_below hb3)⟩, rfl⟩
  refine hK _ _ ⟨Z4, rfl⟩ ?_
  clear hK K hown3 hb3 hg
  try simp only [Act.put, List.setIfInBounds_toArray, List.set_cons_zero, List.set_cons_succ]
  refine held_do (i := 12) _ rfl (by kernel_rfl) rfl (fun K hK => ?_)
  go_simp
  refine hK _ _ ⟨Z4, rfl⟩ ?_
  clear hK K
  try simp only [Act.put, List.setIfInBounds_toArray, List.set_cons_zero, List.set_cons_succ]
  have q0 : Z4.1.cell? ⟨w.heap.size + 1, 0, none⟩ = some (.slice none 0 0) := block_cell HR4.out rfl
  have z0 : Z4.1.frozen? ⟨w.heap.size + 1, 0, none⟩ = false := block_free HR4.out
  have q1 : Z4.1.cell? ⟨w.heap.size + 1, 1, none⟩ = some (.slice none 0 0) := block_cell HR4.out rfl
  have z1 : Z4.1.frozen? ⟨w.heap.size + 1, 1, none⟩ = false := block_free HR4.out
  have q2 : Z4.1.cell? ⟨w.heap.size + 1, 2, none⟩ = some (.slice none 0 0) := block_cell HR4.out rfl
  have z2 : Z4.1.frozen? ⟨w.heap.size + 1, 2, none⟩ = false := block_free HR4.out
  have q3 : Z4.1.cell? ⟨w.heap.size + 1, 3, none⟩ = some (.slice none 0 0) := block_cell HR4.out rfl
  have z3 : Z4.1.frozen? ⟨w.heap.size + 1, 3, none⟩ = false := block_free HR4.out
  refine held_do (i := 13) _ rfl (by kernel_rfl) rfl (fun K hK => ?_)
  go_simp
  obtain ⟨W5, hW5, hr5, hk5, _⟩ := store4 HR4.out (.slice b0 g.np d0) (.slice b1 g.ns d1) (.slice b2 g.nm d2) (.slice b3 g.nu d3)
  rw [hW5]
  have HB5 : Hid (Below w.heap.size w W5) := Lib.hid (HDN.out ⟨W5, Z4.2.trans hk5⟩)
  have HOG : Hid (OwnG W5 w.heap.size g b0 b1 b2 b3 d0 d1 d2 d3) := Lib.hid (by
    have hv := HS.out
    have low : ∀ b, V.heap.size ≤ b → ¬ b = w.heap.size + 1 := fun b hb e => by omega
    exact ⟨ownsRow_lower (ownsRow_kept HO0.out hk5 low) (by omega), ownsRow_lower (ownsRow_kept HO1.out hk5 low) (by omega), ownsRow_lower (ownsRow_kept HO2.out hk5 low) (by omega), ownsRow_lower (ownsRow_kept HO3.out hk5 low) (by omega)⟩)
  refine hK _ _ ⟨⟨W5, Z4.2.trans hk5⟩, rfl⟩ ?_
  clear hK K hW5 hk5
  have x0 : W5.cell? ⟨w.heap.size + 1, 0, none⟩ = some (.slice b0 g.np d0) := block_cell hr5 rfl
  have x1 : W5.cell? ⟨w.heap.size + 1, 1, none⟩ = some (.slice b1 g.ns d1) := block_cell hr5 rfl
  have x2 : W5.cell? ⟨w.heap.size + 1, 2, none⟩ = some (.slice b2 g.nm d2) := block_cell hr5 rfl
  have x3 : W5.cell? ⟨w.heap.size + 1, 3, none⟩ = some (.slice b3 g.nu d3) := block_cell hr5 rfl
  clear hr5
  refine wpAnyH_done (by kernel_rfl) ?_ _
  go_wp2_with fail
  exact bodyPost_ret (v := garV g b0 b1 b2 b3 d0 d1 d2 d3) (by unfold garV; simp [results, Try.results80, go_sem, x0, x1, x2, x3]) rfl ⟨b0, b1, b2, b3, d0, d1, d2, d3, rfl, HOG.out, HB5.out⟩
end Go.Proofs.Ytbkpoepacjinlaa

/- Gear: a use more, or less: what Add and Drop return, in plain lists. -/
namespace Go.Proofs.Ytbkpoepacjinlaa
open Go Go.Sort
open Gar (endG momG chkP chkS chkM chkU chk anyOver overB hasS hasP befM befU chkUse)

theorem strLt_irr (a : ByteArray) : strLt a a = false := less_irr _
theorem strLt_trans {a b c : ByteArray} (h : strLt a b = true) (k : strLt b c = true) : strLt a c = true := less_trans _ _ _ h k
theorem toList_inj {a b : ByteArray} (h : a.toList = b.toList) : a = b := by
  rw [ByteArray.toList_eq, ByteArray.toList_eq] at h
  cases a with
  | mk x =>
    cases b with
    | mk y => rw [show x = y from Array.toList_inj.1 h]
theorem strLt_tot (a b : ByteArray) : strLt a b = true ∨ strLt b a = true ∨ a = b := by
  have h := str_le a b
  cases hb : strLt b a with
  | true => exact Or.inr (Or.inl rfl)
  | false =>
    rw [hb] at h
    simp only [Bool.not_false, Bool.or_eq_true, beq_iff_eq] at h
    rcases h with h | h
    · exact Or.inl h
    · exact Or.inr (Or.inr (toList_inj h))
section
variable {f1 f2 f3 : Int} {s1 s2 s3 : ByteArray}
theorem befB_iff : befB f1 f2 s1 s2 = true ↔ f1 < f2 ∨ (f1 = f2 ∧ strLt s1 s2 = true) := by simp [befB]
theorem befB_irr (f : Int) (s : ByteArray) : befB f f s s = false := by
  cases h : befB f f s s with
  | false => rfl
  | true =>
    rcases befB_iff.1 h with h | ⟨_, h⟩
    · omega
    · rw [strLt_irr] at h; cases h
theorem befB_trans (h : befB f1 f2 s1 s2 = true) (k : befB f2 f3 s2 s3 = true) : befB f1 f3 s1 s3 = true := by
  rw [befB_iff] at *
  rcases h with h | ⟨h1, h2⟩ <;> rcases k with k | ⟨k1, k2⟩
  · exact Or.inl (by omega)
  · exact Or.inl (by omega)
  · exact Or.inl (by omega)
  · exact Or.inr ⟨by omega, strLt_trans h2 k2⟩
theorem befB_tot (f1 f2 : Int) (s1 s2 : ByteArray) : befB f1 f2 s1 s2 = true ∨ befB f2 f1 s2 s1 = true ∨ (f1 = f2 ∧ s1 = s2) := by
  rw [befB_iff, befB_iff]
  rcases Int.lt_trichotomy f1 f2 with h | h | h
  · exact Or.inl (Or.inl h)
  · rcases strLt_tot s1 s2 with k | k | k
    · exact Or.inl (Or.inr ⟨h, k⟩)
    · exact Or.inr (Or.inl (Or.inr ⟨h.symm, k⟩))
    · exact Or.inr (Or.inr ⟨h, k⟩)
  · exact Or.inr (Or.inl (Or.inl h))
theorem befB_ntrans (h : befB f1 f2 s1 s2 = false) (k : befB f2 f3 s2 s3 = false) : befB f1 f3 s1 s3 = false := by
  have h' : befB f2 f1 s2 s1 = true ∨ (f1 = f2 ∧ s1 = s2) := (befB_tot f1 f2 s1 s2).resolve_left (by rw [h]; simp)
  have k' : befB f3 f2 s3 s2 = true ∨ (f2 = f3 ∧ s2 = s3) := (befB_tot f2 f3 s2 s3).resolve_left (by rw [k]; simp)
  cases e : befB f1 f3 s1 s3 with
  | false => rfl
  | true =>
    rcases h' with h' | ⟨rfl, rfl⟩
    · rcases k' with k' | ⟨rfl, rfl⟩
      · have := befB_trans (befB_trans k' h') e
        rw [befB_irr] at this; cases this
      · rw [h] at e; cases e
    · rw [k] at e; cases e
end
theorem swo_bef {α : Type} (f : α → Int) (s : α → ByteArray) : SWO (fun x y : α => befB (f x) (f y) (s x) (s y)) :=
  ⟨fun _ => befB_irr _ _, fun _ _ _ h k => befB_trans h k, fun _ _ _ h k => befB_ntrans h k⟩
theorem lt_ord {α : Type} (f : α → Int) (s : α → ByteArray) : ltOf (fun x y : α => ordI (f x) (f y) (s x) (s y)) = fun x y : α => befB (f x) (f y) (s x) (s y) := by
  funext x y
  have h := ord_neg (f x) (f y) (s x) (s y)
  unfold ltOf
  cases hb : befB (f x) (f y) (s x) (s y) with
  | true => rw [hb] at h; simp at h; rw [decide_eq_true_eq]; exact h
  | false => rw [hb] at h; simp at h; rw [decide_eq_false_iff_not]; exact Int.not_lt.2 h

/-! a sorted row and one more -/
section ins
variable {α : Type} {lt : α → α → Bool}
def insL (lt : α → α → Bool) (u : α) : List α → List α
  | [] => [u]
  | a :: l => if lt a u = true then a :: insL lt u l else u :: a :: l
theorem insL_perm (u : α) : ∀ l : List α, (insL lt u l).Perm (l ++ [u])
  | [] => List.Perm.refl _
  | a :: l => by
    rw [insL]
    split
    · exact (insL_perm u l).cons a
    · exact (List.perm_append_singleton u (a :: l)).symm
theorem insL_len (u : α) (l : List α) : (insL lt u l).length = l.length + 1 := by rw [(insL_perm u l).length_eq]; simp
theorem insL_mem {u x : α} {l : List α} (h : x ∈ insL lt u l) : x = u ∨ x ∈ l := by
  have := (insL_perm u l).subset h
  simp at this
  exact this.symm
theorem insL_sorted (hO : SWO lt) (u : α) : ∀ l : List α, l.Pairwise (fun x y => lt x y = true) → (∀ x, x ∈ l → lt x u = true ∨ lt u x = true) → (insL lt u l).Pairwise (fun x y => lt x y = true)
  | [], _, _ => by simp [insL]
  | a :: l, h, hd => by
    rw [List.pairwise_cons] at h
    rw [insL]
    split
    · rename_i ha
      rw [List.pairwise_cons]
      refine ⟨fun x hx => ?_, insL_sorted hO u l h.2 fun x hx => hd x (by simp [hx])⟩
      rcases insL_mem hx with rfl | hx
      · exact ha
      · exact h.1 x hx
    · rename_i ha
      have hua : lt u a = true := (hd a (by simp)).resolve_left ha
      rw [List.pairwise_cons, List.pairwise_cons]
      refine ⟨fun x hx => ?_, h⟩
      rcases List.mem_cons.1 hx with rfl | hx
      · exact hua
      · exact hO.trans _ _ _ hua (h.1 x hx)
theorem insL_filter {p : α → Bool} {u : α} (hu : p u = false) : ∀ l : List α, (insL lt u l).filter p = l.filter p
  | [] => by simp [insL, hu]
  | a :: l => by
    rw [insL]
    split
    · rw [List.filter_cons, List.filter_cons, insL_filter hu l]
    · rw [List.filter_cons (x := u), hu]
      rfl
/-- the walk along the row: what stands before it is passed by -/
theorem insL_pass {u : α} : ∀ (l1 l2 : List α), (∀ x, x ∈ l1 → lt x u = true) → insL lt u (l1 ++ l2) = l1 ++ insL lt u l2
  | [], _, _ => rfl
  | a :: l1, l2, h => by
    rw [List.cons_append, insL, if_pos (h a (by simp)), insL_pass l1 l2 fun x hx => h x (by simp [hx])]
    rfl
theorem insL_stop {u : α} {l : List α} (h : ∀ a r, l = a :: r → lt a u = false) : insL lt u l = u :: l := by
  cases l with
  | nil => rfl
  | cons a r => rw [insL, if_neg (by rw [h a r rfl]; simp)]
end ins

structure Us where
  n : ByteArray
  r : ByteArray
  f : Int
  s : Int
  x : Int
instance : Inhabited Us := ⟨⟨⟨#[]⟩, ⟨#[]⟩, 0, 0, 0⟩⟩
def encU (u : Us) : List Value := [.string u.n, .string u.r, .int .i64 u.f, .int .i64 u.s, .int .i64 u.x]
theorem encU_one (u : Us) : ∀ v ∈ encU u, v.oneCell' = true := by
  intro v hv
  simp only [encU, List.mem_cons, List.not_mem_nil, or_false] at hv
  rcases hv with rfl | rfl | rfl | rfl | rfl <;> rfl
def befs (a b : Us) : Bool := befB a.f b.f a.n b.n
def insU (u : Us) (l : List Us) : List Us := insL befs u l
theorem swo_befs : SWO befs := swo_bef Us.f Us.n
def fineU (u : Us) : Prop := chkUse u.n u.r false u.f u.s u.x = 0
def named (nm : ByteArray) (l : List Us) : Bool := l.any fun y => decide (y.n = nm)
theorem named_false {nm : ByteArray} {l : List Us} : named nm l = false ↔ ∀ y, y ∈ l → y.n ≠ nm := by
  unfold named
  simp
/-- what a right row of uses is -/
structure RightU (l : List Us) : Prop where
  len : l.length ≤ 5000
  fine : ∀ u, u ∈ l → fineU u
  names : l.Pairwise fun a b => a.n ≠ b.n
  ord : l.Pairwise fun a b => befs a b = true
theorem tri_befs {a b : Us} (h : a.n ≠ b.n) : befs a b = true ∨ befs b a = true := by
  rcases befB_tot a.f b.f a.n b.n with e | e | ⟨_, e⟩
  · exact Or.inl e
  · exact Or.inr e
  · exact absurd e h
theorem RightU.ins {l : List Us} (h : RightU l) {u : Us} (hf : fineU u) (hn : named u.n l = false) (hl : l.length < 5000) : RightU (insU u l) := by
  rw [named_false] at hn
  refine ⟨by unfold insU; rw [insL_len]; omega, fun v hv => ?_, ?_, insL_sorted swo_befs u l h.ord fun x hx => tri_befs (hn x hx)⟩
  · rcases insL_mem hv with rfl | hv
    · exact hf
    · exact h.fine v hv
  · refine (List.Perm.pairwise_iff (fun h e => h e.symm) (insL_perm u l)).2 ?_
    rw [List.pairwise_append]
    exact ⟨h.names, by simp, fun a ha b hb => by rw [List.mem_singleton.1 hb]; exact hn a ha⟩
theorem RightU.sub {l l' : List Us} (h : RightU l) (hs : l'.Sublist l) : RightU l' :=
  ⟨Nat.le_trans hs.length_le h.len, fun u hu => h.fine u (hs.subset hu), h.names.sublist hs, h.ord.sublist hs⟩
/-- two can be added in either order -/
theorem ins_swap {l : List Us} (h : RightU l) {u v : Us} (hu : named u.n l = false) (hv : named v.n l = false) (huv : u.n ≠ v.n) : insU v (insU u l) = insU u (insU v l) := by
  rw [named_false] at hu hv
  have s1 := insL_sorted swo_befs u l h.ord fun x hx => tri_befs (hu x hx)
  have s2 := insL_sorted swo_befs v l h.ord fun x hx => tri_befs (hv x hx)
  refine perm_one swo_befs _ _ ?_ (insL_sorted swo_befs v _ s1 fun x hx => ?_) (insL_sorted swo_befs u _ s2 fun x hx => ?_)
  · refine ((insL_perm v _).trans ((insL_perm u l).append_right [v])).trans (((insL_perm u _).trans ((insL_perm v l).append_right [u])).trans ?_).symm
    rw [List.append_assoc, List.append_assoc]
    exact List.Perm.append_left l (List.Perm.swap _ _ _)
  · rcases insL_mem hx with rfl | hx
    · exact tri_befs huv
    · exact tri_befs (hv x hx)
  · rcases insL_mem hx with rfl | hx
    · exact tri_befs fun e => huv e.symm
    · exact tri_befs (hu x hx)
namespace Gar
def use (g : Gar) (i : Nat) : Us := ⟨g.un i, g.ur i, g.uf i, g.us i, g.uw i⟩
def uses (g : Gar) : List Us := (List.range g.nu).map g.use
def setU (g : Gar) (l : List Us) : Gar := { g with nu := l.length, un := fun i => (l.getD i default).n, ur := fun i => (l.getD i default).r, uf := fun i => (l.getD i default).f, us := fun i => (l.getD i default).s, uw := fun i => (l.getD i default).x }
theorem uses_len (g : Gar) : g.uses.length = g.nu := by simp [uses]
theorem uses_get (g : Gar) {i : Nat} (h : i < g.nu) : g.uses[i]'(by rw [uses_len]; exact h) = g.use i := by simp [uses]
theorem uses_getD (g : Gar) {i : Nat} (h : i < g.nu) : g.uses.getD i default = g.use i := by
  rw [List.getD_eq_getElem?_getD, List.getElem?_eq_getElem (by rw [uses_len]; exact h), Option.getD_some, uses_get g h]
theorem setU_uses (g : Gar) (l : List Us) : (g.setU l).uses = l := by
  apply List.ext_getElem (by simp [uses, setU])
  intro i h1 h2
  have h3 : i < (g.setU l).nu := h2
  rw [uses_get _ h3]
  show (⟨(l.getD i default).n, (l.getD i default).r, (l.getD i default).f, (l.getD i default).s, (l.getD i default).x⟩ : Us) = l[i]
  rw [List.getD_eq_getElem?_getD, List.getElem?_eq_getElem h2, Option.getD_some]
  cases l[i]
  rfl
theorem setU_setU (g : Gar) (l l' : List Us) : (g.setU l).setU l' = g.setU l' := rfl
theorem range_map (l : List Us) : (List.range l.length).map (fun i => l.getD i default) = l := by
  apply List.ext_getElem (by simp)
  intro i h1 h2
  simp [List.getD_eq_getElem?_getD, List.getElem?_eq_getElem h2]
theorem chkP_set (g : Gar) (l : List Us) : ∀ n k, chkP (g.setU l) n k = chkP g n k
  | 0, _ => rfl
  | n + 1, k => by rw [chkP, chkP, chkP_set g l n]; rfl
theorem chkS_set (g : Gar) (l : List Us) : ∀ n k, chkS (g.setU l) n k = chkS g n k
  | 0, _ => rfl
  | n + 1, k => by rw [chkS, chkS, chkS_set g l n]; rfl
theorem chkM_set (g : Gar) (l : List Us) : ∀ n k, chkM (g.setU l) n k = chkM g n k
  | 0, _ => rfl
  | n + 1, k => by rw [chkM, chkM, chkM_set g l n]; rfl
theorem chkU_zero {g : Gar} : ∀ n k, (∀ i, k ≤ i → i < k + n → chkUse (g.un i) (g.ur i) ((List.range i).any fun j => decide (g.un j = g.un i)) (g.uf i) (g.us i) (g.uw i) = 0 ∧ (0 < i → befU g (i - 1) i = true)) → chkU g n k = 0
  | 0, _, _ => rfl
  | n + 1, k, h => by
    obtain ⟨h1, h2⟩ := h k (Nat.le_refl _) (by omega)
    rw [chkU, h1, if_neg (by simp), if_neg (fun ⟨a, b⟩ => by rw [h2 a] at b; cases b)]
    exact chkU_zero n (k + 1) fun i hi hi2 => h i (by omega) (by omega)
theorem right_uses {g : Gar} (h : chk g = 0) : RightU g.uses := by
  have hp := chk_parts h
  have hu := hp.2.2.2.2.2.2.2.2
  refine ⟨by rw [uses_len]; exact hp.2.2.2.1, fun u hm => ?_, ?_, ?_⟩
  · obtain ⟨i, hi, rfl⟩ := List.mem_map.1 hm
    have hi := List.mem_range.1 hi
    have h1 := (chkU_each g.nu 0 hu i (by omega) (by omega)).1
    have h2 : ((List.range i).any fun j => decide (g.un j = g.un i)) = false := by
      rw [List.any_eq_false]
      intro j hj
      have := (use_right hu hi).2.1 j (List.mem_range.1 hj)
      simpa using this
    rw [h2] at h1
    exact h1
  · rw [List.pairwise_iff_getElem]
    intro i j hi hj hij
    rw [uses_len] at hi hj
    rw [uses_get g hi, uses_get g hj]
    exact (use_right hu hj).2.1 i hij
  · rw [List.pairwise_iff_getElem]
    intro i j hi hj hij
    rw [uses_len] at hi hj
    rw [uses_get g hi, uses_get g hj]
    have step : ∀ k, 0 < k → k < g.nu → befs (g.use (k - 1)) (g.use k) = true := fun k h1 h2 => (chkU_each g.nu 0 hu k (by omega) (by omega)).2 h1
    clear hi
    have key : ∀ j, i < j → j < g.nu → befs (g.use i) (g.use j) = true := by
      intro j
      induction j with
      | zero => intro h; omega
      | succ j ih =>
        intro h1 h2
        have hs := step (j + 1) (by omega) h2
        by_cases e : i = j
        · subst e; exact hs
        · exact swo_befs.trans _ _ _ (ih (by omega) (by omega)) hs
    exact key j hij hj
theorem chk_setU {g : Gar} (h : chk g = 0) {l : List Us} (hl : RightU l) : chk (g.setU l) = 0 := by
  obtain ⟨p0, p1, p2, p3, p4, p5, p6, p7, p8⟩ := chk_parts h
  unfold chk
  rw [if_neg (fun e => by rcases e with e | e | e | e; exact absurd e (Nat.not_lt.2 p0); exact absurd e (Nat.not_lt.2 p1); exact absurd e (Nat.not_lt.2 p2); exact absurd e (Nat.not_lt.2 hl.len))]
  rw [chkP_set, chkS_set, chkM_set]
  rw [if_neg (by show ¬ chkP g g.np 0 ≠ 0; rw [p4]; simp), if_neg (by show ¬ chkS g g.ns 0 ≠ 0; rw [p5]; simp), if_neg (by show ¬ chkM g g.nm 0 ≠ 0; rw [p6]; simp)]
  rw [if_neg (by show ¬ anyOver g = true; rw [p7]; simp)]
  refine chkU_zero _ _ fun i _ hi => ?_
  have hi : i < l.length := by simpa [setU] using hi
  have e : ∀ j, j < l.length → l.getD j default = l[j]! := fun j hj => by rw [List.getD_eq_getElem?_getD, List.getElem?_eq_getElem hj, Option.getD_some, getElem!_pos l j hj]
  refine ⟨?_, fun h0 => ?_⟩
  · have h2 : ((List.range i).any fun j => decide ((g.setU l).un j = (g.setU l).un i)) = false := by
      rw [List.any_eq_false]
      intro j hj
      have hj := List.mem_range.1 hj
      have := (List.pairwise_iff_getElem.1 hl.names) j i (by omega) hi hj
      show ¬ decide ((l.getD j default).n = (l.getD i default).n) = true
      rw [e j (by omega), e i hi, getElem!_pos l j (by omega), getElem!_pos l i hi]
      simpa using this
    rw [h2]
    show fineU (l.getD i default)
    rw [e i hi, getElem!_pos l i hi]
    exact hl.fine _ (List.getElem_mem hi)
  · have := (List.pairwise_iff_getElem.1 hl.ord) (i - 1) i (by omega) hi (by omega)
    show befs (l.getD (i - 1) default) (l.getD i default) = true
    rw [e (i - 1) (by omega), e i hi, getElem!_pos l (i - 1) (by omega), getElem!_pos l i hi]
    exact this
/-- the garage that is returned with an error -/
def zero : Gar := ⟨0, 0, 0, 0, fun _ => ⟨#[]⟩, fun _ => 0, fun _ => ⟨#[]⟩, fun _ => ⟨#[]⟩, fun _ => ⟨#[]⟩, fun _ => ⟨#[]⟩, fun _ => 0, fun _ => 0, fun _ => ⟨#[]⟩, fun _ => ⟨#[]⟩, fun _ => 0, fun _ => 0, fun _ => 0⟩
def useErr (g : Gar) (u : Us) : Int := chkUse u.n u.r (named u.n g.uses) u.f u.s u.x
def addErr (g : Gar) (u : Us) : Int := if chk g ≠ 0 then chk g else if useErr g u ≠ 0 then useErr g u else if 5000 ≤ g.nu then 3 else 0
def addG (g : Gar) (u : Us) : Gar := if addErr g u = 0 then g.setU (insU u g.uses) else zero
def without (nm : ByteArray) (l : List Us) : List Us := l.filter fun y => !decide (y.n = nm)
def dropErr (g : Gar) (nm : ByteArray) : Int := if chk g ≠ 0 then chk g else if (without nm g.uses).length = g.nu then 4 else 0
def dropG (g : Gar) (nm : ByteArray) : Gar := if dropErr g nm = 0 then g.setU (without nm g.uses) else zero
theorem chkUse_false {n r : ByteArray} {tw : Bool} {f s x : Int} (h : chkUse n r tw f s x = 0) : tw = false ∧ chkUse n r false f s x = 0 := by
  cases tw with
  | false => exact ⟨rfl, h⟩
  | true =>
    unfold chkUse at h
    split at h
    · omega
    · simp at h
theorem add_zero {g : Gar} {u : Us} (h : addErr g u = 0) : chk g = 0 ∧ fineU u ∧ named u.n g.uses = false ∧ g.nu < 5000 := by
  unfold addErr at h
  split at h
  · rename_i a; exact absurd h a
  · split at h
    · rename_i a b; exact absurd h b
    · rename_i a b
      split at h
      · omega
      · obtain ⟨h1, h2⟩ := chkUse_false (show useErr g u = 0 by simpa using b)
        exact ⟨by simpa using a, h2, h1, by omega⟩
theorem add_ok {g : Gar} {u : Us} (h1 : chk g = 0) (h2 : fineU u) (h3 : named u.n g.uses = false) (h4 : g.nu < 5000) : addErr g u = 0 := by
  unfold addErr useErr
  rw [if_neg (by rw [h1]; simp), h3, if_neg (by rw [show chkUse u.n u.r false u.f u.s u.x = 0 from h2]; simp), if_neg (by omega)]
theorem addG_ok {g : Gar} {u : Us} (h : addErr g u = 0) : addG g u = g.setU (insU u g.uses) ∧ chk (addG g u) = 0 ∧ (addG g u).uses = insU u g.uses ∧ (addG g u).nu = g.nu + 1 := by
  obtain ⟨h1, h2, h3, h4⟩ := add_zero h
  have e : addG g u = g.setU (insU u g.uses) := by unfold addG; rw [if_pos h]
  rw [e]
  refine ⟨rfl, chk_setU h1 ((right_uses h1).ins h2 h3 (by rw [uses_len]; exact h4)), setU_uses _ _, ?_⟩
  show (insU u g.uses).length = _
  unfold insU
  rw [insL_len, uses_len]
/-- what was added is dropped again -/
theorem add_drop {g : Gar} {u : Us} (h : addErr g u = 0) : dropErr (addG g u) u.n = 0 ∧ dropG (addG g u) u.n = g.setU g.uses := by
  obtain ⟨h1, h2, h3, h4⟩ := add_zero h
  obtain ⟨e1, e2, e3, e4⟩ := addG_ok h
  have hw : without u.n (addG g u).uses = g.uses := by
    rw [e3]
    unfold without insU
    rw [insL_filter (by simp)]
    rw [List.filter_eq_self]
    intro y hy
    simpa using (named_false.1 h3) y hy
  have hd : dropErr (addG g u) u.n = 0 := by
    unfold dropErr
    rw [if_neg (by rw [e2]; simp), hw, uses_len, e4, if_neg (by omega)]
  refine ⟨hd, ?_⟩
  unfold dropG
  rw [if_pos hd, hw, e1, setU_setU]
/-- two uses in either order -/
theorem add_swap {g : Gar} {u v : Us} (h : addErr g u = 0) (h2 : addErr (addG g u) v = 0) (h3 : addErr g v = 0) : addErr (addG g v) u = 0 ∧ addG (addG g v) u = addG (addG g u) v := by
  obtain ⟨u1, u2, u3, u4⟩ := add_zero h
  obtain ⟨v1, v2, v3, v4⟩ := add_zero h3
  obtain ⟨w1, w2, w3, w4⟩ := add_zero h2
  obtain ⟨eu1, eu2, eu3, eu4⟩ := addG_ok h
  obtain ⟨ev1, ev2, ev3, ev4⟩ := addG_ok h3
  have huv : u.n ≠ v.n := by
    rw [eu3, named_false] at w3
    exact w3 u ((insL_perm u g.uses).symm.subset (by simp))
  have hok : addErr (addG g v) u = 0 := by
    refine add_ok ev2 u2 ?_ (by rw [ev4]; rw [eu4] at w4; exact w4)
    rw [ev3, named_false]
    intro y hy
    rcases insL_mem hy with rfl | hy
    · exact fun e => huv e.symm
    · exact named_false.1 u3 y hy
  refine ⟨hok, ?_⟩
  rw [(addG_ok hok).1, (addG_ok h2).1, eu3, ev3, ev1, eu1, setU_setU, setU_setU, ins_swap (right_uses u1) u3 v3 huv]
end Gar
end Go.Proofs.Ytbkpoepacjinlaa

/- Gear: the orders of mounts and of uses, for the library's sort: what they lay and draw. -/
namespace Go.Proofs.Ytbkpoepacjinlaa
open Go.RowKit Go.BigFrame Go.Sort
open Gar (momG endG)

set_option maxHeartbeats 2000000 in
set_option maxRecDepth 100000 in
theorem mountOrder_grow (s p s' p' : ByteArray) (f t f' t' : Int) (w : World) :
    Calls Try.prog 90 #[mountV s p f t, mountV s' p' f' t'] w fun e w' => e = .returned (.int .i64 (ordI f f' s s')) ∧ ∃ q os', w' = grow (w.drewN q) os' := by
  have D1 := Lib.hid (fun W => Try.cmp_Compare_int f f' W)
  have D2 := Lib.hid (fun W => Try.strings_Compare s s' W)
  unfold mountV
  rw [show ordI f f' s s' = orI (Lib.compareInt f f') (Lib.compareBytes s.data.toList s'.data.toList) from rfl]
  generalize Lib.compareInt f f' = ci at D1 ⊢
  generalize Lib.compareBytes s.data.toList s'.data.toList = cb at D2 ⊢
  have DO := Lib.hid (fun b W h0 h1 => or_any ci cb b W h0 h1)
  have HB := Lib.hid (((Below.refl w.heap.size w).alloc (Nat.le_refl _) (.cells #[.string s, .string p, .int .i64 f, .int .i64 t] 54)).alloc (by simp) (.cells #[.string s', .string p', .int .i64 f', .int .i64 t'] 54))
  have c0 : ∀ i, ((w.alloc (.cells #[.string s, .string p, .int .i64 f, .int .i64 t] 54)).alloc (.cells #[.string s', .string p', .int .i64 f', .int .i64 t'] 54)).cell? ⟨w.heap.size, i, none⟩ = (#[.string s, .string p, .int .i64 f, .int .i64 t] : Array Value)[i]? := by
    intro i
    rw [World.cell?_alloc_past _ _ _ (by simp), World.cell?_alloc_at _ _ _ _ rfl]
  have c1 : ∀ i, ((w.alloc (.cells #[.string s, .string p, .int .i64 f, .int .i64 t] 54)).alloc (.cells #[.string s', .string p', .int .i64 f', .int .i64 t'] 54)).cell? ⟨w.heap.size + 1, i, none⟩ = (#[.string s', .string p', .int .i64 f', .int .i64 t'] : Array Value)[i]? := by
    intro i
    rw [World.cell?_alloc_at _ _ _ _ (by simp)]
  have a0 : ((w.alloc (.cells #[.string s, .string p, .int .i64 f, .int .i64 t] 54)).alloc (.cells #[.string s', .string p', .int .i64 f', .int .i64 t'] 54)).cell? ⟨w.heap.size, 0, none⟩ = some (.string s) := c0 0
  have a2 : ((w.alloc (.cells #[.string s, .string p, .int .i64 f, .int .i64 t] 54)).alloc (.cells #[.string s', .string p', .int .i64 f', .int .i64 t'] 54)).cell? ⟨w.heap.size, 2, none⟩ = some (.int .i64 f) := c0 2
  have b0 : ((w.alloc (.cells #[.string s, .string p, .int .i64 f, .int .i64 t] 54)).alloc (.cells #[.string s', .string p', .int .i64 f', .int .i64 t'] 54)).cell? ⟨w.heap.size + 1, 0, none⟩ = some (.string s') := c1 0
  have b2 : ((w.alloc (.cells #[.string s, .string p, .int .i64 f, .int .i64 t] 54)).alloc (.cells #[.string s', .string p', .int .i64 f', .int .i64 t'] 54)).cell? ⟨w.heap.size + 1, 2, none⟩ = some (.int .i64 f') := c1 2
  clear c0 c1
  go_enter Try.func90, Try.ntmps90
  go_wp2_with fail
  have hz : w.heap.size + 1 < ((w.alloc (.cells #[.string s, .string p, .int .i64 f, .int .i64 t] 54)).alloc (.cells #[.string s', .string p', .int .i64 f', .int .i64 t'] 54)).heap.size := by simp only [World.size_alloc]; omega
  obtain ⟨w2, hw2⟩ : ∃ w2, ((w.alloc (.cells #[.string s, .string p, .int .i64 f, .int .i64 t] 54)).alloc (.cells #[.string s', .string p', .int .i64 f', .int .i64 t'] 54)) = w2 := ⟨_, rfl⟩
  rw [hw2] at HB a0 a2 b0 b2 hz ⊢
  have HF : Hid (∃ q os', (w2.alloc (.cells #[.int .i64 ci, .int .i64 cb] 3)).drew = grow (w.drewN q) os') := Lib.hid ⟨1, _, by rw [← hw2, alloc_eq_grow, alloc_eq_grow, alloc_eq_grow, grow_grow, grow_grow]; rfl⟩
  clear hw2
  obtain ⟨B, e1⟩ : ∃ B, w.heap.size = B := ⟨_, rfl⟩
  rw [e1] at a0 a2 b0 b2 hz ⊢
  have E1 := Lib.hid e1
  have HZ := Lib.hid hz
  have hbd : Below w2.heap.size w2 w2.drew := (Below.refl _ _).drew
  clear e1 hz
  have hkeep := keep4 (W := w2) (Wn := (w2.alloc (.cells #[.int .i64 ci, .int .i64 cb] 3)).drew) HZ.out ⟨a0, a2, b0, b2, Below.refl _ _⟩ (((Below.refl _ _).alloc (Nat.le_refl _) _).drew)
  go_region_held3 (fun w' => w'.cell? ⟨B, 0, none⟩ = some (.string s) ∧ w'.cell? ⟨B, 2, none⟩ = some (.int .i64 f) ∧ w'.cell? ⟨B + 1, 0, none⟩ = some (.string s') ∧ w'.cell? ⟨B + 1, 2, none⟩ = some (.int .i64 f') ∧ Below w2.heap.size w2 w')
    (first
      | go_keep
      | assumption
      | exact keep4 (W := w2) HZ.out ⟨a0, a2, b0, b2, Below.refl _ _⟩ (((Below.refl _ _).alloc (Nat.le_refl _) _).drew)
      | exact keep4 HZ.out (by assumption) ((Below.refl _ _).alloc (Nat.le_refl _) _)
      | (go_split_ands; exact keep4 HZ.out ⟨by assumption, by assumption, by assumption, by assumption, by assumption⟩ ((Below.refl _ _).alloc (Nat.le_refl _) _)))
    (first
      | (go_at_call 105; refine (D1.out _).mono ?_; rintro e wn ⟨rfl, rfl⟩)
      | (go_at_call 106; refine (D2.out _).mono ?_; rintro e wn ⟨rfl, rfl⟩)
      | (go_at_call 104; refine (DO.out _ _ (by show (w2.alloc _).cell? _ = _; rw [World.cell?_alloc_at _ _ _ _ rfl]; rfl) (by show (w2.alloc _).cell? _ = _; rw [World.cell?_alloc_at _ _ _ _ rfl]; rfl)).mono ?_; rintro e wn ⟨rfl, rfl⟩))
  go_wp2
  go_ret
  exact ⟨rfl, HF.out⟩
set_option maxHeartbeats 2000000 in
set_option maxRecDepth 100000 in
theorem useOrder_grow (s p s' p' : ByteArray) (f t x f' t' x' : Int) (w : World) :
    Calls Try.prog 53 #[useV s p f t x, useV s' p' f' t' x'] w fun e w' => e = .returned (.int .i64 (ordI f f' s s')) ∧ ∃ q os', w' = grow (w.drewN q) os' := by
  have D1 := Lib.hid (fun W => Try.cmp_Compare_int f f' W)
  have D2 := Lib.hid (fun W => Try.strings_Compare s s' W)
  unfold useV
  rw [show ordI f f' s s' = orI (Lib.compareInt f f') (Lib.compareBytes s.data.toList s'.data.toList) from rfl]
  generalize Lib.compareInt f f' = ci at D1 ⊢
  generalize Lib.compareBytes s.data.toList s'.data.toList = cb at D2 ⊢
  have DO := Lib.hid (fun b W h0 h1 => or_any ci cb b W h0 h1)
  have HB := Lib.hid (((Below.refl w.heap.size w).alloc (Nat.le_refl _) (.cells #[.string s, .string p, .int .i64 f, .int .i64 t, .int .i64 x] 38)).alloc (by simp) (.cells #[.string s', .string p', .int .i64 f', .int .i64 t', .int .i64 x'] 38))
  have c0 : ∀ i, ((w.alloc (.cells #[.string s, .string p, .int .i64 f, .int .i64 t, .int .i64 x] 38)).alloc (.cells #[.string s', .string p', .int .i64 f', .int .i64 t', .int .i64 x'] 38)).cell? ⟨w.heap.size, i, none⟩ = (#[.string s, .string p, .int .i64 f, .int .i64 t, .int .i64 x] : Array Value)[i]? := by
    intro i
    rw [World.cell?_alloc_past _ _ _ (by simp), World.cell?_alloc_at _ _ _ _ rfl]
  have c1 : ∀ i, ((w.alloc (.cells #[.string s, .string p, .int .i64 f, .int .i64 t, .int .i64 x] 38)).alloc (.cells #[.string s', .string p', .int .i64 f', .int .i64 t', .int .i64 x'] 38)).cell? ⟨w.heap.size + 1, i, none⟩ = (#[.string s', .string p', .int .i64 f', .int .i64 t', .int .i64 x'] : Array Value)[i]? := by
    intro i
    rw [World.cell?_alloc_at _ _ _ _ (by simp)]
  have a0 : ((w.alloc (.cells #[.string s, .string p, .int .i64 f, .int .i64 t, .int .i64 x] 38)).alloc (.cells #[.string s', .string p', .int .i64 f', .int .i64 t', .int .i64 x'] 38)).cell? ⟨w.heap.size, 0, none⟩ = some (.string s) := c0 0
  have a2 : ((w.alloc (.cells #[.string s, .string p, .int .i64 f, .int .i64 t, .int .i64 x] 38)).alloc (.cells #[.string s', .string p', .int .i64 f', .int .i64 t', .int .i64 x'] 38)).cell? ⟨w.heap.size, 2, none⟩ = some (.int .i64 f) := c0 2
  have b0 : ((w.alloc (.cells #[.string s, .string p, .int .i64 f, .int .i64 t, .int .i64 x] 38)).alloc (.cells #[.string s', .string p', .int .i64 f', .int .i64 t', .int .i64 x'] 38)).cell? ⟨w.heap.size + 1, 0, none⟩ = some (.string s') := c1 0
  have b2 : ((w.alloc (.cells #[.string s, .string p, .int .i64 f, .int .i64 t, .int .i64 x] 38)).alloc (.cells #[.string s', .string p', .int .i64 f', .int .i64 t', .int .i64 x'] 38)).cell? ⟨w.heap.size + 1, 2, none⟩ = some (.int .i64 f') := c1 2
  clear c0 c1
  go_enter Try.func53, Try.ntmps53
  go_wp2_with fail
  have hz : w.heap.size + 1 < ((w.alloc (.cells #[.string s, .string p, .int .i64 f, .int .i64 t, .int .i64 x] 38)).alloc (.cells #[.string s', .string p', .int .i64 f', .int .i64 t', .int .i64 x'] 38)).heap.size := by simp only [World.size_alloc]; omega
  obtain ⟨w2, hw2⟩ : ∃ w2, ((w.alloc (.cells #[.string s, .string p, .int .i64 f, .int .i64 t, .int .i64 x] 38)).alloc (.cells #[.string s', .string p', .int .i64 f', .int .i64 t', .int .i64 x'] 38)) = w2 := ⟨_, rfl⟩
  rw [hw2] at HB a0 a2 b0 b2 hz ⊢
  have HF : Hid (∃ q os', (w2.alloc (.cells #[.int .i64 ci, .int .i64 cb] 3)).drew = grow (w.drewN q) os') := Lib.hid ⟨1, _, by rw [← hw2, alloc_eq_grow, alloc_eq_grow, alloc_eq_grow, grow_grow, grow_grow]; rfl⟩
  clear hw2
  obtain ⟨B, e1⟩ : ∃ B, w.heap.size = B := ⟨_, rfl⟩
  rw [e1] at a0 a2 b0 b2 hz ⊢
  have E1 := Lib.hid e1
  have HZ := Lib.hid hz
  have hbd : Below w2.heap.size w2 w2.drew := (Below.refl _ _).drew
  clear e1 hz
  have hkeep := keep4 (W := w2) (Wn := (w2.alloc (.cells #[.int .i64 ci, .int .i64 cb] 3)).drew) HZ.out ⟨a0, a2, b0, b2, Below.refl _ _⟩ (((Below.refl _ _).alloc (Nat.le_refl _) _).drew)
  go_region_held3 (fun w' => w'.cell? ⟨B, 0, none⟩ = some (.string s) ∧ w'.cell? ⟨B, 2, none⟩ = some (.int .i64 f) ∧ w'.cell? ⟨B + 1, 0, none⟩ = some (.string s') ∧ w'.cell? ⟨B + 1, 2, none⟩ = some (.int .i64 f') ∧ Below w2.heap.size w2 w')
    (first
      | go_keep
      | assumption
      | exact keep4 (W := w2) HZ.out ⟨a0, a2, b0, b2, Below.refl _ _⟩ (((Below.refl _ _).alloc (Nat.le_refl _) _).drew)
      | exact keep4 HZ.out (by assumption) ((Below.refl _ _).alloc (Nat.le_refl _) _)
      | (go_split_ands; exact keep4 HZ.out ⟨by assumption, by assumption, by assumption, by assumption, by assumption⟩ ((Below.refl _ _).alloc (Nat.le_refl _) _)))
    (first
      | (go_at_call 105; refine (D1.out _).mono ?_; rintro e wn ⟨rfl, rfl⟩)
      | (go_at_call 106; refine (D2.out _).mono ?_; rintro e wn ⟨rfl, rfl⟩)
      | (go_at_call 104; refine (DO.out _ _ (by show (w2.alloc _).cell? _ = _; rw [World.cell?_alloc_at _ _ _ _ rfl]; rfl) (by show (w2.alloc _).cell? _ = _; rw [World.cell?_alloc_at _ _ _ _ rfl]; rfl)).mono ?_; rintro e wn ⟨rfl, rfl⟩))
  go_wp2
  go_ret
  exact ⟨rfl, HF.out⟩
end Go.Proofs.Ytbkpoepacjinlaa

/-
  DERIVED: THE SHELF's CONTRACTS AT THIS DUMP, IN PLAIN WORDS (tools/lay-plain.mjs out of 'TryShelfS.lean', which tools/lay-shelf.mjs wrote): THE SAME DECLARATIONS UNDER THE SAME NAMES: 'import', 'namespace', 'open', 'def', 'theorem' AND NOTHING ELSE: no command of the shelf's: FOR A HAND-IN. Each laying: the table of numbers ('.._ren') and one theorem, a field a fact of the dump's own or the kernel's comparison; each contract: ONE APPLICATION.
-/
namespace Go.Proofs
open Go.Shelf
def Try.sortUse_ren : Go.Shelf.Ren := ⟨fun | 6 => 131 | 15 => 152 | 14 => 151 | 28 => 169 | 29 => 160 | 20 => 161 | 21 => 162 | 22 => 163 | 23 => 164 | 24 => 165 | 25 => 166 | 26 => 167 | 27 => 168 | 46 => 180 | 47 => 181 | 48 => 182 | 49 => 183 | 50 => 184 | 57 => 197 | n => n, fun | 22 => 25 | 24 => 38 | 25 => 99 | 3 => 3 | 39 => 172 | 0 => 0 | 53 => 193 | 55 => 153 | 4 => 4 | 46 => 186 | 45 => 185 | 50 => 190 | 5 => 5 | 9 => 9 | 66 => 201 | 70 => 205 | 76 => 214 | 77 => 215 | n => n, fun | n => n⟩
theorem Try.sortUse : Go.Proofs.SlLaysF0.n6 Try.prog Try.sortUse_ren := {
  mixed := by kernel_rfl
  f6 := ⟨Try.f131.name, by decide, Try.func131.trans (congrArg some (by kernel_rfl))⟩
  f14 := ⟨Try.f151.name, by decide, Try.func151.trans (congrArg some (by kernel_rfl))⟩
  f15 := Try.func152.trans (congrArg some (by kernel_rfl))
  f20 := ⟨Try.f161.name, by decide, Try.func161.trans (congrArg some (by kernel_rfl))⟩
  f21 := ⟨Try.f162.name, by decide, Try.func162.trans (congrArg some (by kernel_rfl))⟩
  f22 := ⟨Try.f163.name, by decide, Try.func163.trans (congrArg some (by kernel_rfl))⟩
  f23 := ⟨Try.f164.name, by decide, Try.func164.trans (congrArg some (by kernel_rfl))⟩
  f24 := ⟨Try.f165.name, by decide, Try.func165.trans (congrArg some (by kernel_rfl))⟩
  f25 := ⟨Try.f166.name, by decide, Try.func166.trans (congrArg some (by kernel_rfl))⟩
  f26 := ⟨Try.f167.name, by decide, Try.func167.trans (congrArg some (by kernel_rfl))⟩
  f27 := ⟨Try.f168.name, by decide, Try.func168.trans (congrArg some (by kernel_rfl))⟩
  f28 := Try.func169.trans (congrArg some (by kernel_rfl))
  f29 := Try.func160.trans (congrArg some (by kernel_rfl))
  f46 := ⟨Try.f180.name, by decide, Try.func180.trans (congrArg some (by kernel_rfl))⟩
  f47 := Try.func181.trans (congrArg some (by kernel_rfl))
  f48 := Try.func182.trans (congrArg some (by kernel_rfl))
  f49 := ⟨Try.f183.name, by decide, Try.func183.trans (congrArg some (by kernel_rfl))⟩
  f50 := ⟨Try.f184.name, by decide, Try.func184.trans (congrArg some (by kernel_rfl))⟩
  f57 := ⟨Try.f197.name, by decide, Try.func197.trans (congrArg some (by kernel_rfl))⟩
  t0 := Try.underlying0
  a0 := Try.isAgg0
  z0 := Try.sizeOf0
  v0 := Try.zeroValue0
  t3 := Try.underlying3
  a3 := Try.isAgg3
  z3 := Try.sizeOf3
  v3 := Try.zeroValue3
  t4 := Try.underlying4
  a4 := Try.isAgg4
  z4 := Try.sizeOf4
  v4 := Try.zeroValue4
  t5 := Try.underlying5
  a5 := Try.isAgg5
  z5 := Try.sizeOf5
  v5 := Try.zeroValue5
  t9 := Try.underlying9
  a9 := Try.isAgg9
  z9 := Try.sizeOf9
  v9 := Try.zeroValue9
  t22 := Try.underlying25
  a22 := Try.isAgg25
  z22 := Try.sizeOf25
  v22 := Try.zeroValue25
  t25 := Try.underlying99
  a25 := Try.isAgg99
  z25 := Try.sizeOf99
  v25 := Try.zeroValue99
  t39 := Try.underlying172
  a39 := Try.isAgg172
  z39 := Try.sizeOf172
  v39 := Try.zeroValue172
  t45 := Try.underlying185
  a45 := Try.isAgg185
  z45 := Try.sizeOf185
  v45 := Try.zeroValue185
  t46 := Try.underlying186
  a46 := Try.isAgg186
  z46 := Try.sizeOf186
  v46 := Try.zeroValue186
  t50 := Try.underlying190
  a50 := Try.isAgg190
  z50 := Try.sizeOf190
  v50 := Try.zeroValue190
  t53 := Try.underlying193
  a53 := Try.isAgg193
  z53 := Try.sizeOf193
  v53 := Try.zeroValue193
  t55 := Try.underlying153
  a55 := Try.isAgg153
  z55 := Try.sizeOf153
  v55 := Try.zeroValue153
  t66 := Try.underlying201
  a66 := Try.isAgg201
  z66 := Try.sizeOf201
  v66 := Try.zeroValue201
  t70 := Try.underlying205
  a70 := Try.isAgg205
  z70 := Try.sizeOf205
  v70 := Try.zeroValue205
  t76 := Try.underlying214
  a76 := Try.isAgg214
  z76 := Try.sizeOf214
  v76 := Try.zeroValue214
  t77 := Try.underlying215
  a77 := Try.isAgg215
  z77 := Try.sizeOf215
  v77 := Try.zeroValue215 }
def Try.sortMnt_ren : Go.Shelf.Ren := ⟨fun | 6 => 132 | 15 => 152 | 14 => 153 | 28 => 169 | 29 => 160 | 20 => 170 | 21 => 171 | 22 => 172 | 23 => 173 | 24 => 174 | 25 => 175 | 26 => 176 | 27 => 177 | 46 => 185 | 47 => 181 | 48 => 182 | 49 => 186 | 50 => 187 | 57 => 198 | n => n, fun | 22 => 24 | 24 => 54 | 25 => 126 | 3 => 3 | 39 => 172 | 0 => 0 | 53 => 193 | 55 => 153 | 4 => 4 | 46 => 186 | 45 => 185 | 50 => 190 | 5 => 5 | 9 => 9 | 66 => 201 | 70 => 205 | 76 => 214 | 77 => 215 | n => n, fun | n => n⟩
theorem Try.sortMnt : Go.Proofs.SlLaysF0.n6 Try.prog Try.sortMnt_ren := {
  mixed := by kernel_rfl
  f6 := ⟨Try.f132.name, by decide, Try.func132.trans (congrArg some (by kernel_rfl))⟩
  f14 := ⟨Try.f153.name, by decide, Try.func153.trans (congrArg some (by kernel_rfl))⟩
  f15 := Try.func152.trans (congrArg some (by kernel_rfl))
  f20 := ⟨Try.f170.name, by decide, Try.func170.trans (congrArg some (by kernel_rfl))⟩
  f21 := ⟨Try.f171.name, by decide, Try.func171.trans (congrArg some (by kernel_rfl))⟩
  f22 := ⟨Try.f172.name, by decide, Try.func172.trans (congrArg some (by kernel_rfl))⟩
  f23 := ⟨Try.f173.name, by decide, Try.func173.trans (congrArg some (by kernel_rfl))⟩
  f24 := ⟨Try.f174.name, by decide, Try.func174.trans (congrArg some (by kernel_rfl))⟩
  f25 := ⟨Try.f175.name, by decide, Try.func175.trans (congrArg some (by kernel_rfl))⟩
  f26 := ⟨Try.f176.name, by decide, Try.func176.trans (congrArg some (by kernel_rfl))⟩
  f27 := ⟨Try.f177.name, by decide, Try.func177.trans (congrArg some (by kernel_rfl))⟩
  f28 := Try.func169.trans (congrArg some (by kernel_rfl))
  f29 := Try.func160.trans (congrArg some (by kernel_rfl))
  f46 := ⟨Try.f185.name, by decide, Try.func185.trans (congrArg some (by kernel_rfl))⟩
  f47 := Try.func181.trans (congrArg some (by kernel_rfl))
  f48 := Try.func182.trans (congrArg some (by kernel_rfl))
  f49 := ⟨Try.f186.name, by decide, Try.func186.trans (congrArg some (by kernel_rfl))⟩
  f50 := ⟨Try.f187.name, by decide, Try.func187.trans (congrArg some (by kernel_rfl))⟩
  f57 := ⟨Try.f198.name, by decide, Try.func198.trans (congrArg some (by kernel_rfl))⟩
  t0 := Try.underlying0
  a0 := Try.isAgg0
  z0 := Try.sizeOf0
  v0 := Try.zeroValue0
  t3 := Try.underlying3
  a3 := Try.isAgg3
  z3 := Try.sizeOf3
  v3 := Try.zeroValue3
  t4 := Try.underlying4
  a4 := Try.isAgg4
  z4 := Try.sizeOf4
  v4 := Try.zeroValue4
  t5 := Try.underlying5
  a5 := Try.isAgg5
  z5 := Try.sizeOf5
  v5 := Try.zeroValue5
  t9 := Try.underlying9
  a9 := Try.isAgg9
  z9 := Try.sizeOf9
  v9 := Try.zeroValue9
  t22 := Try.underlying24
  a22 := Try.isAgg24
  z22 := Try.sizeOf24
  v22 := Try.zeroValue24
  t25 := Try.underlying126
  a25 := Try.isAgg126
  z25 := Try.sizeOf126
  v25 := Try.zeroValue126
  t39 := Try.underlying172
  a39 := Try.isAgg172
  z39 := Try.sizeOf172
  v39 := Try.zeroValue172
  t45 := Try.underlying185
  a45 := Try.isAgg185
  z45 := Try.sizeOf185
  v45 := Try.zeroValue185
  t46 := Try.underlying186
  a46 := Try.isAgg186
  z46 := Try.sizeOf186
  v46 := Try.zeroValue186
  t50 := Try.underlying190
  a50 := Try.isAgg190
  z50 := Try.sizeOf190
  v50 := Try.zeroValue190
  t53 := Try.underlying193
  a53 := Try.isAgg193
  z53 := Try.sizeOf193
  v53 := Try.zeroValue193
  t55 := Try.underlying153
  a55 := Try.isAgg153
  z55 := Try.sizeOf153
  v55 := Try.zeroValue153
  t66 := Try.underlying201
  a66 := Try.isAgg201
  z66 := Try.sizeOf201
  v66 := Try.zeroValue201
  t70 := Try.underlying205
  a70 := Try.isAgg205
  z70 := Try.sizeOf205
  v70 := Try.zeroValue205
  t76 := Try.underlying214
  a76 := Try.isAgg214
  z76 := Try.sizeOf214
  v76 := Try.zeroValue214
  t77 := Try.underlying215
  a77 := Try.isAgg215
  z77 := Try.sizeOf215
  v77 := Try.zeroValue215 }
end Go.Proofs

/- Gear: uses put in order by the library's sort; the closure of Add; Add of the program. -/
namespace Go.Proofs.Ytbkpoepacjinlaa
open Go.RowKit Go.BigFrame
open Gar (chk momG hasS hasP)

section
open Go.Sort
theorem useCmp (blk off size : Nat) (w : World) : CmpLays Try.prog 53 #[] encU 5 (fun x y : Us => ordI x.f y.f x.n y.n) blk off size w :=
  fun _ _ _ _ x y => useOrder_grow x.n x.r y.n y.r x.f x.s x.x y.f y.s y.x _
set_option maxHeartbeats 2000000 in
set_option maxRecDepth 100000 in
theorem orderedU_any (l l' : List Us) (hp : l'.Perm l) (hs : l'.Pairwise fun a b => befs a b = true) (base q cap : Nat) (w : World) (hown : w.ownsRow base 38 5 (.slice (some ⟨q, 0, none⟩) l.length cap) l.length (l.flatMap encU)) (hn : l.length < 4611686018427387904) :
    Calls Try.prog 79 #[.slice (some ⟨q, 0, none⟩) l.length cap, .func (.func 53) #[] #[]] w fun e w' =>
      e = .returned (.slice (some ⟨q, 0, none⟩) l.length cap) ∧ w'.ownsRow base 38 5 (.slice (some ⟨q, 0, none⟩) l.length cap) l.length (l'.flatMap encU) ∧ w.grownBy w' (some q) := by
  have eg : ∀ args w, (callFunc 53 args).run Try.prog w = .ok (.enter 53 args) w := enters_of Try.func53 (by kernel_rfl) rfl
  have hO : SWO (ltOf fun x y : Us => ordI x.f y.f x.n y.n) := by rw [lt_ord Us.f Us.n]; exact swo_befs
  have hq : q < w.heap.size := (hown.lt q rfl).2
  have hcon := AnyQ.slices_SortFunc Try.sortUse 5 Try.isAgg38 Try.sizeOf38 encU (fun _ => rfl) encU_one (fun x y : Us => ordI x.f y.f x.n y.n) hO 53 #[] q 0 cap l.toArray w eg (useCmp q 0 l.toArray.size w) (own_holds (enc := encU) (k := 5) (fun _ => rfl) hown) hq (by simpa using hn)
  change Calls Try.prog 131 #[.slice (some ⟨q, 0, none⟩) l.length cap, .func (.func 53) #[] #[]] w _ at hcon
  have HC := Lib.hid (hcon.mono (R' := fun e w' => e = .returned (.tuple #[]) ∧ w'.ownsRow base 38 5 (.slice (some ⟨q, 0, none⟩) l.length cap) l.length (l'.flatMap encU) ∧ w.grownBy w' (some q)) (by
    rintro e w' ⟨rfl, d, m, os, h1, h2, rfl⟩
    have hd : d.toList = l' := by
      rw [lt_ord Us.f Us.n] at h2
      exact sorted_one swo_befs h1 h2 hp hs
    have h3 := own_sorted (enc := encU) (k := 5) (fun _ => rfl) hown (d := d) (by rw [h1.1]; simp) m os
    rw [hd] at h3
    exact ⟨rfl, h3⟩))
  clear hcon hown hp hs hO eg hq
  generalize l'.flatMap encU = xs at HC ⊢
  generalize l.length = n at HC ⊢
  go_enter Try.func79, Try.ntmps79
  go_wp2_with (go_at_call 131; refine HC.out.mono ?_; rintro e w' ⟨rfl, h1, h2⟩)
  have H1 := Lib.hid h1
  have H2 := Lib.hid h2
  clear h1 h2
  go_wp2_with fail
  go_ret
  exact ⟨rfl, H1.out, H2.out⟩
end
end Go.Proofs.Ytbkpoepacjinlaa

/- Gear: Add of the program. (Printed by gen_add.py.) -/
namespace Go.Proofs.Ytbkpoepacjinlaa
open Go.RowKit Go.BigFrame
open Gar (chk momG hasS hasP chkUse useErr addErr addG)

theorem row_type {w : World} {base e k n : Nat} {v : Value} {xs : List Value} (h : w.ownsRow base e k v n xs) {q : Nat} (hq : v.ownBlock = some q) : ∃ cur, w.heap[q]? = some (.cells cur e (0, 0)) := by
  rcases h.2 with ⟨rfl, _⟩ | ⟨g, cap, cur, rfl, _, h3, _⟩
  · simp [Value.ownBlock] at hq
  · simp only [Value.ownBlock, Option.some.injEq] at hq
    subst hq
    exact ⟨cur, h3⟩
/-- rows of different types lie in different blocks -/
theorem rows_apart {w : World} {base e k n base' e' k' n' : Nat} {v v' : Value} {xs xs' : List Value} (h : w.ownsRow base e k v n xs) (h' : w.ownsRow base' e' k' v' n' xs') (hne : e ≠ e') : v.ownBlock = none ∨ v.ownBlock ≠ v'.ownBlock := by
  cases hq : v.ownBlock with
  | none => exact Or.inl rfl
  | some q =>
    refine Or.inr fun e1 => ?_
    obtain ⟨c1, h1⟩ := row_type h hq
    obtain ⟨c2, h2⟩ := row_type h' e1.symm
    rw [h1] at h2
    injection h2 with h2
    injection h2 with _ h2
    exact hne h2
theorem row_box {w : World} {base e k n o T : Nat} {fr : Nat × Nat} {v : Value} {xs : List Value} {c : Array Value} (h : w.ownsRow base e k v n xs) (hb : w.heap[o]? = some (.cells c T fr)) (hne : e ≠ T) : v.ownBlock ≠ some o := by
  intro hq
  obtain ⟨c1, h1⟩ := row_type h hq
  rw [h1] at hb
  injection hb with hb
  injection hb with _ hb
  exact hne hb
theorem grown_block {w w' : World} {row : Option Nat} {o : Nat} {x : Obj} (hg : w.grownBy w' row) (h : w.heap[o]? = some x) (hne : row ≠ some o) : w'.heap[o]? = some x := (hg.block o (lt_of_block h) (fun e => hne e.symm)).trans h
theorem anyK_iff (g : Gar) (nm : ByteArray) : decide (0 ≤ idxF (fun i => decide (g.un i = nm)) g.nu 0) = named nm g.uses := by
  have h : ∀ (n k : Nat), decide (0 ≤ idxF (fun i => decide (g.un i = nm)) n k) = ((List.range' k n).map g.use).any fun y => decide (y.n = nm) := by
    intro n
    induction n with
    | zero => intro k; simp [idxF]
    | succ n ih =>
      intro k
      rw [idxF, List.range'_succ, List.map_cons, List.any_cons]
      by_cases e : g.un k = nm
      · rw [if_pos (decide_eq_true e)]
        have : decide ((g.use k).n = nm) = true := decide_eq_true e
        rw [this]
        simp
      · rw [if_neg (fun h => e (of_decide_eq_true h)), ih (k + 1)]
        have : decide ((g.use k).n = nm) = false := decide_eq_false e
        rw [this]
        rfl
  rw [h g.nu 0]
  unfold named Gar.uses
  rw [List.range_eq_range']

set_option maxHeartbeats 1000000 in
set_option maxRecDepth 100000 in
theorem idxU_any (g : Gar) (a : Option Addr) (c : Nat) (fid : FuncId) (caps : Array Value) (hcf : ∀ args w, Sem.run Try.prog (callFunc fid args) w = .ok (.enter fid args) w) (pb : Nat → Bool) (w : World)
    (hr : RowK w a g.nu 5 (fun i => [.string (g.un i), .string (g.ur i), .int .i64 (g.uf i), .int .i64 (g.us i), .int .i64 (g.uw i)])) (hl : (g.nu : Int) ≤ 9223372036854775807)
    (hcl : ∀ (k : Nat) (W : World), k < g.nu → Below w.heap.size w W → Calls Try.prog fid (#[useAt g k] ++ caps) W fun e w' => e = .returned (.bool (pb k)) ∧ Below W.heap.size W w') :
    Calls Try.prog 126 #[.slice a g.nu c, .func (.func fid) #[] caps] w fun e w' => e = .returned (.int .i64 (idxF pb g.nu 0)) ∧ Below w.heap.size w w' := by
  have HR := Lib.hid hr
  have HCL := Lib.hid hcl
  have HCF := Lib.hid hcf
  obtain ⟨z, hz⟩ : ∃ z, idxF pb g.nu 0 = z := ⟨_, rfl⟩
  rw [hz]
  have HZ := Lib.hid hz
  clear hz hr hcl hcf
  go_enter Try.func126, Try.ntmps126
  go_wp2_with fail
  go_loopw [8] (fun iv wr => ∃ (k : Nat), iv = .int .i64 k ∧ k ≤ g.nu ∧ Hid (Below w.heap.size w wr) ∧ Hid (idxF pb (g.nu - k) k = z)) (fun iv _ => g.nu - (intOf iv).toNat)
  case atStart => exact ⟨0, rfl, by omega, Lib.hid (Below.refl _ _), HZ⟩
  case round =>
    obtain ⟨k, rfl, hk, HB, HX⟩ := hrel
    by_cases hlt : k < g.nu
    · have t1 : decide ((k : Int) < (g.nu : Int)) = true := by rw [decide_eq_true_eq]; omega
      obtain ⟨b, off, rfl, hbl, hc⟩ := (HR.out.below HB.out (Nat.le_refl _)).here (by omega)
      have e0 : wr.cell? ⟨b, off + k * 5, none⟩ = some (.string (g.un k)) := hc k hlt 0 (by omega)
      have e1 : wr.cell? ⟨b, off + k * 5 + 1, none⟩ = some (.string (g.ur k)) := hc k hlt 1 (by omega)
      have e2 : wr.cell? ⟨b, off + k * 5 + 2, none⟩ = some (.int .i64 (g.uf k)) := hc k hlt 2 (by omega)
      have e3 : wr.cell? ⟨b, off + k * 5 + 3, none⟩ = some (.int .i64 (g.us k)) := hc k hlt 3 (by omega)
      have e4 : wr.cell? ⟨b, off + k * 5 + 4, none⟩ = some (.int .i64 (g.uw k)) := hc k hlt 4 (by omega)
      have hx := HX.out
      rw [show g.nu - k = (g.nu - k - 1) + 1 by omega, idxF] at hx
      have HX2 := Lib.hid hx
      have hsz := HB.out.size
      have D := Lib.hid (HCL.out k wr hlt HB.out)
      unfold useAt useV at D
      have hcf := HCF.out
      clear hc hx HX
      generalize g.un k = s0 at e0 D
      generalize g.ur k = s1 at e1 D
      generalize g.uf k = s2 at e2 D
      generalize g.us k = s3 at e3 D
      generalize g.uw k = s4 at e4 D
      cases hb : pb k
      · rw [hb] at D HX2
        rw [if_neg (by simp)] at HX2
        clear hb
        go_wp2_with fail
        refine D.out.mono ?_
        rintro e w2 ⟨rfl, hb2⟩
        have HB2 := Lib.hid (HB.out.trans (hb2.mono hsz))
        clear hb2 hcf
        go_wp2_with fail
        go_roundw
        case rel => exact ⟨k + 1, by go_num, by omega, HB2, HX2⟩
        case measure => simp [intOf]; omega
      · rw [hb] at D HX2
        rw [if_pos rfl] at HX2
        clear hb
        go_wp2_with fail
        refine D.out.mono ?_
        rintro e w2 ⟨rfl, hb2⟩
        have HB2 := Lib.hid (HB.out.trans (hb2.mono hsz))
        clear hb2 hcf
        go_wp2_with fail
        go_ret
        exact ⟨ret_int HX2.out, HB2.out⟩
    · have t1 : decide ((k : Int) < (g.nu : Int)) = false := by rw [decide_eq_false_iff_not]; omega
      have t1' : decide (k < g.nu) = false := by simpa using hlt
      have hx := HX.out
      rw [show g.nu - k = 0 by omega, idxF] at hx
      have HX2 := Lib.hid hx
      clear hx hlt
      go_wp2_with fail
      go_ret
      exact ⟨ret_int HX2.out, HB.out⟩

set_option maxHeartbeats 1000000 in
set_option maxRecDepth 100000 in
theorem hasU_any (g : Gar) (a : Option Addr) (c : Nat) (fid : FuncId) (caps : Array Value) (hcf : ∀ args w, Sem.run Try.prog (callFunc fid args) w = .ok (.enter fid args) w) (pb : Nat → Bool) (w : World)
    (hr : RowK w a g.nu 5 (fun i => [.string (g.un i), .string (g.ur i), .int .i64 (g.uf i), .int .i64 (g.us i), .int .i64 (g.uw i)])) (hl : (g.nu : Int) ≤ 9223372036854775807)
    (hcl : ∀ (k : Nat) (W : World), k < g.nu → Below w.heap.size w W → Calls Try.prog fid (#[useAt g k] ++ caps) W fun e w' => e = .returned (.bool (pb k)) ∧ Below W.heap.size W w') :
    Calls Try.prog 76 #[.slice a g.nu c, .func (.func fid) #[] caps] w fun e w' => e = .returned (.bool (decide (0 ≤ idxF pb g.nu 0))) ∧ Below w.heap.size w w' := by
  have D := Lib.hid (idxU_any g a c fid caps hcf pb w hr hl hcl)
  generalize idxF pb g.nu 0 = z at D ⊢
  clear hr hcl hcf
  cases hz : decide (0 ≤ z)
  all_goals
    go_enter Try.func76, Try.ntmps76
    go_wp2_with fail
    refine D.out.mono ?_
    rintro e w1 ⟨rfl, hb⟩
    have HB := Lib.hid hb
    clear hb
    go_wp2_with fail
    go_ret
    exact ⟨ret_bool (by simp), HB.out⟩

set_option maxHeartbeats 1000000 in
theorem addCl_any (n r : ByteArray) (f s x : Int) (nm : ByteArray) (p : Nat) (w : World) (_hp : p < w.heap.size) (hc : w.cell? ⟨p, 0, none⟩ = some (.string nm)) :
    Calls Try.prog 77 #[useV n r f s x, .pointer (some ⟨p, 0, none⟩)] w fun e w' => e = .returned (.bool (decide (n = nm))) ∧ Below w.heap.size w w' := by
  unfold useV
  have hse := str_eq n nm
  have HB := Lib.hid ((Below.refl w.heap.size w).alloc (Nat.le_refl _) (.cells #[.string n, .string r, .int .i64 f, .int .i64 s, .int .i64 x] 38))
  obtain ⟨W, hW, hb, hs, hl⟩ := alloc_cells w #[.string n, .string r, .int .i64 f, .int .i64 s, .int .i64 x] 38
  have m0 := hl 0 _ rfl
  have n0 := below_cell hb hc
  have HW := Lib.hid hW
  have HB := Lib.hid hb
  clear hW hb hs hl hc
  generalize decide (n = nm) = bb at hse ⊢
  go_enter Try.func77, Try.ntmps77
  go_upto_region 1 with (fail)
  rw [HW.out]
  go_wp2_with fail
  go_ret
  exact ⟨rfl, HB.out⟩
theorem own_keep {w w' : World} {base e k n o : Nat} {v : Value} {xs : List Value} (h : w.ownsRow base e k v n xs) (hk : Kept (fun b => b = o) w w') (hne : v.ownBlock ≠ some o) : w'.ownsRow base e k v n xs :=
  h.kept (row := some o) ⟨hk.os, hk.tape, hk.output, hk.size, fun b hb h => hk.block b hb (fun e => h (by rw [e]))⟩ (Or.inr hne)
theorem flat_range (l : List Us) : (List.range l.length).flatMap (fun i => encU (l.getD i default)) = l.flatMap encU := by
  have h : ∀ r : List Nat, r.flatMap (fun i => encU (l.getD i default)) = (r.map fun i => l.getD i default).flatMap encU := by
    intro r
    induction r with
    | nil => rfl
    | cons x r ih => rw [List.flatMap_cons, List.map_cons, List.flatMap_cons, ih]
  rw [h, Gar.range_map]
theorem uses_flat (g : Gar) : (List.range g.nu).flatMap g.cellsU = g.uses.flatMap encU := by
  unfold Gar.uses
  have h : ∀ r : List Nat, r.flatMap g.cellsU = (r.map g.use).flatMap encU := by
    intro r
    induction r with
    | nil => rfl
    | cons x r ih => simp only [List.flatMap_cons, List.map_cons, ih]; rfl
  exact h _
theorem fine_size {u : Us} (h : fineU u) : u.n.size ≤ 60 ∧ u.r.size ≤ 60 := by
  unfold fineU Gar.chkUse at h
  split at h
  · omega
  · rename_i a
    have a' : (nameB u.n && nameB u.r) = true := by simpa using a
    simp only [nameB, Bool.and_eq_true, decide_eq_true_eq] at a'
    omega
theorem setU_in {w0 w : World} {g : Gar} {a0 a1 a2 a3 b0 b1 b2 b3 : Option Addr} (h0 : GarIn w0 g a0 a1 a2 a3) {l : List Us} (hl : RightU l) (r0 : RowK w b0 g.np 2 g.cellsP) (r1 : RowK w b1 g.ns 2 g.cellsS) (r2 : RowK w b2 g.nm 4 g.cellsM)
    (r3 : RowK w b3 l.length 5 (fun i => encU (l.getD i default))) : GarIn w (g.setU l) b0 b1 b2 b3 := by
  refine ⟨r0, r1, r2, r3, h0.z0, h0.z1, h0.z2, fun i hi => ?_, h0.l0, h0.l1, h0.l2, ?_⟩
  · have hi : i < l.length := hi
    have hm : l.getD i default ∈ l := by
      rw [List.getD_eq_getElem?_getD, List.getElem?_eq_getElem hi]
      exact List.getElem_mem hi
    have := fine_size (hl.fine _ hm)
    show (l.getD i default).n.size ≤ maxLen ∧ (l.getD i default).r.size ≤ maxLen
    unfold maxLen
    omega
  · have := hl.len
    show (l.length : Int) ≤ _
    omega
/-- a garage is returned, with an error -/
def RetG (w w' : World) (e : Ending) (g' : Gar) (er : Int) : Prop :=
  (∃ b0 b1 b2 b3 d0 d1 d2 d3, e = .returned (.tuple #[garV g' b0 b1 b2 b3 d0 d1 d2 d3, .int .i64 er]) ∧ GarIn w' g' b0 b1 b2 b3 ∧ g'.nm ≤ d2 ∧ g'.nu ≤ d3) ∧ Below w.heap.size w w'
theorem zeroIn (w : World) : GarIn w Gar.zero none none none none :=
  ⟨⟨fun h => absurd h (by simp [Gar.zero])⟩, ⟨fun h => absurd h (by simp [Gar.zero])⟩, ⟨fun h => absurd h (by simp [Gar.zero])⟩, ⟨fun h => absurd h (by simp [Gar.zero])⟩, fun i h => absurd h (by simp [Gar.zero]), fun i h => absurd h (by simp [Gar.zero]), fun i h => absurd h (by simp [Gar.zero]), fun i h => absurd h (by simp [Gar.zero]), by simp [Gar.zero], by simp [Gar.zero], by simp [Gar.zero], by simp [Gar.zero]⟩
theorem RetG.zero {w w' : World} {er : Int} (hb : Below w.heap.size w w') : RetG w w' (.returned (.tuple #[garV Gar.zero none none none none 0 0 0 0, .int .i64 er])) Gar.zero er :=
  ⟨⟨none, none, none, none, 0, 0, 0, 0, rfl, zeroIn w', Nat.le_refl _, Nat.le_refl _⟩, hb⟩

set_option maxHeartbeats 8000000 in
set_option maxRecDepth 100000 in
theorem add_any (g : Gar) (a0 a1 a2 a3 : Option Addr) (c0 c1 c2 c3 : Nat) (u : Us) (w : World) (h : GarIn w g a0 a1 a2 a3) (hun : u.n.size ≤ maxLen) (hur : u.r.size ≤ maxLen) :
    Calls Try.prog 33 #[garV g a0 a1 a2 a3 c0 c1 c2 c3, useV u.n u.r u.f u.s u.x] w fun e w' => RetG w w' e (addG g u) (addErr g u) := by
  have HG := Lib.hid h
  have hl3 := h.l3
  obtain ⟨W0, hW0, hb0, hs0', hq0⟩ := allocs w [.cells #[.slice a0 g.np c0, .slice a1 g.ns c1, .slice a2 g.nm c2, .slice a3 g.nu c3] 27, .cells #[.string u.n, .string u.r, .int .i64 u.f, .int .i64 u.s, .int .i64 u.x] 38, .cells #[.slice none 0 0, .slice none 0 0, .slice none 0 0, .slice none 0 0] 27]
  have hs0 : W0.heap.size = w.heap.size + 3 := hs0'
  clear hs0'
  have G0 := Ext.ex (show W0.cell? ⟨w.heap.size, 0, none⟩ = some (.slice a0 g.np c0) from block_cell (hq0 0 _ rfl) rfl)
  have G1 := Ext.ex (show W0.cell? ⟨w.heap.size, 1, none⟩ = some (.slice a1 g.ns c1) from block_cell (hq0 0 _ rfl) rfl)
  have G2 := Ext.ex (show W0.cell? ⟨w.heap.size, 2, none⟩ = some (.slice a2 g.nm c2) from block_cell (hq0 0 _ rfl) rfl)
  have G3 := Ext.ex (show W0.cell? ⟨w.heap.size, 3, none⟩ = some (.slice a3 g.nu c3) from block_cell (hq0 0 _ rfl) rfl)
  have U0 := Ext.ex (show W0.cell? ⟨w.heap.size + 1, 0, none⟩ = some (.string u.n) from block_cell (hq0 1 _ rfl) rfl)
  have U1 := Ext.ex (show W0.cell? ⟨w.heap.size + 1, 1, none⟩ = some (.string u.r) from block_cell (hq0 1 _ rfl) rfl)
  have U2 := Ext.ex (show W0.cell? ⟨w.heap.size + 1, 2, none⟩ = some (.int .i64 u.f) from block_cell (hq0 1 _ rfl) rfl)
  have U3 := Ext.ex (show W0.cell? ⟨w.heap.size + 1, 3, none⟩ = some (.int .i64 u.s) from block_cell (hq0 1 _ rfl) rfl)
  have U4 := Ext.ex (show W0.cell? ⟨w.heap.size + 1, 4, none⟩ = some (.int .i64 u.x) from block_cell (hq0 1 _ rfl) rfl)
  have HR := Lib.hid (fun (X : Ext W0) => below_block X.2 (hq0 2 _ rfl))
  have Z0 : ∀ X : Ext W0, X.1.cell? ⟨w.heap.size + 2, 0, none⟩ = some (.slice none 0 0) := fun X => block_cell (HR.out X) rfl
  have Z1 : ∀ X : Ext W0, X.1.cell? ⟨w.heap.size + 2, 1, none⟩ = some (.slice none 0 0) := fun X => block_cell (HR.out X) rfl
  have Z2 : ∀ X : Ext W0, X.1.cell? ⟨w.heap.size + 2, 2, none⟩ = some (.slice none 0 0) := fun X => block_cell (HR.out X) rfl
  have Z3 : ∀ X : Ext W0, X.1.cell? ⟨w.heap.size + 2, 3, none⟩ = some (.slice none 0 0) := fun X => block_cell (HR.out X) rfl
  have F0 : ∀ X : Ext W0, X.1.frozen? ⟨w.heap.size + 2, 0, none⟩ = false := fun X => block_free (HR.out X)
  have F1 : ∀ X : Ext W0, X.1.frozen? ⟨w.heap.size + 2, 1, none⟩ = false := fun X => block_free (HR.out X)
  have F2 : ∀ X : Ext W0, X.1.frozen? ⟨w.heap.size + 2, 2, none⟩ = false := fun X => block_free (HR.out X)
  have F3 : ∀ X : Ext W0, X.1.frozen? ⟨w.heap.size + 2, 3, none⟩ = false := fun X => block_free (HR.out X)
  have HW0 := Lib.hid (show ((w.alloc (.cells #[.slice a0 g.np c0, .slice a1 g.ns c1, .slice a2 g.nm c2, .slice a3 g.nu c3] 27)).alloc (.cells #[.string u.n, .string u.r, .int .i64 u.f, .int .i64 u.s, .int .i64 u.x] 38)).alloc (.cells #[.slice none 0 0, .slice none 0 0, .slice none 0 0, .slice none 0 0] 27) = W0 from hW0)
  have HB := Lib.hid hb0
  have hbs : w.heap.size ≤ W0.heap.size := by omega
  have hmf : ∀ fn first cap w, (Instr.makeFunc fn first cap).run Try.prog w = .ok (.func fn first cap) w := fun _ _ _ _ => rfl
  have DK := Lib.hid (fun (Y : Ext W0) => gCheck_any g a0 a1 a2 a3 c0 c1 c2 c3 Y.1 (HG.out.below (Y.down HB.out hbs)))
  have DI := Lib.hid (fun (Y : Ext W0) => hasU_any g a3 c3 77 #[.pointer (some ⟨w.heap.size + 1, 0, none⟩)] (fun _ _ => rfl) (fun i => decide (g.un i = u.n)) Y.1 (HG.out.below (Y.down HB.out hbs)).r3 hl3
    (fun k W _ hW => addCl_any (g.un k) (g.ur k) (g.uf k) (g.us k) (g.uw k) u.n (w.heap.size + 1) W (by have := Y.2.size; have := hW.size; omega) (U0 ⟨W, Y.2.trans (hW.mono Y.2.size)⟩)))
  rw [anyK_iff] at DI
  have DU := Lib.hid (fun (tw : Bool) (W : World) => checkUse_any u.n u.r u.f u.s u.x tw W hun hur)
  have DC0 := Lib.hid (fun (hk : chk g = 0) (Y : Ext W0) => cloned_any g a0 a1 a2 a3 c0 c1 c2 c3 Y.1 (HG.out.below (Y.down HB.out hbs)) hk)
  obtain ⟨er, her⟩ : ∃ x, addErr g u = x := ⟨_, rfl⟩
  obtain ⟨gg, hgg⟩ : ∃ x, addG g u = x := ⟨_, rfl⟩
  rw [her, hgg]
  have HE := Lib.hid her
  have HGG := Lib.hid hgg
  unfold garV at DK DC0
  unfold garV useV
  unfold useV at DU
  clear h hW0 hb0 hq0 her hgg hun hur
  by_cases k1 : chk g = 0
  case neg =>
    have HX : Hid (gg = Gar.zero ∧ er = chk g) := Lib.hid (by
      have e : addErr g u = chk g := by unfold addErr; rw [if_pos k1]
      have := HE.out
      have h2 := HGG.out
      unfold addG at h2
      rw [if_neg (by rw [e]; exact k1)] at h2
      exact ⟨h2.symm, by rw [← this, e]⟩)
    have n1 : (chk g != 0) = true := by rw [bne_iff_ne]; exact k1
    clear k1 DC0 HE HGG DI DU
    generalize chk g = ck at *
    go_enter Try.func33, Try.ntmps33
    go_upto_region 1 with (fail)
    rw [HW0.out]
    refine ext_wp fun X => ?_
    go_wp2_with fail
    refine (Ext.calls _ (DK.out _)).mono ?_
    rintro e w2 ⟨rfl, Y, rfl⟩
    go_wp2_with fail
    obtain ⟨W5, hW5, hr5, hk5, _⟩ := store4 (HR.out Y) (.slice none 0 0) (.slice none 0 0) (.slice none 0 0) (.slice none 0 0)
    have x0 : W5.cell? ⟨w.heap.size + 2, 0, none⟩ = some (.slice none 0 0) := block_cell hr5 rfl
    have x1 : W5.cell? ⟨w.heap.size + 2, 1, none⟩ = some (.slice none 0 0) := block_cell hr5 rfl
    have x2 : W5.cell? ⟨w.heap.size + 2, 2, none⟩ = some (.slice none 0 0) := block_cell hr5 rfl
    have x3 : W5.cell? ⟨w.heap.size + 2, 3, none⟩ = some (.slice none 0 0) := block_cell hr5 rfl
    have HB5 := Lib.hid (Kept.below (Y.down HB.out hbs) hk5 (Nat.le_trans hbs Y.2.size) (fun k hk e => by omega))
    try rw [show w.heap.size + 1 + 1 = w.heap.size + 2 from rfl]
    rw [hW5]
    clear hW5 hr5 hk5
    exact bodyPost_ret (v := .tuple #[garV Gar.zero none none none none 0 0 0 0, .int .i64 ck]) (by unfold garV; simp [results, Try.results33, go_sem, x0, x1, x2, x3, Gar.zero]) rfl (by rw [HX.out.1, HX.out.2]; exact RetG.zero HB5.out)
  rw [k1] at DK
  have n1 : ((0 : Int) != 0) = false := rfl
  have HU2 := Lib.hid (show useErr g u = chkUse u.n u.r (named u.n g.uses) u.f u.s u.x from rfl)
  by_cases k2 : useErr g u = 0
  case neg =>
    have HX : Hid (gg = Gar.zero ∧ er = useErr g u) := Lib.hid (by
      have e : addErr g u = useErr g u := by unfold addErr; rw [if_neg (by rw [k1]; simp), if_pos k2]
      have := HE.out
      have h2 := HGG.out
      unfold addG at h2
      rw [if_neg (by rw [e]; exact k2)] at h2
      exact ⟨h2.symm, by rw [← this, e]⟩)
    rw [HU2.out] at HX k2
    have DU := Lib.hid (DU.out (named u.n g.uses))
    generalize chkUse u.n u.r (named u.n g.uses) u.f u.s u.x = ck at *
    generalize named u.n g.uses = tw at *
    have n2 : (ck != 0) = true := by rw [bne_iff_ne]; exact k2
    clear k1 k2 DC0 HE HGG HU2
    go_enter Try.func33, Try.ntmps33
    go_upto_region 1 with (fail)
    rw [HW0.out]
    refine ext_wp fun X => ?_
    go_wp2_with fail
    refine (Ext.calls _ (DK.out _)).mono ?_
    rintro e w2 ⟨rfl, Y, rfl⟩
    go_wp2_with fail
    refine wp_region_ext (W := W0) _ (by kernel_rfl) (by kernel_rfl) ?_
    repeat go_big_quiet_step (first
      | (go_at_call 76; exact Ext.calls _ (DI.out _))
      | (go_at_call 52; exact Ext.calls _ (DU.out _)))
    refine wpQuiet_nil ?_
    intro _ hw'
    obtain ⟨Y4, rfl⟩ := hw'
    go_wp2_with fail
    obtain ⟨W5, hW5, hr5, hk5, _⟩ := store4 (HR.out Y4) (.slice none 0 0) (.slice none 0 0) (.slice none 0 0) (.slice none 0 0)
    have x0 : W5.cell? ⟨w.heap.size + 2, 0, none⟩ = some (.slice none 0 0) := block_cell hr5 rfl
    have x1 : W5.cell? ⟨w.heap.size + 2, 1, none⟩ = some (.slice none 0 0) := block_cell hr5 rfl
    have x2 : W5.cell? ⟨w.heap.size + 2, 2, none⟩ = some (.slice none 0 0) := block_cell hr5 rfl
    have x3 : W5.cell? ⟨w.heap.size + 2, 3, none⟩ = some (.slice none 0 0) := block_cell hr5 rfl
    have HB5 := Lib.hid (Kept.below (Y4.down HB.out hbs) hk5 (Nat.le_trans hbs Y4.2.size) (fun k hk e => by omega))
    try rw [show w.heap.size + 1 + 1 = w.heap.size + 2 from rfl]
    rw [hW5]
    clear hW5 hr5 hk5
    exact bodyPost_ret (v := .tuple #[garV Gar.zero none none none none 0 0 0 0, .int .i64 ck]) (by unfold garV; simp [results, Try.results33, go_sem, x0, x1, x2, x3, Gar.zero]) rfl (by rw [HX.out.1, HX.out.2]; exact RetG.zero HB5.out)
  have k2' : chkUse u.n u.r (named u.n g.uses) u.f u.s u.x = 0 := k2
  have DU1 := Lib.hid (DU.out (named u.n g.uses))
  rw [k2'] at DU1
  clear HU2 DU
  have HTW : Hid (named u.n g.uses = named u.n g.uses) := Lib.hid rfl
  by_cases k3 : 5000 ≤ g.nu
  case pos =>
    have HX : Hid (gg = Gar.zero ∧ er = 3) := Lib.hid (by
      have e : addErr g u = 3 := by unfold addErr; rw [if_neg (by rw [k1]; simp), if_neg (by rw [k2]; simp), if_pos k3]
      have := HE.out
      have h2 := HGG.out
      unfold addG at h2
      rw [if_neg (by rw [e]; omega)] at h2
      exact ⟨h2.symm, by rw [← this, e]⟩)
    have t3 : decide ((5000 : Int) ≤ (g.nu : Int)) = true := by rw [decide_eq_true_eq]; omega
    have t3' : decide (5000 ≤ g.nu) = true := by simpa using k3
    generalize named u.n g.uses = tw at *
    clear k1 k2 k2' k3 DC0 HE HGG HTW
    go_enter Try.func33, Try.ntmps33
    go_upto_region 1 with (fail)
    rw [HW0.out]
    refine ext_wp fun X => ?_
    go_wp2_with fail
    refine (Ext.calls _ (DK.out _)).mono ?_
    rintro e w2 ⟨rfl, Y, rfl⟩
    go_wp2_with fail
    refine wp_region_ext (W := W0) _ (by kernel_rfl) (by kernel_rfl) ?_
    repeat go_big_quiet_step (first
      | (go_at_call 76; exact Ext.calls _ (DI.out _))
      | (go_at_call 52; exact Ext.calls _ (DU1.out _)))
    refine wpQuiet_nil ?_
    intro _ hw'
    obtain ⟨Y4, rfl⟩ := hw'
    go_wp2_with fail
    obtain ⟨W5, hW5, hr5, hk5, _⟩ := store4 (HR.out Y4) (.slice none 0 0) (.slice none 0 0) (.slice none 0 0) (.slice none 0 0)
    have x0 : W5.cell? ⟨w.heap.size + 2, 0, none⟩ = some (.slice none 0 0) := block_cell hr5 rfl
    have x1 : W5.cell? ⟨w.heap.size + 2, 1, none⟩ = some (.slice none 0 0) := block_cell hr5 rfl
    have x2 : W5.cell? ⟨w.heap.size + 2, 2, none⟩ = some (.slice none 0 0) := block_cell hr5 rfl
    have x3 : W5.cell? ⟨w.heap.size + 2, 3, none⟩ = some (.slice none 0 0) := block_cell hr5 rfl
    have HB5 := Lib.hid (Kept.below (Y4.down HB.out hbs) hk5 (Nat.le_trans hbs Y4.2.size) (fun k hk e => by omega))
    try rw [show w.heap.size + 1 + 1 = w.heap.size + 2 from rfl]
    rw [hW5]
    clear hW5 hr5 hk5
    exact bodyPost_ret (v := .tuple #[garV Gar.zero none none none none 0 0 0 0, .int .i64 3]) (by unfold garV; simp [results, Try.results33, go_sem, x0, x1, x2, x3, Gar.zero]) rfl (by rw [HX.out.1, HX.out.2]; exact RetG.zero HB5.out)
  have HX : Hid (gg = g.setU (insU u g.uses) ∧ er = 0) := Lib.hid (by
    have e : addErr g u = 0 := by unfold addErr; rw [if_neg (by rw [k1]; simp), if_neg (by rw [k2]; simp), if_neg k3]
    have h2 := HGG.out
    have h3 := HE.out
    exact ⟨h2.symm.trans (Gar.addG_ok e).1, h3.symm.trans e⟩)
  have t3 : decide ((5000 : Int) ≤ (g.nu : Int)) = false := by rw [decide_eq_false_iff_not]; omega
  have t3' : decide (5000 ≤ g.nu) = false := by simpa using k3
  have HADD := Lib.hid (Gar.add_zero (g := g) (u := u) (by unfold addErr; rw [if_neg (by rw [k1]; simp), if_neg (by rw [k2]; simp), if_neg k3]))
  have DC := Lib.hid (DC0.out k1)
  obtain ⟨i0, hi0, hz0, hz1, hz2⟩ := info_parts (show (Try.prog.info? 38).map (fun i => (i.zero, i.size, i.bytes)) = some (some (.agg #[.string ⟨#[]⟩, .string ⟨#[]⟩, .int .i64 0, .int .i64 0, .int .i64 0]), 5, 56) by kernel_rfl)
  have HI0 := Lib.hid hi0
  have HZ0 := Lib.hid hz0
  have HZ1 := Lib.hid hz1
  have HZ2 := Lib.hid hz2
  have HUS := Lib.hid (show Try.prog.underlying 25 = some (.slice 38) by kernel_rfl)
  clear k1 k2 k2' DC0 HE HGG HTW hi0 hz0 hz1 hz2
  obtain ⟨tw, htw⟩ : ∃ x, named u.n g.uses = x := ⟨_, rfl⟩
  rw [htw] at DI DU1
  clear htw
  go_enter Try.func33, Try.ntmps33
  go_upto_region 1 with (fail)
  rw [HW0.out]
  refine ext_wp fun X => ?_
  go_wp2_with fail
  refine (Ext.calls _ (DK.out _)).mono ?_
  rintro e w2 ⟨rfl, Y, rfl⟩
  go_wp2_with fail
  refine wp_region_ext (W := W0) _ (by kernel_rfl) (by kernel_rfl) ?_
  repeat go_big_quiet_step (first
    | (go_at_call 76; exact Ext.calls _ (DI.out _))
    | (go_at_call 52; exact Ext.calls _ (DU1.out _)))
  refine wpQuiet_nil ?_
  intro _ hw'
  obtain ⟨Y4, rfl⟩ := hw'
  go_wp2_with fail
  refine (DC.out _).mono ?_
  rintro e w5 ⟨b0, b1, b2, b3, d0, d1, d2, d3, rfl, hog, hb5⟩
  have HOG := Lib.hid hog
  have HB5 := Lib.hid hb5
  obtain ⟨Y5, rfl⟩ : ∃ Y : Ext W0, w5 = Y.1 := ⟨⟨w5, Y4.2.trans (hb5.mono Y4.2.size)⟩, rfl⟩
  clear hog hb5
  go_upto_region 10 with (fail)
  obtain ⟨V2, hV2, hvb2, hvs2, hvq2⟩ := alloc_block Y5.1 #[.slice b0 g.np d0, .slice b1 g.ns d1, .slice b2 g.nm d2, .slice b3 g.nu d3] 27
  rw [hV2]
  obtain ⟨o, ho⟩ : ∃ o, Y5.1.heap.size = o := ⟨_, rfl⟩
  rw [ho] at hvs2 hvq2 ⊢
  have hbase : W0.heap.size ≤ Y4.1.heap.size := Y4.2.size
  have hO0 := ownsRow_below (ownsRow_lower HOG.out.o0 hbase) hvb2
  have hO1 := ownsRow_below (ownsRow_lower HOG.out.o1 hbase) hvb2
  have hO2 := ownsRow_below (ownsRow_lower HOG.out.o2 hbase) hvb2
  have hO3 := ownsRow_below (ownsRow_lower HOG.out.o3 hbase) hvb2
  have hy5 := Y5.2.size
  obtain ⟨Y6, rfl⟩ : ∃ Y : Ext W0, V2 = Y.1 := ⟨⟨V2, below_step Y5.2 hvb2⟩, rfl⟩
  have k3 : Y6.1.cell? ⟨o, 3, none⟩ = some (.slice b3 g.nu d3) := block_cell hvq2 rfl
  have HO0 := Lib.hid hO0
  have HO1 := Lib.hid hO1
  have HO2 := Lib.hid hO2
  have HO3 := Lib.hid hO3
  have HOB := Lib.hid hvq2
  have HSZ : Hid (o = Y5.1.heap.size ∧ Y6.1.heap.size = o + 1 ∧ W0.heap.size ≤ o) := Lib.hid ⟨ho.symm, hvs2, by omega⟩
  have hso : W0.heap.size ≤ Y6.1.heap.size := Y6.2.size
  have hnl : g.nu + 1 ≤ 5000 := by omega
  clear hO0 hO1 hO2 hO3 hvb2 hvq2 hvs2 hV2 HOG HB5 ho hy5 hbase
  go_wp2_with (at_builtin; refine wpList_append_where _ rfl (.tmp 33) (.tmp 35) 25 rfl W0.heap.size 38 i0 (.agg #[.string ⟨#[]⟩, .string ⟨#[]⟩, .int .i64 0, .int .i64 0, .int .i64 0]) 5 56 HUS.out HI0.out HZ0.out HZ1.out HZ2.out rfl (by decide) (.slice b3 g.nu d3) _ _ rfl (HO3.out.alloc _) ⟨Y6.1.heap.size, 0, none⟩ 1 1 (encU u) rfl (by decide) rfl ?c1 ?c2 ?c3 ?c4 ?c5 ?_)
  case c1 =>
    intro jj uu hu
    rw [addr_add0, World.cell?_alloc_at _ _ _ _ rfl]
    simpa [encU] using hu
  case c2 => exact encU_one u
  case c3 => unfold maxLen; omega
  case c4 => omega
  case c5 => simp; omega
  intro v7 w7 hown7 hg7 _
  obtain ⟨V3, hV3, hvb3, _, _⟩ := alloc_block Y6.1 #[.string u.n, .string u.r, .int .i64 u.f, .int .i64 u.s, .int .i64 u.x] 38
  rw [hV3] at hg7
  have p0 := ownsRow_below HO0.out hvb3
  have p1 := ownsRow_below HO1.out hvb3
  have p2 := ownsRow_below HO2.out hvb3
  have p3 := ownsRow_below HO3.out hvb3
  have pB := below_block hvb3 HOB.out
  have pR := below_block hvb3 (HR.out Y6)
  have q0 := p0.kept hg7 (rows_apart p0 p3 (by decide))
  have q1 := p1.kept hg7 (rows_apart p1 p3 (by decide))
  have q2 := p2.kept hg7 (rows_apart p2 p3 (by decide))
  have qB := grown_block hg7 pB (row_box p3 pB (by decide))
  have qR := grown_block hg7 pR (row_box p3 pR (by decide))
  have hb7 : Below W0.heap.size W0 w7 := (Y6.2.trans (hvb3.mono Y6.2.size)).grown hg7 (by have := hvb3.size; have := Y6.2.size; omega) (fun k hk => (p3.lt k hk).1)
  obtain ⟨q, cap, rfl⟩ := ownsRow_succ hown7
  have hfl : (List.range g.nu).flatMap g.cellsU ++ encU u = (g.uses ++ [u]).flatMap encU := by rw [uses_flat, List.flatMap_append, List.flatMap_cons, List.flatMap_nil, List.append_nil]
  have hlen : (g.uses ++ [u]).length = g.nu + 1 := by rw [List.length_append, Gar.uses_len]; rfl
  have hlenI : (insU u g.uses).length = g.nu + 1 := by unfold insU; rw [insL_len, Gar.uses_len]
  obtain ⟨hk0, hfu, hnu, hsz⟩ := HADD.out
  have hRI := (Gar.right_uses hk0).ins hfu hnu (by rw [Gar.uses_len]; exact hsz)
  rw [hfl] at hown7
  have DO := orderedU_any (g.uses ++ [u]) (insU u g.uses) (insL_perm u g.uses) hRI.ord W0.heap.size q cap w7 (by rw [hlen, hs0]; exact hown7) (by rw [hlen]; omega)
  rw [hlen] at DO
  have HDO := Lib.hid DO
  have HRI := Lib.hid hRI
  have HQ := Lib.hid (And.intro q0 (And.intro q1 (And.intro q2 (And.intro qB (And.intro qR (And.intro hb7 (And.intro hown7 hlenI)))))))
  have HGI := Lib.hid HG.out
  clear p0 p1 p2 p3 pB pR q0 q1 q2 qB qR hb7 hvb3 hV3 hg7 hown7 DO hfl hlen hlenI hRI hk0 hfu hnu hsz HO0 HO1 HO2 HO3 HOB
  go_wp2_with fail
  refine HDO.out.mono ?_
  rintro e w8 ⟨rfl, hown8, hg8⟩
  obtain ⟨q0, q1, q2, qB, qR, hb7, hown7, hlenI⟩ := HQ.out
  have r0 := q0.kept hg8 (rows_apart q0 hown7 (by decide))
  have r1 := q1.kept hg8 (rows_apart q1 hown7 (by decide))
  have r2 := q2.kept hg8 (rows_apart q2 hown7 (by decide))
  have rB := grown_block hg8 qB (row_box hown7 qB (by decide))
  have rR := grown_block hg8 qR (row_box hown7 qR (by decide))
  have hb8 : Below W0.heap.size W0 w8 := hb7.grown hg8 hb7.size (fun k hk => by injection hk with hk; have := (hown7.lt q rfl).1; omega)
  have s3 : w8.cell? ⟨o, 3, none⟩ = some (.slice b3 g.nu d3) := block_cell rB rfl
  have f3 : w8.frozen? ⟨o, 3, none⟩ = false := block_free rB
  have HQ8 := Lib.hid (And.intro r0 (And.intro r1 (And.intro r2 (And.intro rB (And.intro rR (And.intro hb8 (And.intro hown8 hlenI)))))))
  clear q0 q1 q2 qB qR hb7 hown7 r0 r1 r2 rB rR hb8 hown8 hlenI hg8 HDO HQ
  go_upto_region 11 with (fail)
  obtain ⟨w9, hw9⟩ : ∃ w9, w8.setCell ⟨o, 3, none⟩ (.slice (some ⟨q, 0, none⟩) (g.nu + 1) cap) = w9 := ⟨_, rfl⟩
  rw [hw9]
  obtain ⟨r0, r1, r2, rB, rR, hb8, hown8, hlenI⟩ := HQ8.out
  obtain ⟨hso1, _, hso2⟩ := HSZ.out
  have hk9 : Kept (fun k => k = o) w8 w9 := hw9 ▸ kept_set (O := fun k => k = o) (Kept.refl _ _) rfl _
  have tB : w9.heap[o]? = some (.cells #[.slice b0 g.np d0, .slice b1 g.ns d1, .slice b2 g.nm d2, .slice (some ⟨q, 0, none⟩) (g.nu + 1) cap] 27 (0, 0)) := hw9 ▸ cells_setCell rB
  have t0 := own_keep r0 hk9 (row_box r0 rB (by decide))
  have t1 := own_keep r1 hk9 (row_box r1 rB (by decide))
  have t2 := own_keep r2 hk9 (row_box r2 rB (by decide))
  have t3 := own_keep hown8 hk9 (row_box hown8 rB (by decide))
  have tR := (hk9.block (w.heap.size + 2) (lt_of_block rR) (by omega)).trans rR
  have hb9 : Below W0.heap.size W0 w9 := hb8.trans ⟨hk9.os, hk9.tape, hk9.output, hk9.size, fun k hk => hk9.block k (by have := hb8.size; omega) (by omega)⟩
  have m0 : w9.cell? ⟨o, 0, none⟩ = some (.slice b0 g.np d0) := block_cell tB rfl
  have m1 : w9.cell? ⟨o, 1, none⟩ = some (.slice b1 g.ns d1) := block_cell tB rfl
  have m2 : w9.cell? ⟨o, 2, none⟩ = some (.slice b2 g.nm d2) := block_cell tB rfl
  have m3 : w9.cell? ⟨o, 3, none⟩ = some (.slice (some ⟨q, 0, none⟩) (g.nu + 1) cap) := block_cell tB rfl
  have y0 : w9.cell? ⟨w.heap.size + 2, 0, none⟩ = some (.slice none 0 0) := block_cell tR rfl
  have y1 : w9.cell? ⟨w.heap.size + 2, 1, none⟩ = some (.slice none 0 0) := block_cell tR rfl
  have y2 : w9.cell? ⟨w.heap.size + 2, 2, none⟩ = some (.slice none 0 0) := block_cell tR rfl
  have y3 : w9.cell? ⟨w.heap.size + 2, 3, none⟩ = some (.slice none 0 0) := block_cell tR rfl
  have v0 : w9.frozen? ⟨w.heap.size + 2, 0, none⟩ = false := block_free tR
  have v1 : w9.frozen? ⟨w.heap.size + 2, 1, none⟩ = false := block_free tR
  have v2 : w9.frozen? ⟨w.heap.size + 2, 2, none⟩ = false := block_free tR
  have v3 : w9.frozen? ⟨w.heap.size + 2, 3, none⟩ = false := block_free tR
  have HQ9 := Lib.hid (And.intro t0 (And.intro t1 (And.intro t2 (And.intro t3 (And.intro tR (And.intro hb9 hlenI))))))
  clear r0 r1 r2 rB rR hb8 hown8 hlenI hso1 hso2 hk9 tB t0 t1 t2 t3 tR hb9 hw9 s3 f3 HQ8
  go_wp2_with fail
  obtain ⟨t0, t1, t2, t3, tR, hb9, hlenI⟩ := HQ9.out
  obtain ⟨W5, hW5, hr5, hk5, _⟩ := store4 tR (.slice b0 g.np d0) (.slice b1 g.ns d1) (.slice b2 g.nm d2) (.slice (some ⟨q, 0, none⟩) (g.nu + 1) cap)
  have x0 : W5.cell? ⟨w.heap.size + 2, 0, none⟩ = some (.slice b0 g.np d0) := block_cell hr5 rfl
  have x1 : W5.cell? ⟨w.heap.size + 2, 1, none⟩ = some (.slice b1 g.ns d1) := block_cell hr5 rfl
  have x2 : W5.cell? ⟨w.heap.size + 2, 2, none⟩ = some (.slice b2 g.nm d2) := block_cell hr5 rfl
  have x3 : W5.cell? ⟨w.heap.size + 2, 3, none⟩ = some (.slice (some ⟨q, 0, none⟩) (g.nu + 1) cap) := block_cell hr5 rfl
  have low : ∀ b, W0.heap.size ≤ b → ¬ b = w.heap.size + 2 := fun b hb e => by omega
  have z0 := ownsRow_kept t0 hk5 low
  have z1 := ownsRow_kept t1 hk5 low
  have z2 := ownsRow_kept t2 hk5 low
  have z3 := ownsRow_kept t3 hk5 low
  rw [← hlenI, ← flat_range] at z3
  have e0 := ownRow_of (f := g.cellsP) (fun _ => rfl) z0
  have e1 := ownRow_of (f := g.cellsS) (fun _ => rfl) z1
  have e2 := ownRow_of (f := g.cellsM) (fun _ => rfl) z2
  have e3 := ownRow_of (f := fun i => encU ((insU u g.uses).getD i default)) (fun _ => rfl) z3
  have HB5 := Lib.hid (Kept.below (HB.out.trans (hb9.mono hbs)) hk5 (Nat.le_trans hbs hb9.size) (fun k hk e => by omega))
  have HFIN : Hid (RetG w W5 (.returned (.tuple #[garV (g.setU (insU u g.uses)) b0 b1 b2 (some ⟨q, 0, none⟩) d0 d1 d2 cap, .int .i64 0])) gg er) := Lib.hid (by
    rw [HX.out.1, HX.out.2]
    exact ⟨⟨b0, b1, b2, some ⟨q, 0, none⟩, d0, d1, d2, cap, rfl, setU_in HGI.out HRI.out e0.2 e1.2 e2.2 e3.2, e2.1, e3.1⟩, HB5.out⟩)
  try rw [show w.heap.size + 1 + 1 = w.heap.size + 2 from rfl]
  rw [hW5]
  have hlI : (g.setU (insU u g.uses)).nu = g.nu + 1 := hlenI
  exact bodyPost_ret (v := .tuple #[garV (g.setU (insU u g.uses)) b0 b1 b2 (some ⟨q, 0, none⟩) d0 d1 d2 cap, .int .i64 0]) (by unfold garV; rw [hlI]; simp [results, Try.results33, go_sem, x0, x1, x2, x3, Gar.setU]) rfl HFIN.out
end Go.Proofs.Ytbkpoepacjinlaa

/- Gear: slices.DeleteFunc at uses, in a row of the call's own; the closure of Drop. -/
namespace Go.Proofs.Ytbkpoepacjinlaa
open Go.RowKit Go.BigFrame

/-! one element stored -/
theorem flat_set5 : ∀ (l : List Us) (i : Nat) (u : Us), i < l.length →
    ((((((l.flatMap encU).set (i * 5) (.string u.n)).set (i * 5 + 1) (.string u.r)).set (i * 5 + 2) (.int .i64 u.f)).set (i * 5 + 3) (.int .i64 u.s)).set (i * 5 + 4) (.int .i64 u.x)) = (l.set i u).flatMap encU
  | [], _, _, h => absurd h (by simp)
  | a :: l, 0, u, _ => by simp [encU]
  | a :: l, i + 1, u, h => by
    have ih := flat_set5 l i u (by simpa using h)
    rw [List.set_cons_succ, List.flatMap_cons, List.flatMap_cons, ← ih, show (i + 1) * 5 = i * 5 + 1 + 1 + 1 + 1 + 1 by omega]
    simp [encU, List.set_cons_succ]
theorem own_set5 {w : World} {base q n cap : Nat} {l : List Us} (h : w.ownsRow base 38 5 (.slice (some ⟨q, 0, none⟩) n cap) n (l.flatMap encU)) (i : Nat) (hi : i < l.length) (u : Us) :
    ∃ W, (((((w.setCell ⟨q, i * 5, none⟩ (.string u.n)).setCell ⟨q, i * 5 + 1, none⟩ (.string u.r)).setCell ⟨q, i * 5 + 2, none⟩ (.int .i64 u.f)).setCell ⟨q, i * 5 + 3, none⟩ (.int .i64 u.s)).setCell ⟨q, i * 5 + 4, none⟩ (.int .i64 u.x)) = W ∧
      W.ownsRow base 38 5 (.slice (some ⟨q, 0, none⟩) n cap) n ((l.set i u).flatMap encU) ∧ Kept (fun b => b = q) w W := by
  have h1 := (h.stored (i * 5) (.string u.n)).1
  have h2 := (h1.stored (i * 5 + 1) (.string u.r)).1
  have h3 := (h2.stored (i * 5 + 2) (.int .i64 u.f)).1
  have h4 := (h3.stored (i * 5 + 3) (.int .i64 u.s)).1
  have h5 := (h4.stored (i * 5 + 4) (.int .i64 u.x)).1
  rw [flat_set5 l i u hi] at h5
  exact ⟨_, rfl, h5, kept_set (O := fun k => k = q) (kept_set (O := fun k => k = q) (kept_set (O := fun k => k = q) (kept_set (O := fun k => k = q) (kept_set (O := fun k => k = q) (Kept.refl _ _) rfl _) rfl _) rfl _) rfl _) rfl _⟩
/-! cleared from a place on -/
theorem own_setCells {base e k n cap q : Nat} : ∀ (vs : List Value) (o : Nat) {w : World} {xs : List Value}, w.ownsRow base e k (.slice (some ⟨q, 0, none⟩) n cap) n xs →
    ∃ ys, (w.setCells q o vs).ownsRow base e k (.slice (some ⟨q, 0, none⟩) n cap) n ys ∧ ys.take o = xs.take o ∧ Kept (fun b => b = q) w (w.setCells q o vs)
  | [], _, _, xs, h => ⟨xs, h, rfl, Kept.refl _ _⟩
  | v :: vs, o, w, xs, h => by
    obtain ⟨ys, h1, h2, h3⟩ := own_setCells vs (o + 1) (h.stored o v).1
    refine ⟨ys, h1, ?_, (kept_set (O := fun k => k = q) (Kept.refl _ _) rfl _).trans h3⟩
    have := congrArg (List.take o) h2
    rw [List.take_take, List.take_take, Nat.min_eq_left (Nat.le_succ o)] at this
    rw [this, List.take_set_of_le (Nat.le_refl _)]
theorem own_less {w : World} {base e k n n' cap q : Nat} {xs : List Value} (h : w.ownsRow base e k (.slice (some ⟨q, 0, none⟩) n cap) n xs) (hn : n' ≤ n) : w.ownsRow base e k (.slice (some ⟨q, 0, none⟩) n' cap) n' (xs.take (n' * k)) := by
  have hm : n' * k ≤ n * k := Nat.mul_le_mul_right _ hn
  refine ⟨by rw [List.length_take, h.1]; omega, ?_⟩
  rcases h.2 with ⟨h0, _⟩ | ⟨g', cap', cur, hv, hg, hb, h1, h2, h3, h4⟩
  · cases h0
  · injection hv with e1 e2 e3
    injection e1 with e1
    injection e1 with e1
    subst e1
    subst e3
    exact Or.inr ⟨q, cap, cur, rfl, hg, hb, Nat.le_trans hn h1, h2, h3, by rw [← h4, List.take_take, Nat.min_eq_left hm]⟩
theorem flat_take (l : List Us) (i : Nat) : (l.flatMap encU).take (i * 5) = (l.take i).flatMap encU := by
  induction i generalizing l with
  | zero => simp
  | succ i ih =>
    cases l with
    | nil => simp
    | cons a l =>
      rw [List.take_succ_cons, List.flatMap_cons, List.flatMap_cons, ← ih, show (i + 1) * 5 = i * 5 + 1 + 1 + 1 + 1 + 1 by omega]
      simp [encU]
theorem run_clear_row {P : Program} (w : World) (t e ty : TypeId) (z : Value) (ht : P.underlying t = some (.slice e)) (hv : ∀ w, (zeroValue e).run P w = .ok z w) (h1 : ∀ v ∈ z.cells.toList, v.oneCell' = true) (b o n c : Nat) (hn : 0 < n)
    (hc : ∀ j, j < n * z.cells.size → (w.cell? ⟨b, o + j, none⟩).isSome = true) (hf : ∀ j, j < n * z.cells.size → w.frozen? ⟨b, o + j, none⟩ = false) :
    ∃ vs : List Value, (Builtin.clear_ #[t] ty #[.slice (some ⟨b, o, none⟩) n c]).run P w = .ok (.tuple #[]) (w.setCells b o vs) := by
  have hlen : (Builtin.zeroCells z.cells n).toList.length = n * z.cells.size := by simp [Builtin.zeroCells]
  have hone : ∀ v ∈ (Builtin.zeroCells z.cells n).toList, v.oneCell' = true := by
    intro v hv
    simp [Builtin.zeroCells] at hv
    obtain ⟨i, hi, rfl⟩ := hv
    have : 0 < z.cells.size := by
      rcases Nat.eq_zero_or_pos z.cells.size with h | h
      · rw [h] at hi; simp at hi
      · exact h
    have hm := Nat.mod_lt i this
    refine h1 _ ?_
    simp [hm]
  have hst := run_storeCells_cells (P := P) b o (Builtin.zeroCells z.cells n).toList 0 w (by rw [hlen]; simpa using hc) (by rw [hlen]; simpa using hf) hone
  simp only [Nat.add_zero] at hst
  obtain ⟨m, rfl⟩ : ∃ m, n = m + 1 := ⟨n - 1, by omega⟩
  exact ⟨(Builtin.zeroCells z.cells (m + 1)).toList, by simp [Builtin.clear_, run_underlying ht, hv, hst]⟩

/-- the loop of DeleteFunc -/
structure DLp (l : List Us) (p : Us → Bool) (base q cap : Nat) (w wr : World) (i j : Nat) (cur : List Us) : Prop where
  jn : j ≤ l.length
  ij : i < j
  len : cur.length = l.length
  pre : cur.take i = (l.take j).filter (fun u => !p u)
  suf : cur.drop j = l.drop j
  row : wr.ownsRow base 38 5 (.slice (some ⟨q, 0, none⟩) l.length cap) l.length (cur.flatMap encU)
  keep : Kept (fun b => b = q) w wr
section
variable {l : List Us} {p : Us → Bool} {base q cap : Nat} {w wr wx : World} {i j : Nat} {cur : List Us}
theorem take_fil {p : Us → Bool} {l : List Us} {j : Nat} (h : j < l.length) : (l.take (j + 1)).filter (fun u => !p u) = (l.take j).filter (fun u => !p u) ++ if p (l.getD j default) = true then [] else [l.getD j default] := by
  rw [List.take_add_one, List.getElem?_eq_getElem h, List.filter_append, List.getD_eq_getElem?_getD, List.getElem?_eq_getElem h]
  cases hb : p l[j] <;> simp [hb]
theorem DLp.below (h : DLp l p base q cap w wr i j cur) (hb : Below wr.heap.size wr wx) : DLp l p base q cap w wx i j cur := ⟨h.jn, h.ij, h.len, h.pre, h.suf, ownsRow_below h.row hb, h.keep.trans (Kept.of_below hb)⟩
theorem DLp.skip (h : DLp l p base q cap w wr i j cur) (hj : j < l.length) (hp : p (l.getD j default) = true) : DLp l p base q cap w wr i (j + 1) cur := by
  refine ⟨hj, by have := h.ij; omega, h.len, ?_, ?_, h.row, h.keep⟩
  · rw [take_fil hj, if_pos hp, List.append_nil, h.pre]
  · have := congrArg (List.drop 1) h.suf
    rwa [List.drop_drop, List.drop_drop] at this
theorem DLp.put (h : DLp l p base q cap w wr i j cur) (hj : j < l.length) (hp : p (l.getD j default) = false) (hr : wx.ownsRow base 38 5 (.slice (some ⟨q, 0, none⟩) l.length cap) l.length ((cur.set i (l.getD j default)).flatMap encU)) (hk : Kept (fun b => b = q) wr wx) :
    DLp l p base q cap w wx (i + 1) (j + 1) (cur.set i (l.getD j default)) := by
  have hi : i < cur.length := by have := h.ij; have := h.len; omega
  refine ⟨hj, by have := h.ij; omega, by rw [List.length_set, h.len], ?_, ?_, hr, h.keep.trans hk⟩
  · rw [take_fil hj, if_neg (by rw [hp]; simp), ← h.pre, List.take_add_one, List.getElem?_eq_getElem (by simpa using hi), List.take_set_of_le (Nat.le_refl _)]
    simp
  · rw [List.drop_set_of_lt (by have := h.ij; omega)]
    have := congrArg (List.drop 1) h.suf
    rwa [List.drop_drop, List.drop_drop] at this
theorem DLp.cell (h : DLp l p base q cap w wr i j cur) (hj : j < l.length) (t : Nat) (ht : t < 5) : wr.cell? ⟨q, j * 5 + t, none⟩ = (encU (l.getD j default))[t]? := by
  have hjc : j < cur.length := by rw [h.len]; exact hj
  rw [h.row.cellAt (j * 5 + t) (by omega), flat_at (enc := encU) (k := 5) (fun _ => rfl) cur j t hjc ht]
  have e : cur.getD j default = l.getD j default := by
    have := congrArg (fun z : List Us => z[0]?) h.suf
    simp only [List.getElem?_drop, Nat.add_zero] at this
    rw [List.getD_eq_getElem?_getD, List.getD_eq_getElem?_getD, this]
  rw [e]
theorem DLp.done (h : DLp l p base q cap w wr i l.length cur) : cur.take i = l.filter (fun u => !p u) ∧ i = (l.filter (fun u => !p u)).length := by
  have := h.pre
  rw [List.take_length] at this
  refine ⟨this, ?_⟩
  rw [← this, List.length_take, h.len]
  have := h.ij
  omega
end
end Go.Proofs.Ytbkpoepacjinlaa

/- Gear: slices.DeleteFunc at uses: the walk; the closure of Drop. -/
namespace Go.Proofs.Ytbkpoepacjinlaa
open Go.RowKit Go.BigFrame
open Gar (chk momG hasS hasP)

theorem idx_cases (p : Nat → Bool) : ∀ (n k : Nat), (idxF p n k = -1 ∧ ∀ i, k ≤ i → i < k + n → p i = false) ∨ ∃ j : Nat, idxF p n k = j ∧ k ≤ j ∧ j < k + n ∧ p j = true ∧ ∀ i, k ≤ i → i < j → p i = false
  | 0, k => Or.inl ⟨rfl, fun i h1 h2 => by omega⟩
  | n + 1, k => by
    rw [idxF]
    by_cases h : p k = true
    · rw [if_pos h]
      exact Or.inr ⟨k, rfl, Nat.le_refl _, by omega, h, fun i h1 h2 => by omega⟩
    · rw [if_neg h]
      have hk : p k = false := by simpa using h
      have step : ∀ (P : Nat → Prop), (∀ i, k + 1 ≤ i → P i) → P k → ∀ i, k ≤ i → P i := fun P h1 h2 i hi => by
        by_cases e : i = k
        · subst e; exact h2
        · exact h1 i (by omega)
      rcases idx_cases p n (k + 1) with ⟨h1, h2⟩ | ⟨j, h1, h2, h3, h4, h5⟩
      · refine Or.inl ⟨h1, fun i h3 h4 => ?_⟩
        by_cases e : i = k
        · subst e; exact hk
        · exact h2 i (by omega) (by omega)
      · refine Or.inr ⟨j, h1, by omega, by omega, h4, fun i h6 h7 => ?_⟩
        by_cases e : i = k
        · subst e; exact hk
        · exact h5 i (by omega) h7
theorem fil_all {l : List Us} {p : Us → Bool} (h : ∀ i, i < l.length → p (l.getD i default) = false) : l.filter (fun u => !p u) = l := by
  rw [List.filter_eq_self]
  intro u hu
  obtain ⟨i, hi, rfl⟩ := List.getElem_of_mem hu
  have := h i hi
  rw [List.getD_eq_getElem?_getD, List.getElem?_eq_getElem hi] at this
  simpa using this
theorem fil_first {l : List Us} {p : Us → Bool} {j : Nat} (hj : j < l.length) (hp : p (l.getD j default) = true) (h : ∀ i, i < j → p (l.getD i default) = false) : l.take j = (l.take (j + 1)).filter (fun u => !p u) := by
  rw [take_fil hj, if_pos hp, List.append_nil, fil_all]
  intro i hi
  rw [List.length_take] at hi
  have : (l.take j).getD i default = l.getD i default := by
    rw [List.getD_eq_getElem?_getD, List.getD_eq_getElem?_getD, List.getElem?_take_of_lt (by omega)]
  rw [this]
  exact h i (by omega)

set_option maxHeartbeats 4000000 in
set_option maxRecDepth 100000 in
theorem deleteU_any (l : List Us) (p : Us → Bool) (base q cap : Nat) (fid : FuncId) (caps : Array Value) (w : World) (hcf : ∀ args w, Sem.run Try.prog (callFunc fid args) w = .ok (.enter fid args) w)
    (hown : w.ownsRow base 38 5 (.slice (some ⟨q, 0, none⟩) l.length cap) l.length (l.flatMap encU)) (hn : l.length ≤ 5000)
    (hcl : ∀ (u : Us) (W : World), Kept (fun b => b = q) w W → Calls Try.prog fid (#[useV u.n u.r u.f u.s u.x] ++ caps) W fun e w' => e = .returned (.bool (p u)) ∧ Below W.heap.size W w') :
    Calls Try.prog 81 #[.slice (some ⟨q, 0, none⟩) l.length cap, .func (.func fid) #[] caps] w fun e w' =>
      e = .returned (.slice (some ⟨q, 0, none⟩) (l.filter fun u => !p u).length cap) ∧ w'.ownsRow base 38 5 (.slice (some ⟨q, 0, none⟩) (l.filter fun u => !p u).length cap) (l.filter fun u => !p u).length ((l.filter fun u => !p u).flatMap encU) ∧ Kept (fun b => b = q) w w' := by
  have HO := Lib.hid hown
  have HCF := Lib.hid hcf
  have HCL := Lib.hid hcl
  have hrow : RowK w (some ⟨q, 0, none⟩) l.length 5 (fun i => encU (l.getD i default)) := (ownRow_of (f := fun i => encU (l.getD i default)) (fun _ => rfl) (by rw [flat_range]; exact hown)).2
  have hcap := (ownRow_of (f := fun i => encU (l.getD i default)) (fun _ => rfl) (by rw [flat_range]; exact hown)).1
  have hl : (l.length : Int) ≤ 9223372036854775807 := by omega
  have DI0 := idxU_any (Gar.zero.setU l) (some ⟨q, 0, none⟩) cap fid caps hcf (fun i => p (l.getD i default)) w hrow hl (fun k W _ hb => hcl (l.getD k default) W (Kept.of_below hb))
  change Calls _ _ #[.slice (some ⟨q, 0, none⟩) l.length cap, _] _ (fun e w' => e = .returned (.int .i64 (idxF (fun i => p (l.getD i default)) l.length 0)) ∧ _) at DI0
  have DI := Lib.hid DI0
  have HFIN := Lib.hid (fun (i : Nat) (wr : World) (cur : List Us) (h : DLp l p base q cap w wr i l.length cur) => h.done)
  obtain ⟨m, hm⟩ : ∃ m, (l.filter fun u => !p u).length = m := ⟨_, rfl⟩
  have HM := Lib.hid hm
  rw [hm]
  clear hown hcf hcl hrow DI0 hm
  rcases idx_cases (fun i => p (l.getD i default)) l.length 0 with ⟨h1, h2⟩ | ⟨j, h1, h2, h3, h4, h5⟩
  · have HF : Hid (l.filter (fun u => !p u) = l) := Lib.hid (fil_all (fun i hi => h2 i (Nat.zero_le _) (by omega)))
    have HE := Lib.hid (show m = l.length by rw [← HM.out, HF.out])
    rw [h1] at DI
    clear h1 h2
    go_enter Try.func81, Try.ntmps81
    go_wp2_with fail
    refine DI.out.mono ?_
    rintro e w1 ⟨rfl, hb⟩
    have HB := Lib.hid hb
    clear hb
    go_wp2_with fail
    go_ret
    exact ⟨by rw [HE.out]; rfl, by rw [HF.out, HE.out]; exact ownsRow_below HO.out HB.out, Kept.of_below HB.out⟩
  · rw [h1] at DI
    have HJ : Hid (DLp l p base q cap w w j (j + 1) l) := Lib.hid ⟨by omega, by omega, rfl, fil_first (by omega) h4 (fun i hi => h5 i (Nat.zero_le _) hi), rfl, HO.out, Kept.refl _ _⟩
    have hj : j < l.length := by omega
    have t0 : ((j : Int) == -1) = false := by rw [beq_eq_false_iff_ne]; omega
    have hz : ∀ w, (zeroValue 38).run Try.prog w = .ok (.agg #[.string ⟨#[]⟩, .string ⟨#[]⟩, .int .i64 0, .int .i64 0, .int .i64 0]) w := fun w => by kernel_rfl
    have HZ := Lib.hid hz
    have HU := Lib.hid (show Try.prog.underlying 25 = some (.slice 38) by kernel_rfl)
    clear h1 h2 h3 h4 h5 hz
    go_enter Try.func81, Try.ntmps81
    go_wp2_with fail
    refine DI.out.mono ?_
    rintro e w1 ⟨rfl, hb⟩
    have HJ1 := Lib.hid (HJ.out.below hb)
    clear hb DI
    go_wp2_with fail
    go_loopw [5, 6] (fun iv jv wr => ∃ (i k : Nat) (cur : List Us), iv = .int .i64 i ∧ jv = .int .i64 k ∧ k ≤ l.length ∧ i < k ∧ Hid (DLp l p base q cap w wr i k cur)) (fun _ jv _ => l.length - (intOf jv).toNat)
    case atStart => exact ⟨j, j + 1, l, rfl, by go_num, by omega, by omega, HJ1⟩
    case round =>
      obtain ⟨i, k, cur, rfl, rfl, hk, hik, HD⟩ := hrel
      by_cases hlt : k < l.length
      · have t1 : decide ((k : Int) < (l.length : Int)) = true := by rw [decide_eq_true_eq]; omega
        have t1' : decide (k < l.length) = true := by simpa using hlt
        have t2 : (k : Int) < (l.length : Int) := by omega
        have t3 : (i : Int) < (l.length : Int) := by omega
        have e0 : wr.cell? ⟨q, k * 5, none⟩ = some (.string (l.getD k default).n) := HD.out.cell hlt 0 (by omega)
        have e1 : wr.cell? ⟨q, k * 5 + 1, none⟩ = some (.string (l.getD k default).r) := HD.out.cell hlt 1 (by omega)
        have e2 : wr.cell? ⟨q, k * 5 + 2, none⟩ = some (.int .i64 (l.getD k default).f) := HD.out.cell hlt 2 (by omega)
        have e3 : wr.cell? ⟨q, k * 5 + 3, none⟩ = some (.int .i64 (l.getD k default).s) := HD.out.cell hlt 3 (by omega)
        have e4 : wr.cell? ⟨q, k * 5 + 4, none⟩ = some (.int .i64 (l.getD k default).x) := HD.out.cell hlt 4 (by omega)
        have D := Lib.hid (fun (W : World) (h : Kept (fun b => b = q) w W) => HCL.out (l.getD k default) W h)
        have HP := Lib.hid (fun (wx : World) (h : DLp l p base q cap w wx i k cur) (hp : p (l.getD k default) = true) => h.skip hlt hp)
        have HQ := Lib.hid (fun (wx wy : World) (h : DLp l p base q cap w wx i k cur) (hp : p (l.getD k default) = false) => h.put (wx := wy) hlt hp)
        unfold useV at D
        generalize l.getD k default = u at *
        obtain ⟨V1, hV1, hvb, hvs, hvl⟩ := alloc_cells wr #[.string u.n, .string u.r, .int .i64 u.f, .int .i64 u.s, .int .i64 u.x] 38
        have hcf := HCF.out
        have HV1 := Lib.hid hV1
        clear hV1
        go_upto_region 8 with (fail)
        rw [HV1.out]
        have v0 : V1.cell? ⟨wr.heap.size, 0, none⟩ = some (.string u.n) := hvl 0 _ rfl
        have v1 : V1.cell? ⟨wr.heap.size, 1, none⟩ = some (.string u.r) := hvl 1 _ rfl
        have v2 : V1.cell? ⟨wr.heap.size, 2, none⟩ = some (.int .i64 u.f) := hvl 2 _ rfl
        have v3 : V1.cell? ⟨wr.heap.size, 3, none⟩ = some (.int .i64 u.s) := hvl 3 _ rfl
        have v4 : V1.cell? ⟨wr.heap.size, 4, none⟩ = some (.int .i64 u.x) := hvl 4 _ rfl
        have HD1 := Lib.hid (HD.out.below hvb)
        have D1 := Lib.hid (D.out V1 HD1.out.keep)
        clear e0 e1 e2 e3 e4 hvb hvs hvl HD D
        cases hb : p u
        · rw [hb] at D1
          have HQ1 := Lib.hid (fun (wx wy : World) (h : DLp l p base q cap w wx i k cur) => HQ.out wx wy h hb)
          clear hb HP HQ
          go_wp2_with fail
          refine D1.out.mono ?_
          rintro e w2 ⟨rfl, hb2⟩
          have HD2 := Lib.hid (HD1.out.below hb2)
          have z0 := below_cell hb2 v0
          have z1 := below_cell hb2 v1
          have z2 := below_cell hb2 v2
          have z3 := below_cell hb2 v3
          have z4 := below_cell hb2 v4
          have hic : i < cur.length := by rw [HD2.out.len]; omega
          have row := fun (t : Nat) (ht : t < 5) => HD2.out.row.cellAt (i * 5 + t) (by omega)
          have c0 : w2.cell? ⟨q, i * 5, none⟩ = some (.string (cur.getD i default).n) := (row 0 (by omega)).trans (flat_at (enc := encU) (k := 5) (fun _ => rfl) cur i 0 hic (by omega))
          have c1 : w2.cell? ⟨q, i * 5 + 1, none⟩ = some (.string (cur.getD i default).r) := (row 1 (by omega)).trans (flat_at (enc := encU) (k := 5) (fun _ => rfl) cur i 1 hic (by omega))
          have c2 : w2.cell? ⟨q, i * 5 + 2, none⟩ = some (.int .i64 (cur.getD i default).f) := (row 2 (by omega)).trans (flat_at (enc := encU) (k := 5) (fun _ => rfl) cur i 2 hic (by omega))
          have c3 : w2.cell? ⟨q, i * 5 + 3, none⟩ = some (.int .i64 (cur.getD i default).s) := (row 3 (by omega)).trans (flat_at (enc := encU) (k := 5) (fun _ => rfl) cur i 3 hic (by omega))
          have c4 : w2.cell? ⟨q, i * 5 + 4, none⟩ = some (.int .i64 (cur.getD i default).x) := (row 4 (by omega)).trans (flat_at (enc := encU) (k := 5) (fun _ => rfl) cur i 4 hic (by omega))
          have f0 := HD2.out.row.frozenAt (i * 5)
          have f1 := HD2.out.row.frozenAt (i * 5 + 1)
          have f2 := HD2.out.row.frozenAt (i * 5 + 2)
          have f3 := HD2.out.row.frozenAt (i * 5 + 3)
          have f4 := HD2.out.row.frozenAt (i * 5 + 4)
          obtain ⟨W3, hW3, hr3, hk3⟩ := own_set5 HD2.out.row i hic u
          have HD3 := Lib.hid (HQ1.out w2 W3 HD2.out hr3 hk3)
          have HW3 := Lib.hid hW3
          clear hb2 row hic hW3 hr3 hk3 v0 v1 v2 v3 v4 HQ1 D1
          go_upto_region 10 with (fail)
          rw [HW3.out]
          clear z0 z1 z2 z3 z4 c0 c1 c2 c3 c4 f0 f1 f2 f3 f4
          go_wp2_with fail
          go_roundw
          case rel => exact ⟨i + 1, k + 1, _, by go_num, by go_num, by omega, by omega, HD3⟩
          case measure => simp [intOf]; omega
        · rw [hb] at D1
          have HP1 := Lib.hid (fun (wx : World) (h : DLp l p base q cap w wx i k cur) => HP.out wx h hb)
          clear hb HP HQ
          go_wp2_with fail
          refine D1.out.mono ?_
          rintro e w2 ⟨rfl, hb2⟩
          have HD3 := Lib.hid (HP1.out w2 (HD1.out.below hb2))
          clear hb2 HP1 D1 v0 v1 v2 v3 v4
          go_wp2_with fail
          go_roundw
          case rel => exact ⟨i, k + 1, cur, rfl, by go_num, by omega, by omega, HD3⟩
          case measure => simp [intOf]; omega
      · have t1 : decide ((k : Int) < (l.length : Int)) = false := by rw [decide_eq_false_iff_not]; omega
        have t1' : decide (k < l.length) = false := by simpa using hlt
        obtain rfl : k = l.length := by omega
        obtain ⟨hd1, hd2⟩ := HFIN.out i wr cur HD.out
        have HD1 := Lib.hid hd1
        have hzn : (Try.prog.info? 38).map (fun i => (i.zero, i.size, i.bytes)) = some (some (.agg #[.string ⟨#[]⟩, .string ⟨#[]⟩, .int .i64 0, .int .i64 0, .int .i64 0]), 5, 56) := by kernel_rfl
        obtain ⟨vs, hvs⟩ := run_clear_row (P := Try.prog) wr 25 38 0 (.agg #[.string ⟨#[]⟩, .string ⟨#[]⟩, .int .i64 0, .int .i64 0, .int .i64 0]) HU.out HZ.out (by decide) q (i * 5) (l.length - i) (cap - i) (by omega)
          (fun t ht => by
            have h5 : t < (l.length - i) * 5 := ht
            rw [HD.out.row.cellAt (i * 5 + t) (by omega)]
            rw [List.getElem?_eq_getElem (by rw [flat_len (enc := encU) (k := 5) (fun _ => rfl), HD.out.len]; omega)]
            rfl)
          (fun t _ => HD.out.row.frozenAt (i * 5 + t))
        obtain ⟨ys, hy1, hy2, hy3⟩ := own_setCells vs (i * 5) HD.out.row
        have hy4 := own_less hy1 (show i ≤ l.length by omega)
        rw [hy2, flat_take, hd1] at hy4
        have HY := Lib.hid (show _ from hy4)
        have HK := Lib.hid (HD.out.keep.trans hy3)
        have HMI := Lib.hid (show m = i by rw [← HM.out, ← hd2])
        obtain ⟨W3, hW3⟩ : ∃ W, wr.setCells q (i * 5) vs = W := ⟨_, rfl⟩
        rw [hW3] at HY HK hvs
        have hil : (i : Int) ≤ (l.length : Int) := by omega
        have hic : (i : Int) ≤ (cap : Int) := by omega
        have hi0 : ¬ i = cap := by omega
        clear hd1 hd2 hy1 hy2 hy3 hy4 hzn hW3 hlt
        go_wp2_with fail
        go_ret
        exact ⟨by rw [HMI.out]; rfl, by rw [HMI.out]; exact HY.out, HK.out⟩
end Go.Proofs.Ytbkpoepacjinlaa

/- Gear: Drop of the program. -/
namespace Go.Proofs.Ytbkpoepacjinlaa
open Go.RowKit Go.BigFrame
open Gar (chk momG hasS hasP without dropErr dropG)

set_option maxHeartbeats 1000000 in
theorem dropCl_any (n r : ByteArray) (f s x : Int) (nm : ByteArray) (p : Nat) (w : World) (hc : w.cell? ⟨p, 0, none⟩ = some (.string nm)) :
    Calls Try.prog 82 #[useV n r f s x, .pointer (some ⟨p, 0, none⟩)] w fun e w' => e = .returned (.bool (decide (n = nm))) ∧ Below w.heap.size w w' := by
  unfold useV
  have hse := str_eq n nm
  obtain ⟨W, hW, hb, hs, hl⟩ := alloc_cells w #[.string n, .string r, .int .i64 f, .int .i64 s, .int .i64 x] 38
  have m0 := hl 0 _ rfl
  have n0 := below_cell hb hc
  have HW := Lib.hid hW
  have HB := Lib.hid hb
  clear hW hb hs hl hc
  generalize decide (n = nm) = bb at hse ⊢
  go_enter Try.func82, Try.ntmps82
  go_upto_region 1 with (fail)
  rw [HW.out]
  go_wp2_with fail
  go_ret
  exact ⟨rfl, HB.out⟩
set_option maxHeartbeats 1000000 in
set_option maxRecDepth 100000 in
/-- DeleteFunc at a row of the call's own, nil or not -/
theorem deleteU_own (l : List Us) (p : Us → Bool) (base : Nat) (a : Option Addr) (cap : Nat) (fid : FuncId) (caps : Array Value) (w : World) (hcf : ∀ args w, Sem.run Try.prog (callFunc fid args) w = .ok (.enter fid args) w)
    (hown : w.ownsRow base 38 5 (.slice a l.length cap) l.length (l.flatMap encU)) (hn : l.length ≤ 5000)
    (hcl : ∀ (u : Us) (W : World), Kept (fun b => (Value.slice a l.length cap).ownBlock = some b) w W → Calls Try.prog fid (#[useV u.n u.r u.f u.s u.x] ++ caps) W fun e w' => e = .returned (.bool (p u)) ∧ Below W.heap.size W w') :
    Calls Try.prog 81 #[.slice a l.length cap, .func (.func fid) #[] caps] w fun e w' =>
      e = .returned (.slice a (l.filter fun u => !p u).length cap) ∧ w'.ownsRow base 38 5 (.slice a (l.filter fun u => !p u).length cap) (l.filter fun u => !p u).length ((l.filter fun u => !p u).flatMap encU) ∧ w.grownBy w' (Value.slice a l.length cap).ownBlock := by
  cases a with
  | none =>
    have h0 : l = [] := by
      rcases hown.2 with ⟨_, h⟩ | ⟨q, c, cur, h, _⟩
      · exact List.length_eq_zero_iff.1 h
      · cases h
    subst h0
    have DI0 := idxU_any (Gar.zero.setU []) none cap fid caps hcf (fun i => p (([] : List Us).getD i default)) w ⟨fun h => absurd h (by simp [Gar.setU])⟩ (by simp [Gar.setU]) (fun k W hk _ => absurd hk (by simp [Gar.setU]))
    change Calls _ _ #[.slice none 0 cap, _] _ (fun e w' => e = .returned (.int .i64 (-1)) ∧ _) at DI0
    have DI := Lib.hid DI0
    have HO := Lib.hid hown
    clear DI0 hown hcl hcf
    go_enter Try.func81, Try.ntmps81
    go_wp2_with fail
    refine DI.out.mono ?_
    rintro e w1 ⟨rfl, hb⟩
    have HB := Lib.hid hb
    clear hb
    go_wp2_with fail
    go_ret
    exact ⟨rfl, ownsRow_below HO.out HB.out, ⟨HB.out.os, HB.out.tape, HB.out.output, HB.out.size, fun b hb _ => HB.out.block b hb⟩⟩
  | some ad =>
    obtain ⟨q, rfl⟩ : ∃ q, ad = ⟨q, 0, none⟩ := by
      rcases hown.2 with ⟨h, _⟩ | ⟨q, c, cur, h, _⟩
      · cases h
      · injection h with h1 _ _
        injection h1 with h1
        exact ⟨q, h1⟩
    refine (deleteU_any l p base q cap fid caps w hcf hown hn (fun u W hk => hcl u W ⟨hk.os, hk.tape, hk.output, hk.size, fun b hb h => hk.block b hb (fun e => h (by rw [e]; rfl))⟩)).mono ?_
    rintro e w' ⟨rfl, h1, h2⟩
    exact ⟨rfl, h1, ⟨h2.os, h2.tape, h2.output, h2.size, fun b hb h => h2.block b hb (fun e => h (by rw [e]; rfl))⟩⟩
theorem without_right {g : Gar} (h : chk g = 0) (nm : ByteArray) : RightU (without nm g.uses) := (Gar.right_uses h).sub (List.filter_sublist)
theorem without_len (g : Gar) (nm : ByteArray) : (without nm g.uses).length ≤ g.nu := by
  have := (List.filter_sublist (p := fun y : Us => !decide (y.n = nm)) (l := g.uses)).length_le
  rwa [Gar.uses_len] at this

set_option maxHeartbeats 8000000 in
set_option maxRecDepth 100000 in
theorem drop_any (g : Gar) (a0 a1 a2 a3 : Option Addr) (c0 c1 c2 c3 : Nat) (nm : ByteArray) (w : World) (h : GarIn w g a0 a1 a2 a3) :
    Calls Try.prog 35 #[garV g a0 a1 a2 a3 c0 c1 c2 c3, .string nm] w fun e w' => RetG w w' e (dropG g nm) (dropErr g nm) := by
  have HG := Lib.hid h
  obtain ⟨W0, hW0, hb0, hs0', hq0⟩ := allocs w [.cells #[.slice a0 g.np c0, .slice a1 g.ns c1, .slice a2 g.nm c2, .slice a3 g.nu c3] 27, .cells #[.string nm] 9, .cells #[.slice none 0 0, .slice none 0 0, .slice none 0 0, .slice none 0 0] 27]
  have hs0 : W0.heap.size = w.heap.size + 3 := hs0'
  clear hs0'
  have G0 := Ext.ex (show W0.cell? ⟨w.heap.size, 0, none⟩ = some (.slice a0 g.np c0) from block_cell (hq0 0 _ rfl) rfl)
  have G1 := Ext.ex (show W0.cell? ⟨w.heap.size, 1, none⟩ = some (.slice a1 g.ns c1) from block_cell (hq0 0 _ rfl) rfl)
  have G2 := Ext.ex (show W0.cell? ⟨w.heap.size, 2, none⟩ = some (.slice a2 g.nm c2) from block_cell (hq0 0 _ rfl) rfl)
  have G3 := Ext.ex (show W0.cell? ⟨w.heap.size, 3, none⟩ = some (.slice a3 g.nu c3) from block_cell (hq0 0 _ rfl) rfl)
  have U0 := Ext.ex (show W0.cell? ⟨w.heap.size + 1, 0, none⟩ = some (.string nm) from block_cell (hq0 1 _ rfl) rfl)
  have HR := Lib.hid (fun (X : Ext W0) => below_block X.2 (hq0 2 _ rfl))
  have Z0 : ∀ X : Ext W0, X.1.cell? ⟨w.heap.size + 2, 0, none⟩ = some (.slice none 0 0) := fun X => block_cell (HR.out X) rfl
  have Z1 : ∀ X : Ext W0, X.1.cell? ⟨w.heap.size + 2, 1, none⟩ = some (.slice none 0 0) := fun X => block_cell (HR.out X) rfl
  have Z2 : ∀ X : Ext W0, X.1.cell? ⟨w.heap.size + 2, 2, none⟩ = some (.slice none 0 0) := fun X => block_cell (HR.out X) rfl
  have Z3 : ∀ X : Ext W0, X.1.cell? ⟨w.heap.size + 2, 3, none⟩ = some (.slice none 0 0) := fun X => block_cell (HR.out X) rfl
  have F0 : ∀ X : Ext W0, X.1.frozen? ⟨w.heap.size + 2, 0, none⟩ = false := fun X => block_free (HR.out X)
  have F1 : ∀ X : Ext W0, X.1.frozen? ⟨w.heap.size + 2, 1, none⟩ = false := fun X => block_free (HR.out X)
  have F2 : ∀ X : Ext W0, X.1.frozen? ⟨w.heap.size + 2, 2, none⟩ = false := fun X => block_free (HR.out X)
  have F3 : ∀ X : Ext W0, X.1.frozen? ⟨w.heap.size + 2, 3, none⟩ = false := fun X => block_free (HR.out X)
  have HW0 := Lib.hid (show ((w.alloc (.cells #[.slice a0 g.np c0, .slice a1 g.ns c1, .slice a2 g.nm c2, .slice a3 g.nu c3] 27)).alloc (.cells #[.string nm] 9)).alloc (.cells #[.slice none 0 0, .slice none 0 0, .slice none 0 0, .slice none 0 0] 27) = W0 from hW0)
  have HB := Lib.hid hb0
  have hbs : w.heap.size ≤ W0.heap.size := by omega
  have hmf : ∀ fn first cap w, (Instr.makeFunc fn first cap).run Try.prog w = .ok (.func fn first cap) w := fun _ _ _ _ => rfl
  have DK := Lib.hid (fun (Y : Ext W0) => gCheck_any g a0 a1 a2 a3 c0 c1 c2 c3 Y.1 (HG.out.below (Y.down HB.out hbs)))
  have DC0 := Lib.hid (fun (hk : chk g = 0) (Y : Ext W0) => cloned_any g a0 a1 a2 a3 c0 c1 c2 c3 Y.1 (HG.out.below (Y.down HB.out hbs)) hk)
  obtain ⟨er, her⟩ : ∃ x, dropErr g nm = x := ⟨_, rfl⟩
  obtain ⟨gg, hgg⟩ : ∃ x, dropG g nm = x := ⟨_, rfl⟩
  rw [her, hgg]
  have HE := Lib.hid her
  have HGG := Lib.hid hgg
  unfold garV at DK DC0
  unfold garV
  clear h hW0 hb0 hq0 her hgg
  by_cases k1 : chk g = 0
  case neg =>
    have HX : Hid (gg = Gar.zero ∧ er = chk g) := Lib.hid (by
      have e : dropErr g nm = chk g := by unfold dropErr; rw [if_pos k1]
      have := HE.out
      have h2 := HGG.out
      unfold dropG at h2
      rw [if_neg (by rw [e]; exact k1)] at h2
      exact ⟨h2.symm, by rw [← this, e]⟩)
    have n1 : (chk g != 0) = true := by rw [bne_iff_ne]; exact k1
    clear k1 DC0 HE HGG
    generalize chk g = ck at *
    go_enter Try.func35, Try.ntmps35
    go_upto_region 1 with (fail)
    rw [HW0.out]
    refine ext_wp fun X => ?_
    go_wp2_with fail
    refine (Ext.calls _ (DK.out _)).mono ?_
    rintro e w2 ⟨rfl, Y, rfl⟩
    go_wp2_with fail
    obtain ⟨W5, hW5, hr5, hk5, _⟩ := store4 (HR.out Y) (.slice none 0 0) (.slice none 0 0) (.slice none 0 0) (.slice none 0 0)
    have x0 : W5.cell? ⟨w.heap.size + 2, 0, none⟩ = some (.slice none 0 0) := block_cell hr5 rfl
    have x1 : W5.cell? ⟨w.heap.size + 2, 1, none⟩ = some (.slice none 0 0) := block_cell hr5 rfl
    have x2 : W5.cell? ⟨w.heap.size + 2, 2, none⟩ = some (.slice none 0 0) := block_cell hr5 rfl
    have x3 : W5.cell? ⟨w.heap.size + 2, 3, none⟩ = some (.slice none 0 0) := block_cell hr5 rfl
    have HB5 := Lib.hid (Kept.below (Y.down HB.out hbs) hk5 (Nat.le_trans hbs Y.2.size) (fun k hk e => by omega))
    try rw [show w.heap.size + 1 + 1 = w.heap.size + 2 from rfl]
    rw [hW5]
    clear hW5 hr5 hk5
    exact bodyPost_ret (v := .tuple #[garV Gar.zero none none none none 0 0 0 0, .int .i64 ck]) (by unfold garV; simp [results, Try.results35, go_sem, x0, x1, x2, x3, Gar.zero]) rfl (by rw [HX.out.1, HX.out.2]; exact RetG.zero HB5.out)
  rw [k1] at DK
  have n1 : ((0 : Int) != 0) = false := rfl
  have DC := Lib.hid (DC0.out k1)
  have HK1 := Lib.hid k1
  have hnu : g.nu ≤ 5000 := (Gar.chk_parts k1).2.2.2.1
  obtain ⟨m, hm⟩ : ∃ m, (without nm g.uses).length = m := ⟨_, rfl⟩
  have hmn : m ≤ g.nu := hm ▸ without_len g nm
  have HX : Hid (if m = g.nu then gg = Gar.zero ∧ er = 4 else gg = g.setU (without nm g.uses) ∧ er = 0) := Lib.hid (by
    have e : dropErr g nm = if m = g.nu then 4 else 0 := by unfold dropErr; rw [if_neg (by rw [k1]; simp), hm]
    have h2 := HGG.out
    have h3 := HE.out
    unfold dropG at h2
    split
    · rename_i hh
      rw [if_pos hh] at e
      rw [if_neg (by rw [e]; simp)] at h2
      exact ⟨h2.symm, h3.symm.trans e⟩
    · rename_i hh
      rw [if_neg hh] at e
      rw [if_pos e] at h2
      exact ⟨h2.symm, h3.symm.trans e⟩)
  have HM := Lib.hid hm
  clear k1 DC0 HE HGG hm
  go_enter Try.func35, Try.ntmps35
  go_upto_region 1 with (fail)
  rw [HW0.out]
  refine ext_wp fun X => ?_
  go_wp2_with fail
  refine (Ext.calls _ (DK.out _)).mono ?_
  rintro e w2 ⟨rfl, Y4, rfl⟩
  go_wp2_with fail
  refine (DC.out _).mono ?_
  rintro e w5 ⟨b0, b1, b2, b3, d0, d1, d2, d3, rfl, hog, hb5⟩
  have HOG := Lib.hid hog
  have HB5 := Lib.hid hb5
  obtain ⟨Y5, rfl⟩ : ∃ Y : Ext W0, w5 = Y.1 := ⟨⟨w5, Y4.2.trans (hb5.mono Y4.2.size)⟩, rfl⟩
  clear hog hb5
  go_upto_region 5 with (fail)
  obtain ⟨V2, hV2, hvb2, hvs2, hvq2⟩ := alloc_block Y5.1 #[.slice b0 g.np d0, .slice b1 g.ns d1, .slice b2 g.nm d2, .slice b3 g.nu d3] 27
  rw [hV2]
  obtain ⟨o, ho⟩ : ∃ o, Y5.1.heap.size = o := ⟨_, rfl⟩
  rw [ho] at hvs2 hvq2 ⊢
  have hbase : W0.heap.size ≤ Y4.1.heap.size := Y4.2.size
  have hO0 := ownsRow_below (ownsRow_lower HOG.out.o0 hbase) hvb2
  have hO1 := ownsRow_below (ownsRow_lower HOG.out.o1 hbase) hvb2
  have hO2 := ownsRow_below (ownsRow_lower HOG.out.o2 hbase) hvb2
  have hO3 := ownsRow_below (ownsRow_lower HOG.out.o3 hbase) hvb2
  have hy5 := Y5.2.size
  obtain ⟨Y6, rfl⟩ : ∃ Y : Ext W0, V2 = Y.1 := ⟨⟨V2, below_step Y5.2 hvb2⟩, rfl⟩
  have k3 : Y6.1.cell? ⟨o, 3, none⟩ = some (.slice b3 g.nu d3) := block_cell hvq2 rfl
  have HO0 := Lib.hid hO0
  have HO1 := Lib.hid hO1
  have HO2 := Lib.hid hO2
  have HO3 := Lib.hid hO3
  have HOB := Lib.hid hvq2
  have HSZ : Hid (o = Y5.1.heap.size ∧ Y6.1.heap.size = o + 1 ∧ W0.heap.size ≤ o) := Lib.hid ⟨ho.symm, hvs2, by omega⟩
  have hown3 : Y6.1.ownsRow W0.heap.size 38 5 (.slice b3 g.uses.length d3) g.uses.length (g.uses.flatMap encU) := by
    rw [← uses_flat, Gar.uses_len]
    exact hO3
  have DD0 := deleteU_own g.uses (fun u => decide (u.n = nm)) W0.heap.size b3 d3 82 #[.pointer (some ⟨w.heap.size + 1, 0, none⟩)] Y6.1 (fun _ _ => rfl) hown3 (by rw [Gar.uses_len]; exact hnu)
    (fun u W hk => dropCl_any u.n u.r u.f u.s u.x nm (w.heap.size + 1) W (hk.cell (p := ⟨w.heap.size + 1, 0, none⟩) (fun e => by have h1 : W0.heap.size ≤ w.heap.size + 1 := (hown3.lt _ e).1; omega) (U0 Y6)))
  rw [Gar.uses_len] at DD0
  change Calls _ _ _ _ (fun e w' => e = .returned (.slice b3 (without nm g.uses).length d3) ∧ w'.ownsRow W0.heap.size 38 5 (.slice b3 (without nm g.uses).length d3) (without nm g.uses).length ((without nm g.uses).flatMap encU) ∧ Y6.1.grownBy w' (Value.slice b3 g.nu d3).ownBlock) at DD0
  rw [HM.out] at DD0
  have DD := Lib.hid DD0
  clear hO0 hO1 hO2 hO3 hvb2 hvq2 hvs2 hV2 HOG HB5 ho hy5 hbase hown3 DD0
  go_wp2_with fail
  refine DD.out.mono ?_
  rintro e w8 ⟨rfl, hown8, hg8⟩
  have r0 := HO0.out.kept hg8 (rows_apart HO0.out HO3.out (by decide))
  have r1 := HO1.out.kept hg8 (rows_apart HO1.out HO3.out (by decide))
  have r2 := HO2.out.kept hg8 (rows_apart HO2.out HO3.out (by decide))
  have rB := grown_block hg8 HOB.out (row_box HO3.out HOB.out (by decide))
  have hb8 : Below W0.heap.size W0 w8 := Y6.2.grown hg8 Y6.2.size (fun k hk => (HO3.out.lt k hk).1)
  have s3 : w8.cell? ⟨o, 3, none⟩ = some (.slice b3 g.nu d3) := block_cell rB rfl
  have f3 : w8.frozen? ⟨o, 3, none⟩ = false := block_free rB
  have HQ8 := Lib.hid (And.intro r0 (And.intro r1 (And.intro r2 (And.intro rB (And.intro hb8 hown8)))))
  clear r0 r1 r2 rB hb8 hown8 hg8 DD HO0 HO1 HO2 HO3 HOB k3
  go_upto_region 6 with (fail)
  obtain ⟨w9, hw9⟩ : ∃ w9, w8.setCell ⟨o, 3, none⟩ (.slice b3 m d3) = w9 := ⟨_, rfl⟩
  rw [hw9]
  obtain ⟨r0, r1, r2, rB, hb8, hown8⟩ := HQ8.out
  obtain ⟨hso1, _, hso2⟩ := HSZ.out
  have hk9 : Kept (fun k => k = o) w8 w9 := hw9 ▸ kept_set (O := fun k => k = o) (Kept.refl _ _) rfl _
  have tB : w9.heap[o]? = some (.cells #[.slice b0 g.np d0, .slice b1 g.ns d1, .slice b2 g.nm d2, .slice b3 m d3] 27 (0, 0)) := hw9 ▸ cells_setCell rB
  have t0 := own_keep r0 hk9 (row_box r0 rB (by decide))
  have t1 := own_keep r1 hk9 (row_box r1 rB (by decide))
  have t2 := own_keep r2 hk9 (row_box r2 rB (by decide))
  have t3 := own_keep hown8 hk9 (row_box hown8 rB (by decide))
  have hb9 : Below W0.heap.size W0 w9 := hb8.trans ⟨hk9.os, hk9.tape, hk9.output, hk9.size, fun k hk => hk9.block k (by have := hb8.size; omega) (by omega)⟩
  obtain ⟨Y9, rfl⟩ : ∃ Y : Ext W0, w9 = Y.1 := ⟨⟨w9, hb9⟩, rfl⟩
  have m0 : Y9.1.cell? ⟨o, 0, none⟩ = some (.slice b0 g.np d0) := block_cell tB rfl
  have m1 : Y9.1.cell? ⟨o, 1, none⟩ = some (.slice b1 g.ns d1) := block_cell tB rfl
  have m2 : Y9.1.cell? ⟨o, 2, none⟩ = some (.slice b2 g.nm d2) := block_cell tB rfl
  have m3 : Y9.1.cell? ⟨o, 3, none⟩ = some (.slice b3 m d3) := block_cell tB rfl
  have HQ9 := Lib.hid (And.intro t0 (And.intro t1 (And.intro t2 t3)))
  clear r0 r1 r2 rB hb8 hown8 hso1 hso2 hk9 tB t0 t1 t2 t3 hb9 hw9 s3 f3 HQ8
  by_cases hmm : m = g.nu
  · have hx := HX.out
    rw [if_pos hmm] at hx
    have HX2 := Lib.hid hx
    have t1 : ((m : Int) == (g.nu : Int)) = true := by rw [beq_iff_eq]; omega
    have t1' : (m == g.nu) = true := by rw [beq_iff_eq]; exact hmm
    clear hx HX hmm
    go_wp2_with fail
    obtain ⟨W5, hW5, hr5, hk5, _⟩ := store4 (HR.out Y9) (.slice none 0 0) (.slice none 0 0) (.slice none 0 0) (.slice none 0 0)
    have x0 : W5.cell? ⟨w.heap.size + 2, 0, none⟩ = some (.slice none 0 0) := block_cell hr5 rfl
    have x1 : W5.cell? ⟨w.heap.size + 2, 1, none⟩ = some (.slice none 0 0) := block_cell hr5 rfl
    have x2 : W5.cell? ⟨w.heap.size + 2, 2, none⟩ = some (.slice none 0 0) := block_cell hr5 rfl
    have x3 : W5.cell? ⟨w.heap.size + 2, 3, none⟩ = some (.slice none 0 0) := block_cell hr5 rfl
    have HB5 := Lib.hid (Kept.below (Y9.down HB.out hbs) hk5 (Nat.le_trans hbs Y9.2.size) (fun k hk e => by omega))
    try rw [show w.heap.size + 1 + 1 = w.heap.size + 2 from rfl]
    rw [hW5]
    clear hW5 hr5 hk5
    exact bodyPost_ret (v := .tuple #[garV Gar.zero none none none none 0 0 0 0, .int .i64 4]) (by unfold garV; simp [results, Try.results35, go_sem, x0, x1, x2, x3, Gar.zero]) rfl (by rw [HX2.out.1, HX2.out.2]; exact RetG.zero HB5.out)
  · have hx := HX.out
    rw [if_neg hmm] at hx
    have HX2 := Lib.hid hx
    have t1 : ((m : Int) == (g.nu : Int)) = false := by rw [beq_eq_false_iff_ne]; omega
    have t1' : (m == g.nu) = false := by rw [beq_eq_false_iff_ne]; exact hmm
    clear hx HX hmm
    go_wp2_with fail
    obtain ⟨t0, t1, t2, t3⟩ := HQ9.out
    obtain ⟨W5, hW5, hr5, hk5, _⟩ := store4 (HR.out Y9) (.slice b0 g.np d0) (.slice b1 g.ns d1) (.slice b2 g.nm d2) (.slice b3 m d3)
    have x0 : W5.cell? ⟨w.heap.size + 2, 0, none⟩ = some (.slice b0 g.np d0) := block_cell hr5 rfl
    have x1 : W5.cell? ⟨w.heap.size + 2, 1, none⟩ = some (.slice b1 g.ns d1) := block_cell hr5 rfl
    have x2 : W5.cell? ⟨w.heap.size + 2, 2, none⟩ = some (.slice b2 g.nm d2) := block_cell hr5 rfl
    have x3 : W5.cell? ⟨w.heap.size + 2, 3, none⟩ = some (.slice b3 m d3) := block_cell hr5 rfl
    have low : ∀ b, W0.heap.size ≤ b → ¬ b = w.heap.size + 2 := fun b hb e => by omega
    have z0 := ownsRow_kept t0 hk5 low
    have z1 := ownsRow_kept t1 hk5 low
    have z2 := ownsRow_kept t2 hk5 low
    have z3 := ownsRow_kept t3 hk5 low
    rw [← HM.out, ← flat_range] at z3
    have e0 := ownRow_of (f := g.cellsP) (fun _ => rfl) z0
    have e1 := ownRow_of (f := g.cellsS) (fun _ => rfl) z1
    have e2 := ownRow_of (f := g.cellsM) (fun _ => rfl) z2
    have e3 := ownRow_of (f := fun i => encU ((without nm g.uses).getD i default)) (fun _ => rfl) z3
    have HB5 := Lib.hid (Kept.below (Y9.down HB.out hbs) hk5 (Nat.le_trans hbs Y9.2.size) (fun k hk e => by omega))
    have HFIN : Hid (RetG w W5 (.returned (.tuple #[garV (g.setU (without nm g.uses)) b0 b1 b2 b3 d0 d1 d2 d3, .int .i64 0])) gg er) := Lib.hid (by
      rw [HX2.out.1, HX2.out.2]
      exact ⟨⟨b0, b1, b2, b3, d0, d1, d2, d3, rfl, setU_in HG.out (without_right HK1.out nm) e0.2 e1.2 e2.2 e3.2, e2.1, e3.1⟩, HB5.out⟩)
    try rw [show w.heap.size + 1 + 1 = w.heap.size + 2 from rfl]
    rw [hW5]
    have hlI : (g.setU (without nm g.uses)).nu = m := HM.out
    exact bodyPost_ret (v := .tuple #[garV (g.setU (without nm g.uses)) b0 b1 b2 b3 d0 d1 d2 d3, .int .i64 0]) (by unfold garV; rw [hlI]; simp [results, Try.results35, go_sem, x0, x1, x2, x3, Gar.setU]) rfl HFIN.out
end Go.Proofs.Ytbkpoepacjinlaa
