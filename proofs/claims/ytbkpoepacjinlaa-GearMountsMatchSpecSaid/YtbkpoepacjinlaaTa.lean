/- Gear: the pieces of a use in a slot: the closure that adds one (program). -/
import Derived.Test.YtbkpoepacjinlaaGy
import Derived.OneCell
import Derived.Deep.AppendLies
namespace Go.Proofs.Ytbkpoepacjinlaa
open Go.RowKit Go.BigFrame

/-- the cells of a piece -/
def pcell (u s : ByteArray) (q : Pcs.Pc) : List Value := [.string u, .string s, .string q.1, .int .i64 q.2, .int .i64 0]
def pcells (u s : ByteArray) (l : List Pcs.Pc) : List Value := l.flatMap (pcell u s)
theorem pcells_snoc (u s : ByteArray) (l : List Pcs.Pc) (q : Pcs.Pc) : pcells u s (l ++ [q]) = pcells u s l ++ pcell u s q := by simp [pcells]
/-- what piecesOf's closure has captured -/
structure PSt (w : World) (v : Value) (base co ca cl cu cs : Nat) (a last : Int) (l : List Pcs.Pc) (un ur : ByteArray) (uf us uw : Int) (slot : ByteArray) : Prop where
  hco : w.heap[co]? = some (.cells #[v] 34 (0, 0))
  own : w.ownsRow base 42 5 v l.length (pcells un slot l)
  hca : w.heap[ca]? = some (.cells #[.int .i64 a] 3 (0, 0))
  hcl : w.heap[cl]? = some (.cells #[.int .i64 last] 3 (0, 0))
  hcu : w.heap[cu]? = some (.cells #[.string un, .string ur, .int .i64 uf, .int .i64 us, .int .i64 uw] 38 (0, 0))
  hcs : w.heap[cs]? = some (.cells #[.string slot] 9 (0, 0))
theorem PSt.kept {w w' : World} {v : Value} {O : Nat → Prop} {base co ca cl cu cs : Nat} {a last : Int} {l : List Pcs.Pc} {un ur : ByteArray} {uf us uw : Int} {slot : ByteArray} (h : PSt w v base co ca cl cu cs a last l un ur uf us uw slot) (hk : Kept O w w')
    (h1 : ¬ O co) (h2 : ¬ O ca) (h3 : ¬ O cl) (h4 : ¬ O cu) (h5 : ¬ O cs) (h6 : ∀ b, v.ownBlock = some b → ¬ O b) : PSt w' v base co ca cl cu cs a last l un ur uf us uw slot := by
  have hv := h.hco
  have ho := h.own
  refine ⟨(hk.block co (lt_of_block hv) h1).trans hv, ⟨ho.1, ?_⟩, (hk.block ca (lt_of_block h.hca) h2).trans h.hca, (hk.block cl (lt_of_block h.hcl) h3).trans h.hcl, (hk.block cu (lt_of_block h.hcu) h4).trans h.hcu, (hk.block cs (lt_of_block h.hcs) h5).trans h.hcs⟩
  rcases ho.2 with h7 | ⟨g, cap, cur, e1, e2, e3, e4⟩
  · exact Or.inl h7
  · exact Or.inr ⟨g, cap, cur, e1, e2, (hk.block g (lt_of_block e3) (h6 g (by rw [e1]; rfl))).trans e3, e4⟩
theorem block_cell {w : World} {b i : Nat} {cs : Array Value} {T : TypeId} {v : Value} (h : w.heap[b]? = some (.cells cs T (0, 0))) (hv : cs[i]? = some v) : w.cell? ⟨b, i, none⟩ = some v := by simp [World.cell?, h, hv]
theorem grown_trans {w a b : World} {r : Option Nat} (h : w.grownBy a r) (k : Kept (fun _ => False) a b) : w.grownBy b r :=
  ⟨k.os.trans h.os, k.tape.trans h.tape, k.output.trans h.output, Nat.le_trans h.size k.size, fun i hi hr => (k.block i (Nat.lt_of_lt_of_le hi h.size) (by simp)).trans (h.block i hi hr)⟩
theorem kept_set {O : Nat → Prop} {a w : World} (h : Kept O a w) {b i : Nat} (hb : O b) (u : Value) : Kept O a (w.setCell ⟨b, i, none⟩ u) :=
  ⟨h.os, h.tape, h.output, by simp [World.setCell]; exact h.size, fun k hk ho => (Below.heap_setCell w ⟨b, i, none⟩ u k (fun e => ho (by rw [e]; exact hb))).trans (h.block k hk ho)⟩

theorem addr_add0 (b j : Nat) : (⟨b, 0, none⟩ : Addr).add j = ⟨b, j, none⟩ := by
  unfold Addr.add
  split <;> simp_all
set_option maxHeartbeats 2000000 in
set_option maxRecDepth 100000 in
theorem addPc_any (part : ByteArray) (to : Int) (base co ca cl cu cs : Nat) (a last : Int) (l : List Pcs.Pc) (un ur : ByteArray) (uf us uw : Int) (slot : ByteArray) (w : World)
    (v : Value) (h : PSt w v base co ca cl cu cs a last l un ur uf us uw slot) (ha0 : 0 ≤ a) (ha1 : last ≤ 1000000000000) (hn : (l.length : Int) ≤ 1000000) (hd : co ≠ ca) (hb1 : co < base) (hb2 : ca < base) (hb3 : cl < base) (hb4 : cu < base) (hb5 : cs < base) (hd2 : cl ≠ co ∧ cl ≠ ca ∧ cu ≠ co ∧ cu ≠ ca ∧ cs ≠ co ∧ cs ≠ ca) (hbw : base ≤ w.heap.size) :
    Calls Try.prog 141 #[.string part, .int .i64 to, .pointer (some ⟨cl, 0, none⟩), .pointer (some ⟨ca, 0, none⟩), .pointer (some ⟨co, 0, none⟩), .pointer (some ⟨cu, 0, none⟩), .pointer (some ⟨cs, 0, none⟩)] w fun e w' => e = .returned (.tuple #[]) ∧
      (∃ v', PSt w' v' base co ca cl cu cs (Pcs.add last (a, l) part to).1 last (Pcs.add last (a, l) part to).2 un ur uf us uw slot) ∧ Kept (fun b => b = co ∨ b = ca ∨ v.ownBlock = some b) w w' := by
  have hv := h.hco
  have ho := h.own
  have HH := Lib.hid h
  have k0 := cell_of_one hv
  have k1 := cell_of_one h.hca
  have k2 := cell_of_one h.hcl
  have k3 : w.cell? ⟨cu, 0, none⟩ = some (.string un) := block_cell h.hcu rfl
  have k4 := cell_of_one h.hcs
  have HV := Lib.hid hv
  have HO := Lib.hid ho
  clear h hv ho
  by_cases hlt : a < min to last
  · have hadd : Pcs.add last (a, l) part to = (min to last, l ++ [(part, min to last - a)]) := by unfold Pcs.add; rw [if_pos hlt]
    rw [hadd]
    have t1 : decide (a < min to last) = true := by rw [decide_eq_true_eq]; exact hlt
    have hm0 : 0 ≤ min to last - a := by omega
    have hm1 : min to last - a ≤ 1000000000000 := by omega
    have hm2 : 0 ≤ min to last := by omega
    have hm3 : min to last ≤ 1000000000000 := by omega
    obtain ⟨i0, hi0, hz0, hz1, hz2⟩ := info_parts (show (Try.prog.info? 42).map (fun i => (i.zero, i.size, i.bytes)) = some (some (.agg #[.string ⟨#[]⟩, .string ⟨#[]⟩, .string ⟨#[]⟩, .int .i64 0, .int .i64 0]), 5, 64) by kernel_rfl)
    have HI0 := Lib.hid hi0
    have HZ0 := Lib.hid hz0
    have HZ1 := Lib.hid hz1
    have HZ2 := Lib.hid hz2
    clear hlt hadd hi0 hz0 hz1 hz2
    have HU := Lib.hid (show Try.prog.underlying 34 = some (.slice 42) by kernel_rfl)
    have kk := HH.out
    go_enter Try.func141, Try.ntmps141
    go_wp2_with (at_builtin; refine wpList_append_own _ rfl (.tmp 15) (.tmp 24) 34 rfl base 42 i0 (.agg #[.string ⟨#[]⟩, .string ⟨#[]⟩, .string ⟨#[]⟩, .int .i64 0, .int .i64 0]) 5 64 HU.out HI0.out HZ0.out HZ1.out HZ2.out rfl (by decide) v l.length (pcells un slot l) rfl (HO.out.alloc _) ⟨w.heap.size, 0, none⟩ 1 1 (pcell un slot (part, min to last - a)) rfl rfl ?c1 ?c2 ?c3 ?c4 ?c5 ?_)
    case c1 =>
      intro j u hu
      rw [addr_add0, World.cell?_alloc_at _ _ _ _ rfl]
      simpa [pcell] using hu
    case c2 =>
      intro u hu
      simp only [pcell, List.mem_cons, List.not_mem_nil, or_false] at hu
      rcases hu with rfl | rfl | rfl | rfl | rfl <;> rfl
    case c3 => unfold maxLen; omega
    case c4 => omega
    case c5 => simp; omega
    intro v' w1 hown1 hg1 _
    obtain ⟨g', cap', rfl, _, _⟩ := hown1.form (by omega)
    have hvb : ∀ b, v.ownBlock = some b → base ≤ b := fun b hb => (HO.out.lt b hb).1
    have HVB := Lib.hid hvb
    clear hvb
    have nov : ∀ b, b < base → ¬ v.ownBlock = some b := fun b hb e => absurd (HVB.out b e) (by omega)
    have hk1 : Kept (fun b => v.ownBlock = some b) w w1 := (Kept.of_below (below_al w _)).grown hg1 (fun g hg _ => hg)
    have b0 := (hk1.block co (lt_of_block HV.out) (nov _ (by omega))).trans HV.out
    have b1 := (hk1.block ca (lt_of_block HH.out.hca) (nov _ (by omega))).trans HH.out.hca
    have b2 := (hk1.block cl (lt_of_block HH.out.hcl) (nov _ (by omega))).trans HH.out.hcl
    have b3 := (hk1.block cu (lt_of_block HH.out.hcu) (nov _ (by omega))).trans HH.out.hcu
    have b4 := (hk1.block cs (lt_of_block HH.out.hcs) (nov _ (by omega))).trans HH.out.hcs
    have k0' := cell_of_one b0
    have f0 := free_of_one b0
    have k1' := cell_of_one b1
    have f1 := free_of_one b1
    have HOWN := Lib.hid hown1
    have HK1 := Lib.hid hk1
    have HB0 := Lib.hid b0
    have HB1 := Lib.hid b1
    have HB2 := Lib.hid b2
    have HB3 := Lib.hid b3
    have HB4 := Lib.hid b4
    clear nov hown1 hg1 hk1 b0 b1 b2 b3 b4 k0 k1 k2 k3 k4 kk
    go_wp2_with fail
    go_end0
    refine ⟨rfl, ⟨.slice (some ⟨g', 0, none⟩) (l.length + 1) cap', ?_, ?_, ?_, ?_, ?_, ?_⟩, ?_⟩
    · rw [Below.heap_setCell _ _ _ _ (by show co ≠ ca; exact hd)]
      exact one_setCell HB0.out
    · rw [pcells_snoc, List.length_append]
      exact ownsRow_setCell_other (ownsRow_setCell_other HOWN.out (by simp [Value.ownBlock]; omega) _) (by simp [Value.ownBlock]; omega) _
    · refine one_setCell ?_ (v := .int .i64 a)
      rw [Below.heap_setCell _ _ _ _ (by show ca ≠ co; omega)]
      exact HB1.out
    · rw [Below.heap_setCell _ _ _ _ (by show cl ≠ ca; omega), Below.heap_setCell _ _ _ _ (by show cl ≠ co; omega)]
      exact HB2.out
    · rw [Below.heap_setCell _ _ _ _ (by show cu ≠ ca; omega), Below.heap_setCell _ _ _ _ (by show cu ≠ co; omega)]
      exact HB3.out
    · rw [Below.heap_setCell _ _ _ _ (by show cs ≠ ca; omega), Below.heap_setCell _ _ _ _ (by show cs ≠ co; omega)]
      exact HB4.out
    · refine kept_set (kept_set ?_ (Or.inl rfl) _) (Or.inr (Or.inl rfl)) _
      exact ⟨HK1.out.os, HK1.out.tape, HK1.out.output, HK1.out.size, fun k hk ho => HK1.out.block k hk (fun h => ho (Or.inr (Or.inr h)))⟩
  · have hadd : Pcs.add last (a, l) part to = (a, l) := by unfold Pcs.add; rw [if_neg hlt]
    rw [hadd]
    have t1 : decide (a < min to last) = false := by rw [decide_eq_false_iff_not]; exact hlt
    clear hlt hadd
    go_enter Try.func141, Try.ntmps141
    go_wp2_with fail
    go_end0
    exact ⟨rfl, ⟨v, HH.out⟩, Kept.refl _ _⟩
end Go.Proofs.Ytbkpoepacjinlaa
