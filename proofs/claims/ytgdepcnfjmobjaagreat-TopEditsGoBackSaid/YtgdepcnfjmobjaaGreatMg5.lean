/- Several texts of this claim in one. -/
import Derived.Test.YtgdepcnfjmobjaaGreatMg4
import Derived.Lib.AppendZerosOnto
import Derived.Shelf.Spec.SearchS
import Derived.Test.YtgdepcnfjmobjaaGreatShelfB
/- A text of this claim. -/
namespace Go.Proofs.YtgdepcnfjmobjaaGreat
open Go.RowKit Go.BigFrame
theorem step_append_roomK {P : Program} {ops : Array Oper} {o : Oper} {a : Act} {w : World} {K : Act → World → Prop} {Q : Exit → Act → World → Prop} {E : Prop} (k : Nat)
 (hg : o.guard = none) (s x : Operand) (t : TypeId) (hop : o.op = Op.call { callee := Callee.builtin Builtin.append, args := #[s, x], argTypes := #[t, t] })
 (e : TypeId) (i : TypeInfo) (h1 : P.underlying t = some (.slice e)) (h2 : P.info? e = some i) (h4 : i.size = k)
 (b n cap : Nat) (hs : a.eval s = .slice (some ⟨b, 0, none⟩) n cap)
 (ad : Addr) (m c : Nat) (hx : a.eval x = .slice (some ad) m c) (news : List Value) (hn : news.length = m * k) (hc : ∀ j u, news[j]? = some u → w.cell? (ad.add j) = some u) (h1c : ∀ u ∈ news, u.oneCell' = true)
 (r : Nat) (hr : n + m = r) (hroom : r ≤ cap) (hspare : ∀ j, j < cap * k → (w.cell? ⟨b, j, none⟩).isSome = true ∧ w.frozen? ⟨b, j, none⟩ = false)
 (hK : K (a.put o.dst (.slice (some ⟨b, 0, none⟩) r cap)) (w.setCells b (n * k) news)) :
 if Region.wanted o (yielded ops a.tmps) = true then Oper.wp P o a w K Q else E := by
 subst hr
 refine step_append_room hg s x t hop e i k h1 h2 h4 b 0 n cap hs ad m c news hx hn hc h1c hroom (fun j hj => ?_) ?_
 · rw [Nat.zero_add]
   rw [hn] at hj
   refine hspare _ ?_
   have h5 : (n + m) * k ≤ cap * k := Nat.mul_le_mul_right _ hroom
   rw [Nat.add_mul] at h5
   omega
 · rw [Nat.zero_add]
   exact hK
theorem sl_l {P : Program} {t e : TypeId} {k : Nat} (U : P.underlying t = some (.slice e)) (hel : P.elem t = e) (hso : ∀ w, (sizeOf e).run P w = .ok k w) (q n cap i : Nat) (x : Int) (hx : x = i) (h1 : i ≤ n) (_ : n ≤ cap) (W : World) :
 (Instr.slice t (.slice (some ⟨q, 0, none⟩) n cap) (some (.int .i64 x)) none none).run P W = .ok (.slice (some (if cap = i then ⟨q, 0, none⟩ else ⟨q, i * k, none⟩)) (n - i) (cap - i)) W := by
 subst hx
 rw [run_slice_l (w := W) t _ n cap (by rw [hel]; exact U) .i64 (i : Int) (by omega) (by omega), hel, hso]
 by_cases h : cap = i
 · simp [sliced, Result.andThen, h]
 · simp [sliced, Result.andThen, h, addr_plus]
theorem sl_h {P : Program} {t e : TypeId} {k : Nat} (U : P.underlying t = some (.slice e)) (hel : P.elem t = e) (hso : ∀ w, (sizeOf e).run P w = .ok k w) (q n cap i : Nat) (x : Int) (hx : x = i) (h2 : i ≤ cap) (h3 : 0 < cap) (W : World) :
 (Instr.slice t (.slice (some ⟨q, 0, none⟩) n cap) none (some (.int .i64 x)) none).run P W = .ok (.slice (some ⟨q, 0, none⟩) i cap) W := by
 subst hx
 rw [run_slice_h (w := W) t _ n cap (by rw [hel]; exact U) .i64 (i : Int) (by omega) (by omega), hel, hso]
 have : ¬ cap = 0 := by omega
 simp [sliced, Result.andThen, this, addr_plus]
theorem own_congr {w : World} {base e k n : Nat} {v : Value} {xs ys : List Value} (h : w.ownsRow base e k v n xs) (he : xs = ys) : w.ownsRow base e k v n ys := he ▸ h
theorem ins_list (F ys cs P : List Value) (a k : Nat) (hP : P.length = k) (hys : ys.length = k) (ha : a + k ≤ F.length) (hcs : cs = F.drop a) :
 ((F ++ ys).take (a + k) ++ cs ++ (F ++ ys).drop (a + k + cs.length)).take a ++ P ++ ((F ++ ys).take (a + k) ++ cs ++ (F ++ ys).drop (a + k + cs.length)).drop (a + P.length) = F.take a ++ P ++ F.drop a := by
 have hcl : cs.length = F.length - a := by rw [hcs, List.length_drop]
 rw [show (F ++ ys).drop (a + k + cs.length) = [] from List.drop_eq_nil_of_le (by rw [List.length_append, hcl]; omega), List.append_nil, List.take_append_of_le_length (l₁ := F) ha, hP]
 have h1 : (F.take (a + k)).length = a + k := by rw [List.length_take]; omega
 rw [List.take_append_of_le_length (by rw [h1]; omega), List.take_take, Nat.min_eq_left (by omega), List.drop_append, h1, List.drop_eq_nil_of_le (by rw [h1]; omega), List.nil_append, Nat.sub_self, List.drop_zero, hcs]
theorem raw_cell {w : World} {base e k n cap q i : Nat} {xs : List Value} (h : w.ownsRow base e k (.slice (some ⟨q, 0, none⟩) n cap) n xs) (hi : i < cap * k) : (w.cell? ⟨q, i, none⟩).isSome = true ∧ w.frozen? ⟨q, i, none⟩ = false := by
 rcases h.2 with ⟨h0, _⟩ | ⟨g', cap', cur, hv, hg, hb, e1, e2, e3, e4⟩
 · cases h0
 · injection hv with f1 f2 f3
   injection f1 with f1
   injection f1 with f1
   subst f1
   subst f3
   have : i < cur.size := by rw [e3]; exact hi
   constructor
   · simp [World.cell?, hb, this]
   · simp [World.frozen?, hb]
theorem ins_list2 (X cs P F : List Value) (a k : Nat) (hP : P.length = k) (hX : X.length = F.length + k) (ha : a + k ≤ F.length) (hT : X.take a = F.take a) (hcs : cs = F.drop a) :
 (X.take a ++ P ++ X.drop (a + P.length)).take (a + k) ++ cs ++ (X.take a ++ P ++ X.drop (a + P.length)).drop (a + k + cs.length) = F.take a ++ P ++ F.drop a := by
 have hcl : cs.length = F.length - a := by rw [hcs, List.length_drop]
 have h1 : (F.take a ++ P).length = a + k := by rw [List.length_append, List.length_take, hP]; omega
 rw [hT, List.take_append_of_le_length (by rw [h1]; omega), List.take_of_length_le (by rw [h1]; omega), List.drop_eq_nil_of_le (by rw [List.length_append, h1, List.length_drop, hX, hcl, hP]; omega), List.append_nil, hcs]
theorem kept_setK {a b : World} {q : Nat} {p : Addr} {v : Value} (h : Kept (fun k => k = q) a b) (hp : p.block = q) : Kept (fun k => k = q) a (b.setCell p v) := by
 refine h.trans ⟨rfl, rfl, rfl, by simp [World.setCell], fun k hk hne => ?_⟩
 simp only [World.setCell]
 rw [Array.getElem?_modify, if_neg (fun e => hne (by rw [← hp, e]))]
theorem kept_layK (q : Nat) : ∀ (vs : List Value) (o : Nat) (w : World), Kept (fun k => k = q) w (w.setCells q o vs)
 | [], _, _ => Kept.refl _ _
 | v :: vs, o, w => (kept_setK (p := ⟨q, o, none⟩) (v := v) (Kept.refl _ w) rfl).trans (kept_layK q vs (o + 1) _)
set_option maxHeartbeats 4000000 in
set_option maxRecDepth 100000 in
theorem deleteLp_any (l : List Lp) (base q cap j p n n1 : Nat) (w : World) (hown : Own lpC 3 57 w base (.slice (some ⟨q, 0, none⟩) n cap) l) (hn : l.length ≤ 1000) (hj : j < n) (hp : p = j + 1) (h1 : n = n1 + 1) :
 Calls Tryz.prog 141 #[.slice (some ⟨q, 0, none⟩) n cap, .int .i64 j, .int .i64 p] w fun e w' =>
  e = .returned (.slice (some ⟨q, 0, none⟩) n1 cap) ∧ Own lpC 3 57 w' base (.slice (some ⟨q, 0, none⟩) n1 cap) (l.take j ++ l.drop (j + 1)) ∧ Kept (fun b => b = q) w w' := by
 obtain ⟨hln, hnc, hcm, hbq⟩ := hown.facts
 unfold maxLen at hcm
 obtain ⟨m, hm⟩ : ∃ m, n = p + m := ⟨n - p, by omega⟩
 have hel : Tryz.prog.elem 23 = 57 := by kernel_rfl
 have hso := Tryz.sizeOf57
 have U := underLp.out
 have hne : ((j : Int) == (p : Int)) = false := by rw [beq_eq_false_iff_ne]; omega
 obtain ⟨ad, had⟩ : ∃ ad : Addr, ad = if cap = p then ⟨q, 0, none⟩ else ⟨q, p * 3, none⟩ := ⟨_, rfl⟩
 have s1 : ∀ W : World, (Instr.slice 23 (.slice (some ⟨q, 0, none⟩) n cap) (some (.int .i64 (j : Int))) (some (.int .i64 (p : Int))) (some (.int .i64 (n : Int)))).run Tryz.prog W = .ok (.slice (some ⟨q, j * 3, none⟩) 1 (n - j)) W := fun W => by
  rw [run_slice_lhm (w := W) 23 _ n cap U .i64 .i64 .i64 (j : Int) (p : Int) (n : Int) (by omega) (by omega) (by omega) (by omega), hel, hso]
  have : ¬ n = j := by omega
  have h2 : p - j = 1 := by omega
  simp [sliced, Result.andThen, this, addr_plus, h2]
 have s2 : ∀ W : World, (Instr.slice 23 (.slice (some ⟨q, 0, none⟩) n cap) none (some (.int .i64 (j : Int))) none).run Tryz.prog W = .ok (.slice (some ⟨q, 0, none⟩) j cap) W := fun W => sl_h U hel hso q n cap j _ rfl (by omega) (by omega) W
 have s3 : ∀ W : World, (Instr.slice 23 (.slice (some ⟨q, 0, none⟩) n cap) (some (.int .i64 (p : Int))) none none).run Tryz.prog W = .ok (.slice (some ad) m (cap - p)) W := fun W => by
  rw [run_slice_l (w := W) 23 _ n cap U .i64 (p : Int) (by omega) (by omega), hel, hso, had]
  have h2 : n - p = m := by omega
  by_cases h : cap = p
  · simp [sliced, Result.andThen, h, h2]
  · simp [sliced, Result.andThen, h, addr_plus, h2]
 have s4 : ∀ W : World, (Instr.slice 23 (.slice (some ⟨q, 0, none⟩) n1 cap) (some (.int .i64 (n1 : Int))) (some (.int .i64 (n : Int))) none).run Tryz.prog W = .ok (.slice (some ⟨q, n1 * 3, none⟩) 1 (cap - n1)) W := fun W => by
  rw [run_slice_lh (w := W) 23 _ n1 cap U .i64 .i64 (n1 : Int) (n : Int) (by omega) (by omega) (by omega), hel, hso]
  have : ¬ cap = n1 := by omega
  have h2 : n - n1 = 1 := by omega
  simp [sliced, Result.andThen, this, addr_plus, h2]
 obtain ⟨news, hnews⟩ : ∃ news, news = (l.drop p).flatMap lpC := ⟨_, rfl⟩
 have hnl : news.length = m * 3 := by rw [hnews, lpEl.flat, List.length_drop]; omega
 have hone : ∀ u ∈ news, u.oneCell' = true := by rw [hnews]; exact lpEl.ones _
 have hcc : ∀ i u, news[i]? = some u → w.cell? (ad.add i) = some u := fun i u hi => by
  have hi2 := (List.getElem?_eq_some_iff.1 hi).1
  rw [hnl] at hi2
  rw [had, if_neg (by omega), addr_plus]
  refine hown.at lpEl ?_
  rw [hnews, ← flat_drop lpEl, List.getElem?_drop] at hi
  rw [show p * 3 + i = p * 3 + i by omega]
  exact hi
 have hsp := fun (i : Nat) (hi : i < cap * 3) => hown.cellE hi
 have hlen := lpEl.flat l
 obtain ⟨W1, hW1⟩ : ∃ W, w.drew.setCells q (j * 3) news = W := ⟨_, rfl⟩
 have hro : W1.ownsRow base 57 3 (.slice (some ⟨q, 0, none⟩) n cap) n ((l.flatMap lpC).take (j * 3) ++ news ++ (l.flatMap lpC).drop (j * 3 + news.length)) := by
  rw [← hW1]
  have h0 := hown.below (Below.refl _ w).drew
  unfold Own at h0
  rw [← hln] at h0
  exact own_lay news (j * 3) h0 (by rw [hnl, hlen, ← hln]; omega)
 have hk1 : Kept (fun b => b = q) w W1 := by
  rw [← hW1]
  exact (Kept.of_below (Below.refl _ w).drew).trans (kept_layK q news _ _)
 have hz : ∀ w, (zeroValue 57).run Tryz.prog w = .ok (.agg #[.int .i64 0, .int .i64 0, .string ⟨#[]⟩]) w := fun w => by kernel_rfl
 have hcell : ∀ i, i < cap * 3 → (W1.cell? ⟨q, i, none⟩).isSome = true ∧ W1.frozen? ⟨q, i, none⟩ = false := fun i hi => raw_cell hro hi
 obtain ⟨vs, hvs⟩ := run_clear_rowE (P := Tryz.prog) W1 23 57 0 (.agg #[.int .i64 0, .int .i64 0, .string ⟨#[]⟩]) U hz (by decide) q (n1 * 3) 1 (cap - n1) (by omega)
  (fun i (hi : i < 1 * 3) => (hcell (n1 * 3 + i) (by omega)).1) (fun i (hi : i < 1 * 3) => (hcell (n1 * 3 + i) (by omega)).2)
 obtain ⟨W2, hW2⟩ : ∃ W, W1.setCells q (n1 * 3) vs = W := ⟨_, rfl⟩
 have hr2 : Own lpC 3 57 W2 base (.slice (some ⟨q, 0, none⟩) n1 cap) (l.take j ++ l.drop (j + 1)) := by
  have h3 := own_less hro (n' := n1) (by omega)
  have e : (((l.flatMap lpC).take (j * 3) ++ news ++ (l.flatMap lpC).drop (j * 3 + news.length)).take (n1 * 3)) = (l.take j ++ l.drop (j + 1)).flatMap lpC := by
   rw [List.take_append_of_le_length (by rw [List.length_append, List.length_take, hnl, hlen, ← hln]; omega), List.take_of_length_le (by rw [List.length_append, List.length_take, hnl, hlen, ← hln]; omega), flat_take lpEl, hnews, hp, List.flatMap_append]
  rw [e] at h3
  rw [← hW2]
  exact own_flat lpEl (by rw [List.length_append, List.length_take, List.length_drop]; omega) (own_cleared h3 vs (n1 * 3) (by rw [lpEl.flat, List.length_append, List.length_take, List.length_drop]; omega))
 have hk2 : Kept (fun b => b = q) w W2 := by
  rw [← hW2]
  exact hk1.trans (kept_layK q vs _ _)
 rw [hW2] at hvs
 obtain ⟨i0, hi0, hz0, hz1, hz2⟩ := info_parts infoLp.out
 have hjm : j + m = n1 := by omega
 have HI := Lib.hid (And.intro hi0 hz1)
 have HN := Lib.hid (And.intro hnl (And.intro hcc hone))
 have HS := Lib.hid hsp
 have HW1 := Lib.hid (show w.drew.setCells q (j * 3) news = W1 from by first | exact hW1 | (rw [Nat.mul_one] at hW1; exact hW1))
 have HR := Lib.hid (And.intro hr2 hk2)
 have HJ := Lib.hid hjm
 have hn1c : n1 ≤ cap := by omega
 clear hown hnl hcc hone hsp hW1 hro hk1 hz hr2 hk2 hi0 hz0 hz1 hz2 hnews hjm hW2 had hn hln hbq hp h1 hm hlen hcell
 go_enter Tryz.func141, Tryz.ntmps141
 go_wp2_with fail
 go_region_law (refine step_append_roomK 3 rfl (.tmp 22) (.tmp 25) 23 rfl 57 i0 U HI.out.1 HI.out.2 q j cap rfl ad m (cap - p) rfl news HN.out.1 HN.out.2.1 HN.out.2.2 n1 HJ.out hn1c HS.out ?_)
 all_goals
  rw [HW1.out]
  go_wp2_with fail
  go_ret
  exact ⟨rfl, HR.out.1, HR.out.2⟩
set_option maxHeartbeats 4000000 in
set_option maxRecDepth 100000 in
theorem insertEndLp (l : List Lp) (base : Nat) (a : Option Addr) (n cap : Nat) (p : Lp) (vb : Nat) (w : World) (hown : Own lpC 3 57 w base (.slice a n cap) l) (hln : l.length = n) (hl : n ≤ 1000) (hv : Rw lpC 3 w (some ⟨vb, 0, none⟩) [p]) (hb : base ≤ w.heap.size) :
 Calls Tryz.prog 140 #[.slice a n cap, .int .i64 n, .slice (some ⟨vb, 0, none⟩) 1 1] w fun e w' => ∃ v, e = .returned v ∧ Own lpC 3 57 w' base v (l.take n ++ [p] ++ l.drop n) ∧ w.grownBy w' (Value.slice a n cap).ownBlock := by
 have hel : Tryz.prog.elem 23 = 57 := by kernel_rfl
 have hso := Tryz.sizeOf57
 have U := underLp.out
 have he : l.take n ++ [p] ++ l.drop n = l ++ [p] := by rw [← hln, List.take_length, List.drop_length, List.append_nil]
 have HP := Lib.hid (And.intro hown (And.intro hv he))
 have HLN := Lib.hid hln
 have s1 : ∀ W : World, ∃ u, (Instr.slice 23 (.slice a n cap) (some (.int .i64 (n : Int))) none none).run Tryz.prog W = .ok u W := fun W => by
  rcases hown.2 with ⟨h0, h1⟩ | ⟨g, cap', cur, hv', hg, hb', e1, e2, e3, e4⟩
  · injection h0 with f1 f2 f3
    subst f1 f2 f3
    exact ⟨.slice none 0 0, by kernel_rfl⟩
  · injection hv' with f1 f2 f3
    subst f1 f3
    unfold maxLen at e2
    exact ⟨_, sl_l U hel hso g n cap n _ rfl (Nat.le_refl _) (by omega) W⟩
 obtain ⟨u, hu⟩ := s1 w
 have he2 : ((n : Int) == (n : Int)) = true := by simp
 clear s1 hown hv he hln
 go_enter Tryz.func140, Tryz.ntmps140
 go_wp2_with (at_builtin; refine append_Lps rfl _ _ rfl rfl HP.out.1 rfl (m := [p]) rfl HP.out.2.1 (by have := HLN.out; omega) hb (fun v' w' ho hg => ?_))
 go_ret
 exact ⟨v', rfl, HP.out.2.2 ▸ ho, hg⟩
set_option maxHeartbeats 4000000 in
set_option maxRecDepth 100000 in
theorem insertRoomLp (l : List Lp) (base q n cap i : Nat) (p : Lp) (vb : Nat) (w : World) (hown : Own lpC 3 57 w base (.slice (some ⟨q, 0, none⟩) n cap) l) (hl : n ≤ 1000) (hi : i < n) (hroom : n + 1 ≤ cap) (hv : w.heap[vb]? = some (.cells (lpC p).toArray 57 (0, 0))) (hne : vb ≠ q) :
 Calls Tryz.prog 140 #[.slice (some ⟨q, 0, none⟩) n cap, .int .i64 i, .slice (some ⟨vb, 0, none⟩) 1 1] w fun e w' => ∃ v, e = .returned v ∧ Own lpC 3 57 w' base v (l.take i ++ [p] ++ l.drop i) ∧ w.grownBy w' (Value.slice (some ⟨q, 0, none⟩) n cap).ownBlock := by
 obtain ⟨hln, hnc, hcm, hbq⟩ := hown.facts
 unfold maxLen at hcm
 have hel : Tryz.prog.elem 23 = 57 := by kernel_rfl
 have hso := Tryz.sizeOf57
 have U := underLp.out
 obtain ⟨i0, hi0, hz0, hz1, hz2⟩ := info_parts infoLp.out
 have hlen := lpEl.flat l
 have hpl := lpEl.len p
 -- the world behind both copies
 obtain ⟨cs, hcs⟩ : ∃ cs, cs = (l.drop i).flatMap lpC := ⟨_, rfl⟩
 have hcl : cs.length = (n - i) * 3 := by rw [hcs, lpEl.flat, List.length_drop, ← hln]
 have hraw : w.ownsRow base 57 3 (.slice (some ⟨q, 0, none⟩) n cap) n (l.flatMap lpC) := by
  have h := hown
  unfold Own at h
  rw [← hln] at h
  exact h
 obtain ⟨ys, hys, h0⟩ := own_more hraw (n' := n + 1) (by omega) hroom
 rw [show (n + 1 - n) * 3 = 3 by omega] at hys
 obtain ⟨W1, hW1⟩ : ∃ W, w.drew.setCells q ((i + 1) * 3) cs = W := ⟨_, rfl⟩
 obtain ⟨W2, hW2⟩ : ∃ W, W1.setCells q (i * 3) (lpC p) = W := ⟨_, rfl⟩
 have h1 : W1.ownsRow base 57 3 (.slice (some ⟨q, 0, none⟩) (n + 1) cap) (n + 1) ((l.flatMap lpC ++ ys).take ((i + 1) * 3) ++ cs ++ (l.flatMap lpC ++ ys).drop ((i + 1) * 3 + cs.length)) := by
  rw [← hW1]
  exact own_lay cs _ (ownsRow_below h0 (Below.refl _ w).drew) (by rw [hcl, List.length_append, hlen, hys, ← hln]; omega)
 have h2 : W2.ownsRow base 57 3 (.slice (some ⟨q, 0, none⟩) (n + 1) cap) (n + 1) ((l.take i ++ [p] ++ l.drop i).flatMap lpC) := by
  have h3 := own_lay (lpC p) (i * 3) h1 (by rw [hpl, List.length_append, List.length_append, List.length_take, List.length_append, hlen, hys, hcl, ← hln]; omega)
  rw [hW2] at h3
  refine own_congr h3 ?_
  rw [show (i + 1) * 3 = i * 3 + 3 by omega, ins_list (l.flatMap lpC) ys cs (lpC p) (i * 3) 3 hpl hys (by rw [hlen, ← hln]; omega) (by rw [hcs, flat_drop lpEl]), flat_take lpEl, flat_drop lpEl, List.flatMap_append, List.flatMap_append, show ([p].flatMap lpC) = lpC p from List.append_nil _]
 have hk : Kept (fun b => b = q) w W2 := by
  rw [← hW2, ← hW1]
  exact ((Kept.of_below (Below.refl _ w).drew).trans (kept_layK q cs _ _)).trans (kept_layK q (lpC p) _ _)
 have hvc : ∀ j v, (lpC p)[j]? = some v → w.cell? ⟨vb, j, none⟩ = some v := fun j v hj => by simp [World.cell?, hv, hj]
 have hov : ∀ (W : World), (∀ b : Nat, W.heap[b]? = w.heap[b]?) → ∀ o' lb cb, (callFunc 144 #[.slice (some ⟨vb, 0, none⟩) 1 1, .slice (some ⟨q, o', none⟩) lb cb]).run Tryz.prog W = .ok (.value (.bool false)) W := fun W hW o' lb cb => by
  have hsa : W.shape? vb = some (57, 3) := by simp [World.shape?, hW, hv, hpl]
  have hsb : W.shape? q = some (57, cap * 3) := by
   have h := hown.shape
   simp only [World.shape?, hW] at h ⊢
   exact h
  have hfr : ∀ x, W.frozen? ⟨vb, x, none⟩ = false := fun x => by simp [World.frozen?, hW, hv]
  rw [run_callFunc_extern Tryz.func144 (by kernel_rfl) (by kernel_rfl) (by kernel_rfl) (e := Extern.SlicesOverlaps.overlaps #[23, 23] #[4]) (by kernel_rfl),
   Lib.run_overlaps_apart W 23 4 57 U 3 hso ⟨vb, 0, none⟩ ⟨q, o', none⟩ 1 1 lb cb hne 57 57 3 (cap * 3) hsa hsb (by omega) (hfr 0) (hfr 3)]
  rfl
 have hsp := fun (i : Nat) (hi : i < cap * 3) => hown.cellE hi
 have HI := Lib.hid (And.intro hi0 hz1)
 have HOV := Lib.hid hov
 have HD := Lib.hid (show W1.setCells q (i * 3) (lpC p) = W2 from (by have h := hW2; first | exact h | (rw [Nat.mul_one] at h; exact h) | (simp only [Nat.mul_one] at h; exact h)))
 have HD1 := Lib.hid (show w.drew.setCells q ((i + 1) * 3) cs = W1 from (by have h := hW1; first | exact h | (rw [Nat.mul_one] at h; exact h) | (simp only [Nat.mul_one] at h; exact h)))
 have HR := Lib.hid (And.intro (own_flat lpEl (by rw [List.length_append, List.length_append, List.length_take, List.length_drop, List.length_singleton]; omega) h2) hk)
 have HCS := Lib.hid (show cs.length = (n - i) * i0.size ∧ (∀ j v, cs[j]? = some v → w.cell? ⟨q, i * 3 + j, none⟩ = some v) ∧ (∀ v ∈ cs, v.oneCell' = true) from ⟨by rw [hcl, hz1], fun j v hj => by
  rw [hcs, ← flat_drop lpEl, List.getElem?_drop] at hj
  exact (by have h := hown.at lpEl hj; first | exact h | (rw [Nat.mul_one] at h; exact h) | (simp only [Nat.mul_one] at h; exact h)), by rw [hcs]; exact lpEl.ones _⟩)
 have HSP := Lib.hid hsp
 have HN := Lib.hid (show cs.length = (n - i) * 3 from hcl)
 have HV1 := Lib.hid (show (∀ j v, (lpC p)[j]? = some v → W1.cell? ⟨vb, j, none⟩ = some v) ∧ (∀ j, j < cap * 3 → (W1.cell? ⟨q, j, none⟩).isSome = true ∧ W1.frozen? ⟨q, j, none⟩ = false) ∧ (lpC p).length = i0.size from by
  have hk1 : Kept (fun b => b = q) w W1 := by
   rw [← hW1]
   exact (Kept.of_below (Below.refl _ w).drew).trans (kept_layK q cs _ _)
  exact ⟨fun j v hj => hk1.cell (p := ⟨vb, j, none⟩) hne (hvc j v hj), fun j hj => raw_cell h1 hj, by rw [hpl, hz1]⟩)
 have s1 : ∀ W : World, (Instr.slice 23 (.slice (some ⟨q, 0, none⟩) n cap) (some (.int .i64 (i : Int))) none none).run Tryz.prog W = .ok (.slice (some ⟨q, i * 3, none⟩) (n - i) (cap - i)) W := fun W => by
  rw [sl_l U hel hso q n cap i _ rfl (by omega) (by omega) W, if_neg (by omega)]
 have s2 : ∀ W : World, (Instr.slice 23 (.slice (some ⟨q, 0, none⟩) n cap) none (some (.int .i64 ((n : Int) + 1))) none).run Tryz.prog W = .ok (.slice (some ⟨q, 0, none⟩) (n + 1) cap) W := fun W => sl_h U hel hso q n cap (n + 1) _ (by omega) (by omega) (by omega) W
 have s3 : ∀ W : World, (Instr.slice 23 (.slice (some ⟨q, 0, none⟩) (n + 1) cap) (some (.int .i64 ((i : Int) + 1))) none none).run Tryz.prog W = .ok (.slice (some ⟨q, (i + 1) * 3, none⟩) (n - i) (cap - (i + 1))) W := fun W => by
  rw [sl_l U hel hso q (n + 1) cap (i + 1) _ (by omega) (by omega) (by omega) W, if_neg (by omega), show n + 1 - (i + 1) = n - i by omega]
 have s4 : ∀ W : World, (Instr.slice 23 (.slice (some ⟨q, 0, none⟩) (n + 1) cap) (some (.int .i64 (i : Int))) none none).run Tryz.prog W = .ok (.slice (some ⟨q, i * 3, none⟩) (n + 1 - i) (cap - i)) W := fun W => by
  rw [sl_l U hel hso q (n + 1) cap i _ rfl (by omega) (by omega) W, if_neg (by omega)]
 have t1 : ((i : Int) == (n : Int)) = false := by rw [beq_eq_false_iff_ne]; omega
 have t2 : decide ((cap : Int) < (n : Int) + 1) = false := by rw [decide_eq_false_iff_not]; omega
 have HU := Lib.hid U
 have HONE := Lib.hid (lpEl.one p)
 have HPL := Lib.hid hpl
 have HB := Lib.hid (And.intro hi hroom)
 have hk1000 : cap ≤ 9223372036854775807 := by omega
 have hi2 : i ≤ 1000 := by omega
 clear hown hln hnc hcm hbq hi0 hz0 hz1 hz2 hlen hpl hcs hcl hys h0 hW1 hW2 h1 h2 hk hvc hov hsp hv hi hroom U hso hel ys hraw
 go_enter Tryz.func140, Tryz.ntmps140
 have hov0 := fun o' lb cb => HOV.out w (fun _ => rfl) o' lb cb
 go_wp2_with (simp only [hov0])
 refine held_start (C := fun _ => True) (by kernel_rfl) ?_
 rw [show ({ w with drawn := w.drawn + 1 } : World) = w.drew from rfl]
 refine held_quiet (by kernel_rfl) (fun _ _ d _ _ h => by cases d <;> exact h) trivial [0, 1, 2, 3, 4, 5, 6, 7] 1 _ _ (by kernel_rfl) ?_
 change wpQuiet _ _ _ _ (_ :: _ :: _ :: _ :: _ :: _ :: _ :: _ :: []) _
 repeat go_big_quiet_step (fail)
 refine wpQuiet_nil ?_
 refine held_do (i := 8) _ rfl (by kernel_rfl) rfl (fun K hK => ?_)
 refine wp_copyE (.tmp 73) (.tmp 76) 23 23 rfl 57 i0 HU.out HI.out.1 q ((i + 1) * 3) (n - i) (cap - (i + 1)) (some ⟨q, i * 3, none⟩) (n + 1 - i) (cap - i) (n - i) rfl rfl cs (by simp only [Nat.min_def]; split <;> omega) HCS.out.1 (fun _ => ⟨_, rfl, fun j v hj => by rw [addr_plus]; exact HCS.out.2.1 j v hj⟩) HCS.out.2.2 (fun j hj => (HSP.out _ (by rw [HN.out] at hj; have := HB.out; omega)).1) (fun j hj => (HSP.out _ (by rw [HN.out] at hj; have := HB.out; omega)).2) ?_
 try simp only [Act.put, List.setIfInBounds_toArray, List.set_cons_zero, List.set_cons_succ]
 refine hK _ _ trivial ?_
 clear hK K
 try simp only [Act.put, List.setIfInBounds_toArray, List.set_cons_zero, List.set_cons_succ]
 refine wpAnyH_done (by kernel_rfl) ?_ _
 rw [HD1.out]
 have hcp : ∀ ty, (Builtin.copy_ #[23, 23] ty #[.slice (some ⟨q, i * 3, none⟩) (n + 1 - i) (cap - i), .slice (some ⟨vb, 0, none⟩) 1 1]).run Tryz.prog W1 = .ok (goInt 1) W2 := fun ty => by
  rw [← HD.out]
  exact run_copyE (P := Tryz.prog) W1 23 23 ty 57 i0 q (i * 3) (n + 1 - i) (cap - i) (some ⟨vb, 0, none⟩) 1 1 1 (lpC p) HU.out HI.out.1 (by have := HB.out; simp only [Nat.min_def]; split <;> omega) (by rw [HV1.out.2.2, Nat.one_mul]) (fun _ => ⟨_, rfl, fun j v hj => by rw [addr_plus, Nat.zero_add]; exact HV1.out.1 j v hj⟩) HONE.out (fun j hj => (HV1.out.2.1 _ (by rw [HPL.out] at hj; have := HB.out; omega)).1) (fun j hj => (HV1.out.2.1 _ (by rw [HPL.out] at hj; have := HB.out; omega)).2)
 go_wp2_with fail
 go_ret
 exact ⟨_, rfl, HR.out.1, HR.out.2.os, HR.out.2.tape, HR.out.2.output, HR.out.2.size, fun x hx hne => HR.out.2.block x hx (fun e => hne (by rw [e]; rfl))⟩
set_option maxHeartbeats 4000000 in
set_option maxRecDepth 100000 in
theorem insertGrowLp (l : List Lp) (base q n i : Nat) (p : Lp) (vb : Nat) (w : World) (hown : Own lpC 3 57 w base (.slice (some ⟨q, 0, none⟩) n n) l) (hl : n ≤ 1000) (hi : i < n) (hv : w.heap[vb]? = some (.cells (lpC p).toArray 57 (0, 0))) (hb : base ≤ w.heap.size) :
 Calls Tryz.prog 140 #[.slice (some ⟨q, 0, none⟩) n n, .int .i64 i, .slice (some ⟨vb, 0, none⟩) 1 1] w fun e w' => ∃ v, e = .returned v ∧ Own lpC 3 57 w' base v (l.take i ++ [p] ++ l.drop i) ∧ w.grownBy w' (Value.slice (some ⟨q, 0, none⟩) n n).ownBlock := by
 obtain ⟨hln, _, _, hbq⟩ := hown.facts
 have hel : Tryz.prog.elem 23 = 57 := by kernel_rfl
 have hso := Tryz.sizeOf57
 have U := underLp.out
 obtain ⟨i0, hi0, hz0, hz1, hz2⟩ := info_parts infoLp.out
 have hlen := lpEl.flat l
 have hpl := lpEl.len p
 have hqw : q < w.heap.size := (hown.lt q rfl).2
 have hvw : vb < w.heap.size := lt_of_block hv
 obtain ⟨cs, hcs⟩ : ∃ cs, cs = (l.drop i).flatMap lpC := ⟨_, rfl⟩
 have hcl : cs.length = (n - i) * 3 := by rw [hcs, lpEl.flat, List.length_drop, ← hln]
 obtain ⟨N, hN⟩ : ∃ N, w.heap.size = N := ⟨_, rfl⟩
 obtain ⟨G, hG⟩ : ∃ G, grownCap w (n + 1) n 57 = G := ⟨_, rfl⟩
 have hGn : n + 1 ≤ G := by rw [← hG]; exact grownCap_ge w _ _ _
 have hG63 : G ≤ maxLen := by rw [← hG]; exact grownCap_le_maxLen w _ _ _ (by unfold maxLen; omega)
 obtain ⟨ROW, hROW⟩ : ∃ ROW : Array Value, ((l.take i).flatMap lpC).toArray ++ Builtin.zeroCells (Value.cells (.agg #[.int .i64 0, .int .i64 0, .string ⟨#[]⟩])) (n + 1 - i) ++ Builtin.zeroCells (Value.cells (.agg #[.int .i64 0, .int .i64 0, .string ⟨#[]⟩])) (G - (n + 1)) = ROW := ⟨_, rfl⟩
 have hzc : ∀ m, (Builtin.zeroCells (Value.cells (.agg #[.int .i64 0, .int .i64 0, .string ⟨#[]⟩])) m).size = m * 3 := fun m => by
  have : (Value.cells (.agg #[.int .i64 0, .int .i64 0, .string ⟨#[]⟩])).size = 3 := by rfl
  simp [Builtin.zeroCells, this]
 have hRs : ROW.size = G * 3 := by
  rw [← hROW, Array.size_append, Array.size_append, hzc, hzc, List.size_toArray, lpEl.flat, List.length_take, ← hln]
  have : min i n = i := Nat.min_eq_left (by omega)
  rw [this]
  omega
 obtain ⟨W1, hW1⟩ : ∃ W, w.drew.alloc (.cells ROW 57) = W := ⟨_, rfl⟩
 have hB1 : Below w.heap.size w W1 := by
  rw [← hW1]
  exact below_step (Below.refl _ w).drew (below_al _ _)
 have hS1 : W1.heap[N]? = some (.cells ROW 57 (0, 0)) := by
  rw [← hW1, ← hN]
  exact heap_alloc_new w.drew _
 have h0 : W1.ownsRow base 57 3 (.slice (some ⟨N, 0, none⟩) (n + 1) G) (n + 1) (ROW.toList.take ((n + 1) * 3)) := ⟨by rw [List.length_take, Array.length_toList, hRs]; omega, Or.inr ⟨N, G, ROW, rfl, by omega, hS1, hGn, hG63, hRs, rfl⟩⟩
 obtain ⟨W2, hW2⟩ : ∃ W, W1.setCells N (i * 3) (lpC p) = W := ⟨_, rfl⟩
 obtain ⟨W3, hW3⟩ : ∃ W, W2.drew.setCells N ((i + 1) * 3) cs = W := ⟨_, rfl⟩
 have hXl : (ROW.toList.take ((n + 1) * 3)).length = (n + 1) * 3 := by rw [List.length_take, Array.length_toList, hRs]; omega
 have hXt : (ROW.toList.take ((n + 1) * 3)).take (i * 3) = (l.flatMap lpC).take (i * 3) := by
  rw [List.take_take, Nat.min_eq_left (by omega), ← hROW, Array.toList_append, Array.toList_append, List.append_assoc, List.take_append_of_le_length (by rw [lpEl.flat, List.length_take, ← hln]; omega), ← flat_take lpEl, List.take_take, Nat.min_self]
 have h1 := own_lay (lpC p) (i * 3) h0 (by rw [hXl, hpl]; omega)
 rw [hW2] at h1
 have h2 : W3.ownsRow base 57 3 (.slice (some ⟨N, 0, none⟩) (n + 1) G) (n + 1) ((l.take i ++ [p] ++ l.drop i).flatMap lpC) := by
  have h3 := own_lay cs ((i + 1) * 3) (ownsRow_below h1 (Below.refl _ W2).drew) (by simp only [List.length_append, List.length_take, List.length_drop, hXl, hpl, hcl]; omega)
  rw [hW3] at h3
  refine own_congr h3 ?_
  rw [show (i + 1) * 3 = i * 3 + 3 by omega, ins_list2 _ cs (lpC p) (l.flatMap lpC) (i * 3) 3 hpl (by rw [hXl, hlen, ← hln]; omega) (by rw [hlen, ← hln]; omega) hXt (by rw [hcs, flat_drop lpEl]), flat_take lpEl, flat_drop lpEl, List.flatMap_append, List.flatMap_append, show ([p].flatMap lpC) = lpC p from List.append_nil _]
 have hk12 : Kept (fun b => b = N) W1 W2 := by rw [← hW2]; exact kept_layK N (lpC p) _ _
 have hk : Kept (fun b => b = N) w W3 := by
  rw [← hW3]
  exact (((Kept.of_below hB1).trans hk12).trans (Kept.of_below (Below.refl _ W2).drew)).trans (kept_layK N cs _ _)
 have hvc : ∀ j v, (lpC p)[j]? = some v → W1.cell? ⟨vb, j, none⟩ = some v := fun j v hj => below_cell hB1 (by simp [World.cell?, hv, hj])
 have hqc : ∀ j v, cs[j]? = some v → W2.drew.cell? ⟨q, i * 3 + j, none⟩ = some v := fun j v hj => hk12.cell (p := ⟨q, i * 3 + j, none⟩) (fun e => by simp only at e; omega) (below_cell hB1 (hown.at lpEl (by
  rw [hcs, ← flat_drop lpEl, List.getElem?_drop] at hj
  exact hj)))
 have hold : (Builtin.firstCells i0.size i (.slice (some ⟨q, 0, none⟩) i n)).run Tryz.prog w.drew = .ok ((l.take i).flatMap lpC).toArray w.drew := by
  rw [hz1]
  exact run_firstCells_some (w := w.drew) 3 i ⟨q, 0, none⟩ i n ((l.take i).flatMap lpC) (by rw [lpEl.flat, List.length_take, ← hln, Nat.min_eq_left (by omega)]) (fun j v hj => by
   rw [addr_plus, Nat.zero_add]
   refine hown.at lpEl ?_
   rw [← flat_take lpEl, List.getElem?_take] at hj
   split at hj
   · exact hj
   · cases hj)
 have hrz : ∀ ty, (Builtin.append_ #[23, 3] ty #[.slice (some ⟨q, 0, none⟩) i n, .int .i64 ((n : Int) + 1 - (i : Int))]).run Tryz.prog w = .ok (.slice (some ⟨N, 0, none⟩) (n + 1) G) W1 := fun ty => by
  have h := Lib.run_append_grow_zeros w 23 3 ty 57 i0 _ .i64 .i64 U Tryz.underlying3 hi0 hz0 (some ⟨q, 0, none⟩) i n ((l.take i).flatMap lpC) hold (n + 1 - i) (by omega) (by omega) (by omega) (by omega) (by rw [hz2]; omega) (by rw [hz2, show i + (n + 1 - i) = n + 1 by omega]; exact growslice_fits (by omega) (by omega))
  rw [show i + (n + 1 - i) = n + 1 by omega, hN, hG, hROW, hW1] at h
  rw [show (n : Int) + 1 - (i : Int) = ((n + 1 - i : Nat) : Int) by omega]
  exact h
 have hcA : ∀ ty, (Builtin.copy_ #[23, 23] ty #[.slice (some ⟨N, i * 3, none⟩) (n + 1 - i) (G - i), .slice (some ⟨vb, 0, none⟩) 1 1]).run Tryz.prog W1 = .ok (goInt 1) W2 := fun ty => by
  rw [← show W1.setCells N (i * 3) (lpC p) = W2 from (by have h := hW2; first | exact h | (rw [Nat.mul_one] at h; exact h) | (simp only [Nat.mul_one] at h; exact h))]
  exact run_copyE (P := Tryz.prog) W1 23 23 ty 57 i0 N (i * 3) (n + 1 - i) (G - i) (some ⟨vb, 0, none⟩) 1 1 1 (lpC p) U hi0 (by simp only [Nat.min_def]; split <;> omega) (by rw [hpl, hz1]) (fun _ => ⟨_, rfl, fun j v hj => by rw [addr_plus, Nat.zero_add]; exact hvc j v hj⟩) (lpEl.one p) (fun j hj => (raw_cell h0 (by rw [hpl] at hj; omega)).1) (fun j hj => (raw_cell h0 (by rw [hpl] at hj; omega)).2)
 have s1 : ∀ W : World, (Instr.slice 23 (.slice (some ⟨q, 0, none⟩) n n) (some (.int .i64 (i : Int))) none none).run Tryz.prog W = .ok (.slice (some ⟨q, i * 3, none⟩) (n - i) (n - i)) W := fun W => by
  rw [sl_l U hel hso q n n i _ rfl (by omega) (by omega) W, if_neg (by omega)]
 have s2 : ∀ W : World, (Instr.slice 23 (.slice (some ⟨q, 0, none⟩) n n) none (some (.int .i64 (i : Int))) none).run Tryz.prog W = .ok (.slice (some ⟨q, 0, none⟩) i n) W := fun W => sl_h U hel hso q n n i _ rfl (by omega) (by omega) W
 have s3 : ∀ W : World, (Instr.slice 23 (.slice (some ⟨N, 0, none⟩) (n + 1) G) (some (.int .i64 ((i : Int) + 1))) none none).run Tryz.prog W = .ok (.slice (some ⟨N, (i + 1) * 3, none⟩) (n - i) (G - (i + 1))) W := fun W => by
  rw [sl_l U hel hso N (n + 1) G (i + 1) _ (by omega) (by omega) (by omega) W, if_neg (by omega), show n + 1 - (i + 1) = n - i by omega]
 have s4 : ∀ W : World, (Instr.slice 23 (.slice (some ⟨N, 0, none⟩) (n + 1) G) (some (.int .i64 (i : Int))) none none).run Tryz.prog W = .ok (.slice (some ⟨N, i * 3, none⟩) (n + 1 - i) (G - i)) W := fun W => by
  rw [sl_l U hel hso N (n + 1) G i _ rfl (by omega) (by omega) W, if_neg (by omega)]
 have t1 : ((i : Int) == (n : Int)) = false := by rw [beq_eq_false_iff_ne]; omega
 have t2 : decide ((n : Int) < (n : Int) + 1) = true := by rw [decide_eq_true_eq]; omega
 have HI := Lib.hid (And.intro hi0 hz1)
 have HU := Lib.hid U
 have HW3 := Lib.hid (show W2.drew.setCells N ((i + 1) * 3) cs = W3 from (by have h := hW3; first | exact h | (rw [Nat.mul_one] at h; exact h) | (simp only [Nat.mul_one] at h; exact h)))
 have HR := Lib.hid (And.intro (own_flat lpEl (by rw [List.length_append, List.length_append, List.length_take, List.length_drop, List.length_singleton]; omega) h2) hk)
 have HCS := Lib.hid (show cs.length = (n - i) * i0.size ∧ (∀ v ∈ cs, v.oneCell' = true) ∧ cs.length = (n - i) * 3 from ⟨by rw [hcl, hz1], by rw [hcs]; exact lpEl.ones _, hcl⟩)
 have HQC := Lib.hid (show ∀ j v, cs[j]? = some v → W2.drew.cell? ⟨q, i * 3 + j, none⟩ = some v from fun j v hj => (by have h := hqc j v hj; first | exact h | (rw [Nat.mul_one] at h; exact h) | (simp only [Nat.mul_one] at h; exact h)))
 have HSP := Lib.hid (fun (j : Nat) (hj : j < G * 3) => raw_cell (ownsRow_below h1 (Below.refl _ W2).drew) hj)
 have HB := Lib.hid (And.intro hi (And.intro hGn hN))
 have hi2 : i ≤ 1000 := by omega
 have hlt2 : decide ((i : Int) ≤ (n : Int)) = true := by rw [decide_eq_true_eq]; omega
 clear hown hln hbq hi0 hz0 hz1 hz2 hlen hpl hcs hcl h0 hW1 hW2 hW3 h1 h2 hk hk12 hvc hqc hold hv hi U hso hel hXl hXt hRs hzc hROW hB1 hS1 hGn hG63 hG hqw hvw hb hN
 go_enter Tryz.func140, Tryz.ntmps140
 go_wp2_with (at_builtin; refine Lib.wpList_append_run _ rfl _ _ _ _ rfl _ _ rfl rfl _ _ (hrz _) ?_)
 refine held_start (C := fun _ => True) (by kernel_rfl) ?_
 rw [show ({ W2 with drawn := W2.drawn + 1 } : World) = W2.drew from rfl]
 refine held_quiet (by kernel_rfl) (fun _ _ d _ _ h => by cases d <;> exact h) trivial [0, 1, 2, 3, 4, 5, 6, 7] 1 _ _ (by kernel_rfl) ?_
 change wpQuiet _ _ _ _ (_ :: _ :: _ :: _ :: _ :: _ :: _ :: _ :: []) _
 repeat go_big_quiet_step (fail)
 refine wpQuiet_nil ?_
 refine held_do (i := 8) _ rfl (by kernel_rfl) rfl (fun K hK => ?_)
 refine wp_copyE (.tmp 50) (.tmp 53) 23 23 rfl 57 i0 HU.out HI.out.1 N ((i + 1) * 3) (n - i) (G - (i + 1)) (some ⟨q, i * 3, none⟩) (n - i) (n - i) (n - i) rfl rfl cs (by simp only [Nat.min_def]; split <;> omega) HCS.out.1 (fun _ => ⟨_, rfl, fun j v hj => by rw [addr_plus]; exact HQC.out j v hj⟩) HCS.out.2.1 (fun j hj => (HSP.out _ (by rw [HCS.out.2.2] at hj; have := HB.out; omega)).1) (fun j hj => (HSP.out _ (by rw [HCS.out.2.2] at hj; have := HB.out; omega)).2) ?_
 try simp only [Act.put, List.setIfInBounds_toArray, List.set_cons_zero, List.set_cons_succ]
 refine hK _ _ trivial ?_
 clear hK K
 try simp only [Act.put, List.setIfInBounds_toArray, List.set_cons_zero, List.set_cons_succ]
 refine wpAnyH_done (by kernel_rfl) ?_ _
 rw [HW3.out]
 go_wp2_with fail
 go_ret
 exact ⟨_, rfl, HR.out.1, HR.out.2.os, HR.out.2.tape, HR.out.2.output, HR.out.2.size, fun x hx _ => HR.out.2.block x hx (fun e => by have := HB.out.2.2; omega)⟩
theorem insertLp_any (l : List Lp) (base : Nat) (a : Option Addr) (n cap i : Nat) (p : Lp) (vb : Nat) (w : World) (hown : Own lpC 3 57 w base (.slice a n cap) l) (hl : n ≤ 1000) (hi : i ≤ n) (hv : w.heap[vb]? = some (.cells (lpC p).toArray 57 (0, 0))) (hne : (Value.slice a n cap).ownBlock ≠ some vb) (hb : base ≤ w.heap.size) :
 Calls Tryz.prog 140 #[.slice a n cap, .int .i64 i, .slice (some ⟨vb, 0, none⟩) 1 1] w fun e w' => ∃ v, e = .returned v ∧ Own lpC 3 57 w' base v (l.take i ++ [p] ++ l.drop i) ∧ w.grownBy w' (Value.slice a n cap).ownBlock := by
 obtain ⟨a', c', he, hlc, hr, _⟩ := hown.row lpEl
 injection he with e1 e2 e3
 subst e1 e3
 have hln : l.length = n := e2.symm
 by_cases hin : i = n
 · subst hin
   refine insertEndLp l base a i cap p vb w hown hln hl ⟨fun _ => ⟨vb, 0, rfl, lt_of_block hv, fun j x hj t u hu => ?_⟩⟩ hb
   match j, hj with
   | 0, hj =>
    injection hj with hj
    subst hj
    simp [World.cell?, hv, hu]
 · obtain ⟨q, c2, he2, _, _⟩ := hown.open (by omega)
   injection he2 with f1 f2 f3
   subst f1
   by_cases hroom : n + 1 ≤ cap
   · exact insertRoomLp l base q n cap i p vb w hown hl (by omega) hroom hv (fun e => hne (by rw [e]; rfl))
   · obtain rfl : n = cap := by omega
     exact insertGrowLp l base q n i p vb w hown hl (by omega) hv hb
set_option maxHeartbeats 4000000 in
set_option maxRecDepth 100000 in
theorem deleteTg_any (l : List ByteArray) (base q cap j p n n1 : Nat) (w : World) (hown : Own tgC 1 9 w base (.slice (some ⟨q, 0, none⟩) n cap) l) (hn : l.length ≤ 1000) (hj : j < n) (hp : p = j + 1) (h1 : n = n1 + 1) :
 Calls Tryz.prog 91 #[.slice (some ⟨q, 0, none⟩) n cap, .int .i64 j, .int .i64 p] w fun e w' =>
  e = .returned (.slice (some ⟨q, 0, none⟩) n1 cap) ∧ Own tgC 1 9 w' base (.slice (some ⟨q, 0, none⟩) n1 cap) (l.take j ++ l.drop (j + 1)) ∧ Kept (fun b => b = q) w w' := by
 obtain ⟨hln, hnc, hcm, hbq⟩ := hown.facts
 unfold maxLen at hcm
 obtain ⟨m, hm⟩ : ∃ m, n = p + m := ⟨n - p, by omega⟩
 have hel : Tryz.prog.elem 24 = 9 := by kernel_rfl
 have hso := Tryz.sizeOf9
 have U := underTg.out
 have hne : ((j : Int) == (p : Int)) = false := by rw [beq_eq_false_iff_ne]; omega
 obtain ⟨ad, had⟩ : ∃ ad : Addr, ad = if cap = p then ⟨q, 0, none⟩ else ⟨q, p, none⟩ := ⟨_, rfl⟩
 have s1 : ∀ W : World, (Instr.slice 24 (.slice (some ⟨q, 0, none⟩) n cap) (some (.int .i64 (j : Int))) (some (.int .i64 (p : Int))) (some (.int .i64 (n : Int)))).run Tryz.prog W = .ok (.slice (some ⟨q, j, none⟩) 1 (n - j)) W := fun W => by
  rw [run_slice_lhm (w := W) 24 _ n cap U .i64 .i64 .i64 (j : Int) (p : Int) (n : Int) (by omega) (by omega) (by omega) (by omega), hel, hso]
  have : ¬ n = j := by omega
  have h2 : p - j = 1 := by omega
  simp [sliced, Result.andThen, this, addr_plus, h2]
 have s2 : ∀ W : World, (Instr.slice 24 (.slice (some ⟨q, 0, none⟩) n cap) none (some (.int .i64 (j : Int))) none).run Tryz.prog W = .ok (.slice (some ⟨q, 0, none⟩) j cap) W := fun W => sl_h U hel hso q n cap j _ rfl (by omega) (by omega) W
 have s3 : ∀ W : World, (Instr.slice 24 (.slice (some ⟨q, 0, none⟩) n cap) (some (.int .i64 (p : Int))) none none).run Tryz.prog W = .ok (.slice (some ad) m (cap - p)) W := fun W => by
  rw [run_slice_l (w := W) 24 _ n cap U .i64 (p : Int) (by omega) (by omega), hel, hso, had]
  have h2 : n - p = m := by omega
  by_cases h : cap = p
  · simp [sliced, Result.andThen, h, h2]
  · simp [sliced, Result.andThen, h, addr_plus, h2]
 have s4 : ∀ W : World, (Instr.slice 24 (.slice (some ⟨q, 0, none⟩) n1 cap) (some (.int .i64 (n1 : Int))) (some (.int .i64 (n : Int))) none).run Tryz.prog W = .ok (.slice (some ⟨q, n1, none⟩) 1 (cap - n1)) W := fun W => by
  rw [run_slice_lh (w := W) 24 _ n1 cap U .i64 .i64 (n1 : Int) (n : Int) (by omega) (by omega) (by omega), hel, hso]
  have : ¬ cap = n1 := by omega
  have h2 : n - n1 = 1 := by omega
  simp [sliced, Result.andThen, this, addr_plus, h2]
 obtain ⟨news, hnews⟩ : ∃ news, news = (l.drop p).flatMap tgC := ⟨_, rfl⟩
 have hnl : news.length = m * 1 := by rw [hnews, tgEl.flat, List.length_drop]; omega
 have hone : ∀ u ∈ news, u.oneCell' = true := by rw [hnews]; exact tgEl.ones _
 have hcc : ∀ i u, news[i]? = some u → w.cell? (ad.add i) = some u := fun i u hi => by
  have hi2 := (List.getElem?_eq_some_iff.1 hi).1
  rw [hnl] at hi2
  rw [had, if_neg (by omega), addr_plus]
  refine hown.at tgEl ?_
  rw [hnews, ← flat_drop tgEl, List.getElem?_drop] at hi
  rw [show p + i = p * 1 + i by omega]
  exact hi
 have hsp := fun (i : Nat) (hi : i < cap * 1) => hown.cellE hi
 have hlen := tgEl.flat l
 obtain ⟨W1, hW1⟩ : ∃ W, w.drew.setCells q (j * 1) news = W := ⟨_, rfl⟩
 have hro : W1.ownsRow base 9 1 (.slice (some ⟨q, 0, none⟩) n cap) n ((l.flatMap tgC).take (j * 1) ++ news ++ (l.flatMap tgC).drop (j * 1 + news.length)) := by
  rw [← hW1]
  have h0 := hown.below (Below.refl _ w).drew
  unfold Own at h0
  rw [← hln] at h0
  exact own_lay news (j * 1) h0 (by rw [hnl, hlen, ← hln]; omega)
 have hk1 : Kept (fun b => b = q) w W1 := by
  rw [← hW1]
  exact (Kept.of_below (Below.refl _ w).drew).trans (kept_layK q news _ _)
 have hz : ∀ w, (zeroValue 9).run Tryz.prog w = .ok (.string ⟨#[]⟩) w := fun w => by kernel_rfl
 have hcell : ∀ i, i < cap * 1 → (W1.cell? ⟨q, i, none⟩).isSome = true ∧ W1.frozen? ⟨q, i, none⟩ = false := fun i hi => raw_cell hro hi
 obtain ⟨vs, hvs⟩ := run_clear_rowE (P := Tryz.prog) W1 24 9 0 (.string ⟨#[]⟩) U hz (by decide) q (n1) 1 (cap - n1) (by omega)
  (fun i (hi : i < 1 * 1) => (hcell (n1 + i) (by omega)).1) (fun i (hi : i < 1 * 1) => (hcell (n1 + i) (by omega)).2)
 obtain ⟨W2, hW2⟩ : ∃ W, W1.setCells q (n1) vs = W := ⟨_, rfl⟩
 have hr2 : Own tgC 1 9 W2 base (.slice (some ⟨q, 0, none⟩) n1 cap) (l.take j ++ l.drop (j + 1)) := by
  have h3 := own_less hro (n' := n1) (by omega)
  have e : (((l.flatMap tgC).take (j * 1) ++ news ++ (l.flatMap tgC).drop (j * 1 + news.length)).take (n1 * 1)) = (l.take j ++ l.drop (j + 1)).flatMap tgC := by
   rw [List.take_append_of_le_length (by rw [List.length_append, List.length_take, hnl, hlen, ← hln]; omega), List.take_of_length_le (by rw [List.length_append, List.length_take, hnl, hlen, ← hln]; omega), flat_take tgEl, hnews, hp, List.flatMap_append]
  rw [e] at h3
  rw [← hW2]
  exact own_flat tgEl (by rw [List.length_append, List.length_take, List.length_drop]; omega) (own_cleared h3 vs (n1) (by rw [tgEl.flat, List.length_append, List.length_take, List.length_drop]; omega))
 have hk2 : Kept (fun b => b = q) w W2 := by
  rw [← hW2]
  exact hk1.trans (kept_layK q vs _ _)
 rw [hW2] at hvs
 obtain ⟨i0, hi0, hz0, hz1, hz2⟩ := info_parts infoTg.out
 have hjm : j + m = n1 := by omega
 have HI := Lib.hid (And.intro hi0 hz1)
 have HN := Lib.hid (And.intro hnl (And.intro hcc hone))
 have HS := Lib.hid hsp
 have HW1 := Lib.hid (show w.drew.setCells q (j) news = W1 from by first | exact hW1 | (rw [Nat.mul_one] at hW1; exact hW1))
 have HR := Lib.hid (And.intro hr2 hk2)
 have HJ := Lib.hid hjm
 have hn1c : n1 ≤ cap := by omega
 clear hown hnl hcc hone hsp hW1 hro hk1 hz hr2 hk2 hi0 hz0 hz1 hz2 hnews hjm hW2 had hn hln hbq hp h1 hm hlen hcell
 go_enter Tryz.func91, Tryz.ntmps91
 go_wp2_with fail
 go_region_law (refine step_append_roomK 1 rfl (.tmp 22) (.tmp 25) 24 rfl 9 i0 U HI.out.1 HI.out.2 q j cap rfl ad m (cap - p) rfl news HN.out.1 HN.out.2.1 HN.out.2.2 n1 HJ.out hn1c HS.out ?_)
 all_goals
  rw [HW1.out]
  go_wp2_with fail
  go_ret
  exact ⟨rfl, HR.out.1, HR.out.2⟩
set_option maxHeartbeats 4000000 in
set_option maxRecDepth 100000 in
theorem insertEndTg (l : List ByteArray) (base : Nat) (a : Option Addr) (n cap : Nat) (p : ByteArray) (vb : Nat) (w : World) (hown : Own tgC 1 9 w base (.slice a n cap) l) (hln : l.length = n) (hl : n ≤ 1000) (hv : Rw tgC 1 w (some ⟨vb, 0, none⟩) [p]) (hb : base ≤ w.heap.size) :
 Calls Tryz.prog 90 #[.slice a n cap, .int .i64 n, .slice (some ⟨vb, 0, none⟩) 1 1] w fun e w' => ∃ v, e = .returned v ∧ Own tgC 1 9 w' base v (l.take n ++ [p] ++ l.drop n) ∧ w.grownBy w' (Value.slice a n cap).ownBlock := by
 have hel : Tryz.prog.elem 24 = 9 := by kernel_rfl
 have hso := Tryz.sizeOf9
 have U := underTg.out
 have he : l.take n ++ [p] ++ l.drop n = l ++ [p] := by rw [← hln, List.take_length, List.drop_length, List.append_nil]
 have HP := Lib.hid (And.intro hown (And.intro hv he))
 have HLN := Lib.hid hln
 have s1 : ∀ W : World, ∃ u, (Instr.slice 24 (.slice a n cap) (some (.int .i64 (n : Int))) none none).run Tryz.prog W = .ok u W := fun W => by
  rcases hown.2 with ⟨h0, h1⟩ | ⟨g, cap', cur, hv', hg, hb', e1, e2, e3, e4⟩
  · injection h0 with f1 f2 f3
    subst f1 f2 f3
    exact ⟨.slice none 0 0, by kernel_rfl⟩
  · injection hv' with f1 f2 f3
    subst f1 f3
    unfold maxLen at e2
    exact ⟨_, sl_l U hel hso g n cap n _ rfl (Nat.le_refl _) (by omega) W⟩
 obtain ⟨u, hu⟩ := s1 w
 have he2 : ((n : Int) == (n : Int)) = true := by simp
 clear s1 hown hv he hln
 go_enter Tryz.func90, Tryz.ntmps90
 go_wp2_with (at_builtin; refine append_Tgs rfl _ _ rfl rfl HP.out.1 rfl (m := [p]) rfl HP.out.2.1 (by have := HLN.out; omega) hb (fun v' w' ho hg => ?_))
 go_ret
 exact ⟨v', rfl, HP.out.2.2 ▸ ho, hg⟩
set_option maxHeartbeats 4000000 in
set_option maxRecDepth 100000 in
theorem insertRoomTg (l : List ByteArray) (base q n cap i : Nat) (p : ByteArray) (vb : Nat) (w : World) (hown : Own tgC 1 9 w base (.slice (some ⟨q, 0, none⟩) n cap) l) (hl : n ≤ 1000) (hi : i < n) (hroom : n + 1 ≤ cap) (hv : w.heap[vb]? = some (.cells (tgC p).toArray 9 (0, 0))) (hne : vb ≠ q) :
 Calls Tryz.prog 90 #[.slice (some ⟨q, 0, none⟩) n cap, .int .i64 i, .slice (some ⟨vb, 0, none⟩) 1 1] w fun e w' => ∃ v, e = .returned v ∧ Own tgC 1 9 w' base v (l.take i ++ [p] ++ l.drop i) ∧ w.grownBy w' (Value.slice (some ⟨q, 0, none⟩) n cap).ownBlock := by
 obtain ⟨hln, hnc, hcm, hbq⟩ := hown.facts
 unfold maxLen at hcm
 have hel : Tryz.prog.elem 24 = 9 := by kernel_rfl
 have hso := Tryz.sizeOf9
 have U := underTg.out
 obtain ⟨i0, hi0, hz0, hz1, hz2⟩ := info_parts infoTg.out
 have hlen := tgEl.flat l
 have hpl := tgEl.len p
 -- the world behind both copies
 obtain ⟨cs, hcs⟩ : ∃ cs, cs = (l.drop i).flatMap tgC := ⟨_, rfl⟩
 have hcl : cs.length = (n - i) * 1 := by rw [hcs, tgEl.flat, List.length_drop, ← hln]
 have hraw : w.ownsRow base 9 1 (.slice (some ⟨q, 0, none⟩) n cap) n (l.flatMap tgC) := by
  have h := hown
  unfold Own at h
  rw [← hln] at h
  exact h
 obtain ⟨ys, hys, h0⟩ := own_more hraw (n' := n + 1) (by omega) hroom
 rw [show (n + 1 - n) * 1 = 1 by omega] at hys
 obtain ⟨W1, hW1⟩ : ∃ W, w.drew.setCells q ((i + 1) * 1) cs = W := ⟨_, rfl⟩
 obtain ⟨W2, hW2⟩ : ∃ W, W1.setCells q (i * 1) (tgC p) = W := ⟨_, rfl⟩
 have h1 : W1.ownsRow base 9 1 (.slice (some ⟨q, 0, none⟩) (n + 1) cap) (n + 1) ((l.flatMap tgC ++ ys).take ((i + 1) * 1) ++ cs ++ (l.flatMap tgC ++ ys).drop ((i + 1) * 1 + cs.length)) := by
  rw [← hW1]
  exact own_lay cs _ (ownsRow_below h0 (Below.refl _ w).drew) (by rw [hcl, List.length_append, hlen, hys, ← hln]; omega)
 have h2 : W2.ownsRow base 9 1 (.slice (some ⟨q, 0, none⟩) (n + 1) cap) (n + 1) ((l.take i ++ [p] ++ l.drop i).flatMap tgC) := by
  have h3 := own_lay (tgC p) (i * 1) h1 (by rw [hpl, List.length_append, List.length_append, List.length_take, List.length_append, hlen, hys, hcl, ← hln]; omega)
  rw [hW2] at h3
  refine own_congr h3 ?_
  rw [show (i + 1) * 1 = i * 1 + 1 by omega, ins_list (l.flatMap tgC) ys cs (tgC p) (i * 1) 1 hpl hys (by rw [hlen, ← hln]; omega) (by rw [hcs, flat_drop tgEl]), flat_take tgEl, flat_drop tgEl, List.flatMap_append, List.flatMap_append, show ([p].flatMap tgC) = tgC p from List.append_nil _]
 have hk : Kept (fun b => b = q) w W2 := by
  rw [← hW2, ← hW1]
  exact ((Kept.of_below (Below.refl _ w).drew).trans (kept_layK q cs _ _)).trans (kept_layK q (tgC p) _ _)
 have hvc : ∀ j v, (tgC p)[j]? = some v → w.cell? ⟨vb, j, none⟩ = some v := fun j v hj => by simp [World.cell?, hv, hj]
 have hov : ∀ (W : World), (∀ b : Nat, W.heap[b]? = w.heap[b]?) → ∀ o' lb cb, (callFunc 94 #[.slice (some ⟨vb, 0, none⟩) 1 1, .slice (some ⟨q, o', none⟩) lb cb]).run Tryz.prog W = .ok (.value (.bool false)) W := fun W hW o' lb cb => by
  have hsa : W.shape? vb = some (9, 1) := by simp [World.shape?, hW, hv, hpl]
  have hsb : W.shape? q = some (9, cap * 1) := by
   have h := hown.shape
   simp only [World.shape?, hW] at h ⊢
   exact h
  have hfr : ∀ x, W.frozen? ⟨vb, x, none⟩ = false := fun x => by simp [World.frozen?, hW, hv]
  rw [run_callFunc_extern Tryz.func94 (by kernel_rfl) (by kernel_rfl) (by kernel_rfl) (e := Extern.SlicesOverlaps.overlaps #[24, 24] #[4]) (by kernel_rfl),
   Lib.run_overlaps_apart W 24 4 9 U 1 hso ⟨vb, 0, none⟩ ⟨q, o', none⟩ 1 1 lb cb hne 9 9 1 (cap * 1) hsa hsb (by omega) (hfr 0) (hfr 1)]
  rfl
 have hsp := fun (i : Nat) (hi : i < cap * 1) => hown.cellE hi
 have HI := Lib.hid (And.intro hi0 hz1)
 have HOV := Lib.hid hov
 have HD := Lib.hid (show W1.setCells q (i) (tgC p) = W2 from (by have h := hW2; first | exact h | (rw [Nat.mul_one] at h; exact h) | (simp only [Nat.mul_one] at h; exact h)))
 have HD1 := Lib.hid (show w.drew.setCells q ((i + 1)) cs = W1 from (by have h := hW1; first | exact h | (rw [Nat.mul_one] at h; exact h) | (simp only [Nat.mul_one] at h; exact h)))
 have HR := Lib.hid (And.intro (own_flat tgEl (by rw [List.length_append, List.length_append, List.length_take, List.length_drop, List.length_singleton]; omega) h2) hk)
 have HCS := Lib.hid (show cs.length = (n - i) * i0.size ∧ (∀ j v, cs[j]? = some v → w.cell? ⟨q, i + j, none⟩ = some v) ∧ (∀ v ∈ cs, v.oneCell' = true) from ⟨by rw [hcl, hz1], fun j v hj => by
  rw [hcs, ← flat_drop tgEl, List.getElem?_drop] at hj
  exact (by have h := hown.at tgEl hj; first | exact h | (rw [Nat.mul_one] at h; exact h) | (simp only [Nat.mul_one] at h; exact h)), by rw [hcs]; exact tgEl.ones _⟩)
 have HSP := Lib.hid hsp
 have HN := Lib.hid (show cs.length = (n - i) * 1 from hcl)
 have HV1 := Lib.hid (show (∀ j v, (tgC p)[j]? = some v → W1.cell? ⟨vb, j, none⟩ = some v) ∧ (∀ j, j < cap * 1 → (W1.cell? ⟨q, j, none⟩).isSome = true ∧ W1.frozen? ⟨q, j, none⟩ = false) ∧ (tgC p).length = i0.size from by
  have hk1 : Kept (fun b => b = q) w W1 := by
   rw [← hW1]
   exact (Kept.of_below (Below.refl _ w).drew).trans (kept_layK q cs _ _)
  exact ⟨fun j v hj => hk1.cell (p := ⟨vb, j, none⟩) hne (hvc j v hj), fun j hj => raw_cell h1 hj, by rw [hpl, hz1]⟩)
 have s1 : ∀ W : World, (Instr.slice 24 (.slice (some ⟨q, 0, none⟩) n cap) (some (.int .i64 (i : Int))) none none).run Tryz.prog W = .ok (.slice (some ⟨q, i, none⟩) (n - i) (cap - i)) W := fun W => by
  rw [sl_l U hel hso q n cap i _ rfl (by omega) (by omega) W, if_neg (by omega)]
  simp only [Nat.mul_one]
 have s2 : ∀ W : World, (Instr.slice 24 (.slice (some ⟨q, 0, none⟩) n cap) none (some (.int .i64 ((n : Int) + 1))) none).run Tryz.prog W = .ok (.slice (some ⟨q, 0, none⟩) (n + 1) cap) W := fun W => sl_h U hel hso q n cap (n + 1) _ (by omega) (by omega) (by omega) W
 have s3 : ∀ W : World, (Instr.slice 24 (.slice (some ⟨q, 0, none⟩) (n + 1) cap) (some (.int .i64 ((i : Int) + 1))) none none).run Tryz.prog W = .ok (.slice (some ⟨q, (i + 1), none⟩) (n - i) (cap - (i + 1))) W := fun W => by
  rw [sl_l U hel hso q (n + 1) cap (i + 1) _ (by omega) (by omega) (by omega) W, if_neg (by omega), show n + 1 - (i + 1) = n - i by omega]
  simp only [Nat.mul_one]
 have s4 : ∀ W : World, (Instr.slice 24 (.slice (some ⟨q, 0, none⟩) (n + 1) cap) (some (.int .i64 (i : Int))) none none).run Tryz.prog W = .ok (.slice (some ⟨q, i, none⟩) (n + 1 - i) (cap - i)) W := fun W => by
  rw [sl_l U hel hso q (n + 1) cap i _ rfl (by omega) (by omega) W, if_neg (by omega)]
  simp only [Nat.mul_one]
 have t1 : ((i : Int) == (n : Int)) = false := by rw [beq_eq_false_iff_ne]; omega
 have t2 : decide ((cap : Int) < (n : Int) + 1) = false := by rw [decide_eq_false_iff_not]; omega
 have HU := Lib.hid U
 have HONE := Lib.hid (tgEl.one p)
 have HPL := Lib.hid hpl
 have HB := Lib.hid (And.intro hi hroom)
 have hk1000 : cap ≤ 9223372036854775807 := by omega
 have hi2 : i ≤ 1000 := by omega
 clear hown hln hnc hcm hbq hi0 hz0 hz1 hz2 hlen hpl hcs hcl hys h0 hW1 hW2 h1 h2 hk hvc hov hsp hv hi hroom U hso hel ys hraw
 go_enter Tryz.func90, Tryz.ntmps90
 have hov0 := fun o' lb cb => HOV.out w (fun _ => rfl) o' lb cb
 go_wp2_with (simp only [hov0])
 refine held_start (C := fun _ => True) (by kernel_rfl) ?_
 rw [show ({ w with drawn := w.drawn + 1 } : World) = w.drew from rfl]
 refine held_quiet (by kernel_rfl) (fun _ _ d _ _ h => by cases d <;> exact h) trivial [0, 1, 2, 3, 4, 5, 6, 7] 1 _ _ (by kernel_rfl) ?_
 change wpQuiet _ _ _ _ (_ :: _ :: _ :: _ :: _ :: _ :: _ :: _ :: []) _
 repeat go_big_quiet_step (fail)
 refine wpQuiet_nil ?_
 refine held_do (i := 8) _ rfl (by kernel_rfl) rfl (fun K hK => ?_)
 refine wp_copyE (.tmp 73) (.tmp 76) 24 24 rfl 9 i0 HU.out HI.out.1 q ((i + 1)) (n - i) (cap - (i + 1)) (some ⟨q, i, none⟩) (n + 1 - i) (cap - i) (n - i) rfl rfl cs (by simp only [Nat.min_def]; split <;> omega) HCS.out.1 (fun _ => ⟨_, rfl, fun j v hj => by rw [addr_plus]; exact HCS.out.2.1 j v hj⟩) HCS.out.2.2 (fun j hj => (HSP.out _ (by rw [HN.out] at hj; have := HB.out; omega)).1) (fun j hj => (HSP.out _ (by rw [HN.out] at hj; have := HB.out; omega)).2) ?_
 try simp only [Act.put, List.setIfInBounds_toArray, List.set_cons_zero, List.set_cons_succ]
 refine hK _ _ trivial ?_
 clear hK K
 try simp only [Act.put, List.setIfInBounds_toArray, List.set_cons_zero, List.set_cons_succ]
 refine wpAnyH_done (by kernel_rfl) ?_ _
 rw [HD1.out]
 have hcp : ∀ ty, (Builtin.copy_ #[24, 24] ty #[.slice (some ⟨q, i, none⟩) (n + 1 - i) (cap - i), .slice (some ⟨vb, 0, none⟩) 1 1]).run Tryz.prog W1 = .ok (goInt 1) W2 := fun ty => by
  rw [← HD.out]
  exact run_copyE (P := Tryz.prog) W1 24 24 ty 9 i0 q (i) (n + 1 - i) (cap - i) (some ⟨vb, 0, none⟩) 1 1 1 (tgC p) HU.out HI.out.1 (by have := HB.out; simp only [Nat.min_def]; split <;> omega) (by rw [HV1.out.2.2, Nat.one_mul]) (fun _ => ⟨_, rfl, fun j v hj => by rw [addr_plus, Nat.zero_add]; exact HV1.out.1 j v hj⟩) HONE.out (fun j hj => (HV1.out.2.1 _ (by rw [HPL.out] at hj; have := HB.out; omega)).1) (fun j hj => (HV1.out.2.1 _ (by rw [HPL.out] at hj; have := HB.out; omega)).2)
 go_wp2_with fail
 go_ret
 exact ⟨_, rfl, HR.out.1, HR.out.2.os, HR.out.2.tape, HR.out.2.output, HR.out.2.size, fun x hx hne => HR.out.2.block x hx (fun e => hne (by rw [e]; rfl))⟩
set_option maxHeartbeats 4000000 in
set_option maxRecDepth 100000 in
theorem insertGrowTg (l : List ByteArray) (base q n i : Nat) (p : ByteArray) (vb : Nat) (w : World) (hown : Own tgC 1 9 w base (.slice (some ⟨q, 0, none⟩) n n) l) (hl : n ≤ 1000) (hi : i < n) (hv : w.heap[vb]? = some (.cells (tgC p).toArray 9 (0, 0))) (hb : base ≤ w.heap.size) :
 Calls Tryz.prog 90 #[.slice (some ⟨q, 0, none⟩) n n, .int .i64 i, .slice (some ⟨vb, 0, none⟩) 1 1] w fun e w' => ∃ v, e = .returned v ∧ Own tgC 1 9 w' base v (l.take i ++ [p] ++ l.drop i) ∧ w.grownBy w' (Value.slice (some ⟨q, 0, none⟩) n n).ownBlock := by
 obtain ⟨hln, _, _, hbq⟩ := hown.facts
 have hel : Tryz.prog.elem 24 = 9 := by kernel_rfl
 have hso := Tryz.sizeOf9
 have U := underTg.out
 obtain ⟨i0, hi0, hz0, hz1, hz2⟩ := info_parts infoTg.out
 have hlen := tgEl.flat l
 have hpl := tgEl.len p
 have hqw : q < w.heap.size := (hown.lt q rfl).2
 have hvw : vb < w.heap.size := lt_of_block hv
 obtain ⟨cs, hcs⟩ : ∃ cs, cs = (l.drop i).flatMap tgC := ⟨_, rfl⟩
 have hcl : cs.length = (n - i) * 1 := by rw [hcs, tgEl.flat, List.length_drop, ← hln]
 obtain ⟨N, hN⟩ : ∃ N, w.heap.size = N := ⟨_, rfl⟩
 obtain ⟨G, hG⟩ : ∃ G, grownCap w (n + 1) n 9 = G := ⟨_, rfl⟩
 have hGn : n + 1 ≤ G := by rw [← hG]; exact grownCap_ge w _ _ _
 have hG63 : G ≤ maxLen := by rw [← hG]; exact grownCap_le_maxLen w _ _ _ (by unfold maxLen; omega)
 obtain ⟨ROW, hROW⟩ : ∃ ROW : Array Value, ((l.take i).flatMap tgC).toArray ++ Builtin.zeroCells (Value.cells (.string ⟨#[]⟩)) (n + 1 - i) ++ Builtin.zeroCells (Value.cells (.string ⟨#[]⟩)) (G - (n + 1)) = ROW := ⟨_, rfl⟩
 have hzc : ∀ m, (Builtin.zeroCells (Value.cells (.string ⟨#[]⟩)) m).size = m * 1 := fun m => by
  have : (Value.cells (.string ⟨#[]⟩)).size = 1 := by rfl
  simp [Builtin.zeroCells, this]
 have hRs : ROW.size = G * 1 := by
  rw [← hROW, Array.size_append, Array.size_append, hzc, hzc, List.size_toArray, tgEl.flat, List.length_take, ← hln]
  have : min i n = i := Nat.min_eq_left (by omega)
  rw [this]
  omega
 obtain ⟨W1, hW1⟩ : ∃ W, w.drew.alloc (.cells ROW 9) = W := ⟨_, rfl⟩
 have hB1 : Below w.heap.size w W1 := by
  rw [← hW1]
  exact below_step (Below.refl _ w).drew (below_al _ _)
 have hS1 : W1.heap[N]? = some (.cells ROW 9 (0, 0)) := by
  rw [← hW1, ← hN]
  exact heap_alloc_new w.drew _
 have h0 : W1.ownsRow base 9 1 (.slice (some ⟨N, 0, none⟩) (n + 1) G) (n + 1) (ROW.toList.take ((n + 1) * 1)) := ⟨by rw [List.length_take, Array.length_toList, hRs]; omega, Or.inr ⟨N, G, ROW, rfl, by omega, hS1, hGn, hG63, hRs, rfl⟩⟩
 obtain ⟨W2, hW2⟩ : ∃ W, W1.setCells N (i * 1) (tgC p) = W := ⟨_, rfl⟩
 obtain ⟨W3, hW3⟩ : ∃ W, W2.drew.setCells N ((i + 1) * 1) cs = W := ⟨_, rfl⟩
 have hXl : (ROW.toList.take ((n + 1) * 1)).length = (n + 1) * 1 := by rw [List.length_take, Array.length_toList, hRs]; omega
 have hXt : (ROW.toList.take ((n + 1) * 1)).take (i * 1) = (l.flatMap tgC).take (i * 1) := by
  rw [List.take_take, Nat.min_eq_left (by omega), ← hROW, Array.toList_append, Array.toList_append, List.append_assoc, List.take_append_of_le_length (by rw [tgEl.flat, List.length_take, ← hln]; omega), ← flat_take tgEl, List.take_take, Nat.min_self]
 have h1 := own_lay (tgC p) (i * 1) h0 (by rw [hXl, hpl]; omega)
 rw [hW2] at h1
 have h2 : W3.ownsRow base 9 1 (.slice (some ⟨N, 0, none⟩) (n + 1) G) (n + 1) ((l.take i ++ [p] ++ l.drop i).flatMap tgC) := by
  have h3 := own_lay cs ((i + 1) * 1) (ownsRow_below h1 (Below.refl _ W2).drew) (by simp only [List.length_append, List.length_take, List.length_drop, hXl, hpl, hcl]; omega)
  rw [hW3] at h3
  refine own_congr h3 ?_
  rw [show (i + 1) * 1 = i * 1 + 1 by omega, ins_list2 _ cs (tgC p) (l.flatMap tgC) (i * 1) 1 hpl (by rw [hXl, hlen, ← hln]; omega) (by rw [hlen, ← hln]; omega) hXt (by rw [hcs, flat_drop tgEl]), flat_take tgEl, flat_drop tgEl, List.flatMap_append, List.flatMap_append, show ([p].flatMap tgC) = tgC p from List.append_nil _]
 have hk12 : Kept (fun b => b = N) W1 W2 := by rw [← hW2]; exact kept_layK N (tgC p) _ _
 have hk : Kept (fun b => b = N) w W3 := by
  rw [← hW3]
  exact (((Kept.of_below hB1).trans hk12).trans (Kept.of_below (Below.refl _ W2).drew)).trans (kept_layK N cs _ _)
 have hvc : ∀ j v, (tgC p)[j]? = some v → W1.cell? ⟨vb, j, none⟩ = some v := fun j v hj => below_cell hB1 (by simp [World.cell?, hv, hj])
 have hqc : ∀ j v, cs[j]? = some v → W2.drew.cell? ⟨q, i * 1 + j, none⟩ = some v := fun j v hj => hk12.cell (p := ⟨q, i * 1 + j, none⟩) (fun e => by simp only at e; omega) (below_cell hB1 (hown.at tgEl (by
  rw [hcs, ← flat_drop tgEl, List.getElem?_drop] at hj
  exact hj)))
 have hold : (Builtin.firstCells i0.size i (.slice (some ⟨q, 0, none⟩) i n)).run Tryz.prog w.drew = .ok ((l.take i).flatMap tgC).toArray w.drew := by
  rw [hz1]
  exact run_firstCells_some (w := w.drew) 1 i ⟨q, 0, none⟩ i n ((l.take i).flatMap tgC) (by rw [tgEl.flat, List.length_take, ← hln, Nat.min_eq_left (by omega)]) (fun j v hj => by
   rw [addr_plus, Nat.zero_add]
   refine hown.at tgEl ?_
   rw [← flat_take tgEl, List.getElem?_take] at hj
   split at hj
   · exact hj
   · cases hj)
 have hrz : ∀ ty, (Builtin.append_ #[24, 3] ty #[.slice (some ⟨q, 0, none⟩) i n, .int .i64 ((n : Int) + 1 - (i : Int))]).run Tryz.prog w = .ok (.slice (some ⟨N, 0, none⟩) (n + 1) G) W1 := fun ty => by
  have h := Lib.run_append_grow_zeros w 24 3 ty 9 i0 _ .i64 .i64 U Tryz.underlying3 hi0 hz0 (some ⟨q, 0, none⟩) i n ((l.take i).flatMap tgC) hold (n + 1 - i) (by omega) (by omega) (by omega) (by omega) (by rw [hz2]; omega) (by rw [hz2, show i + (n + 1 - i) = n + 1 by omega]; exact growslice_fits (by omega) (by omega))
  rw [show i + (n + 1 - i) = n + 1 by omega, hN, hG, hROW, hW1] at h
  rw [show (n : Int) + 1 - (i : Int) = ((n + 1 - i : Nat) : Int) by omega]
  exact h
 have hcA : ∀ ty, (Builtin.copy_ #[24, 24] ty #[.slice (some ⟨N, i, none⟩) (n + 1 - i) (G - i), .slice (some ⟨vb, 0, none⟩) 1 1]).run Tryz.prog W1 = .ok (goInt 1) W2 := fun ty => by
  rw [← show W1.setCells N (i) (tgC p) = W2 from (by have h := hW2; first | exact h | (rw [Nat.mul_one] at h; exact h) | (simp only [Nat.mul_one] at h; exact h))]
  exact run_copyE (P := Tryz.prog) W1 24 24 ty 9 i0 N (i) (n + 1 - i) (G - i) (some ⟨vb, 0, none⟩) 1 1 1 (tgC p) U hi0 (by simp only [Nat.min_def]; split <;> omega) (by rw [hpl, hz1]) (fun _ => ⟨_, rfl, fun j v hj => by rw [addr_plus, Nat.zero_add]; exact hvc j v hj⟩) (tgEl.one p) (fun j hj => (raw_cell h0 (by rw [hpl] at hj; omega)).1) (fun j hj => (raw_cell h0 (by rw [hpl] at hj; omega)).2)
 have s1 : ∀ W : World, (Instr.slice 24 (.slice (some ⟨q, 0, none⟩) n n) (some (.int .i64 (i : Int))) none none).run Tryz.prog W = .ok (.slice (some ⟨q, i, none⟩) (n - i) (n - i)) W := fun W => by
  rw [sl_l U hel hso q n n i _ rfl (by omega) (by omega) W, if_neg (by omega)]
  simp only [Nat.mul_one]
 have s2 : ∀ W : World, (Instr.slice 24 (.slice (some ⟨q, 0, none⟩) n n) none (some (.int .i64 (i : Int))) none).run Tryz.prog W = .ok (.slice (some ⟨q, 0, none⟩) i n) W := fun W => sl_h U hel hso q n n i _ rfl (by omega) (by omega) W
 have s3 : ∀ W : World, (Instr.slice 24 (.slice (some ⟨N, 0, none⟩) (n + 1) G) (some (.int .i64 ((i : Int) + 1))) none none).run Tryz.prog W = .ok (.slice (some ⟨N, (i + 1), none⟩) (n - i) (G - (i + 1))) W := fun W => by
  rw [sl_l U hel hso N (n + 1) G (i + 1) _ (by omega) (by omega) (by omega) W, if_neg (by omega), show n + 1 - (i + 1) = n - i by omega]
  simp only [Nat.mul_one]
 have s4 : ∀ W : World, (Instr.slice 24 (.slice (some ⟨N, 0, none⟩) (n + 1) G) (some (.int .i64 (i : Int))) none none).run Tryz.prog W = .ok (.slice (some ⟨N, i, none⟩) (n + 1 - i) (G - i)) W := fun W => by
  rw [sl_l U hel hso N (n + 1) G i _ rfl (by omega) (by omega) W, if_neg (by omega)]
  simp only [Nat.mul_one]
 have t1 : ((i : Int) == (n : Int)) = false := by rw [beq_eq_false_iff_ne]; omega
 have t2 : decide ((n : Int) < (n : Int) + 1) = true := by rw [decide_eq_true_eq]; omega
 have HI := Lib.hid (And.intro hi0 hz1)
 have HU := Lib.hid U
 have HW3 := Lib.hid (show W2.drew.setCells N ((i + 1)) cs = W3 from (by have h := hW3; first | exact h | (rw [Nat.mul_one] at h; exact h) | (simp only [Nat.mul_one] at h; exact h)))
 have HR := Lib.hid (And.intro (own_flat tgEl (by rw [List.length_append, List.length_append, List.length_take, List.length_drop, List.length_singleton]; omega) h2) hk)
 have HCS := Lib.hid (show cs.length = (n - i) * i0.size ∧ (∀ v ∈ cs, v.oneCell' = true) ∧ cs.length = (n - i) * 1 from ⟨by rw [hcl, hz1], by rw [hcs]; exact tgEl.ones _, hcl⟩)
 have HQC := Lib.hid (show ∀ j v, cs[j]? = some v → W2.drew.cell? ⟨q, i + j, none⟩ = some v from fun j v hj => (by have h := hqc j v hj; first | exact h | (rw [Nat.mul_one] at h; exact h) | (simp only [Nat.mul_one] at h; exact h)))
 have HSP := Lib.hid (fun (j : Nat) (hj : j < G * 1) => raw_cell (ownsRow_below h1 (Below.refl _ W2).drew) hj)
 have HB := Lib.hid (And.intro hi (And.intro hGn hN))
 have hi2 : i ≤ 1000 := by omega
 have hlt2 : decide ((i : Int) ≤ (n : Int)) = true := by rw [decide_eq_true_eq]; omega
 clear hown hln hbq hi0 hz0 hz1 hz2 hlen hpl hcs hcl h0 hW1 hW2 hW3 h1 h2 hk hk12 hvc hqc hold hv hi U hso hel hXl hXt hRs hzc hROW hB1 hS1 hGn hG63 hG hqw hvw hb hN
 go_enter Tryz.func90, Tryz.ntmps90
 go_wp2_with (at_builtin; refine Lib.wpList_append_run _ rfl _ _ _ _ rfl _ _ rfl rfl _ _ (hrz _) ?_)
 refine held_start (C := fun _ => True) (by kernel_rfl) ?_
 rw [show ({ W2 with drawn := W2.drawn + 1 } : World) = W2.drew from rfl]
 refine held_quiet (by kernel_rfl) (fun _ _ d _ _ h => by cases d <;> exact h) trivial [0, 1, 2, 3, 4, 5, 6, 7] 1 _ _ (by kernel_rfl) ?_
 change wpQuiet _ _ _ _ (_ :: _ :: _ :: _ :: _ :: _ :: _ :: _ :: []) _
 repeat go_big_quiet_step (fail)
 refine wpQuiet_nil ?_
 refine held_do (i := 8) _ rfl (by kernel_rfl) rfl (fun K hK => ?_)
 refine wp_copyE (.tmp 50) (.tmp 53) 24 24 rfl 9 i0 HU.out HI.out.1 N ((i + 1)) (n - i) (G - (i + 1)) (some ⟨q, i, none⟩) (n - i) (n - i) (n - i) rfl rfl cs (by simp only [Nat.min_def]; split <;> omega) HCS.out.1 (fun _ => ⟨_, rfl, fun j v hj => by rw [addr_plus]; exact HQC.out j v hj⟩) HCS.out.2.1 (fun j hj => (HSP.out _ (by rw [HCS.out.2.2] at hj; have := HB.out; omega)).1) (fun j hj => (HSP.out _ (by rw [HCS.out.2.2] at hj; have := HB.out; omega)).2) ?_
 try simp only [Act.put, List.setIfInBounds_toArray, List.set_cons_zero, List.set_cons_succ]
 refine hK _ _ trivial ?_
 clear hK K
 try simp only [Act.put, List.setIfInBounds_toArray, List.set_cons_zero, List.set_cons_succ]
 refine wpAnyH_done (by kernel_rfl) ?_ _
 rw [HW3.out]
 go_wp2_with fail
 go_ret
 exact ⟨_, rfl, HR.out.1, HR.out.2.os, HR.out.2.tape, HR.out.2.output, HR.out.2.size, fun x hx _ => HR.out.2.block x hx (fun e => by have := HB.out.2.2; omega)⟩
theorem insertTg_any (l : List ByteArray) (base : Nat) (a : Option Addr) (n cap i : Nat) (p : ByteArray) (vb : Nat) (w : World) (hown : Own tgC 1 9 w base (.slice a n cap) l) (hl : n ≤ 1000) (hi : i ≤ n) (hv : w.heap[vb]? = some (.cells (tgC p).toArray 9 (0, 0))) (hne : (Value.slice a n cap).ownBlock ≠ some vb) (hb : base ≤ w.heap.size) :
 Calls Tryz.prog 90 #[.slice a n cap, .int .i64 i, .slice (some ⟨vb, 0, none⟩) 1 1] w fun e w' => ∃ v, e = .returned v ∧ Own tgC 1 9 w' base v (l.take i ++ [p] ++ l.drop i) ∧ w.grownBy w' (Value.slice a n cap).ownBlock := by
 obtain ⟨a', c', he, hlc, hr, _⟩ := hown.row tgEl
 injection he with e1 e2 e3
 subst e1 e3
 have hln : l.length = n := e2.symm
 by_cases hin : i = n
 · subst hin
   refine insertEndTg l base a i cap p vb w hown hln hl ⟨fun _ => ⟨vb, 0, rfl, lt_of_block hv, fun j x hj t u hu => ?_⟩⟩ hb
   match j, hj with
   | 0, hj =>
    injection hj with hj
    subst hj
    simp [World.cell?, hv, hu]
 · obtain ⟨q, c2, he2, _, _⟩ := hown.open (by omega)
   injection he2 with f1 f2 f3
   subst f1
   by_cases hroom : n + 1 ≤ cap
   · exact insertRoomTg l base q n cap i p vb w hown hl (by omega) hroom hv (fun e => hne (by rw [e]; rfl))
   · obtain rfl : n = cap := by omega
     exact insertGrowTg l base q n i p vb w hown hl (by omega) hv hb
end Go.Proofs.YtgdepcnfjmobjaaGreat

/- A text of this claim. -/
namespace Go.Proofs.YtgdepcnfjmobjaaGreat
open Go.RowKit Go.BigFrame
open Tr (inR)
end Go.Proofs.YtgdepcnfjmobjaaGreat

/- A text of this claim. -/
namespace Go.Proofs.YtgdepcnfjmobjaaGreat
open Go.RowKit Go.BigFrame
open Tr (Ed)
end Go.Proofs.YtgdepcnfjmobjaaGreat

/- A text of this claim. -/
namespace Go.Proofs.YtgdepcnfjmobjaaGreat
open Go.RowKit Go.BigFrame
open Tr (inR)
def Az : Acv := ⟨⟨#[]⟩, 0, 0, [], [], []⟩
theorem actV_z : actV Az none none none 0 0 0 = ac0 := rfl
theorem Rw.nil_ {α : Type} {C : α → List Value} {k : Nat} {w : World} {a : Option Addr} : Rw C k w a [] := ⟨fun h => absurd h (by simp)⟩
theorem actIn_z (w : World) : ActIn w Az none none none := ⟨Rw.nil_, Rw.nil_, Rw.nil_, by show (0 : Nat) ≤ _; omega, fun p h => by (cases h), fun p h => by (cases h), by show ((0 : Nat) : Int) ≤ _; omega, by show ((0 : Nat) : Int) ≤ _; omega, by show ((0 : Nat) : Int) ≤ _; omega⟩
end Go.Proofs.YtgdepcnfjmobjaaGreat

/- A text of this claim. -/
namespace Go.Proofs.YtgdepcnfjmobjaaGreat
open Tr (inR Ed)
def delT (s : ByteArray) (T : List ByteArray) : List ByteArray := T.filter fun t => decide (t ≠ s)
def lowT (s : ByteArray) : List ByteArray → Nat
 | [] => 0
 | t :: T => if Op.bytesLess (bL t) (bL s) = true then lowT s T + 1 else 0
theorem lowT_le (s : ByteArray) : ∀ T, lowT s T ≤ T.length
 | [] => Nat.le_refl _
 | t :: T => by
  rw [lowT]
  split
  · have := lowT_le s T
    simp only [List.length_cons]
    omega
  · exact Nat.zero_le _
theorem less_iff {a b : List UInt8} : Op.bytesLess a b = true ↔ a < b := by rw [bytesLess_eq, decide_eq_true_eq]
theorem lowT_before (s : ByteArray) : ∀ (T : List ByteArray) (i : Nat) (t : ByteArray), i < lowT s T → T[i]? = some t → bL t < bL s
 | [], i, t, h, _ => by simp [lowT] at h
 | u :: T, i, t, h, ht => by
  rw [lowT] at h
  split at h
  · rename_i hu
    match i, ht with
    | 0, ht => injection ht with ht; subst ht; exact less_iff.1 hu
    | i + 1, ht => exact lowT_before s T i t (by omega) ht
  · omega
theorem lowT_behind {s : ByteArray} : ∀ {T : List ByteArray}, T.Pairwise (fun x y => bL x < bL y) → ∀ (i : Nat) (t : ByteArray), lowT s T ≤ i → T[i]? = some t → ¬ bL t < bL s
 | [], _, i, t, _, ht => by simp at ht
 | u :: T, hs, i, t, h, ht => by
  have hs' := List.pairwise_cons.1 hs
  rw [lowT] at h
  split at h
  · match i, ht with
    | 0, _ => omega
    | i + 1, ht => exact lowT_behind hs'.2 i t (by omega) ht
  · rename_i hu
    have hu' : ¬ bL u < bL s := fun e => hu (less_iff.2 e)
    match i, ht with
    | 0, ht => injection ht with ht; subst ht; exact hu'
    | i + 1, ht => exact fun e => hu' (List.lt_trans (hs'.1 t (List.mem_of_getElem? ht)) e)
theorem lowT_at {s : ByteArray} : ∀ {T : List ByteArray}, T.Pairwise (fun x y => bL x < bL y) → s ∈ T → T[lowT s T]? = some s
 | [], _, h => by cases h
 | u :: T, hs, h => by
  have hs' := List.pairwise_cons.1 hs
  rw [lowT]
  rcases List.mem_cons.1 h with rfl | h
  · rw [if_neg (fun e => bL_irr _ (less_iff.1 e))]
    rfl
  · rw [if_pos (less_iff.2 (hs'.1 s h)), List.getElem?_cons_succ]
    exact lowT_at hs'.2 h
theorem insT_is {s : ByteArray} : ∀ {T : List ByteArray}, T.Pairwise (fun x y => bL x < bL y) → s ∉ T → T.take (lowT s T) ++ [s] ++ T.drop (lowT s T) = mergeT T [s]
 | [], _, _ => by rw [mergeT, mergeT]; rfl
 | u :: T, hs, h => by
  have hs' := List.pairwise_cons.1 hs
  rw [mergeT, lowT]
  by_cases hu : Op.bytesLess (bL u) (bL s) = true
  · rw [if_pos hu, if_pos hu, ← insT_is hs'.2 (fun e => h (List.mem_cons_of_mem _ e))]
    rfl
  · rw [if_neg hu, if_neg hu, if_neg (fun e => h (by rw [e]; exact List.mem_cons_self)), mergeT_nil]
    rfl
where
 mergeT_nil : ∀ {l : List ByteArray}, mergeT l [] = l
  | [] => by rw [mergeT]
  | x :: l => by rw [mergeT, mergeT_nil]
theorem delT_none {s : ByteArray} {T : List ByteArray} (h : s ∉ T) : delT s T = T := List.filter_eq_self.2 (fun t ht => by simpa using fun e : t = s => h (e ▸ ht))
theorem delT_is {s : ByteArray} : ∀ {T : List ByteArray}, T.Pairwise (fun x y => bL x < bL y) → s ∈ T → T.take (lowT s T) ++ T.drop (lowT s T + 1) = delT s T
 | [], _, h => by cases h
 | u :: T, hs, h => by
  have hs' := List.pairwise_cons.1 hs
  rw [lowT]
  by_cases hu : u = s
  · subst hu
    rw [if_neg (fun e => bL_irr _ (less_iff.1 e))]
    have : u ∉ T := fun e => bL_irr _ (hs'.1 u e)
    unfold delT
    rw [List.filter_cons_of_neg (by simp)]
    exact (delT_none this).symm
  · rcases List.mem_cons.1 h with e | h
    · exact absurd e.symm hu
    · rw [if_pos (less_iff.2 (hs'.1 s h))]
      unfold delT
      rw [List.filter_cons_of_pos (by simpa using hu), List.take_succ_cons, List.drop_succ_cons, List.cons_append]
      congr 1
      exact delT_is hs'.2 h
def putL (x : Lp) : List Lp → List Lp
 | [] => [x]
 | p :: l => if p.f ≤ x.f then p :: putL x l else x :: p :: l
def lowL (f : Int) : List Lp → Nat
 | [] => 0
 | p :: l => if p.f < f then lowL f l + 1 else 0
def putP (x : Lp) (l : List Lp) : List Lp := l.take (lowL x.f l) ++ [x] ++ l.drop (lowL x.f l)
theorem lowL_le (f : Int) : ∀ l, lowL f l ≤ l.length
 | [] => Nat.le_refl _
 | p :: l => by
  rw [lowL]
  split
  · have := lowL_le f l
    simp only [List.length_cons]
    omega
  · exact Nat.zero_le _
theorem putL_len (x : Lp) : ∀ l, (putL x l).length = l.length + 1
 | [] => rfl
 | p :: l => by
  rw [putL]
  split
  · rw [List.length_cons, putL_len x l, List.length_cons]
  · rfl
theorem putP_len (x : Lp) (l : List Lp) : (putP x l).length = l.length + 1 := by
 unfold putP
 have := lowL_le x.f l
 simp only [List.length_append, List.length_take, List.length_drop, List.length_singleton]
 omega
theorem putL_mem {x y : Lp} : ∀ {l : List Lp}, y ∈ putL x l → y = x ∨ y ∈ l
 | [], h => by
  rcases List.mem_cons.1 h with h | h
  · exact Or.inl h
  · cases h
 | p :: l, h => by
  rw [putL] at h
  split at h
  · rcases List.mem_cons.1 h with h | h
    · exact Or.inr (by rw [h]; exact List.mem_cons_self)
    · rcases putL_mem h with h | h
      · exact Or.inl h
      · exact Or.inr (List.mem_cons_of_mem _ h)
  · rcases List.mem_cons.1 h with h | h
    · exact Or.inl h
    · exact Or.inr h
theorem firstE_at {f : Nat → Int} : ∀ {n i j : Nat}, i ≤ j → j < i + n → (∀ m, i ≤ m → m < j → f m = 0) → f j ≠ 0 → firstE f n i = f j
 | 0, i, j, h1, h2, _, _ => by omega
 | n + 1, i, j, h1, h2, h0, hj => by
  rw [firstE]
  by_cases e : j = i
  · subst e
    rw [if_neg hj]
  · rw [if_pos (h0 i (Nat.le_refl _) (by omega))]
    exact firstE_at (by omega) (by omega) (fun m h3 h4 => h0 m (by omega) h4) hj
theorem put_ways (x : Lp) : ∀ (l : List Lp), l.Pairwise (fun p q => p.f < q.f) → putP x l = putL x l ∨ ∃ a p b, l = a ++ p :: b ∧ p.f = x.f ∧ putP x l = a ++ x :: p :: b ∧ putL x l = a ++ p :: x :: b
 | [], _ => Or.inl rfl
 | q :: l, hs => by
  have hs' := List.pairwise_cons.1 hs
  by_cases h1 : q.f < x.f
  · have e1 : putP x (q :: l) = q :: putP x l := by
     unfold putP
     rw [lowL, if_pos h1]
     rfl
    have e2 : putL x (q :: l) = q :: putL x l := by rw [putL, if_pos (by omega)]
    rcases put_ways x l hs'.2 with h | ⟨a, p, b, rfl, h2, h3, h4⟩
    · exact Or.inl (by rw [e1, e2, h])
    · exact Or.inr ⟨q :: a, p, b, rfl, h2, by rw [e1, h3]; rfl, by rw [e2, h4]; rfl⟩
  · have e1 : putP x (q :: l) = x :: q :: l := by
     unfold putP
     rw [lowL, if_neg h1]
     rfl
    by_cases h2 : q.f = x.f
    · have e3 : putL x l = x :: l := by
       cases l with
       | nil => rfl
       | cons r l =>
        have := hs'.1 r List.mem_cons_self
        rw [putL, if_neg (by omega)]
      refine Or.inr ⟨[], q, l, rfl, h2, e1, ?_⟩
      rw [putL, if_pos (by omega), e3]
      rfl
    · exact Or.inl (by rw [e1, putL, if_neg (by omega)])
theorem lp_sorted {span : Int} {l : List Lp} (h : LpOk span l) : l.Pairwise (fun p q => p.f < q.f) := by
 rw [List.pairwise_iff_getElem]
 intro i j hi hj hij
 have key : ∀ (d i : Nat) (p q : Lp), l[i]? = some p → l[i + d + 1]? = some q → p.f < q.f := by
  intro d
  induction d with
  | zero =>
   intro i p q hp hq
   have h1 := h.each i p hp
   have h2 := h.next i p q hp hq
   omega
  | succ d ih =>
   intro i p q hp hq
   obtain ⟨r, hr⟩ : ∃ r, l[i + d + 1]? = some r := ⟨_, List.getElem?_eq_getElem (by have := (List.getElem?_eq_some_iff.1 hq).1; omega)⟩
   have h1 := ih i p r hp hr
   have h2 := h.each (i + d + 1) r hr
   have h3 := h.next (i + d + 1) r q hr (by rw [show i + d + 1 + 1 = i + (d + 1) + 1 by omega]; exact hq)
   omega
 exact key (j - i - 1) i _ _ (List.getElem?_eq_getElem hi) (by rw [show i + (j - i - 1) + 1 = j by omega]; exact List.getElem?_eq_getElem hj)
theorem errL_take {span : Int} {l m : List Lp} {i : Nat} (h : ∀ j, j ≤ i → l[j]? = m[j]?) : errL span l i = errL span m i := by
 unfold errL ordL
 rw [h i (Nat.le_refl _)]
 by_cases h0 : i = 0
 · subst h0
   rfl
 · rw [h (i - 1) (by omega)]
theorem lap_same (A : Acv) (x : Lp) (hA : AcOk A) (h0 : 0 ≤ x.f) (h1 : x.f < x.t) (ht : titleB x.s = true) :
 chkA { A with lp := putP x A.lp } = chkA { A with lp := putL x A.lp } ∧ (chkA { A with lp := putL x A.lp } = 0 → putP x A.lp = putL x A.lp) := by
 rcases put_ways x A.lp (lp_sorted hA.lp) with e | ⟨a, p, b, hl, hp, e1, e2⟩
 · rw [e]
   exact ⟨rfl, fun _ => rfl⟩
 · have hO := hA.lp
   rw [hl] at hO
   have hpa : (a ++ p :: b)[a.length]? = some p := by simp
   have hpo := hO.each _ p hpa
   -- the laps ahead are right in both
   have ha : ∀ (c : List Lp) (m : Nat), m < a.length → errL (spanS A.sm) (a ++ c) m = 0 := fun c m hm => by
    have h2 := firstE_zero.1 (errL_zero.2 hO) m (Nat.zero_le _) (by simp; omega)
    rw [← h2]
    exact errL_take (fun j hj => by rw [List.getElem?_append_left (by omega), List.getElem?_append_left (by omega)])
   have hlen1 : (a ++ x :: p :: b).length = a.length + 1 + 1 + b.length := by simp; omega
   have hlen2 : (a ++ p :: x :: b).length = a.length + 1 + 1 + b.length := by simp; omega
   have x1 : (a ++ x :: p :: b)[a.length]? = some x := by simp
   have x2 : (a ++ x :: p :: b)[a.length + 1]? = some p := by simp
   have y1 : (a ++ p :: x :: b)[a.length]? = some p := by simp
   have y2 : (a ++ p :: x :: b)[a.length + 1]? = some x := by simp
   have hord : ordL (a ++ x :: p :: b) a.length x.f = false := by
    unfold ordL
    by_cases hz : a.length = 0
    · rw [if_pos hz]
    · rw [if_neg hz]
      obtain ⟨r, hr⟩ : ∃ r, a[a.length - 1]? = some r := ⟨_, List.getElem?_eq_getElem (by omega)⟩
      rw [List.getElem?_append_left (by omega), hr]
      have h3 := hO.next (a.length - 1) r p (by rw [List.getElem?_append_left (by omega)]; exact hr) (by rw [show a.length - 1 + 1 = a.length by omega]; exact hpa)
      simp only [decide_eq_false_iff_not]
      omega
   have hq0 : errL (spanS A.sm) (a ++ p :: x :: b) a.length = 0 := by
    have h2 := firstE_zero.1 (errL_zero.2 hO) a.length (Nat.zero_le _) (by simp)
    rw [← h2]
    exact errL_take (fun j hj => by
     by_cases e : j < a.length
     · rw [List.getElem?_append_left e, List.getElem?_append_left e]
     · obtain rfl : j = a.length := by omega
       rw [y1, hpa])
   have hE : ∃ E, E ≠ 0 ∧ firstE (errL (spanS A.sm) (a ++ x :: p :: b)) (a ++ x :: p :: b).length 0 = E ∧ firstE (errL (spanS A.sm) (a ++ p :: x :: b)) (a ++ p :: x :: b).length 0 = E := by
    by_cases hsp : spanS A.sm < x.t
    · have z1 : errL (spanS A.sm) (a ++ x :: p :: b) a.length = 9 := errL_9 x1 (Or.inr (Or.inr hsp))
      have z2 : errL (spanS A.sm) (a ++ p :: x :: b) (a.length + 1) = 9 := errL_9 y2 (Or.inr (Or.inr hsp))
      refine ⟨9, by omega, ?_, ?_⟩
      · rw [firstE_at (Nat.zero_le _) (by rw [hlen1]; omega) (fun m _ hm => ha _ m hm) (by rw [z1]; omega), z1]
      · rw [firstE_at (j := a.length + 1) (Nat.zero_le _) (by rw [hlen2]; omega) (fun m _ hm => by
         by_cases e : m = a.length
         · rw [e]; exact hq0
         · exact ha _ m (by omega)) (by rw [z2]; omega), z2]
    · have z0 : errL (spanS A.sm) (a ++ x :: p :: b) a.length = 0 := by rw [errL_title x1 (by omega) hord ht]; rfl
      have z1 : errL (spanS A.sm) (a ++ x :: p :: b) (a.length + 1) = 10 := errL_ord x2 (by omega) (by rw [ordL_succ x1, decide_eq_true_eq]; omega)
      have z2 : errL (spanS A.sm) (a ++ p :: x :: b) (a.length + 1) = 10 := errL_ord y2 (by omega) (by rw [ordL_succ y1, decide_eq_true_eq]; omega)
      refine ⟨10, by omega, ?_, ?_⟩
      · rw [firstE_at (j := a.length + 1) (Nat.zero_le _) (by rw [hlen1]; omega) (fun m _ hm => by
         by_cases e : m = a.length
         · rw [e]; exact z0
         · exact ha _ m (by omega)) (by rw [z1]; omega), z1]
      · rw [firstE_at (j := a.length + 1) (Nat.zero_le _) (by rw [hlen2]; omega) (fun m _ hm => by
         by_cases e : m = a.length
         · rw [e]; exact hq0
         · exact ha _ m (by omega)) (by rw [z2]; omega), z2]
   obtain ⟨E, hE0, h3, h4⟩ := hE
   have hS := (errS_zero (start := A.start)).2 hA.sm
   have k1 : ∀ L : List Lp, L.length = A.lp.length + 1 → firstE (errL (spanS A.sm) L) L.length 0 = E → chkA { A with lp := L } = if 200 < A.lp.length + 1 then 3 else E := fun L hL hLE => by
    unfold chkA
    simp only
    rw [if_neg (by rw [hA.name]; simp), if_neg (by rw [inR_iff.2 hA.sport]; simp), if_neg (by rw [inR_iff.2 hA.start]; simp)]
    have hsz1 := hA.nsm
    have hsz2 := hA.ntg
    by_cases hb : 200 < A.lp.length + 1
    · rw [if_pos hb, if_pos (Or.inr (Or.inl (by rw [hL]; exact hb)))]
    · rw [if_neg hb, if_neg (by rw [hL]; omega)]
      unfold chkR
      have e0 : chkSs { A with lp := L } = 0 := hS
      have e1 : chkLs { A with lp := L } = E := hLE
      rw [e0, e1, if_pos rfl, if_neg hE0]
   have hl1 : (putP x A.lp).length = A.lp.length + 1 := putP_len x A.lp
   have hl2 : (putL x A.lp).length = A.lp.length + 1 := putL_len x A.lp
   have c1 := k1 _ hl1 (by rw [e1]; exact h3)
   have c2 := k1 _ hl2 (by rw [e2]; exact h4)
   refine ⟨by rw [c1, c2], fun h => ?_⟩
   rw [c2] at h
   split at h
   · omega
   · exact absurd h hE0
end Go.Proofs.YtgdepcnfjmobjaaGreat

/- A text of this claim. -/
namespace Go.Proofs.YtgdepcnfjmobjaaGreat
open Go.RowKit Go.BigFrame
open Tr (inR Ed)
def raiseS (n : Int) (s : Sm) : Sm := { s with z := s.z + n }
def clearS (n : Int) (s : Sm) : Sm := if n = 1 then { s with pu := -1 } else if n = 2 then { s with po := -1 } else { s with st := -1 }
def midL (zs : List Int) : Int := (zs.mergeSort fun x y => decide (x ≤ y)).getD ((zs.length - 1) / 2) 0
def winZ (sm : List Sm) (w i : Nat) : List Int := ((sm.take (min (i + w + 1) sm.length)).drop (i - w)).map Sm.z
def levS (sm : List Sm) (w i : Nat) (s : Sm) : Sm := { s with z := midL (winZ sm w i) }
def levelS (sm : List Sm) (w : Nat) : List Sm := sm.mapIdx (levS sm w)
def getN (c : Nat) (s : Sm) : Int := if c = 0 then s.pu else if c = 1 then s.po else s.st
def setN (c : Nat) (v : Int) (s : Sm) : Sm := if c = 0 then { s with pu := v } else if c = 1 then { s with po := v } else { s with st := v }
def fillB (c : Nat) (p q s : Sm) : Sm := setN c (betw (getN c p) (getN c q) (s.tm - p.tm) (q.tm - p.tm)) s
def mapR (lo hi : Nat) (f : Sm → Sm) (l : List Sm) : List Sm := l.mapIdx fun k s => if lo ≤ k ∧ k < hi then f s else s
def passN (gap : Int) (c : Nat) (src out : List Sm) : Nat → List Sm × Option Nat
 | 0 => (out, none)
 | i + 1 => match src[i]? with
  | none => passN gap c src out i
  | some q => if getN c q < 0 then passN gap c src out i else
   match (passN gap c src out i).2 with
   | none => ((passN gap c src out i).1, some i)
   | some l => match src[l]? with
    | none => ((passN gap c src out i).1, some i)
    | some p => if q.tm - p.tm ≤ gap then (mapR (l + 1) i (fillB c p q) (passN gap c src out i).1, some i) else ((passN gap c src out i).1, some i)
def passF (gap : Int) (c : Nat) (src out : List Sm) : List Sm := (passN gap c src out src.length).1
def fillA (gap : Int) (sm : List Sm) : List Sm := passF gap 2 sm (passF gap 1 sm (passF gap 0 sm sm))
theorem mapR_len (lo hi : Nat) (f : Sm → Sm) (l : List Sm) : (mapR lo hi f l).length = l.length := by
 unfold mapR
 rw [List.length_mapIdx]
theorem passN_len (gap : Int) (c : Nat) (src out : List Sm) : ∀ i, (passN gap c src out i).1.length = out.length
 | 0 => rfl
 | i + 1 => by
  have ih := passN_len gap c src out i
  rw [passN]
  repeat' split
  all_goals first
   | exact ih
   | (rw [mapR_len]; exact ih)
theorem passF_len (gap : Int) (c : Nat) (src out : List Sm) : (passF gap c src out).length = out.length := passN_len _ _ _ _ _
theorem fillA_len (gap : Int) (sm : List Sm) : (fillA gap sm).length = sm.length := by
 unfold fillA
 rw [passF_len, passF_len, passF_len]
def cutL (l : List Sm) (f t : Int) : List Sm := whereS l f :: (l.filter fun s => decide (f < s.tm) && decide (s.tm < t)) ++ [whereS l t]
def cutE (A : Acv) (f t : Int) : Int := if A.sm.length = 0 then 13 else if f < 0 ∨ t ≤ f ∨ spanS A.sm < t then 9 else chkA (partA A (cutL A.sm f t) f)
def hasT (s : ByteArray) (T : List ByteArray) : Bool := T.any fun t => decide (t = s)
theorem hasT_iff {s : ByteArray} {T : List ByteArray} : hasT s T = true ↔ s ∈ T := by
 unfold hasT
 rw [List.any_eq_true]
 exact ⟨fun ⟨t, ht, e⟩ => (of_decide_eq_true e) ▸ ht, fun h => ⟨s, h, decide_eq_true rfl⟩⟩
def appE (A : Acv) (x : Ed) : Int :=
 if x.k = 3 then (if hasT x.s A.tg = true then 5 else 0)
 else if x.k = 4 then (if hasT x.s A.tg = true then 0 else 4)
 else if x.k = 8 then cutE A x.f x.t
 else if x.k = 12 then (if (A.lp.length : Int) ≤ x.n then 4 else 0) else 0
def appZ (A : Acv) (x : Ed) : Acv :=
 if x.k = 1 then { A with name := x.s }
 else if x.k = 2 then { A with sport := x.n }
 else if x.k = 3 then { A with tg := mergeT A.tg [x.s] }
 else if x.k = 4 then { A with tg := delT x.s A.tg }
 else if x.k = 5 then { A with start := A.start + x.n }
 else if x.k = 6 then { A with sm := A.sm.map (raiseS x.n) }
 else if x.k = 7 then { A with sm := A.sm.map (clearS x.n) }
 else if x.k = 8 then partA A (cutL A.sm x.f x.t) x.f
 else if x.k = 9 then { A with sm := levelS A.sm x.n.toNat }
 else if x.k = 10 then { A with sm := fillA x.n A.sm }
 else if x.k = 11 then { A with lp := putL ⟨x.f, x.t, x.s⟩ A.lp }
 else { A with lp := A.lp.take x.n.toNat ++ A.lp.drop (x.n.toNat + 1) }
theorem appZ_1 {A : Acv} {x : Ed} (h : x.k = 1) : appZ A x = { A with name := x.s } := by
 unfold appZ
 rw [if_pos h]
theorem appZ_2 {A : Acv} {x : Ed} (h : x.k = 2) : appZ A x = { A with sport := x.n } := by
 unfold appZ
 rw [if_neg (by omega), if_pos h]
theorem appZ_3 {A : Acv} {x : Ed} (h : x.k = 3) : appZ A x = { A with tg := mergeT A.tg [x.s] } := by
 unfold appZ
 rw [if_neg (by omega), if_neg (by omega), if_pos h]
theorem appZ_4 {A : Acv} {x : Ed} (h : x.k = 4) : appZ A x = { A with tg := delT x.s A.tg } := by
 unfold appZ
 rw [if_neg (by omega), if_neg (by omega), if_neg (by omega), if_pos h]
theorem appZ_5 {A : Acv} {x : Ed} (h : x.k = 5) : appZ A x = { A with start := A.start + x.n } := by
 unfold appZ
 rw [if_neg (by omega), if_neg (by omega), if_neg (by omega), if_neg (by omega), if_pos h]
theorem appZ_6 {A : Acv} {x : Ed} (h : x.k = 6) : appZ A x = { A with sm := A.sm.map (raiseS x.n) } := by
 unfold appZ
 rw [if_neg (by omega), if_neg (by omega), if_neg (by omega), if_neg (by omega), if_neg (by omega), if_pos h]
theorem appZ_7 {A : Acv} {x : Ed} (h : x.k = 7) : appZ A x = { A with sm := A.sm.map (clearS x.n) } := by
 unfold appZ
 rw [if_neg (by omega), if_neg (by omega), if_neg (by omega), if_neg (by omega), if_neg (by omega), if_neg (by omega), if_pos h]
theorem appZ_8 {A : Acv} {x : Ed} (h : x.k = 8) : appZ A x = partA A (cutL A.sm x.f x.t) x.f := by
 unfold appZ
 rw [if_neg (by omega), if_neg (by omega), if_neg (by omega), if_neg (by omega), if_neg (by omega), if_neg (by omega), if_neg (by omega), if_pos h]
theorem appZ_9 {A : Acv} {x : Ed} (h : x.k = 9) : appZ A x = { A with sm := levelS A.sm x.n.toNat } := by
 unfold appZ
 rw [if_neg (by omega), if_neg (by omega), if_neg (by omega), if_neg (by omega), if_neg (by omega), if_neg (by omega), if_neg (by omega), if_neg (by omega), if_pos h]
theorem appZ_10 {A : Acv} {x : Ed} (h : x.k = 10) : appZ A x = { A with sm := fillA x.n A.sm } := by
 unfold appZ
 rw [if_neg (by omega), if_neg (by omega), if_neg (by omega), if_neg (by omega), if_neg (by omega), if_neg (by omega), if_neg (by omega), if_neg (by omega), if_neg (by omega), if_pos h]
theorem appZ_11 {A : Acv} {x : Ed} (h : x.k = 11) : appZ A x = { A with lp := putL ⟨x.f, x.t, x.s⟩ A.lp } := by
 unfold appZ
 rw [if_neg (by omega), if_neg (by omega), if_neg (by omega), if_neg (by omega), if_neg (by omega), if_neg (by omega), if_neg (by omega), if_neg (by omega), if_neg (by omega), if_neg (by omega), if_pos h]
theorem appZ_12 {A : Acv} {x : Ed} (h : x.k = 12) : appZ A x = { A with lp := A.lp.take x.n.toNat ++ A.lp.drop (x.n.toNat + 1) } := by
 unfold appZ
 rw [if_neg (by omega), if_neg (by omega), if_neg (by omega), if_neg (by omega), if_neg (by omega), if_neg (by omega), if_neg (by omega), if_neg (by omega), if_neg (by omega), if_neg (by omega), if_neg (by omega)]
theorem appE_1 {A : Acv} {x : Ed} (h : x.k = 1) : appE A x = 0 := by
 unfold appE
 rw [if_neg (by omega), if_neg (by omega), if_neg (by omega), if_neg (by omega)]
theorem appE_2 {A : Acv} {x : Ed} (h : x.k = 2) : appE A x = 0 := by
 unfold appE
 rw [if_neg (by omega), if_neg (by omega), if_neg (by omega), if_neg (by omega)]
theorem appE_3 {A : Acv} {x : Ed} (h : x.k = 3) : appE A x = if hasT x.s A.tg = true then 5 else 0 := by
 unfold appE
 rw [if_pos h]
theorem appE_4 {A : Acv} {x : Ed} (h : x.k = 4) : appE A x = if hasT x.s A.tg = true then 0 else 4 := by
 unfold appE
 rw [if_neg (by omega), if_pos h]
theorem appE_5 {A : Acv} {x : Ed} (h : x.k = 5) : appE A x = 0 := by
 unfold appE
 rw [if_neg (by omega), if_neg (by omega), if_neg (by omega), if_neg (by omega)]
theorem appE_6 {A : Acv} {x : Ed} (h : x.k = 6) : appE A x = 0 := by
 unfold appE
 rw [if_neg (by omega), if_neg (by omega), if_neg (by omega), if_neg (by omega)]
theorem appE_7 {A : Acv} {x : Ed} (h : x.k = 7) : appE A x = 0 := by
 unfold appE
 rw [if_neg (by omega), if_neg (by omega), if_neg (by omega), if_neg (by omega)]
theorem appE_8 {A : Acv} {x : Ed} (h : x.k = 8) : appE A x = cutE A x.f x.t := by
 unfold appE
 rw [if_neg (by omega), if_neg (by omega), if_pos h]
theorem appE_9 {A : Acv} {x : Ed} (h : x.k = 9) : appE A x = 0 := by
 unfold appE
 rw [if_neg (by omega), if_neg (by omega), if_neg (by omega), if_neg (by omega)]
theorem appE_10 {A : Acv} {x : Ed} (h : x.k = 10) : appE A x = 0 := by
 unfold appE
 rw [if_neg (by omega), if_neg (by omega), if_neg (by omega), if_neg (by omega)]
theorem appE_11 {A : Acv} {x : Ed} (h : x.k = 11) : appE A x = 0 := by
 unfold appE
 rw [if_neg (by omega), if_neg (by omega), if_neg (by omega), if_neg (by omega)]
theorem appE_12 {A : Acv} {x : Ed} (h : x.k = 12) : appE A x = if (A.lp.length : Int) ≤ x.n then 4 else 0 := by
 unfold appE
 rw [if_neg (by omega), if_neg (by omega), if_neg (by omega), if_pos h]
theorem kind_ways (x : Ed) (h : chkE x = 0) : x.k = 1 ∨ x.k = 2 ∨ x.k = 3 ∨ x.k = 4 ∨ x.k = 5 ∨ x.k = 6 ∨ x.k = 7 ∨ x.k = 8 ∨ x.k = 9 ∨ x.k = 10 ∨ x.k = 11 ∨ x.k = 12 := by
 unfold chkE at h
 split at h <;> omega
def apE (A : Acv) (x : Ed) : Int := if chkA A ≠ 0 then chkA A else if chkE x ≠ 0 then chkE x else if appE A x ≠ 0 then appE A x else chkA (appZ A x)
def apZ (A : Acv) (x : Ed) : Acv := if apE A x = 0 then appZ A x else Az
structure ActText (A : Acv) : Prop where
 name : A.name.size ≤ maxLen
 titles : ∀ p, p ∈ A.lp → p.s.size ≤ maxLen
 tags : ∀ s, s ∈ A.tg → s.size ≤ maxLen
theorem ActIn.text {w : World} {A : Acv} {a b c : Option Addr} (h : ActIn w A a b c) : ActText A := ⟨h.name, h.titles, h.tags⟩
theorem appZ_text {A : Acv} {x : Ed} (hk : chkE x = 0) (hA : ActText A) (hx : x.s.size ≤ maxLen) : ActText (appZ A x) := by
 obtain ⟨h1, h2, h3⟩ := hA
 rcases kind_ways x hk with h | h | h | h | h | h | h | h | h | h | h | h
 · rw [appZ_1 h]; exact ⟨hx, h2, h3⟩
 · rw [appZ_2 h]; exact ⟨h1, h2, h3⟩
 · rw [appZ_3 h]
   refine ⟨h1, h2, fun s hs => ?_⟩
   rcases (mergeT_mem _ A.tg [x.s] rfl s).1 hs with h | h
   · exact h3 s h
   · rw [List.mem_singleton.1 h]
     exact hx
 · rw [appZ_4 h]; exact ⟨h1, h2, fun s hs => h3 s ((List.mem_filter.1 hs).1)⟩
 · rw [appZ_5 h]; exact ⟨h1, h2, h3⟩
 · rw [appZ_6 h]; exact ⟨h1, h2, h3⟩
 · rw [appZ_7 h]; exact ⟨h1, h2, h3⟩
 · rw [appZ_8 h]
   refine ⟨h1, fun p hp => ?_, h3⟩
   obtain ⟨y, hy, e⟩ := movedF_mem hp
   rw [e]
   exact h2 y hy
 · rw [appZ_9 h]; exact ⟨h1, h2, h3⟩
 · rw [appZ_10 h]; exact ⟨h1, h2, h3⟩
 · rw [appZ_11 h]
   refine ⟨h1, fun p hp => ?_, h3⟩
   rcases putL_mem hp with h | h
   · rw [h]
     exact hx
   · exact h2 p h
 · rw [appZ_12 h]
   refine ⟨h1, fun p hp => ?_, h3⟩
   rcases List.mem_append.1 hp with h | h
   · exact h2 p (List.mem_of_mem_take h)
   · exact h2 p (List.mem_of_mem_drop h)
theorem cutL_len (l : List Sm) (f t : Int) : (cutL l f t).length ≤ l.length + 2 := by
 have := List.length_filter_le (fun s : Sm => decide (f < s.tm) && decide (s.tm < t)) l
 show (whereS l f :: ((l.filter fun s => decide (f < s.tm) && decide (s.tm < t)) ++ [whereS l t])).length ≤ _
 rw [List.length_cons, List.length_append, List.length_singleton]
 omega
theorem appZ_len {A : Acv} {x : Ed} (hk : chkE x = 0) (h : AcOk A) : (appZ A x).sm.length ≤ 20002 ∧ (appZ A x).lp.length ≤ 201 ∧ (appZ A x).tg.length ≤ 21 := by
 have h1 := h.nsm
 have h2 := h.nlp
 have h3 := h.ntg
 rcases kind_ways x hk with h | h | h | h | h | h | h | h | h | h | h | h
 · rw [appZ_1 h]; exact ⟨by show A.sm.length ≤ _; omega, by show A.lp.length ≤ _; omega, by show A.tg.length ≤ _; omega⟩
 · rw [appZ_2 h]; exact ⟨by show A.sm.length ≤ _; omega, by show A.lp.length ≤ _; omega, by show A.tg.length ≤ _; omega⟩
 · rw [appZ_3 h]
   have := mergeT_len A.tg [x.s] _ rfl
   simp only [List.length_singleton] at this
   exact ⟨by show A.sm.length ≤ _; omega, by show A.lp.length ≤ _; omega, by show (mergeT A.tg [x.s]).length ≤ _; omega⟩
 · rw [appZ_4 h]
   have : (delT x.s A.tg).length ≤ A.tg.length := List.length_filter_le _ _
   exact ⟨by show A.sm.length ≤ _; omega, by show A.lp.length ≤ _; omega, by show (delT x.s A.tg).length ≤ _; omega⟩
 · rw [appZ_5 h]; exact ⟨by show A.sm.length ≤ _; omega, by show A.lp.length ≤ _; omega, by show A.tg.length ≤ _; omega⟩
 · rw [appZ_6 h]; exact ⟨by show (A.sm.map _).length ≤ _; rw [List.length_map]; omega, by show A.lp.length ≤ _; omega, by show A.tg.length ≤ _; omega⟩
 · rw [appZ_7 h]; exact ⟨by show (A.sm.map _).length ≤ _; rw [List.length_map]; omega, by show A.lp.length ≤ _; omega, by show A.tg.length ≤ _; omega⟩
 · rw [appZ_8 h]
   have h4 := cutL_len A.sm x.f x.t
   have h5 := movedF_len A.lp x.f (spanS ((cutL A.sm x.f x.t).map (backS x.f)))
   exact ⟨by show ((cutL A.sm x.f x.t).map _).length ≤ _; rw [List.length_map]; omega, by show (movedF A.lp x.f _).length ≤ _; omega, by show A.tg.length ≤ _; omega⟩
 · rw [appZ_9 h]; exact ⟨by show (levelS A.sm _).length ≤ _; unfold levelS; rw [List.length_mapIdx]; omega, by show A.lp.length ≤ _; omega, by show A.tg.length ≤ _; omega⟩
 · rw [appZ_10 h]; exact ⟨by show (fillA _ A.sm).length ≤ _; rw [fillA_len]; omega, by show A.lp.length ≤ _; omega, by show A.tg.length ≤ _; omega⟩
 · rw [appZ_11 h]; exact ⟨by show A.sm.length ≤ _; omega, by show (putL _ A.lp).length ≤ _; rw [putL_len]; omega, by show A.tg.length ≤ _; omega⟩
 · rw [appZ_12 h]; exact ⟨by show A.sm.length ≤ _; omega, by show (A.lp.take _ ++ A.lp.drop _).length ≤ _; rw [List.length_append, List.length_take, List.length_drop]; omega, by show A.tg.length ≤ _; omega⟩
structure Mine (w : World) (base g : Nat) (A : Acv) : Prop where
 ex : ∃ a b c ca cb cc, AcB w g A.name A.sport A.start (.slice a A.sm.length ca) (.slice b A.lp.length cb) (.slice c A.tg.length cc) ∧ Own smC 7 54 w base (.slice a A.sm.length ca) A.sm ∧ Own lpC 3 57 w base (.slice b A.lp.length cb) A.lp ∧ Own tgC 1 9 w base (.slice c A.tg.length cc) A.tg
 hg : base ≤ g
theorem Mine.below {w w' : World} {base g : Nat} {A : Acv} (h : Mine w base g A) (hb : Below w.heap.size w w') : Mine w' base g A := by
 obtain ⟨⟨a, b, c, ca, cb, cc, h0, h1, h2, h3⟩, hg⟩ := h
 exact ⟨⟨a, b, c, ca, cb, cc, h0.below hb, h1.below hb, h2.below hb, h3.below hb⟩, hg⟩
theorem Mine.actIn {w : World} {base g : Nat} {A : Acv} (h : Mine w base g A) (ht : ActText A) (l1 : A.sm.length ≤ 1000000) (l2 : A.lp.length ≤ 1000000) (l3 : A.tg.length ≤ 1000000) :
 ∃ a b c ca cb cc, AcB w g A.name A.sport A.start (.slice a A.sm.length ca) (.slice b A.lp.length cb) (.slice c A.tg.length cc) ∧ ActIn w A a b c ∧ A.sm.length ≤ ca ∧ (∀ q, a = some q ∨ b = some q ∨ c = some q → base ≤ q.block ∧ q.block ≠ g) := by
 obtain ⟨⟨a, b, c, ca, cb, cc, h0, h1, h2, h3⟩, hg⟩ := h
 obtain ⟨a', c', e1, k1, r1, b1⟩ := h1.row smEl
 injection e1 with f1 f2 f3
 subst f1 f3
 have d1 := fun (q : Addr) (hq : a = some q) => (h1.rw_ smEl).2.2 q hq
 have d2 := fun (q : Addr) (hq : b = some q) => (h2.rw_ lpEl).2.2 q hq
 have d3 := fun (q : Addr) (hq : c = some q) => (h3.rw_ tgEl).2.2 q hq
 refine ⟨a, b, c, ca, cb, cc, h0, ⟨r1, (h2.rw_ lpEl).1, (h3.rw_ tgEl).1, ht.name, ht.titles, ht.tags, by omega, by omega, by omega⟩, k1, fun q hq => ?_⟩
 rcases hq with e | e | e
 · subst e
   exact ⟨(d1 q rfl).1, h0.ne' h1 (by decide) _ rfl⟩
 · subst e
   exact ⟨(d2 q rfl).1, h0.ne' h2 (by decide) _ rfl⟩
 · subst e
   exact ⟨(d3 q rfl).1, h0.ne' h3 (by decide) _ rfl⟩
def ApR (A : Acv) (x : Ed) (base g : Nat) (w : World) (e : Ending) (w' : World) : Prop :=
 Below base w w' ∧ e = .returned (.int .i64 (appE A x)) ∧ (appE A x = 0 → Mine w' base g (appZ A x))
end Go.Proofs.YtgdepcnfjmobjaaGreat

/- A text of this claim. -/
namespace Go.Proofs.YtgdepcnfjmobjaaGreat
open Go.RowKit Go.BigFrame
open Tr (inR Ed)
section
variable {w w' : World} {g : Nat} {nm : ByteArray} {sp st : Int} {vs vl vt : Value}
theorem AcB.set0 (h : AcB w g nm sp st vs vl vt) (x : ByteArray) : AcB (w.setCell ⟨g, 0, none⟩ (.string x)) g x sp st vs vl vt := set_cells h
theorem AcB.set1 (h : AcB w g nm sp st vs vl vt) (x : Int) : AcB (w.setCell ⟨g, 1, none⟩ (.int .i64 x)) g nm x st vs vl vt := set_cells h
end
theorem below_at {base : Nat} {w a b : World} (h1 : Below w.heap.size w a) (hb : base ≤ w.heap.size) (hk : Kept (fun q => base ≤ q) a b) : Below base w b :=
 Kept.below (h1.mono hb) hk (Nat.le_trans hb h1.size) (fun k hk e => by omega)
theorem kept_ge {base g : Nat} {a b : World} (hg : base ≤ g) (h : Kept (fun q => q = g) a b) : Kept (fun q => base ≤ q) a b := ⟨h.os, h.tape, h.output, h.size, fun k hk ho => h.block k hk (fun e => ho (by rw [e]; exact hg))⟩
theorem Own.apart {α β : Type} {C : α → List Value} {D : β → List Value} {k j : Nat} {e d : TypeId} {w : World} {b1 b2 : Nat} {u v : Value} {l : List α} {m : List β} (h : Own C k e w b1 u l) (h' : Own D j d w b2 v m) (hne : e ≠ d) : ∀ q, u.ownBlock = some q → v.ownBlock = some q → False := fun q hq hq' => by
 obtain ⟨c1, f1, e1⟩ := h.typed hq
 obtain ⟨c2, f2, e2⟩ := h'.typed hq'
 rw [e1] at e2
 injection e2 with e2
 injection e2 with _ e2 _
 exact hne e2
theorem searchT_any (T : List ByteArray) (a : Option Addr) (c : Nat) (s : ByteArray) (w : World) (hr : Rw tgC 1 w a T) (hs : T.Pairwise (fun x y => bL x < bL y)) (hl : T.length ≤ 1000) :
 Calls Tryz.prog 89 #[.slice a T.length c, .string s] w fun e w' => e = .returned (.tuple #[.int .i64 (lowT s T), .bool (hasT s T)]) ∧ Below w.heap.size w w' := by
 by_cases h0 : T.length = 0
 · have hT : T = [] := List.length_eq_zero_iff.1 h0
   subst hT
   have h := Any2.slices_BinarySearch_string_empty Tryz.laysNm226 a c s w
   change Calls Tryz.prog 89 #[.slice a 0 c, .string s] w _ at h
   refine h.mono fun e w' ⟨he, hw⟩ => ?_
   subst hw
   exact ⟨he, Below.refl _ _⟩
 · obtain ⟨b, off, rfl, _, hc⟩ := hr.here (by omega)
   have hlt := lowT_le s T
   have hb : Lib.bsGo (fun t => Op.bytesLess (T.getD t s).toList s.toList) T.length 0 T.length = lowT s T := by
    refine Lib.bsGo_spec _ _ (fun t ht => ?_) (fun t ht => ?_) _ _ _ (by omega) (Nat.zero_le _) hlt
    · have hx : T[t]? = some (T.getD t s) := by rw [List.getD_eq_getElem?_getD, List.getElem?_eq_getElem (by omega)]; rfl
      rw [ByteArray.toList_eq, ByteArray.toList_eq]
      exact less_iff.2 (lowT_before s T t _ ht hx)
    · rw [ByteArray.toList_eq, ByteArray.toList_eq]
      cases h : Op.bytesLess (T.getD t s).data.toList s.data.toList with
      | false => rfl
      | true =>
       have h := less_iff.1 h
       by_cases hn : t < T.length
       · have hx : T[t]? = some (T.getD t s) := by rw [List.getD_eq_getElem?_getD, List.getElem?_eq_getElem hn]; rfl
         exact absurd h (lowT_behind hs t _ ht hx)
       · rw [List.getD_eq_getElem?_getD, List.getElem?_eq_none (by omega)] at h
         exact absurd h (bL_irr s)
   have hf : decide (lowT s T < T.length ∧ T.getD (lowT s T) s = s) = hasT s T := by
    rw [Bool.eq_iff_iff, decide_eq_true_eq, hasT_iff]
    constructor
    · rintro ⟨h1, h2⟩
      rw [List.getD_eq_getElem?_getD, List.getElem?_eq_getElem h1, Option.getD_some] at h2
      exact h2 ▸ List.getElem_mem h1
    · intro h
      have h1 := lowT_at hs h
      refine ⟨(List.getElem?_eq_some_iff.1 h1).1, ?_⟩
      rw [List.getD_eq_getElem?_getD, h1]
      rfl
   have h := Any2.slices_BinarySearch_string Tryz.laysNm226 b off T.length c (fun t => T.getD t s) s w (by omega) (fun j hj => by
    have hx : T[j]? = some (T.getD j s) := by rw [List.getD_eq_getElem?_getD, List.getElem?_eq_getElem hj]; rfl
    have := hc j _ hx 0 _ rfl
    simpa using this)
   change Calls Tryz.prog 89 _ w _ at h
   rw [hb, hf] at h
   refine h.mono fun e w' ⟨he, q, hw⟩ => ?_
   subst hw
   exact ⟨he, (Below.refl _ _).trans ⟨rfl, rfl, rfl, Nat.le_refl _, fun _ _ => rfl⟩⟩
set_option maxHeartbeats 4000000 in
set_option maxRecDepth 100000 in
theorem ap_1 (n f t : Int) (s : ByteArray) (A : Acv) (base g : Nat) (w : World) (hM : Mine w base g A) (oA : AcOk A) (hb : base ≤ w.heap.size) :
 Calls Tryz.prog 86 #[edV ⟨1, n, f, t, s⟩, .pointer (some ⟨g, 0, none⟩)] w fun e w' => ApR A ⟨1, n, f, t, s⟩ base g w e w' := by
 unfold ApR
 rw [appE_1 rfl, appZ_1 rfl]
 obtain ⟨⟨a, b, c, ca, cb, cc, h0, h1, h2, h3⟩, hg⟩ := hM
 obtain ⟨V0, hV0, hb0, hs0, hl0⟩ := alloc_cells w #[.int .i64 1, .int .i64 n, .int .i64 f, .int .i64 t, .string s] 86
 have hgl := h0.lt
 have HB := Lib.hid hb0
 have HBS := Lib.hid hb
 have HG := Lib.hid hg
 have HGL := Lib.hid hgl
 have H0 := Lib.hid (h0.below hb0)
 have H1 := Lib.hid (h1.below hb0)
 have H2 := Lib.hid (h2.below hb0)
 have H3 := Lib.hid (h3.below hb0)
 have H3W := Lib.hid h3
 have HOA := Lib.hid oA
 have HTS := Lib.hid (tg_sorted oA.tg)
 have hnt := oA.ntg
 have G0 := Ext.ex (hl0 0 _ rfl)
 have G4 := Ext.ex (hl0 4 _ rfl)
 have A5 := Ext.ex H0.out.cell.2.2.2.2.2
 have DB := Lib.hid (fun X : Ext V0 => X.calls (searchT_any A.tg c cc s X.1 ((h3.rw_ tgEl).1.below (below_step HB.out X.2)) (tg_sorted oA.tg) (by omega)))
 have hlow := lowT_le s A.tg
 obtain ⟨k, hk⟩ : ∃ k, lowT s A.tg = k := ⟨_, rfl⟩
 obtain ⟨fd, hfd⟩ : ∃ k, hasT s A.tg = k := ⟨_, rfl⟩
 rw [hk, hfd] at DB
 rw [hk] at hlow
 have HK := Lib.hid (And.intro hk hfd)
 obtain ⟨nt, hn⟩ : ∃ n, A.tg.length = n := ⟨_, rfl⟩
 have HN := Lib.hid hn
 rw [hn] at DB A5 hlow hnt
 clear hb hg h0 h1 h2 h3 oA hb0 hl0 hk hn hgl
 unfold edV
 go_enter Tryz.func86, Tryz.ntmps86
 go_upto_region 1 with (fail)
 clear hV0
 refine wp_region_ext (W := V0) ⟨V0, Below.refl _ _⟩ (by kernel_rfl) (by kernel_rfl) ?_
 repeat go_big_quiet_step (exact DB.out _)
 refine wpQuiet_nil ?_
 rintro _ ⟨Y, rfl⟩
 have HAY := Lib.hid (H0.out.below Y.2)
 have HWY := Lib.hid (below_step HB.out Y.2)
 have c0 := HAY.out.cell.1
 have f0 := HAY.out.free 0
 have hA1 := HAY.out.set0 s
 obtain ⟨W1, hW1⟩ : ∃ z, Y.1.setCell ⟨g, 0, none⟩ (.string s) = z := ⟨_, rfl⟩
 rw [hW1] at hA1
 have hk1 : Kept (fun q => q = g) Y.1 W1 := by rw [← hW1]; exact keep_set (O := fun q => q = g) rfl
 have HA1 := Lib.hid hA1
 have HK1 := Lib.hid hk1
 clear hA1 hk1 hfd DB
 go_wp2_with fail
 go_ret
 refine ⟨below_at HWY.out HBS.out (kept_ge HG.out HK1.out), rfl, fun _ => ⟨⟨a, b, c, ca, cb, cc, HA1.out, ?_, ?_, ?_⟩, HG.out⟩⟩
 · exact (H1.out.below Y.2).keepO HK1.out (fun q hq e => (HAY.out.ne' (H1.out.below Y.2) (by decide) q hq) e)
 · exact (H2.out.below Y.2).keepO HK1.out (fun q hq e => (HAY.out.ne' (H2.out.below Y.2) (by decide) q hq) e)
 · exact (H3.out.below Y.2).keepO HK1.out (fun q hq e => (HAY.out.ne' (H3.out.below Y.2) (by decide) q hq) e)
set_option maxHeartbeats 4000000 in
set_option maxRecDepth 100000 in
theorem ap_3 (n f t : Int) (s : ByteArray) (A : Acv) (base g : Nat) (w : World) (hM : Mine w base g A) (oA : AcOk A) (hb : base ≤ w.heap.size) :
 Calls Tryz.prog 86 #[edV ⟨3, n, f, t, s⟩, .pointer (some ⟨g, 0, none⟩)] w fun e w' => ApR A ⟨3, n, f, t, s⟩ base g w e w' := by
 unfold ApR
 rw [appE_3 rfl, appZ_3 rfl]
 obtain ⟨⟨a, b, c, ca, cb, cc, h0, h1, h2, h3⟩, hg⟩ := hM
 obtain ⟨V0, hV0, hb0, hs0, hl0⟩ := alloc_cells w #[.int .i64 3, .int .i64 n, .int .i64 f, .int .i64 t, .string s] 86
 have hgl := h0.lt
 have HB := Lib.hid hb0
 have HBS := Lib.hid hb
 have HG := Lib.hid hg
 have HGL := Lib.hid hgl
 have H0 := Lib.hid (h0.below hb0)
 have H1 := Lib.hid (h1.below hb0)
 have H2 := Lib.hid (h2.below hb0)
 have H3 := Lib.hid (h3.below hb0)
 have H3W := Lib.hid h3
 have HOA := Lib.hid oA
 have HTS := Lib.hid (tg_sorted oA.tg)
 have hnt := oA.ntg
 have G0 := Ext.ex (hl0 0 _ rfl)
 have G4 := Ext.ex (hl0 4 _ rfl)
 have A5 := Ext.ex H0.out.cell.2.2.2.2.2
 have DB := Lib.hid (fun X : Ext V0 => X.calls (searchT_any A.tg c cc s X.1 ((h3.rw_ tgEl).1.below (below_step HB.out X.2)) (tg_sorted oA.tg) (by omega)))
 have hlow := lowT_le s A.tg
 obtain ⟨k, hk⟩ : ∃ k, lowT s A.tg = k := ⟨_, rfl⟩
 obtain ⟨fd, hfd⟩ : ∃ k, hasT s A.tg = k := ⟨_, rfl⟩
 rw [hk, hfd] at DB
 rw [hk] at hlow
 rw [hfd]
 have HK := Lib.hid (And.intro hk hfd)
 obtain ⟨nt, hn⟩ : ∃ n, A.tg.length = n := ⟨_, rfl⟩
 have HN := Lib.hid hn
 rw [hn] at DB A5 hlow hnt
 clear hb hg h0 h1 h2 h3 oA hb0 hl0 hk hn hgl
 unfold edV
 go_enter Tryz.func86, Tryz.ntmps86
 go_upto_region 1 with (fail)
 clear hV0
 refine wp_region_ext (W := V0) ⟨V0, Below.refl _ _⟩ (by kernel_rfl) (by kernel_rfl) ?_
 repeat go_big_quiet_step (exact DB.out _)
 refine wpQuiet_nil ?_
 rintro _ ⟨Y, rfl⟩
 have HAY := Lib.hid (H0.out.below Y.2)
 have HWY := Lib.hid (below_step HB.out Y.2)
 cases fd with
 | true =>
  clear hfd DB
  go_wp2_with fail
  go_ret
  exact ⟨below_at HWY.out HBS.out (Kept.refl _ _), rfl⟩
 | false =>
  have hnot : s ∉ A.tg := fun h => by
   have := hasT_iff.2 h
   rw [hfd] at this
   cases this
  have HIN := Lib.hid (insT_is HTS.out hnot)
  have HNO := Lib.hid (fun (Z : ExtO (fun q => (Value.slice c nt cc).ownBlock = some q) Y.1) => show Z.1.cell? ⟨g, 5, none⟩ = some (.slice c nt cc) from Z.2.cell (p := ⟨g, 5, none⟩) (fun e => (HAY.out.ne' (H3.out.below Y.2) (by decide) g (by rw [HN.out]; exact e)) rfl) (A5 Y))
  have HXO := Lib.hid (fun (Z : ExtO (fun q => (Value.slice c nt cc).ownBlock = some q) Y.1) => show Z.1.cell? ⟨w.heap.size, 4, none⟩ = some (.string s) from Z.2.cell (p := ⟨w.heap.size, 4, none⟩) (fun e => by
   have := (H3W.out.lt w.heap.size (by rw [HN.out]; exact e)).2
   omega) (G4 Y))
  clear hnot hfd DB
  go_upto_region 8 with (fail)
  have A5' := HNO.out
  have G4' := HXO.out
  clear A5 G4 G0
  refine late_start (s := 12) (C := fun w' => ∃ Z : ExtO (fun q => (Value.slice c nt cc).ownBlock = some q) Y.1, w' = Z.1) (by kernel_rfl) ?_
  obtain ⟨Q0, hQ0⟩ : ∃ Z : Ext Y.1, ({ Y.1 with drawn := Y.1.drawn + 1 } : World) = Z.1 := ⟨⟨{ Y.1 with drawn := Y.1.drawn + 1 }, ⟨rfl, rfl, rfl, Nat.le_refl _, fun _ _ => rfl⟩⟩, rfl⟩
  rw [hQ0]
  clear hQ0
  refine late_quiet (by kernel_rfl) (fun _ _ d _ _ h => by cases d <;> exact h) ⟨⟨Q0.1, Kept.of_below Q0.2⟩, rfl⟩ [0, 1, 2, 3, 4, 5, 6, 7] 5 _ _ (by kernel_rfl) (by kernel_rfl) ?_
  change wpQuiet _ _ _ _ (_ :: _ :: _ :: _ :: _ :: _ :: _ :: _ :: []) _
  repeat go_big_quiet_step (fail)
  refine wpQuiet_nil ?_
  refine late_do (i := 8) _ rfl (by kernel_rfl) rfl (fun K hK => ?_)
  go_simp
  obtain ⟨V7, hV7⟩ : ∃ V, Q0.1.alloc (.cells #[.string s] 9) = V := ⟨_, rfl⟩
  rw [hV7]
  have hb7 : Below Q0.1.heap.size Q0.1 V7 := hV7 ▸ below_al _ _
  have h7 : V7.heap[Q0.1.heap.size]? = some (.cells (tgC s).toArray 9 (0, 0)) := hV7 ▸ heap_alloc_new Q0.1 _
  have hB7 : Below Y.1.heap.size Y.1 V7 := below_step Q0.2 hb7
  have h37 := (H3.out.below Y.2).below hB7
  rw [HN.out] at h37
  have DI := Lib.hid (insertTg_any A.tg base c nt cc k s Q0.1.heap.size V7 h37 (by omega) hlow h7 (fun e => by have := ((H3.out.below Y.2).lt _ (by rw [HN.out]; exact e)).2; have := Q0.2.size; omega) (by have := HBS.out; have := HWY.out.size; have := hB7.size; omega))
  have HB7 := Lib.hid hB7
  have H37 := Lib.hid h37
  refine hK _ _ (fun _ => ⟨⟨V7, Kept.of_below hB7⟩, rfl⟩) ?_
  clear hK K hV7 hb7 h7 hB7 h37
  try simp only [Act.put, List.setIfInBounds_toArray, List.set_cons_zero, List.set_cons_succ]
  refine late_do (i := 9) _ rfl (by kernel_rfl) rfl (fun K hK => ?_)
  go_simp
  refine (DI.out).mono ?_
  rintro e w8 ⟨v8, rfl, ho8, hg8⟩
  obtain ⟨a7, c7, rfl, -, -, -⟩ := ho8.row tgEl
  have hk8 : Kept (fun q => (Value.slice c nt cc).ownBlock = some q) V7 w8 := Kept.of_grown hg8 (fun q e _ => e)
  have HK8 := Lib.hid ((Kept.of_below HB7.out).trans hk8)
  have HO8 := Lib.hid ho8
  refine hK _ _ (fun _ => ⟨⟨w8, HK8.out⟩, rfl⟩) ?_
  clear hK K hg8 ho8 hk8
  try simp only [Act.put, List.setIfInBounds_toArray, List.set_cons_zero, List.set_cons_succ]
  refine late_quiet (by kernel_rfl) (fun _ _ d _ _ h => by cases d <;> exact h) ⟨⟨w8, HK8.out⟩, rfl⟩ [10, 11] 1 _ _ (by kernel_rfl) (by kernel_rfl) ?_
  change wpQuiet _ _ _ _ (_ :: _ :: []) _
  repeat go_big_quiet_step (fail)
  refine wpQuiet_nil ?_
  have hlen : (A.tg.take k ++ [s] ++ A.tg.drop k).length = nt + 1 := by rw [List.length_append, List.length_append, List.length_take, List.length_drop, List.length_singleton, HN.out]; omega
  rw [hlen]
  have hA8 := HAY.out.kept HK8.out (fun e => (HAY.out.ne' (H3.out.below Y.2) (by decide) g (by rw [HN.out]; exact e)) rfl)
  have c5 := hA8.cell.2.2.2.2.2
  have f5 := hA8.free 5
  have hA9 := hA8.set5 (.slice a7 (nt + 1) c7)
  obtain ⟨W9, hW9⟩ : ∃ z, w8.setCell ⟨g, 5, none⟩ (.slice a7 (nt + 1) c7) = z := ⟨_, rfl⟩
  rw [hW9] at hA9
  have hk9 : Kept (fun q => q = g) w8 W9 := by rw [← hW9]; exact keep_set (O := fun q => q = g) rfl
  have hs8 := (H1.out.below Y.2).keepO HK8.out (fun q hq e => (H1.out.below Y.2).apart (H3.out.below Y.2) (by decide) q hq (by rw [HN.out]; exact e))
  have hl8 := (H2.out.below Y.2).keepO HK8.out (fun q hq e => (H2.out.below Y.2).apart (H3.out.below Y.2) (by decide) q hq (by rw [HN.out]; exact e))
  have HS9 := Lib.hid (hs8.keepO hk9 (fun q hq e => (hA8.ne' hs8 (by decide) q hq) e))
  have HL9 := Lib.hid (hl8.keepO hk9 (fun q hq e => (hA8.ne' hl8 (by decide) q hq) e))
  have HMT := Lib.hid (show mergeT A.tg [s] = A.tg.take k ++ [s] ++ A.tg.drop k from by rw [← HIN.out, HK.out.1])
  have HT9 := Lib.hid (show Own tgC 1 9 W9 base (.slice a7 (mergeT A.tg [s]).length c7) (mergeT A.tg [s]) from by
   have h := HO8.out.keepO hk9 (fun q hq e => (hA8.ne' HO8.out (by decide) q hq) e)
   rw [HMT.out]
   exact h)
  have HA9 := Lib.hid (show AcB W9 g A.name A.sport A.start (.slice a A.sm.length ca) (.slice b A.lp.length cb) (.slice a7 (mergeT A.tg [s]).length c7) from by rw [HMT.out, hlen]; exact hA9)
  have HKF := Lib.hid (show Kept (fun q => base ≤ q) Y.1 W9 from by
   have h1 : Kept (fun q => base ≤ q) Y.1 w8 := ⟨HK8.out.os, HK8.out.tape, HK8.out.output, HK8.out.size, fun q hq ho => HK8.out.block q hq (fun e => ho ((H3.out.lt q (by rw [HN.out]; exact e)).1))⟩
   exact h1.trans (kept_ge HG.out hk9))
  clear hA8 hA9 hk9 hs8 hl8 hlen
  refine late_do (i := 12) _ rfl (by kernel_rfl) rfl (fun K hK => ?_)
  go_simp
  refine hK _ _ (fun h => nomatch (show true = false from h)) ?_
  clear hK K
  try simp only [Act.put, List.setIfInBounds_toArray, List.set_cons_zero, List.set_cons_succ]
  refine late_done (by kernel_rfl) ?_ _
  clear c5 f5 hW9
  go_wp2_with fail
  go_ret
  refine ⟨below_at HWY.out HBS.out HKF.out, rfl, ⟨⟨a, b, a7, ca, cb, c7, HA9.out, ?_, ?_, ?_⟩, HG.out⟩⟩
  · exact HS9.out
  · exact HL9.out
  · exact HT9.out
set_option maxHeartbeats 4000000 in
set_option maxRecDepth 100000 in
theorem ap_4 (n f t : Int) (s : ByteArray) (A : Acv) (base g : Nat) (w : World) (hM : Mine w base g A) (oA : AcOk A) (hb : base ≤ w.heap.size) :
 Calls Tryz.prog 86 #[edV ⟨4, n, f, t, s⟩, .pointer (some ⟨g, 0, none⟩)] w fun e w' => ApR A ⟨4, n, f, t, s⟩ base g w e w' := by
 unfold ApR
 rw [appE_4 rfl, appZ_4 rfl]
 obtain ⟨⟨a, b, c, ca, cb, cc, h0, h1, h2, h3⟩, hg⟩ := hM
 obtain ⟨V0, hV0, hb0, hs0, hl0⟩ := alloc_cells w #[.int .i64 4, .int .i64 n, .int .i64 f, .int .i64 t, .string s] 86
 have hgl := h0.lt
 have HB := Lib.hid hb0
 have HBS := Lib.hid hb
 have HG := Lib.hid hg
 have HGL := Lib.hid hgl
 have H0 := Lib.hid (h0.below hb0)
 have H1 := Lib.hid (h1.below hb0)
 have H2 := Lib.hid (h2.below hb0)
 have H3 := Lib.hid (h3.below hb0)
 have H3W := Lib.hid h3
 have HOA := Lib.hid oA
 have HTS := Lib.hid (tg_sorted oA.tg)
 have hnt := oA.ntg
 have G0 := Ext.ex (hl0 0 _ rfl)
 have G4 := Ext.ex (hl0 4 _ rfl)
 have A5 := Ext.ex H0.out.cell.2.2.2.2.2
 have DB := Lib.hid (fun X : Ext V0 => X.calls (searchT_any A.tg c cc s X.1 ((h3.rw_ tgEl).1.below (below_step HB.out X.2)) (tg_sorted oA.tg) (by omega)))
 have hlow := lowT_le s A.tg
 obtain ⟨k, hk⟩ : ∃ k, lowT s A.tg = k := ⟨_, rfl⟩
 obtain ⟨fd, hfd⟩ : ∃ k, hasT s A.tg = k := ⟨_, rfl⟩
 rw [hk, hfd] at DB
 rw [hk] at hlow
 rw [hfd]
 have HK := Lib.hid (And.intro hk hfd)
 obtain ⟨nt, hn⟩ : ∃ n, A.tg.length = n := ⟨_, rfl⟩
 have HN := Lib.hid hn
 rw [hn] at DB A5 hlow hnt
 clear hb hg h0 h1 h2 h3 oA hb0 hl0 hk hn hgl
 unfold edV
 go_enter Tryz.func86, Tryz.ntmps86
 go_upto_region 1 with (fail)
 clear hV0
 refine wp_region_ext (W := V0) ⟨V0, Below.refl _ _⟩ (by kernel_rfl) (by kernel_rfl) ?_
 repeat go_big_quiet_step (exact DB.out _)
 refine wpQuiet_nil ?_
 rintro _ ⟨Y, rfl⟩
 have HAY := Lib.hid (H0.out.below Y.2)
 have HWY := Lib.hid (below_step HB.out Y.2)
 cases fd with
 | false =>
  clear hfd DB
  go_wp2_with fail
  go_ret
  exact ⟨below_at HWY.out HBS.out (Kept.refl _ _), rfl⟩
 | true =>
  have hin : s ∈ A.tg := hasT_iff.1 hfd
  have hat := lowT_at HTS.out hin
  rw [HK.out.1] at hat
  have hkn : k < nt := by have := (List.getElem?_eq_some_iff.1 hat).1; have := HN.out; omega
  have HDT := Lib.hid (show delT s A.tg = A.tg.take k ++ A.tg.drop (k + 1) from by rw [← delT_is HTS.out hin, HK.out.1])
  obtain ⟨q, c', he, hq1, hq2⟩ := (H3.out.below Y.2).open (by rw [HN.out]; omega)
  rw [HN.out] at he
  injection he with e1 e2 e3
  subst e1
  have h3Y := H3.out.below Y.2
  rw [HN.out] at h3Y
  have DD := deleteTg_any A.tg base q cc k (k + 1) nt (nt - 1) Y.1 h3Y (by rw [HN.out]; omega) hkn rfl (by omega)
  rw [show ((k + 1 : Nat) : Int) = (k : Int) + 1 by omega] at DD
  have DD := Lib.hid DD
  have H3Y := Lib.hid h3Y
  have hgq : g ≠ q := fun e => (HAY.out.ne' h3Y (by decide) q rfl) e.symm
  have HGQ := Lib.hid hgq
  clear hfd DB hin hat hq1 hq2 e2 e3 h3Y hgq
  go_wp2_with fail
  refine (DD.out).mono ?_
  rintro e w8 ⟨rfl, ho8, hk8⟩
  have HO8 := Lib.hid ho8
  have HK8 := Lib.hid hk8
  have hA8 := HAY.out.kept HK8.out HGQ.out
  have c5 := hA8.cell.2.2.2.2.2
  have f5 := hA8.free 5
  have hA9 := hA8.set5 (.slice (some ⟨q, 0, none⟩) (nt - 1) cc)
  obtain ⟨W9, hW9⟩ : ∃ z, w8.setCell ⟨g, 5, none⟩ (.slice (some ⟨q, 0, none⟩) (nt - 1) cc) = z := ⟨_, rfl⟩
  rw [hW9] at hA9
  have hk9 : Kept (fun q => q = g) w8 W9 := by rw [← hW9]; exact keep_set (O := fun q => q = g) rfl
  have hs8 := (H1.out.below Y.2).keepO HK8.out (fun x hx e => (H1.out.below Y.2).apart H3Y.out (by decide) x hx (by rw [e]; rfl))
  have hl8 := (H2.out.below Y.2).keepO HK8.out (fun x hx e => (H2.out.below Y.2).apart H3Y.out (by decide) x hx (by rw [e]; rfl))
  have HS9 := Lib.hid (hs8.keepO hk9 (fun x hx e => (hA8.ne' hs8 (by decide) x hx) e))
  have HL9 := Lib.hid (hl8.keepO hk9 (fun x hx e => (hA8.ne' hl8 (by decide) x hx) e))
  have hlen : (A.tg.take k ++ A.tg.drop (k + 1)).length = nt - 1 := by rw [List.length_append, List.length_take, List.length_drop, HN.out]; omega
  obtain ⟨a7, ha7⟩ : ∃ z, some (⟨q, 0, none⟩ : Addr) = z := ⟨_, rfl⟩
  obtain ⟨c7, hc7⟩ : ∃ z, cc = z := ⟨_, rfl⟩
  have HT9 := Lib.hid (show Own tgC 1 9 W9 base (.slice a7 (delT s A.tg).length c7) (delT s A.tg) from by
   have h := HO8.out.keepO hk9 (fun x hx e => (hA8.ne' HO8.out (by decide) x hx) e)
   rw [HDT.out, hlen, ← ha7, ← hc7]
   exact h)
  have HA9 := Lib.hid (show AcB W9 g A.name A.sport A.start (.slice a A.sm.length ca) (.slice b A.lp.length cb) (.slice a7 (delT s A.tg).length c7) from by rw [HDT.out, hlen, ← ha7, ← hc7]; exact hA9)
  have HKF := Lib.hid (show Kept (fun x => base ≤ x) Y.1 W9 from by
   have h1 : Kept (fun x => base ≤ x) Y.1 w8 := kept_ge (H3Y.out.lt q rfl).1 HK8.out
   exact h1.trans (kept_ge HG.out hk9))
  clear hA8 hA9 hk9 hs8 hl8 hlen ho8 hk8 ha7 hc7
  go_wp2_with fail
  go_ret
  refine ⟨below_at HWY.out HBS.out HKF.out, rfl, ⟨⟨a, b, a7, ca, cb, c7, HA9.out, ?_, ?_, ?_⟩, HG.out⟩⟩
  · exact HS9.out
  · exact HL9.out
  · exact HT9.out
end Go.Proofs.YtgdepcnfjmobjaaGreat

/- A text of this claim. -/
namespace Go.Proofs.YtgdepcnfjmobjaaGreat
open Go.RowKit Go.BigFrame
open Tr (inR Ed)
theorem chk_rng {x : Ed} {lo hi : Int} (hk : ¬ (x.k < 1 ∨ 12 < x.k)) (hf : fieldE x = rngE x.n lo hi) (h : chkE x = 0) : lo ≤ x.n ∧ x.n ≤ hi := by
 unfold chkE at h
 rw [if_neg hk] at h
 split at h
 · omega
 · rw [hf] at h
   unfold rngE at h
   split at h
   · rename_i e
     exact inR_iff.1 e
   · omega
set_option maxHeartbeats 8000000 in
set_option maxRecDepth 100000 in
theorem ap_2 (n : Int) (f t : Int) (s : ByteArray) (A : Acv) (base g : Nat) (w : World) (hM : Mine w base g A) (oA : AcOk A) (hb : base ≤ w.heap.size) :
 Calls Tryz.prog 99 #[edV ⟨2, n, f, t, s⟩, .pointer (some ⟨g, 0, none⟩)] w fun e w' => ApR A ⟨2, n, f, t, s⟩ base g w e w' := by
 unfold ApR
 rw [appE_2 rfl, appZ_2 rfl]
 obtain ⟨⟨a, b, c, ca, cb, cc, h0, h1, h2, h3⟩, hg⟩ := hM
 obtain ⟨V0, hV0, hb0, hs0, hl0⟩ := alloc_cells w #[.int .i64 2, .int .i64 n, .int .i64 f, .int .i64 t, .string s] 87
 have HB := Lib.hid hb0
 have HBS := Lib.hid hb
 have HG := Lib.hid hg
 have H1W := Lib.hid h1
 have H0 := Lib.hid (h0.below hb0)
 have H1 := Lib.hid (h1.below hb0)
 have H2 := Lib.hid (h2.below hb0)
 have H3 := Lib.hid (h3.below hb0)
 have HOA := Lib.hid oA
 have x0 := hl0 0 _ rfl
 have x1 := hl0 1 _ rfl
 obtain ⟨c0, c1, c2, c3, c4, c5⟩ := H0.out.cell
 have fr := H0.out.free
 clear hb hg h0 h1 h2 h3 oA hb0 hl0
 unfold edV
 go_enter Tryz.func99, Tryz.ntmps99
 go_upto_region 3 with (fail)
 clear hV0
 have hA1 := H0.out.set1 n
 obtain ⟨W1, hW1⟩ : ∃ z, V0.setCell ⟨g, 1, none⟩ (.int .i64 n) = z := ⟨_, rfl⟩
 rw [hW1] at hA1
 have hk1 : Kept (fun q => q = g) V0 W1 := by rw [← hW1]; exact keep_set (O := fun q => q = g) rfl
 have HA1 := Lib.hid hA1
 have HK1 := Lib.hid hk1
 clear hA1 hk1
 go_wp2_with fail
 go_ret
 refine ⟨below_at HB.out HBS.out (kept_ge HG.out HK1.out), rfl, fun _ => ⟨⟨a, b, c, ca, cb, cc, HA1.out, ?_, ?_, ?_⟩, HG.out⟩⟩
 · exact H1.out.keepO HK1.out (fun q hq e => (H0.out.ne' H1.out (by decide) q hq) e)
 · exact H2.out.keepO HK1.out (fun q hq e => (H0.out.ne' H2.out (by decide) q hq) e)
 · exact H3.out.keepO HK1.out (fun q hq e => (H0.out.ne' H3.out (by decide) q hq) e)
set_option maxHeartbeats 8000000 in
set_option maxRecDepth 100000 in
theorem ap_5 (n : Int) (f t : Int) (s : ByteArray) (A : Acv) (base g : Nat) (w : World) (hM : Mine w base g A) (oA : AcOk A) (hb : base ≤ w.heap.size) (hn : -86399999999 ≤ n ∧ n ≤ 86399999999) :
 Calls Tryz.prog 99 #[edV ⟨5, n, f, t, s⟩, .pointer (some ⟨g, 0, none⟩)] w fun e w' => ApR A ⟨5, n, f, t, s⟩ base g w e w' := by
 unfold ApR
 rw [appE_5 rfl, appZ_5 rfl]
 obtain ⟨⟨a, b, c, ca, cb, cc, h0, h1, h2, h3⟩, hg⟩ := hM
 obtain ⟨V0, hV0, hb0, hs0, hl0⟩ := alloc_cells w #[.int .i64 5, .int .i64 n, .int .i64 f, .int .i64 t, .string s] 87
 have HB := Lib.hid hb0
 have HBS := Lib.hid hb
 have HG := Lib.hid hg
 have H1W := Lib.hid h1
 have H0 := Lib.hid (h0.below hb0)
 have H1 := Lib.hid (h1.below hb0)
 have H2 := Lib.hid (h2.below hb0)
 have H3 := Lib.hid (h3.below hb0)
 have HOA := Lib.hid oA
 have x0 := hl0 0 _ rfl
 have x1 := hl0 1 _ rfl
 obtain ⟨c0, c1, c2, c3, c4, c5⟩ := H0.out.cell
 have fr := H0.out.free
 clear hb hg h0 h1 h2 h3 oA hb0 hl0
 unfold edV
 go_enter Tryz.func99, Tryz.ntmps99
 go_upto_region 6 with (fail)
 clear hV0
 obtain ⟨s0, s1⟩ := HOA.out.start
 have wr : IntKind.i64.wrap (A.start + n) = A.start + n := tm_wrap (by omega) (by omega)
 have C2 := Ext.ex c2
 have X1 := Ext.ex x1
 clear c0 c1 c2 c3 c4 c5 x0 x1 fr
 refine late_start (s := 9) (C := fun w' => ∃ Y : Ext V0, w' = Y.1) (by kernel_rfl) ?_
 obtain ⟨Q0, hQ0⟩ : ∃ Y : Ext V0, ({ V0 with drawn := V0.drawn + 1 } : World) = Y.1 := ⟨⟨{ V0 with drawn := V0.drawn + 1 }, ⟨rfl, rfl, rfl, Nat.le_refl _, fun _ _ => rfl⟩⟩, rfl⟩
 rw [hQ0]
 clear hQ0
 refine late_quiet (by kernel_rfl) (fun _ _ d _ _ h => by cases d <;> exact h) ⟨Q0, rfl⟩ [0, 1, 2, 3, 4, 5, 6] 3 _ _ (by kernel_rfl) (by kernel_rfl) ?_
 change wpQuiet _ _ _ _ (_ :: _ :: _ :: _ :: _ :: _ :: _ :: []) _
 repeat go_big_quiet_step (fail)
 refine wpQuiet_nil ?_
 refine late_quiet (by kernel_rfl) (fun _ _ d _ _ h => by cases d <;> exact h) ⟨Q0, rfl⟩ [7, 8] 1 _ _ (by kernel_rfl) (by kernel_rfl) ?_
 change wpQuiet _ _ _ _ (_ :: _ :: []) _
 repeat go_big_quiet_step (fail)
 refine wpQuiet_nil ?_
 have c2 := C2 Q0
 have f2 := (H0.out.below Q0.2).free 2
 have hA1 := (H0.out.below Q0.2).set2 (A.start + n)
 obtain ⟨W1, hW1⟩ : ∃ z, Q0.1.setCell ⟨g, 2, none⟩ (.int .i64 (A.start + n)) = z := ⟨_, rfl⟩
 rw [hW1] at hA1
 have hk1 : Kept (fun q => q = g) V0 W1 := by rw [← hW1]; exact (Kept.of_below Q0.2).trans (keep_set (O := fun q => q = g) rfl)
 have HA1 := Lib.hid hA1
 have HK1 := Lib.hid hk1
 clear hA1 hk1
 refine late_do (i := 9) _ rfl (by kernel_rfl) rfl (fun K hK => ?_)
 go_simp
 refine hK _ _ (fun h => nomatch (show true = false from h)) ?_
 clear hK K
 try simp only [Act.put, List.setIfInBounds_toArray, List.set_cons_zero, List.set_cons_succ]
 refine late_done (by kernel_rfl) ?_ _
 clear c2 f2 hW1 C2 X1
 go_wp2_with fail
 go_ret
 refine ⟨below_at HB.out HBS.out (kept_ge HG.out HK1.out), rfl, fun _ => ⟨⟨a, b, c, ca, cb, cc, HA1.out, ?_, ?_, ?_⟩, HG.out⟩⟩
 · exact H1.out.keepO HK1.out (fun q hq e => (H0.out.ne' H1.out (by decide) q hq) e)
 · exact H2.out.keepO HK1.out (fun q hq e => (H0.out.ne' H2.out (by decide) q hq) e)
 · exact H3.out.keepO HK1.out (fun q hq e => (H0.out.ne' H3.out (by decide) q hq) e)
set_option maxHeartbeats 8000000 in
set_option maxRecDepth 100000 in
theorem ap_6 (n : Int) (f t : Int) (s : ByteArray) (A : Acv) (base g : Nat) (w : World) (hM : Mine w base g A) (oA : AcOk A) (hb : base ≤ w.heap.size) (hn : -200000 ≤ n ∧ n ≤ 200000) :
 Calls Tryz.prog 99 #[edV ⟨6, n, f, t, s⟩, .pointer (some ⟨g, 0, none⟩)] w fun e w' => ApR A ⟨6, n, f, t, s⟩ base g w e w' := by
 unfold ApR
 rw [appE_6 rfl, appZ_6 rfl]
 obtain ⟨⟨a, b, c, ca, cb, cc, h0, h1, h2, h3⟩, hg⟩ := hM
 obtain ⟨V0, hV0, hb0, hs0, hl0⟩ := alloc_cells w #[.int .i64 6, .int .i64 n, .int .i64 f, .int .i64 t, .string s] 87
 have HB := Lib.hid hb0
 have HBS := Lib.hid hb
 have HG := Lib.hid hg
 have H1W := Lib.hid h1
 have H0 := Lib.hid (h0.below hb0)
 have H1 := Lib.hid (h1.below hb0)
 have H2 := Lib.hid (h2.below hb0)
 have H3 := Lib.hid (h3.below hb0)
 have HOA := Lib.hid oA
 have x0 := hl0 0 _ rfl
 have x1 := hl0 1 _ rfl
 obtain ⟨c0, c1, c2, c3, c4, c5⟩ := H0.out.cell
 have fr := H0.out.free
 clear hb hg h0 h1 h2 h3 oA hb0 hl0
 unfold edV
 go_enter Tryz.func99, Tryz.ntmps99
 obtain ⟨ns, hn⟩ : ∃ n, A.sm.length = n := ⟨_, rfl⟩
 have HN := Lib.hid hn
 have H1N := Lib.hid (show Own smC 7 54 V0 base (.slice a ns ca) A.sm from hn ▸ H1.out)
 have H0N := Lib.hid (show AcB V0 g A.name A.sport A.start (.slice a ns ca) (.slice b A.lp.length cb) (.slice c A.tg.length cc) from hn ▸ H0.out)
 have hns : ns ≤ 20000 := by have := HOA.out.nsm; omega
 rw [hn] at c3
 have HLT := Lib.hid (fun q (hq : (Value.slice a ns ca).ownBlock = some q) => show q < w.heap.size ∧ base ≤ q ∧ q ≠ g from by
  have h := H1W.out.lt q (by rw [HN.out]; exact hq)
  exact ⟨h.2, h.1, fun e => (H0N.out.ne' H1N.out (by decide) q hq) e⟩)
 clear hn fr
 go_wp2_with fail
 clear hV0 c0 c1 c2 c3 c4 c5
 go_loopw [32] (fun iv wr => ∃ k : Nat, iv = .int .i64 k ∧ k ≤ ns ∧ Hid (Own smC 7 54 wr base (.slice a ns ca) ((A.sm.take k).map (raiseS n) ++ A.sm.drop k)) ∧ ∃ Z : ExtO (fun q => (Value.slice a ns ca).ownBlock = some q) V0, wr = Z.1) (fun iv _ => ns - (intOf iv).toNat)
 case atStart => exact ⟨0, rfl, by omega, Lib.hid H1N.out, ⟨V0, Kept.refl _ _⟩, rfl⟩
 case round =>
  obtain ⟨k, rfl, hk, HO, Z, rfl⟩ := hrel
  have hac := H0N.out.kept Z.2 (fun e => (HLT.out g e).2.2 rfl)
  by_cases hlt : k < ns
  · have t5 : decide ((k : Int) < (ns : Int)) = true := by rw [decide_eq_true_eq]; omega
    have t5' : decide (k < ns) = true := by simpa using hlt
    obtain ⟨x, hx⟩ : ∃ x, A.sm[k]? = some x := ⟨_, List.getElem?_eq_getElem (by rw [HN.out]; exact hlt)⟩
    obtain ⟨-, -, hxr⟩ := HOA.out.sm.upto k x hx
    obtain ⟨-, -, hz0, hz1⟩ := range_xyz hxr
    have hat := at_upto (raiseS n) A.sm k x hx
    have HUP := Lib.hid (map_upto (raiseS n) A.sm k x hx)
    have hlen := len_upto (raiseS n) A.sm k (by rw [HN.out]; exact hk)
    obtain ⟨q, c', he, hq1, hq2⟩ := HO.out.open (by rw [hlen, HN.out]; omega)
    injection he with he1 he2 he3
    subst he1
    have hcell : Z.1.cell? ⟨q, k * 7 + 3, none⟩ = some (.int .i64 x.z) := by
     have := (HO.out.rw_ smEl).1.on hat 3 _ rfl
     simpa using this
    have hbx0 := Z.2.cell (p := ⟨w.heap.size, 0, none⟩) (fun e => by have := (HLT.out _ e).1; simp only at this; omega) x0
    have hbx1 := Z.2.cell (p := ⟨w.heap.size, 1, none⟩) (fun e => by have := (HLT.out _ e).1; simp only at this; omega) x1
    have j3 := hac.cell.2.2.2.1
    have HAT := Lib.hid hat
    have HQ := Lib.hid hq1
    clear hx hxr hat hlen he2 he3 hq1 hq2
    have wr : IntKind.i64.wrap (x.z + n) = x.z + n := tm_wrap (by omega) (by omega)
    go_upto_region 13 with (fail)
    have C3 := Ext.ex hcell
    have X1 := Ext.ex hbx1
    clear hbx0 hbx1 j3
    refine late_start (s := 9) (C := fun w' => ∃ Y : Ext Z.1, w' = Y.1) (by kernel_rfl) ?_
    obtain ⟨Q0, hQ0⟩ : ∃ Y : Ext Z.1, ({ Z.1 with drawn := Z.1.drawn + 1 } : World) = Y.1 := ⟨⟨{ Z.1 with drawn := Z.1.drawn + 1 }, ⟨rfl, rfl, rfl, Nat.le_refl _, fun _ _ => rfl⟩⟩, rfl⟩
    rw [hQ0]
    clear hQ0
    refine late_quiet (by kernel_rfl) (fun _ _ d _ _ h => by cases d <;> exact h) ⟨Q0, rfl⟩ [0, 1, 2, 3, 4, 5, 6] 3 _ _ (by kernel_rfl) (by kernel_rfl) ?_
    change wpQuiet _ _ _ _ (_ :: _ :: _ :: _ :: _ :: _ :: _ :: []) _
    repeat go_big_quiet_step (fail)
    refine wpQuiet_nil ?_
    refine late_quiet (by kernel_rfl) (fun _ _ d _ _ h => by cases d <;> exact h) ⟨Q0, rfl⟩ [7, 8] 1 _ _ (by kernel_rfl) (by kernel_rfl) ?_
    change wpQuiet _ _ _ _ (_ :: _ :: []) _
    repeat go_big_quiet_step (fail)
    refine wpQuiet_nil ?_
    have hoq := HO.out.below Q0.2
    have fq := hoq.free (k * 7 + 3)
    have cq := below_cell Q0.2 hcell
    obtain ⟨hos, hks⟩ := hoq.set smEl (j := 3) HAT.out (by decide) (y := raiseS n x) (u := .int .i64 (x.z + n)) rfl
    obtain ⟨W9, hW9⟩ : ∃ z, Q0.1.setCell ⟨q, k * 7 + 3, none⟩ (.int .i64 (x.z + n)) = z := ⟨_, rfl⟩
    rw [hW9] at hos hks
    rw [HUP.out] at hos
    have HOS := Lib.hid hos
    have HKS := Lib.hid ((Z.2.trans (Kept.of_below Q0.2)).trans (show Kept (fun x => (Value.slice (some ⟨q, 0, none⟩) ns ca).ownBlock = some x) Q0.1 W9 from ⟨hks.os, hks.tape, hks.output, hks.size, fun x hx ho => hks.block x hx (fun e => ho (by rw [e]; rfl))⟩))
    clear hoq hos hks
    refine late_do (i := 9) _ rfl (by kernel_rfl) rfl (fun K hK => ?_)
    go_simp
    refine hK _ _ (fun h => nomatch (show true = false from h)) ?_
    clear hK K
    try simp only [Act.put, List.setIfInBounds_toArray, List.set_cons_zero, List.set_cons_succ]
    refine late_done (by kernel_rfl) ?_ _
    clear cq fq hW9 C3 X1 hcell
    have hlt := hlt
    go_wp2_with fail
    go_roundw
    case rel => exact ⟨k + 1, by go_num, by omega, HOS, ⟨W9, HKS.out⟩, rfl⟩
    case measure => simp [intOf]; omega
  · have t5 : decide ((k : Int) < (ns : Int)) = false := by rw [decide_eq_false_iff_not]; omega
    have t5' : decide (k < ns) = false := by simpa using hlt
    obtain rfl : ns = k := by omega
    have HOF := Lib.hid (show Own smC 7 54 Z.1 base (.slice a (A.sm.map (raiseS n)).length ca) (A.sm.map (raiseS n)) from by
     have h := HO.out
     have e : (A.sm.take ns).map (raiseS n) ++ A.sm.drop ns = A.sm.map (raiseS n) := by rw [← HN.out, List.take_length, List.drop_length, List.append_nil]
     rw [e] at h
     have e2 : (A.sm.map (raiseS n)).length = ns := by rw [List.length_map, HN.out]
     rw [e2]
     exact h)
    have HAC := Lib.hid (show AcB Z.1 g A.name A.sport A.start (.slice a (A.sm.map (raiseS n)).length ca) (.slice b A.lp.length cb) (.slice c A.tg.length cc) from by rw [List.length_map, HN.out]; exact hac)
    have HLZ := Lib.hid (H2.out.keepO Z.2 (fun q hq e => H2.out.apart H1N.out (by decide) q hq e))
    have HTZ := Lib.hid (H3.out.keepO Z.2 (fun q hq e => H3.out.apart H1N.out (by decide) q hq e))
    have HKZ := Lib.hid (show Kept (fun q => base ≤ q) V0 Z.1 from ⟨Z.2.os, Z.2.tape, Z.2.output, Z.2.size, fun q hq ho => Z.2.block q hq (fun e => ho ((HLT.out q e).2.1))⟩)
    clear hlt hk hac HO
    go_wp2_with fail
    go_ret
    exact ⟨below_at HB.out HBS.out HKZ.out, rfl, fun _ => ⟨⟨a, b, c, ca, cb, cc, HAC.out, HOF.out, HLZ.out, HTZ.out⟩, HG.out⟩⟩
set_option maxHeartbeats 8000000 in
set_option maxRecDepth 100000 in
theorem ap_7_1 (f t : Int) (s : ByteArray) (A : Acv) (base g : Nat) (w : World) (hM : Mine w base g A) (oA : AcOk A) (hb : base ≤ w.heap.size) :
 Calls Tryz.prog 99 #[edV ⟨7, 1, f, t, s⟩, .pointer (some ⟨g, 0, none⟩)] w fun e w' => ApR A ⟨7, 1, f, t, s⟩ base g w e w' := by
 unfold ApR
 rw [appE_7 rfl, appZ_7 rfl]
 obtain ⟨⟨a, b, c, ca, cb, cc, h0, h1, h2, h3⟩, hg⟩ := hM
 obtain ⟨V0, hV0, hb0, hs0, hl0⟩ := alloc_cells w #[.int .i64 7, .int .i64 1, .int .i64 f, .int .i64 t, .string s] 87
 have HB := Lib.hid hb0
 have HBS := Lib.hid hb
 have HG := Lib.hid hg
 have H1W := Lib.hid h1
 have H0 := Lib.hid (h0.below hb0)
 have H1 := Lib.hid (h1.below hb0)
 have H2 := Lib.hid (h2.below hb0)
 have H3 := Lib.hid (h3.below hb0)
 have HOA := Lib.hid oA
 have x0 := hl0 0 _ rfl
 have x1 := hl0 1 _ rfl
 obtain ⟨c0, c1, c2, c3, c4, c5⟩ := H0.out.cell
 have fr := H0.out.free
 clear hb hg h0 h1 h2 h3 oA hb0 hl0
 unfold edV
 go_enter Tryz.func99, Tryz.ntmps99
 obtain ⟨ns, hn⟩ : ∃ n, A.sm.length = n := ⟨_, rfl⟩
 have HN := Lib.hid hn
 have H1N := Lib.hid (show Own smC 7 54 V0 base (.slice a ns ca) A.sm from hn ▸ H1.out)
 have H0N := Lib.hid (show AcB V0 g A.name A.sport A.start (.slice a ns ca) (.slice b A.lp.length cb) (.slice c A.tg.length cc) from hn ▸ H0.out)
 have hns : ns ≤ 20000 := by have := HOA.out.nsm; omega
 rw [hn] at c3
 have HLT := Lib.hid (fun q (hq : (Value.slice a ns ca).ownBlock = some q) => show q < w.heap.size ∧ base ≤ q ∧ q ≠ g from by
  have h := H1W.out.lt q (by rw [HN.out]; exact hq)
  exact ⟨h.2, h.1, fun e => (H0N.out.ne' H1N.out (by decide) q hq) e⟩)
 clear hn fr
 go_wp2_with fail
 clear hV0 c0 c1 c2 c3 c4 c5
 go_loopw [32] (fun iv wr => ∃ k : Nat, iv = .int .i64 k ∧ k ≤ ns ∧ Hid (Own smC 7 54 wr base (.slice a ns ca) ((A.sm.take k).map (clearS 1) ++ A.sm.drop k)) ∧ ∃ Z : ExtO (fun q => (Value.slice a ns ca).ownBlock = some q) V0, wr = Z.1) (fun iv _ => ns - (intOf iv).toNat)
 case atStart => exact ⟨0, rfl, by omega, Lib.hid H1N.out, ⟨V0, Kept.refl _ _⟩, rfl⟩
 case round =>
  obtain ⟨k, rfl, hk, HO, Z, rfl⟩ := hrel
  have hac := H0N.out.kept Z.2 (fun e => (HLT.out g e).2.2 rfl)
  by_cases hlt : k < ns
  · have t5 : decide ((k : Int) < (ns : Int)) = true := by rw [decide_eq_true_eq]; omega
    have t5' : decide (k < ns) = true := by simpa using hlt
    obtain ⟨x, hx⟩ : ∃ x, A.sm[k]? = some x := ⟨_, List.getElem?_eq_getElem (by rw [HN.out]; exact hlt)⟩
    obtain ⟨-, -, hxr⟩ := HOA.out.sm.upto k x hx
    obtain ⟨-, -, hz0, hz1⟩ := range_xyz hxr
    have hat := at_upto (clearS 1) A.sm k x hx
    have HUP := Lib.hid (map_upto (clearS 1) A.sm k x hx)
    have hlen := len_upto (clearS 1) A.sm k (by rw [HN.out]; exact hk)
    obtain ⟨q, c', he, hq1, hq2⟩ := HO.out.open (by rw [hlen, HN.out]; omega)
    injection he with he1 he2 he3
    subst he1
    have hcell : Z.1.cell? ⟨q, k * 7 + 4, none⟩ = some (.int .i64 x.pu) := by
     have := (HO.out.rw_ smEl).1.on hat 4 _ rfl
     simpa using this
    have hbx0 := Z.2.cell (p := ⟨w.heap.size, 0, none⟩) (fun e => by have := (HLT.out _ e).1; simp only at this; omega) x0
    have hbx1 := Z.2.cell (p := ⟨w.heap.size, 1, none⟩) (fun e => by have := (HLT.out _ e).1; simp only at this; omega) x1
    have j3 := hac.cell.2.2.2.1
    have HAT := Lib.hid hat
    have HQ := Lib.hid hq1
    clear hx hxr hat hlen he2 he3 hq1 hq2
    go_upto_region 14 with (fail)
    have X1 := Ext.ex hbx1
    clear hbx0 hbx1 j3
    refine late_start (s := 16) (C := fun w' => ∃ Y : Ext Z.1, w' = Y.1) (by kernel_rfl) ?_
    obtain ⟨Q9, hQ9⟩ : ∃ Y : Ext Z.1, ({ Z.1 with drawn := Z.1.drawn + 1 } : World) = Y.1 := ⟨⟨{ Z.1 with drawn := Z.1.drawn + 1 }, ⟨rfl, rfl, rfl, Nat.le_refl _, fun _ _ => rfl⟩⟩, rfl⟩
    rw [hQ9]
    clear hQ9
    refine late_quiet (by kernel_rfl) (fun _ _ d _ _ h => by cases d <;> exact h) ⟨Q9, rfl⟩ [0, 1, 2, 3, 4, 5, 6, 7, 8, 10, 11, 12] 5 _ _ (by kernel_rfl) (by kernel_rfl) ?_
    change wpQuiet _ _ _ _ (_ :: _ :: _ :: _ :: _ :: _ :: _ :: _ :: _ :: _ :: _ :: _ :: []) _
    repeat go_big_quiet_step (fail)
    refine wpQuiet_nil ?_
    refine late_do (i := 9) _ rfl (by kernel_rfl) rfl (fun K hK => ?_)
    go_simp
    obtain ⟨V7, hV7, hb7, hs7, hl7⟩ := alloc_cells Q9.1 #[.pointer (some ⟨q, k * 7 + 4, none⟩), .pointer (some ⟨q, k * 7 + 5, none⟩), .pointer (some ⟨q, k * 7 + 6, none⟩)] 145
    rw [hV7]
    obtain ⟨Q0, hQ0⟩ : ∃ Y : Ext Z.1, V7 = Y.1 := ⟨⟨V7, below_step Q9.2 hb7⟩, rfl⟩
    have hp7 := hl7 0 _ rfl
    subst hQ0
    refine hK _ _ (fun _ => ⟨Q0, rfl⟩) ?_
    clear hK K hV7 hb7 hs7 hl7
    try simp only [Act.put, List.setIfInBounds_toArray, List.set_cons_zero, List.set_cons_succ]
    refine late_do (i := 13) _ rfl (by kernel_rfl) rfl (fun K hK => ?_)
    go_simp
    refine hK _ _ (fun _ => ⟨Q0, rfl⟩) ?_
    clear hK K
    try simp only [Act.put, List.setIfInBounds_toArray, List.set_cons_zero, List.set_cons_succ]
    refine late_do (i := 14) _ rfl (by kernel_rfl) rfl (fun K hK => ?_)
    go_simp
    refine hK _ _ (fun _ => ⟨Q0, rfl⟩) ?_
    clear hK K
    try simp only [Act.put, List.setIfInBounds_toArray, List.set_cons_zero, List.set_cons_succ]
    refine late_do (i := 15) _ rfl (by kernel_rfl) rfl (fun K hK => ?_)
    go_simp
    refine hK _ _ (fun _ => ⟨Q0, rfl⟩) ?_
    clear hK K hp7
    try simp only [Act.put, List.setIfInBounds_toArray, List.set_cons_zero, List.set_cons_succ]
    have hoq := HO.out.below Q0.2
    have fq := hoq.free (k * 7 + 4)
    have cq := below_cell Q0.2 hcell
    obtain ⟨hos, hks⟩ := hoq.set smEl (j := 4) HAT.out (by decide) (y := clearS 1 x) (u := .int .i64 (-1)) rfl
    obtain ⟨W9, hW9⟩ : ∃ z, Q0.1.setCell ⟨q, k * 7 + 4, none⟩ (.int .i64 (-1)) = z := ⟨_, rfl⟩
    rw [hW9] at hos hks
    rw [HUP.out] at hos
    have HOS := Lib.hid hos
    have HKS := Lib.hid ((Z.2.trans (Kept.of_below Q0.2)).trans (show Kept (fun x => (Value.slice (some ⟨q, 0, none⟩) ns ca).ownBlock = some x) Q0.1 W9 from ⟨hks.os, hks.tape, hks.output, hks.size, fun x hx ho => hks.block x hx (fun e => ho (by rw [e]; rfl))⟩))
    clear hoq hos hks
    refine late_do (i := 16) _ rfl (by kernel_rfl) rfl (fun K hK => ?_)
    go_simp
    refine hK _ _ (fun h => nomatch (show true = false from h)) ?_
    clear hK K
    try simp only [Act.put, List.setIfInBounds_toArray, List.set_cons_zero, List.set_cons_succ]
    refine late_done (by kernel_rfl) ?_ _
    clear cq fq hW9 X1 hcell
    have hlt := hlt
    go_wp2_with fail
    go_roundw
    case rel => exact ⟨k + 1, by go_num, by omega, HOS, ⟨W9, HKS.out⟩, rfl⟩
    case measure => simp [intOf]; omega
  · have t5 : decide ((k : Int) < (ns : Int)) = false := by rw [decide_eq_false_iff_not]; omega
    have t5' : decide (k < ns) = false := by simpa using hlt
    obtain rfl : ns = k := by omega
    have HOF := Lib.hid (show Own smC 7 54 Z.1 base (.slice a (A.sm.map (clearS 1)).length ca) (A.sm.map (clearS 1)) from by
     have h := HO.out
     have e : (A.sm.take ns).map (clearS 1) ++ A.sm.drop ns = A.sm.map (clearS 1) := by rw [← HN.out, List.take_length, List.drop_length, List.append_nil]
     rw [e] at h
     have e2 : (A.sm.map (clearS 1)).length = ns := by rw [List.length_map, HN.out]
     rw [e2]
     exact h)
    have HAC := Lib.hid (show AcB Z.1 g A.name A.sport A.start (.slice a (A.sm.map (clearS 1)).length ca) (.slice b A.lp.length cb) (.slice c A.tg.length cc) from by rw [List.length_map, HN.out]; exact hac)
    have HLZ := Lib.hid (H2.out.keepO Z.2 (fun q hq e => H2.out.apart H1N.out (by decide) q hq e))
    have HTZ := Lib.hid (H3.out.keepO Z.2 (fun q hq e => H3.out.apart H1N.out (by decide) q hq e))
    have HKZ := Lib.hid (show Kept (fun q => base ≤ q) V0 Z.1 from ⟨Z.2.os, Z.2.tape, Z.2.output, Z.2.size, fun q hq ho => Z.2.block q hq (fun e => ho ((HLT.out q e).2.1))⟩)
    clear hlt hk hac HO
    go_wp2_with fail
    go_ret
    exact ⟨below_at HB.out HBS.out HKZ.out, rfl, fun _ => ⟨⟨a, b, c, ca, cb, cc, HAC.out, HOF.out, HLZ.out, HTZ.out⟩, HG.out⟩⟩
set_option maxHeartbeats 8000000 in
set_option maxRecDepth 100000 in
theorem ap_7_2 (f t : Int) (s : ByteArray) (A : Acv) (base g : Nat) (w : World) (hM : Mine w base g A) (oA : AcOk A) (hb : base ≤ w.heap.size) :
 Calls Tryz.prog 99 #[edV ⟨7, 2, f, t, s⟩, .pointer (some ⟨g, 0, none⟩)] w fun e w' => ApR A ⟨7, 2, f, t, s⟩ base g w e w' := by
 unfold ApR
 rw [appE_7 rfl, appZ_7 rfl]
 obtain ⟨⟨a, b, c, ca, cb, cc, h0, h1, h2, h3⟩, hg⟩ := hM
 obtain ⟨V0, hV0, hb0, hs0, hl0⟩ := alloc_cells w #[.int .i64 7, .int .i64 2, .int .i64 f, .int .i64 t, .string s] 87
 have HB := Lib.hid hb0
 have HBS := Lib.hid hb
 have HG := Lib.hid hg
 have H1W := Lib.hid h1
 have H0 := Lib.hid (h0.below hb0)
 have H1 := Lib.hid (h1.below hb0)
 have H2 := Lib.hid (h2.below hb0)
 have H3 := Lib.hid (h3.below hb0)
 have HOA := Lib.hid oA
 have x0 := hl0 0 _ rfl
 have x1 := hl0 1 _ rfl
 obtain ⟨c0, c1, c2, c3, c4, c5⟩ := H0.out.cell
 have fr := H0.out.free
 clear hb hg h0 h1 h2 h3 oA hb0 hl0
 unfold edV
 go_enter Tryz.func99, Tryz.ntmps99
 obtain ⟨ns, hn⟩ : ∃ n, A.sm.length = n := ⟨_, rfl⟩
 have HN := Lib.hid hn
 have H1N := Lib.hid (show Own smC 7 54 V0 base (.slice a ns ca) A.sm from hn ▸ H1.out)
 have H0N := Lib.hid (show AcB V0 g A.name A.sport A.start (.slice a ns ca) (.slice b A.lp.length cb) (.slice c A.tg.length cc) from hn ▸ H0.out)
 have hns : ns ≤ 20000 := by have := HOA.out.nsm; omega
 rw [hn] at c3
 have HLT := Lib.hid (fun q (hq : (Value.slice a ns ca).ownBlock = some q) => show q < w.heap.size ∧ base ≤ q ∧ q ≠ g from by
  have h := H1W.out.lt q (by rw [HN.out]; exact hq)
  exact ⟨h.2, h.1, fun e => (H0N.out.ne' H1N.out (by decide) q hq) e⟩)
 clear hn fr
 go_wp2_with fail
 clear hV0 c0 c1 c2 c3 c4 c5
 go_loopw [32] (fun iv wr => ∃ k : Nat, iv = .int .i64 k ∧ k ≤ ns ∧ Hid (Own smC 7 54 wr base (.slice a ns ca) ((A.sm.take k).map (clearS 2) ++ A.sm.drop k)) ∧ ∃ Z : ExtO (fun q => (Value.slice a ns ca).ownBlock = some q) V0, wr = Z.1) (fun iv _ => ns - (intOf iv).toNat)
 case atStart => exact ⟨0, rfl, by omega, Lib.hid H1N.out, ⟨V0, Kept.refl _ _⟩, rfl⟩
 case round =>
  obtain ⟨k, rfl, hk, HO, Z, rfl⟩ := hrel
  have hac := H0N.out.kept Z.2 (fun e => (HLT.out g e).2.2 rfl)
  by_cases hlt : k < ns
  · have t5 : decide ((k : Int) < (ns : Int)) = true := by rw [decide_eq_true_eq]; omega
    have t5' : decide (k < ns) = true := by simpa using hlt
    obtain ⟨x, hx⟩ : ∃ x, A.sm[k]? = some x := ⟨_, List.getElem?_eq_getElem (by rw [HN.out]; exact hlt)⟩
    obtain ⟨-, -, hxr⟩ := HOA.out.sm.upto k x hx
    obtain ⟨-, -, hz0, hz1⟩ := range_xyz hxr
    have hat := at_upto (clearS 2) A.sm k x hx
    have HUP := Lib.hid (map_upto (clearS 2) A.sm k x hx)
    have hlen := len_upto (clearS 2) A.sm k (by rw [HN.out]; exact hk)
    obtain ⟨q, c', he, hq1, hq2⟩ := HO.out.open (by rw [hlen, HN.out]; omega)
    injection he with he1 he2 he3
    subst he1
    have hcell : Z.1.cell? ⟨q, k * 7 + 5, none⟩ = some (.int .i64 x.po) := by
     have := (HO.out.rw_ smEl).1.on hat 5 _ rfl
     simpa using this
    have hbx0 := Z.2.cell (p := ⟨w.heap.size, 0, none⟩) (fun e => by have := (HLT.out _ e).1; simp only at this; omega) x0
    have hbx1 := Z.2.cell (p := ⟨w.heap.size, 1, none⟩) (fun e => by have := (HLT.out _ e).1; simp only at this; omega) x1
    have j3 := hac.cell.2.2.2.1
    have HAT := Lib.hid hat
    have HQ := Lib.hid hq1
    clear hx hxr hat hlen he2 he3 hq1 hq2
    go_upto_region 14 with (fail)
    have X1 := Ext.ex hbx1
    clear hbx0 hbx1 j3
    refine late_start (s := 16) (C := fun w' => ∃ Y : Ext Z.1, w' = Y.1) (by kernel_rfl) ?_
    obtain ⟨Q9, hQ9⟩ : ∃ Y : Ext Z.1, ({ Z.1 with drawn := Z.1.drawn + 1 } : World) = Y.1 := ⟨⟨{ Z.1 with drawn := Z.1.drawn + 1 }, ⟨rfl, rfl, rfl, Nat.le_refl _, fun _ _ => rfl⟩⟩, rfl⟩
    rw [hQ9]
    clear hQ9
    refine late_quiet (by kernel_rfl) (fun _ _ d _ _ h => by cases d <;> exact h) ⟨Q9, rfl⟩ [0, 1, 2, 3, 4, 5, 6, 7, 8, 10, 11, 12] 5 _ _ (by kernel_rfl) (by kernel_rfl) ?_
    change wpQuiet _ _ _ _ (_ :: _ :: _ :: _ :: _ :: _ :: _ :: _ :: _ :: _ :: _ :: _ :: []) _
    repeat go_big_quiet_step (fail)
    refine wpQuiet_nil ?_
    refine late_do (i := 9) _ rfl (by kernel_rfl) rfl (fun K hK => ?_)
    go_simp
    obtain ⟨V7, hV7, hb7, hs7, hl7⟩ := alloc_cells Q9.1 #[.pointer (some ⟨q, k * 7 + 4, none⟩), .pointer (some ⟨q, k * 7 + 5, none⟩), .pointer (some ⟨q, k * 7 + 6, none⟩)] 145
    rw [hV7]
    obtain ⟨Q0, hQ0⟩ : ∃ Y : Ext Z.1, V7 = Y.1 := ⟨⟨V7, below_step Q9.2 hb7⟩, rfl⟩
    have hp7 := hl7 1 _ rfl
    subst hQ0
    refine hK _ _ (fun _ => ⟨Q0, rfl⟩) ?_
    clear hK K hV7 hb7 hs7 hl7
    try simp only [Act.put, List.setIfInBounds_toArray, List.set_cons_zero, List.set_cons_succ]
    refine late_do (i := 13) _ rfl (by kernel_rfl) rfl (fun K hK => ?_)
    go_simp
    refine hK _ _ (fun _ => ⟨Q0, rfl⟩) ?_
    clear hK K
    try simp only [Act.put, List.setIfInBounds_toArray, List.set_cons_zero, List.set_cons_succ]
    refine late_do (i := 14) _ rfl (by kernel_rfl) rfl (fun K hK => ?_)
    go_simp
    refine hK _ _ (fun _ => ⟨Q0, rfl⟩) ?_
    clear hK K
    try simp only [Act.put, List.setIfInBounds_toArray, List.set_cons_zero, List.set_cons_succ]
    refine late_do (i := 15) _ rfl (by kernel_rfl) rfl (fun K hK => ?_)
    go_simp
    refine hK _ _ (fun _ => ⟨Q0, rfl⟩) ?_
    clear hK K hp7
    try simp only [Act.put, List.setIfInBounds_toArray, List.set_cons_zero, List.set_cons_succ]
    have hoq := HO.out.below Q0.2
    have fq := hoq.free (k * 7 + 5)
    have cq := below_cell Q0.2 hcell
    obtain ⟨hos, hks⟩ := hoq.set smEl (j := 5) HAT.out (by decide) (y := clearS 2 x) (u := .int .i64 (-1)) rfl
    obtain ⟨W9, hW9⟩ : ∃ z, Q0.1.setCell ⟨q, k * 7 + 5, none⟩ (.int .i64 (-1)) = z := ⟨_, rfl⟩
    rw [hW9] at hos hks
    rw [HUP.out] at hos
    have HOS := Lib.hid hos
    have HKS := Lib.hid ((Z.2.trans (Kept.of_below Q0.2)).trans (show Kept (fun x => (Value.slice (some ⟨q, 0, none⟩) ns ca).ownBlock = some x) Q0.1 W9 from ⟨hks.os, hks.tape, hks.output, hks.size, fun x hx ho => hks.block x hx (fun e => ho (by rw [e]; rfl))⟩))
    clear hoq hos hks
    refine late_do (i := 16) _ rfl (by kernel_rfl) rfl (fun K hK => ?_)
    go_simp
    refine hK _ _ (fun h => nomatch (show true = false from h)) ?_
    clear hK K
    try simp only [Act.put, List.setIfInBounds_toArray, List.set_cons_zero, List.set_cons_succ]
    refine late_done (by kernel_rfl) ?_ _
    clear cq fq hW9 X1 hcell
    have hlt := hlt
    go_wp2_with fail
    go_roundw
    case rel => exact ⟨k + 1, by go_num, by omega, HOS, ⟨W9, HKS.out⟩, rfl⟩
    case measure => simp [intOf]; omega
  · have t5 : decide ((k : Int) < (ns : Int)) = false := by rw [decide_eq_false_iff_not]; omega
    have t5' : decide (k < ns) = false := by simpa using hlt
    obtain rfl : ns = k := by omega
    have HOF := Lib.hid (show Own smC 7 54 Z.1 base (.slice a (A.sm.map (clearS 2)).length ca) (A.sm.map (clearS 2)) from by
     have h := HO.out
     have e : (A.sm.take ns).map (clearS 2) ++ A.sm.drop ns = A.sm.map (clearS 2) := by rw [← HN.out, List.take_length, List.drop_length, List.append_nil]
     rw [e] at h
     have e2 : (A.sm.map (clearS 2)).length = ns := by rw [List.length_map, HN.out]
     rw [e2]
     exact h)
    have HAC := Lib.hid (show AcB Z.1 g A.name A.sport A.start (.slice a (A.sm.map (clearS 2)).length ca) (.slice b A.lp.length cb) (.slice c A.tg.length cc) from by rw [List.length_map, HN.out]; exact hac)
    have HLZ := Lib.hid (H2.out.keepO Z.2 (fun q hq e => H2.out.apart H1N.out (by decide) q hq e))
    have HTZ := Lib.hid (H3.out.keepO Z.2 (fun q hq e => H3.out.apart H1N.out (by decide) q hq e))
    have HKZ := Lib.hid (show Kept (fun q => base ≤ q) V0 Z.1 from ⟨Z.2.os, Z.2.tape, Z.2.output, Z.2.size, fun q hq ho => Z.2.block q hq (fun e => ho ((HLT.out q e).2.1))⟩)
    clear hlt hk hac HO
    go_wp2_with fail
    go_ret
    exact ⟨below_at HB.out HBS.out HKZ.out, rfl, fun _ => ⟨⟨a, b, c, ca, cb, cc, HAC.out, HOF.out, HLZ.out, HTZ.out⟩, HG.out⟩⟩
set_option maxHeartbeats 8000000 in
set_option maxRecDepth 100000 in
theorem ap_7_3 (f t : Int) (s : ByteArray) (A : Acv) (base g : Nat) (w : World) (hM : Mine w base g A) (oA : AcOk A) (hb : base ≤ w.heap.size) :
 Calls Tryz.prog 99 #[edV ⟨7, 3, f, t, s⟩, .pointer (some ⟨g, 0, none⟩)] w fun e w' => ApR A ⟨7, 3, f, t, s⟩ base g w e w' := by
 unfold ApR
 rw [appE_7 rfl, appZ_7 rfl]
 obtain ⟨⟨a, b, c, ca, cb, cc, h0, h1, h2, h3⟩, hg⟩ := hM
 obtain ⟨V0, hV0, hb0, hs0, hl0⟩ := alloc_cells w #[.int .i64 7, .int .i64 3, .int .i64 f, .int .i64 t, .string s] 87
 have HB := Lib.hid hb0
 have HBS := Lib.hid hb
 have HG := Lib.hid hg
 have H1W := Lib.hid h1
 have H0 := Lib.hid (h0.below hb0)
 have H1 := Lib.hid (h1.below hb0)
 have H2 := Lib.hid (h2.below hb0)
 have H3 := Lib.hid (h3.below hb0)
 have HOA := Lib.hid oA
 have x0 := hl0 0 _ rfl
 have x1 := hl0 1 _ rfl
 obtain ⟨c0, c1, c2, c3, c4, c5⟩ := H0.out.cell
 have fr := H0.out.free
 clear hb hg h0 h1 h2 h3 oA hb0 hl0
 unfold edV
 go_enter Tryz.func99, Tryz.ntmps99
 obtain ⟨ns, hn⟩ : ∃ n, A.sm.length = n := ⟨_, rfl⟩
 have HN := Lib.hid hn
 have H1N := Lib.hid (show Own smC 7 54 V0 base (.slice a ns ca) A.sm from hn ▸ H1.out)
 have H0N := Lib.hid (show AcB V0 g A.name A.sport A.start (.slice a ns ca) (.slice b A.lp.length cb) (.slice c A.tg.length cc) from hn ▸ H0.out)
 have hns : ns ≤ 20000 := by have := HOA.out.nsm; omega
 rw [hn] at c3
 have HLT := Lib.hid (fun q (hq : (Value.slice a ns ca).ownBlock = some q) => show q < w.heap.size ∧ base ≤ q ∧ q ≠ g from by
  have h := H1W.out.lt q (by rw [HN.out]; exact hq)
  exact ⟨h.2, h.1, fun e => (H0N.out.ne' H1N.out (by decide) q hq) e⟩)
 clear hn fr
 go_wp2_with fail
 clear hV0 c0 c1 c2 c3 c4 c5
 go_loopw [32] (fun iv wr => ∃ k : Nat, iv = .int .i64 k ∧ k ≤ ns ∧ Hid (Own smC 7 54 wr base (.slice a ns ca) ((A.sm.take k).map (clearS 3) ++ A.sm.drop k)) ∧ ∃ Z : ExtO (fun q => (Value.slice a ns ca).ownBlock = some q) V0, wr = Z.1) (fun iv _ => ns - (intOf iv).toNat)
 case atStart => exact ⟨0, rfl, by omega, Lib.hid H1N.out, ⟨V0, Kept.refl _ _⟩, rfl⟩
 case round =>
  obtain ⟨k, rfl, hk, HO, Z, rfl⟩ := hrel
  have hac := H0N.out.kept Z.2 (fun e => (HLT.out g e).2.2 rfl)
  by_cases hlt : k < ns
  · have t5 : decide ((k : Int) < (ns : Int)) = true := by rw [decide_eq_true_eq]; omega
    have t5' : decide (k < ns) = true := by simpa using hlt
    obtain ⟨x, hx⟩ : ∃ x, A.sm[k]? = some x := ⟨_, List.getElem?_eq_getElem (by rw [HN.out]; exact hlt)⟩
    obtain ⟨-, -, hxr⟩ := HOA.out.sm.upto k x hx
    obtain ⟨-, -, hz0, hz1⟩ := range_xyz hxr
    have hat := at_upto (clearS 3) A.sm k x hx
    have HUP := Lib.hid (map_upto (clearS 3) A.sm k x hx)
    have hlen := len_upto (clearS 3) A.sm k (by rw [HN.out]; exact hk)
    obtain ⟨q, c', he, hq1, hq2⟩ := HO.out.open (by rw [hlen, HN.out]; omega)
    injection he with he1 he2 he3
    subst he1
    have hcell : Z.1.cell? ⟨q, k * 7 + 6, none⟩ = some (.int .i64 x.st) := by
     have := (HO.out.rw_ smEl).1.on hat 6 _ rfl
     simpa using this
    have hbx0 := Z.2.cell (p := ⟨w.heap.size, 0, none⟩) (fun e => by have := (HLT.out _ e).1; simp only at this; omega) x0
    have hbx1 := Z.2.cell (p := ⟨w.heap.size, 1, none⟩) (fun e => by have := (HLT.out _ e).1; simp only at this; omega) x1
    have j3 := hac.cell.2.2.2.1
    have HAT := Lib.hid hat
    have HQ := Lib.hid hq1
    clear hx hxr hat hlen he2 he3 hq1 hq2
    go_upto_region 14 with (fail)
    have X1 := Ext.ex hbx1
    clear hbx0 hbx1 j3
    refine late_start (s := 16) (C := fun w' => ∃ Y : Ext Z.1, w' = Y.1) (by kernel_rfl) ?_
    obtain ⟨Q9, hQ9⟩ : ∃ Y : Ext Z.1, ({ Z.1 with drawn := Z.1.drawn + 1 } : World) = Y.1 := ⟨⟨{ Z.1 with drawn := Z.1.drawn + 1 }, ⟨rfl, rfl, rfl, Nat.le_refl _, fun _ _ => rfl⟩⟩, rfl⟩
    rw [hQ9]
    clear hQ9
    refine late_quiet (by kernel_rfl) (fun _ _ d _ _ h => by cases d <;> exact h) ⟨Q9, rfl⟩ [0, 1, 2, 3, 4, 5, 6, 7, 8, 10, 11, 12] 5 _ _ (by kernel_rfl) (by kernel_rfl) ?_
    change wpQuiet _ _ _ _ (_ :: _ :: _ :: _ :: _ :: _ :: _ :: _ :: _ :: _ :: _ :: _ :: []) _
    repeat go_big_quiet_step (fail)
    refine wpQuiet_nil ?_
    refine late_do (i := 9) _ rfl (by kernel_rfl) rfl (fun K hK => ?_)
    go_simp
    obtain ⟨V7, hV7, hb7, hs7, hl7⟩ := alloc_cells Q9.1 #[.pointer (some ⟨q, k * 7 + 4, none⟩), .pointer (some ⟨q, k * 7 + 5, none⟩), .pointer (some ⟨q, k * 7 + 6, none⟩)] 145
    rw [hV7]
    obtain ⟨Q0, hQ0⟩ : ∃ Y : Ext Z.1, V7 = Y.1 := ⟨⟨V7, below_step Q9.2 hb7⟩, rfl⟩
    have hp7 := hl7 2 _ rfl
    subst hQ0
    refine hK _ _ (fun _ => ⟨Q0, rfl⟩) ?_
    clear hK K hV7 hb7 hs7 hl7
    try simp only [Act.put, List.setIfInBounds_toArray, List.set_cons_zero, List.set_cons_succ]
    refine late_do (i := 13) _ rfl (by kernel_rfl) rfl (fun K hK => ?_)
    go_simp
    refine hK _ _ (fun _ => ⟨Q0, rfl⟩) ?_
    clear hK K
    try simp only [Act.put, List.setIfInBounds_toArray, List.set_cons_zero, List.set_cons_succ]
    refine late_do (i := 14) _ rfl (by kernel_rfl) rfl (fun K hK => ?_)
    go_simp
    refine hK _ _ (fun _ => ⟨Q0, rfl⟩) ?_
    clear hK K
    try simp only [Act.put, List.setIfInBounds_toArray, List.set_cons_zero, List.set_cons_succ]
    refine late_do (i := 15) _ rfl (by kernel_rfl) rfl (fun K hK => ?_)
    go_simp
    refine hK _ _ (fun _ => ⟨Q0, rfl⟩) ?_
    clear hK K hp7
    try simp only [Act.put, List.setIfInBounds_toArray, List.set_cons_zero, List.set_cons_succ]
    have hoq := HO.out.below Q0.2
    have fq := hoq.free (k * 7 + 6)
    have cq := below_cell Q0.2 hcell
    obtain ⟨hos, hks⟩ := hoq.set smEl (j := 6) HAT.out (by decide) (y := clearS 3 x) (u := .int .i64 (-1)) rfl
    obtain ⟨W9, hW9⟩ : ∃ z, Q0.1.setCell ⟨q, k * 7 + 6, none⟩ (.int .i64 (-1)) = z := ⟨_, rfl⟩
    rw [hW9] at hos hks
    rw [HUP.out] at hos
    have HOS := Lib.hid hos
    have HKS := Lib.hid ((Z.2.trans (Kept.of_below Q0.2)).trans (show Kept (fun x => (Value.slice (some ⟨q, 0, none⟩) ns ca).ownBlock = some x) Q0.1 W9 from ⟨hks.os, hks.tape, hks.output, hks.size, fun x hx ho => hks.block x hx (fun e => ho (by rw [e]; rfl))⟩))
    clear hoq hos hks
    refine late_do (i := 16) _ rfl (by kernel_rfl) rfl (fun K hK => ?_)
    go_simp
    refine hK _ _ (fun h => nomatch (show true = false from h)) ?_
    clear hK K
    try simp only [Act.put, List.setIfInBounds_toArray, List.set_cons_zero, List.set_cons_succ]
    refine late_done (by kernel_rfl) ?_ _
    clear cq fq hW9 X1 hcell
    have hlt := hlt
    go_wp2_with fail
    go_roundw
    case rel => exact ⟨k + 1, by go_num, by omega, HOS, ⟨W9, HKS.out⟩, rfl⟩
    case measure => simp [intOf]; omega
  · have t5 : decide ((k : Int) < (ns : Int)) = false := by rw [decide_eq_false_iff_not]; omega
    have t5' : decide (k < ns) = false := by simpa using hlt
    obtain rfl : ns = k := by omega
    have HOF := Lib.hid (show Own smC 7 54 Z.1 base (.slice a (A.sm.map (clearS 3)).length ca) (A.sm.map (clearS 3)) from by
     have h := HO.out
     have e : (A.sm.take ns).map (clearS 3) ++ A.sm.drop ns = A.sm.map (clearS 3) := by rw [← HN.out, List.take_length, List.drop_length, List.append_nil]
     rw [e] at h
     have e2 : (A.sm.map (clearS 3)).length = ns := by rw [List.length_map, HN.out]
     rw [e2]
     exact h)
    have HAC := Lib.hid (show AcB Z.1 g A.name A.sport A.start (.slice a (A.sm.map (clearS 3)).length ca) (.slice b A.lp.length cb) (.slice c A.tg.length cc) from by rw [List.length_map, HN.out]; exact hac)
    have HLZ := Lib.hid (H2.out.keepO Z.2 (fun q hq e => H2.out.apart H1N.out (by decide) q hq e))
    have HTZ := Lib.hid (H3.out.keepO Z.2 (fun q hq e => H3.out.apart H1N.out (by decide) q hq e))
    have HKZ := Lib.hid (show Kept (fun q => base ≤ q) V0 Z.1 from ⟨Z.2.os, Z.2.tape, Z.2.output, Z.2.size, fun q hq ho => Z.2.block q hq (fun e => ho ((HLT.out q e).2.1))⟩)
    clear hlt hk hac HO
    go_wp2_with fail
    go_ret
    exact ⟨below_at HB.out HBS.out HKZ.out, rfl, fun _ => ⟨⟨a, b, c, ca, cb, cc, HAC.out, HOF.out, HLZ.out, HTZ.out⟩, HG.out⟩⟩
end Go.Proofs.YtgdepcnfjmobjaaGreat
