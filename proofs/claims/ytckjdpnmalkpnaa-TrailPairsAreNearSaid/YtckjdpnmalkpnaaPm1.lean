/- Several texts of this claim in one. -/
import Derived.Test.YtckjdpnmalkpnaaFm4
import Derived.Deep.AppendLies
import Derived.Lib.AppendZeros
import Derived.DeepKeys
/- Pairs of recordings, plain; rows of activities, of pairs, of marks. -/
namespace Go.Proofs.Ytckjdpnmalkpnaa
open Go.RowKit Go.BigFrame
open Tr (inR)
open Ft (Mt)

/-- an activity, and where its rows lie -/
structure Ab where
  A : Acv
  a : Option Addr
  b : Option Addr
  c : Option Addr
  ca : Nat
  cb : Nat
  cc : Nat
def abC (x : Ab) : List Value := [.string x.A.name, .int .i64 x.A.sport, .int .i64 x.A.start, .slice x.a x.A.sm.length x.ca, .slice x.b x.A.lp.length x.cb, .slice x.c x.A.tg.length x.cc]
def abV (x : Ab) : Value := actV x.A x.a x.b x.c x.ca x.cb x.cc
/-- a list of activities that came in -/
structure LIn (w : World) (la : Option Addr) (L : List Ab) : Prop where
  row : Rw abC 6 w la L
  each : ∀ x, x ∈ L → ActIn w x.A x.a x.b x.c
theorem LIn.below {w w' : World} {la : Option Addr} {L : List Ab} (h : LIn w la L) (hb : Below w.heap.size w w') : LIn w' la L := ⟨h.row.below hb, fun x hx => (h.each x hx).below hb⟩
def errP (L : List Ab) (i : Nat) : Int := match L[i]? with
  | none => 0
  | some x => if chkA x.A ≠ 0 then chkA x.A else if 400 < x.A.sm.length then 3 else 0
def chkP (L : List Ab) : Int := firstE (errP L) L.length 0
def bndP (most least apart : Int) : Int := if bndE most least ≠ 0 then bndE most least else if inR apart 0 10000 = true then 0 else 9
def pairE (L : List Ab) (most least apart : Int) : Int := if 30 < L.length then 3 else if chkP L ≠ 0 then chkP L else bndP most least apart
/-- two recordings have one sport -/
def oneS (L : List Ab) (i k : Nat) : Bool := match L[i]?, L[k]? with
  | some x, some y => decide (x.A.sport = y.A.sport)
  | _, _ => false
/-- two recordings are near -/
def nearM (apart : Int) : Option Mt → Bool
  | none => false
  | some m => decide (m.sum ≤ m.many * apart * apart)
def nearP (L : List Ab) (most least apart : Int) (i k : Nat) : Bool := match L[i]?, L[k]? with
  | some x, some y => nearM apart (Ft.fitM (shiftedF x.A y.A) most least)
  | _, _ => false
/-- what is taken; the pairs -/
structure PSt where
  tk : Nat → Bool
  out : List (Nat × Nat)
def tk2 (tk : Nat → Bool) (i k : Nat) : Nat → Bool := fun j => decide (j = k) || (decide (j = i) || tk j)
def pstep (S N : Nat → Nat → Bool) (i k : Nat) (s : PSt) : PSt := if s.tk i = true ∨ s.tk k = true ∨ S i k = false then s else if N i k = true then ⟨tk2 s.tk i k, s.out ++ [(i, k)]⟩ else s
def pinF (S N : Nat → Nat → Bool) (i : Nat) : Nat → Nat → PSt → PSt
  | 0, _, s => s
  | d + 1, k, s => pinF S N i d (k + 1) (pstep S N i k s)
def poutF (S N : Nat → Nat → Bool) (n : Nat) : Nat → Nat → PSt → PSt
  | 0, _, s => s
  | d + 1, i, s => poutF S N n d (i + 1) (pinF S N i (n - (i + 1)) (i + 1) s)
def pairF (S N : Nat → Nat → Bool) (n : Nat) : PSt := poutF S N n n 0 ⟨fun _ => false, []⟩
theorem poutF_go {S N : Nat → Nat → Bool} {n i : Nat} {E s : PSt} (hi : i < n) (h : E = poutF S N n (n - i) i s) : E = poutF S N n (n - (i + 1)) (i + 1) (pinF S N i (n - (i + 1)) (i + 1) s) := by
  obtain ⟨d, hd⟩ : ∃ d, n - i = d + 1 := ⟨n - i - 1, by omega⟩
  rw [hd, poutF] at h
  rw [show n - (i + 1) = d by omega] at h ⊢
  exact h
theorem poutF_end {S N : Nat → Nat → Bool} {n i : Nat} {E s : PSt} (hi : ¬ i < n) (h : E = poutF S N n (n - i) i s) : E = s := by
  rw [show n - i = 0 by omega, poutF] at h
  exact h
theorem pinF_go {S N : Nat → Nat → Bool} {n i k : Nat} {E s : PSt} (hk : k < n) (h : E = poutF S N n (n - (i + 1)) (i + 1) (pinF S N i (n - k) k s)) : E = poutF S N n (n - (i + 1)) (i + 1) (pinF S N i (n - (k + 1)) (k + 1) (pstep S N i k s)) := by
  obtain ⟨d, hd⟩ : ∃ d, n - k = d + 1 := ⟨n - k - 1, by omega⟩
  rw [hd, pinF] at h
  rw [show n - (k + 1) = d by omega]
  exact h
theorem pinF_end {S N : Nat → Nat → Bool} {n i k : Nat} {E s : PSt} (hk : ¬ k < n) (h : E = poutF S N n (n - (i + 1)) (i + 1) (pinF S N i (n - k) k s)) : E = poutF S N n (n - (i + 1)) (i + 1) s := by
  rw [show n - k = 0 by omega, pinF] at h
  exact h
theorem pstep_skip {S N : Nat → Nat → Bool} {i k : Nat} {s : PSt} (h : s.tk i = true ∨ s.tk k = true ∨ S i k = false) : pstep S N i k s = s := if_pos h
theorem pstep_near {S N : Nat → Nat → Bool} {i k : Nat} {s : PSt} (h : ¬ (s.tk i = true ∨ s.tk k = true ∨ S i k = false)) (hn : N i k = true) : pstep S N i k s = ⟨tk2 s.tk i k, s.out ++ [(i, k)]⟩ := by
  unfold pstep
  rw [if_neg h, if_pos hn]
theorem pstep_far {S N : Nat → Nat → Bool} {i k : Nat} {s : PSt} (h : ¬ (s.tk i = true ∨ s.tk k = true ∨ S i k = false)) (hn : N i k = false) : pstep S N i k s = s := by
  unfold pstep
  rw [if_neg h, if_neg (by rw [hn]; simp)]
/-! ### what the pairs keep -/
structure PInv (S N : Nat → Nat → Bool) (n : Nat) (done : Nat → Nat → Prop) (s : PSt) : Prop where
  tk : ∀ j, s.tk j = true ↔ ∃ p, p ∈ s.out ∧ (p.1 = j ∨ p.2 = j)
  ok : ∀ p, p ∈ s.out → p.1 < p.2 ∧ p.2 < n ∧ S p.1 p.2 = true ∧ N p.1 p.2 = true
  apart : s.out.Pairwise fun p q => p.1 ≠ q.1 ∧ p.1 ≠ q.2 ∧ p.2 ≠ q.1 ∧ p.2 ≠ q.2
  full : ∀ i k, done i k → S i k = true → N i k = true → s.tk i = true ∨ s.tk k = true
  few : s.out.length ≤ n
theorem PInv.step {S N : Nat → Nat → Bool} {n i k : Nat} {done : Nat → Nat → Prop} {s : PSt} (h : PInv S N n done s) (hik : i < k) (hk : k < n) (hl : ∀ p, p ∈ s.out → p.1 ≤ i) (hlen : s.out.length ≤ i ∨ (s.out.length ≤ i + 1 ∧ s.tk i = true)) :
    PInv S N n (fun x y => done x y ∨ (x = i ∧ y = k)) (pstep S N i k s) ∧ (∀ p, p ∈ (pstep S N i k s).out → p.1 ≤ i) ∧ ((pstep S N i k s).out.length ≤ i ∨ ((pstep S N i k s).out.length ≤ i + 1 ∧ (pstep S N i k s).tk i = true)) := by
  by_cases hc : s.tk i = true ∨ s.tk k = true ∨ S i k = false
  · rw [pstep_skip hc]
    refine ⟨⟨h.tk, h.ok, h.apart, fun x y hd hs hn => ?_, h.few⟩, hl, hlen⟩
    rcases hd with hd | ⟨rfl, rfl⟩
    · exact h.full x y hd hs hn
    · rcases hc with hc | hc | hc
      · exact Or.inl hc
      · exact Or.inr hc
      · rw [hc] at hs; cases hs
  · by_cases hn : N i k = true
    · rw [pstep_near hc hn]
      have hti : s.tk i = false := by
        cases e : s.tk i
        · rfl
        · exact absurd (Or.inl e) hc
      have htk : s.tk k = false := by
        cases e : s.tk k
        · rfl
        · exact absurd (Or.inr (Or.inl e)) hc
      have hS : S i k = true := by
        cases e : S i k
        · exact absurd (Or.inr (Or.inr e)) hc
        · rfl
      have hlen' : s.out.length ≤ i := by
        rcases hlen with h1 | ⟨_, h2⟩
        · exact h1
        · rw [hti] at h2; cases h2
      have nin : ∀ j, s.tk j = false → ∀ p, p ∈ s.out → p.1 ≠ j ∧ p.2 ≠ j := fun j hj p hp => by
        constructor
        · intro e
          have := (h.tk j).2 ⟨p, hp, Or.inl e⟩
          rw [hj] at this; cases this
        · intro e
          have := (h.tk j).2 ⟨p, hp, Or.inr e⟩
          rw [hj] at this; cases this
      refine ⟨⟨fun j => ?_, fun p hp => ?_, ?_, fun x y hd hs hn' => ?_, ?_⟩, fun p hp => ?_, Or.inr ⟨?_, ?_⟩⟩
      · simp only [tk2, Bool.or_eq_true, decide_eq_true_eq, List.mem_append, List.mem_singleton]
        rw [h.tk j]
        constructor
        · rintro (rfl | rfl | ⟨p, hp, e⟩)
          · exact ⟨_, Or.inr rfl, Or.inr rfl⟩
          · exact ⟨_, Or.inr rfl, Or.inl rfl⟩
          · exact ⟨p, Or.inl hp, e⟩
        · rintro ⟨p, hp | rfl, e⟩
          · exact Or.inr (Or.inr ⟨p, hp, e⟩)
          · rcases e with e | e
            · exact Or.inr (Or.inl e.symm)
            · exact Or.inl e.symm
      · rcases List.mem_append.1 hp with hp | hp
        · exact h.ok p hp
        · rw [List.mem_singleton.1 hp]
          exact ⟨hik, hk, hS, hn⟩
      · rw [List.pairwise_append]
        refine ⟨h.apart, List.pairwise_singleton _ _, fun p hp q hq => ?_⟩
        rw [List.mem_singleton.1 hq]
        exact ⟨(nin i hti p hp).1, (nin k htk p hp).1, (nin i hti p hp).2, (nin k htk p hp).2⟩
      · rcases hd with hd | ⟨rfl, rfl⟩
        · rcases h.full x y hd hs hn' with e | e
          · exact Or.inl (by simp [tk2, e])
          · exact Or.inr (by simp [tk2, e])
        · exact Or.inl (by simp [tk2])
      · rw [List.length_append]
        simp only [List.length_singleton]
        omega
      · rcases List.mem_append.1 hp with hp | hp
        · exact hl p hp
        · rw [List.mem_singleton.1 hp]
          exact Nat.le_refl _
      · rw [List.length_append]
        simp only [List.length_singleton]
        omega
      · simp [tk2]
    · have hn : N i k = false := by simpa using hn
      rw [pstep_far hc hn]
      refine ⟨⟨h.tk, h.ok, h.apart, fun x y hd hs hn' => ?_, h.few⟩, hl, hlen⟩
      rcases hd with hd | ⟨rfl, rfl⟩
      · exact h.full x y hd hs hn'
      · rw [hn] at hn'; cases hn'
theorem PInv.in_ {S N : Nat → Nat → Bool} {n i : Nat} : ∀ (d k : Nat) {done : Nat → Nat → Prop} {s : PSt}, PInv S N n done s → i < k → k + d ≤ n → (∀ p, p ∈ s.out → p.1 ≤ i) → (s.out.length ≤ i ∨ (s.out.length ≤ i + 1 ∧ s.tk i = true)) →
    PInv S N n (fun x y => done x y ∨ (x = i ∧ k ≤ y ∧ y < k + d)) (pinF S N i d k s) ∧ (∀ p, p ∈ (pinF S N i d k s).out → p.1 ≤ i) ∧ (pinF S N i d k s).out.length ≤ i + 1
  | 0, k, done, s, h, _, _, hl, hlen => ⟨⟨h.tk, h.ok, h.apart, fun x y hd => by
      rcases hd with hd | hd
      · exact h.full x y hd
      · omega, h.few⟩, hl, by show s.out.length ≤ i + 1; omega⟩
  | d + 1, k, done, s, h, hik, hkn, hl, hlen => by
    obtain ⟨g1, g2, g3⟩ := h.step hik (by omega) hl hlen
    rw [pinF]
    obtain ⟨f1, f2, f3⟩ := PInv.in_ d (k + 1) g1 (by omega) (by omega) g2 g3
    refine ⟨⟨f1.tk, f1.ok, f1.apart, fun x y hd => f1.full x y ?_, f1.few⟩, f2, f3⟩
    rcases hd with hd | ⟨rfl, a, b⟩
    · exact Or.inl (Or.inl hd)
    · by_cases e : y = k
      · exact Or.inl (Or.inr ⟨rfl, e⟩)
      · exact Or.inr ⟨rfl, by omega, by omega⟩
theorem PInv.out_ {S N : Nat → Nat → Bool} {n : Nat} : ∀ (d i : Nat) {s : PSt}, PInv S N n (fun x y => x < i ∧ x < y ∧ y < n) s → i + d = n → (∀ p, p ∈ s.out → p.1 ≤ i) → s.out.length ≤ i → PInv S N n (fun x y => x < y ∧ y < n) (poutF S N n d i s)
  | 0, i, s, h, hi, _, _ => ⟨h.tk, h.ok, h.apart, fun x y hd => h.full x y ⟨by omega, hd⟩, h.few⟩
  | d + 1, i, s, h, hi, hl, hlen => by
    rw [poutF]
    obtain ⟨f1, f2, f3⟩ := PInv.in_ (n - (i + 1)) (i + 1) h (by omega) (by omega) hl (Or.inl hlen)
    refine PInv.out_ d (i + 1) ⟨f1.tk, f1.ok, f1.apart, fun x y hd => f1.full x y ?_, f1.few⟩ (by omega) (fun p hp => by have := f2 p hp; omega) f3
    by_cases e : x = i
    · exact Or.inr ⟨e, by omega, by omega⟩
    · exact Or.inl ⟨by omega, hd.2⟩
theorem pairF_inv (S N : Nat → Nat → Bool) (n : Nat) : PInv S N n (fun x y => x < y ∧ y < n) (pairF S N n) :=
  PInv.out_ n 0 ⟨fun j => ⟨(fun h => by cases h), fun ⟨p, hp, _⟩ => by cases hp⟩, (fun p hp => by cases hp), List.Pairwise.nil, (fun i k hd => by omega), Nat.zero_le _⟩ (Nat.zero_add n) (fun p hp => by cases hp) (Nat.zero_le _)
/-! ### pairs, marks in memory -/
def prC (p : Nat × Nat) : List Value := [.int .i64 (p.1 : Nat), .int .i64 (p.2 : Nat)]
theorem flatPr_len (l : List (Nat × Nat)) : (l.flatMap prC).length = l.length * 2 := by
  induction l with
  | nil => rfl
  | cons t l ih => rw [List.flatMap_cons, List.length_append, ih]; show 2 + l.length * 2 = (l.length + 1) * 2; omega
def PrOwn (w : World) (base : Nat) (v : Value) (l : List (Nat × Nat)) : Prop := w.ownsRow base 47 2 v l.length (l.flatMap prC)
theorem PrOwn.nil (w : World) (base : Nat) : PrOwn w base (.slice none 0 0) [] := World.ownsRow_nil _ _ _ _
theorem PrOwn.below {w w' : World} {base : Nat} {v : Value} {l : List (Nat × Nat)} (h : PrOwn w base v l) (hb : Below w.heap.size w w') : PrOwn w' base v l := ownsRow_below h hb
theorem PrOwn.lt {w : World} {base : Nat} {v : Value} {l : List (Nat × Nat)} (h : PrOwn w base v l) : ∀ b, v.ownBlock = some b → base ≤ b ∧ b < w.heap.size := fun b e => World.ownsRow.lt h b e
theorem flatPr_get : ∀ (l : List (Nat × Nat)) (i : Nat) (x : Nat × Nat), l[i]? = some x → ∀ j v, (prC x)[j]? = some v → (l.flatMap prC)[i * 2 + j]? = some v
  | [], i, x, h, _, _, _ => by simp at h
  | y :: l, 0, x, h, j, v, hv => by
    injection h with h
    subst h
    rw [List.flatMap_cons, Nat.zero_mul, Nat.zero_add, List.getElem?_append_left (by have := (List.getElem?_eq_some_iff.1 hv).1; exact this)]
    exact hv
  | y :: l, i + 1, x, h, j, v, hv => by
    have ih := flatPr_get l i x (by simpa using h) j v hv
    have : (prC y).length = 2 := rfl
    rw [List.flatMap_cons, List.getElem?_append_right (by omega), this, show (i + 1) * 2 + j - 2 = i * 2 + j by omega]
    exact ih
theorem PrOwn.row {w : World} {base : Nat} {v : Value} {l : List (Nat × Nat)} (h : PrOwn w base v l) : ∃ a c, v = .slice a l.length c ∧ l.length ≤ c ∧ Rw prC 2 w a l := by
  have hh := h
  rcases h.2 with ⟨e, h0⟩ | ⟨g, cap, cur, e, hb, hg, hn, hm, hs, ht⟩
  · exact ⟨none, 0, by rw [e, h0], by omega, ⟨fun hl => by omega⟩⟩
  · refine ⟨_, cap, e, hn, ⟨fun _ => ⟨g, 0, rfl, lt_of_block hg, fun i x hx j v hv => ?_⟩⟩⟩
    have hc := World.ownsRow.cells hh (g := g) (by rw [e]; rfl) (i * 2 + j) _ (flatPr_get l i x hx j v hv)
    rw [addr_plus] at hc
    rw [Nat.zero_add] at hc ⊢
    exact hc
/-- one pair appended -/
theorem append_pr {ops : Array Oper} {rest : List Oper} {o : Oper} {a : Act} {Q : Exit → Act → World → Prop} {w : World} (hgd : o.guard = none) (s x : Operand)
    (ho : o.op = .call { callee := .builtin .append, args := #[s, x], argTypes := #[43, 43] }) {base : Nat} {v : Value} {l : List (Nat × Nat)} (hs : a.eval s = v) (hown : PrOwn w base v l)
    {g : Nat} {p : Nat × Nat} (hx : a.eval x = .slice (some ⟨g, 0, none⟩) 1 1) (h0 : w.cell? ⟨g, 0, none⟩ = some (.int .i64 (p.1 : Nat))) (h1 : w.cell? ⟨g, 1, none⟩ = some (.int .i64 (p.2 : Nat))) (hn : l.length ≤ 1000) (hb : base ≤ w.heap.size)
    (h : ∀ g' c' w', PrOwn w' base (.slice (some ⟨g', 0, none⟩) (l.length + 1) c') (l ++ [p]) → w.grownBy w' v.ownBlock → (v.ownBlock = some g' ∨ g' = w.heap.size) → wpList Try.prog ops Q rest (a.put o.dst (.slice (some ⟨g', 0, none⟩) (l.length + 1) c')) w') : wpList Try.prog ops Q (o :: rest) a w := by
  obtain ⟨i0, hi0, hy0, hy1, hy2⟩ := info_parts (show (Try.prog.info? 47).map (fun i => (i.zero, i.size, i.bytes)) = some (some (.agg #[.int .i64 0, .int .i64 0]), 2, 16) by kernel_rfl)
  refine wpList_append_lies w hgd s x 43 ho base 47 i0 (.agg #[.int .i64 0, .int .i64 0]) 2 16 Try.underlying43 hi0 hy0 hy1 hy2 rfl (by decide) v l.length (l.flatMap prC) hs hown ⟨g, 0, none⟩ 1 1 (prC p) hx rfl (fun j u hu => ?_) (fun u hu => ?_) (by decide) (by unfold maxLen; omega) (by omega) hb _ rfl ?_
  · rw [addr_plus, Nat.zero_add]
    match j, hu with
    | 0, hu => exact h0.trans hu
    | 1, hu => exact h1.trans hu
    | n + 2, hu => cases hu
  · simp only [prC, List.mem_cons, List.not_mem_nil, or_false] at hu
    rcases hu with rfl | rfl <;> rfl
  · intro g' c' w' k1 k2 k3 _
    refine h g' c' w' ?_ k2 k3
    unfold PrOwn
    rw [List.length_append, List.flatMap_append, show ([p].flatMap prC) = prC p from List.append_nil _]
    exact k1
/-- a block of marks -/
structure BRow (w : World) (q n : Nat) (tk : Nat → Bool) : Prop where
  ex : ∃ cs : Array Value, w.heap[q]? = some (.cells cs 4 (0, 0)) ∧ cs.size = n ∧ ∀ j, j < n → cs[j]? = some (.bool (tk j))
theorem BRow.lt {w : World} {q n : Nat} {tk : Nat → Bool} (h : BRow w q n tk) : q < w.heap.size := by
  obtain ⟨cs, h1, _⟩ := h.ex
  exact lt_of_block h1
theorem BRow.kept {O : Nat → Prop} {w w' : World} {q n : Nat} {tk : Nat → Bool} (h : BRow w q n tk) (hk : Kept O w w') (ho : ¬ O q) : BRow w' q n tk := by
  obtain ⟨cs, h1, h2, h3⟩ := h.ex
  exact ⟨cs, (hk.block q (lt_of_block h1) ho).trans h1, h2, h3⟩
theorem BRow.below {w w' : World} {q n : Nat} {tk : Nat → Bool} (h : BRow w q n tk) (hb : Below w.heap.size w w') : BRow w' q n tk := h.kept (O := fun _ => False) (Kept.of_below hb) (fun e => e)
theorem BRow.cell {w : World} {q n : Nat} {tk : Nat → Bool} (h : BRow w q n tk) {j : Nat} (hj : j < n) : w.cell? ⟨q, j, none⟩ = some (.bool (tk j)) := by
  obtain ⟨cs, h1, h2, h3⟩ := h.ex
  simp [World.cell?, h1, h3 j hj]
theorem BRow.free {w : World} {q n : Nat} {tk : Nat → Bool} (h : BRow w q n tk) (i : Nat) : w.frozen? ⟨q, i, none⟩ = false := by
  obtain ⟨cs, h1, _⟩ := h.ex
  simp [World.frozen?, h1]
theorem BRow.put {w : World} {q n i : Nat} {tk : Nat → Bool} (h : BRow w q n tk) (hi : i < n) (x : Bool) : BRow (w.setCell ⟨q, i, none⟩ (.bool x)) q n (fun j => if j = i then x else tk j) := by
  obtain ⟨cs, h1, h2, h3⟩ := h.ex
  refine ⟨_, set_cells h1, by simp [h2], fun j hj => ?_⟩
  by_cases e : j = i
  · subst e
    simp [h2, hj]
  · rw [Array.getElem?_setIfInBounds_ne (fun x => e x.symm), if_neg e]
    exact h3 j hj
theorem BRow.two {w : World} {q n i k : Nat} {tk : Nat → Bool} (h : BRow w q n tk) (hi : i < n) (hk : k < n) : ∃ W, (w.setCell ⟨q, i, none⟩ (.bool true)).setCell ⟨q, k, none⟩ (.bool true) = W ∧ BRow W q n (tk2 tk i k) ∧ Kept (fun b => b = q) w W := by
  refine ⟨_, rfl, ?_, Kept.trans (O := fun b => b = q) (keep_set rfl) (keep_set rfl)⟩
  have h2 := (h.put hi true).put hk true
  have e : (fun j => if j = k then true else if j = i then true else tk j) = tk2 tk i k := by
    funext j
    unfold tk2
    by_cases e1 : j = k
    · simp [e1]
    · by_cases e2 : j = i
      · simp [e2]
      · simp [e1, e2]
  rwa [e] at h2
theorem made_one (z : Value) (n : Nat) : madeCells #[z] n = Array.replicate n z := by
  apply Array.ext'
  rw [toList_madeCells_one]
  simp
theorem make_bools (n : Nat) (hn : n ≤ 30) (w : World) : (Instr.makeSlice 61 (.int .i64 n) (.int .i64 n)).run Try.prog w = .ok (.slice (some ⟨w.heap.size, 0, none⟩) n n) (w.alloc (.cells (Array.replicate n (.bool false)) 4)) := by
  obtain ⟨i0, hi0, hz0, hz1, hz2⟩ := info_parts (show (Try.prog.info? 4).map (fun i => (i.zero, i.size, i.bytes)) = some (some (.bool false), 1, 1) by kernel_rfl)
  have h := run_make w 61 4 i0 (.bool false) (by kernel_rfl) hi0 hz0 .i64 .i64 n n (by omega) (by omega) (by rw [hz2]; omega) (by omega)
  rw [h, hz1, Int.toNat_natCast, Nat.mul_one]
  rw [show (Value.bool false).cells = #[.bool false] from rfl, made_one]
theorem brow_new (w : World) (n : Nat) : BRow (w.alloc (.cells (Array.replicate n (.bool false)) 4)) w.heap.size n (fun _ => false) :=
  ⟨_, heap_alloc_new w _, by simp, fun j hj => by simp [hj]⟩
end Go.Proofs.Ytckjdpnmalkpnaa

/- Pairs of recordings: what the walk keeps. -/
namespace Go.Proofs.Ytckjdpnmalkpnaa
open Go.RowKit Go.BigFrame
open Tr (inR)
open Ft (Mt)

theorem errP_at {L : List Ab} {k : Nat} {x : Ab} (h : L[k]? = some x) : errP L k = if chkA x.A ≠ 0 then chkA x.A else if 400 < x.A.sm.length then 3 else 0 := by
  unfold errP
  rw [h]
theorem errP_ok {L : List Ab} {k : Nat} {x : Ab} (h : L[k]? = some x) (h0 : errP L k = 0) : chkA x.A = 0 ∧ x.A.sm.length ≤ 400 := by
  rw [errP_at h] at h0
  split at h0
  · rename_i hc
    exact absurd h0 hc
  · rename_i hc
    split at h0
    · cases h0
    · exact ⟨by simpa using hc, by omega⟩
theorem errP_fit {L : List Ab} {k : Nat} {x : Ab} (h : L[k]? = some x) (h0 : ∀ i, i < L.length → errP L i = 0) : FitOk x.A := by
  obtain ⟨h1, h2⟩ := errP_ok h (h0 k (List.getElem?_eq_some_iff.1 h).1)
  exact fitOk_of h1 h2
def pairO (L : List Ab) (most least apart : Int) : List (Nat × Nat) := if pairE L most least apart = 0 then (pairF (oneS L) (nearP L most least apart) L.length).out else []
def PairRet (L : List Ab) (most least apart : Int) (w : World) (e : Ending) (w' : World) : Prop :=
  ∃ v, e = .returned (.tuple #[v, .int .i64 (pairE L most least apart)]) ∧ PrOwn w' w.heap.size v (pairO L most least apart) ∧ Below w.heap.size w w'
theorem PairRet.bad {L : List Ab} {most least apart er : Int} {w w' : World} (he : pairE L most least apart = er) (h0 : er ≠ 0) (hb : Below w.heap.size w w') : PairRet L most least apart w (.returned (.tuple #[.slice none 0 0, .int .i64 er])) w' := by
  refine ⟨_, by rw [he], ?_, hb⟩
  unfold pairO
  rw [if_neg (by rw [he]; exact h0)]
  exact PrOwn.nil _ _
theorem pairE_many {L : List Ab} {most least apart : Int} (h : 30 < L.length) : pairE L most least apart = 3 := if_pos h
theorem pairE_chk {L : List Ab} {most least apart : Int} (h : ¬ 30 < L.length) (h1 : chkP L ≠ 0) : pairE L most least apart = chkP L := (if_neg h).trans (if_pos h1)
theorem pairE_bnd {L : List Ab} {most least apart : Int} (h : ¬ 30 < L.length) (h1 : chkP L = 0) : pairE L most least apart = bndP most least apart := (if_neg h).trans (if_neg (fun e => e h1))
theorem oneS_at {L : List Ab} {i k : Nat} {x y : Ab} (hx : L[i]? = some x) (hy : L[k]? = some y) : oneS L i k = decide (x.A.sport = y.A.sport) := by
  unfold oneS
  rw [hx, hy]
theorem nearP_at {L : List Ab} {most least apart : Int} {i k : Nat} {x y : Ab} (hx : L[i]? = some x) (hy : L[k]? = some y) : nearP L most least apart i k = nearM apart (Ft.fitM (shiftedF x.A y.A) most least) := by
  unfold nearP
  rw [hx, hy]
theorem fit_ok {A B : Acv} (hB : FitOk B) {most least : Int} (h0 : 0 ≤ most) (h1 : most ≤ 3600) (hl : 1 ≤ least) {m : Mt} (h : Ft.fitM (shiftedF A B) most least = some m) : MtOk m := by
  obtain ⟨⟨s, s1, s2, e⟩, _⟩ := (Ft.fitM_best hl h0).some_ m h
  rw [e]
  exact (shiftedF_at A B s).ok hB.n (by omega) (by omega)
/-- how near, within one word -/
theorem near_mul {m : Mt} (h : MtOk m) {apart : Int} (h0 : 0 ≤ apart) (h1 : apart ≤ 10000) : (0 ≤ m.many * apart ∧ m.many * apart ≤ 4000000) ∧ 0 ≤ m.many * apart * apart ∧ m.many * apart * apart ≤ 40000000000 := by
  have a0 := Int.mul_nonneg h.m1 h0
  have a1 : m.many * apart ≤ 400 * 10000 := Int.mul_le_mul h.m2 h1 h0 (by decide)
  have b0 := Int.mul_nonneg a0 h0
  have b1 : m.many * apart * apart ≤ 4000000 * 10000 := Int.mul_le_mul (by omega) h1 h0 (by decide)
  exact ⟨⟨a0, by omega⟩, b0, by omega⟩
theorem wrap_in {x : Int} (h0 : -9223372036854775808 ≤ x) (h1 : x ≤ 9223372036854775807) : IntKind.i64.wrap x = x := by rw [IntKind.wrap_i64]; omega
theorem PrOwn.down {w : World} {base base' : Nat} {v : Value} {l : List (Nat × Nat)} (h : PrOwn w base v l) (hb : base' ≤ base) : PrOwn w base' v l := ⟨h.1, h.2.imp (fun e => e) (fun ⟨g, cap, cur, e, hb', r⟩ => ⟨g, cap, cur, e, Nat.le_trans hb hb', r⟩)⟩
/-- marks and pairs, in a round -/
structure PRel (w : World) (q n : Nat) (v : Value) (s : PSt) (wr : World) : Prop where
  b : Below w.heap.size w wr
  m : BRow wr q n s.tk
  o : PrOwn wr (q + 1) v s.out
  wq : w.heap.size ≤ q
theorem PRel.below {w wr w' : World} {q n : Nat} {v : Value} {s : PSt} (h : PRel w q n v s wr) (hb : Below wr.heap.size wr w') : PRel w q n v s w' := ⟨below_step h.b hb, h.m.below hb, h.o.below hb, h.wq⟩
theorem PrOwn.keep {w w' : World} {q : Nat} {v : Value} {l : List (Nat × Nat)} (h : PrOwn w (q + 1) v l) (hk : Kept (fun b => b = q) w w') : PrOwn w' (q + 1) v l := by
  refine World.ownsRow.kept (row := some q) h ⟨hk.os, hk.tape, hk.output, hk.size, fun k hk1 hk2 => hk.block k hk1 (fun e => hk2 (by rw [e]))⟩ ?_
  cases e : v.ownBlock with
  | none => exact Or.inl rfl
  | some b =>
    refine Or.inr (fun e2 => ?_)
    injection e2 with e2
    have := (h.lt b e).1
    omega
theorem PRel.two {w wr : World} {q n i k : Nat} {v : Value} {s : PSt} (h : PRel w q n v s wr) (hi : i < n) (hk : k < n) : ∃ W, (wr.setCell ⟨q, i, none⟩ (.bool true)).setCell ⟨q, k, none⟩ (.bool true) = W ∧ PRel w q n v ⟨tk2 s.tk i k, s.out⟩ W ∧ Kept (fun b => b = q) wr W := by
  obtain ⟨W, h1, h2, h3⟩ := h.m.two hi hk
  exact ⟨W, h1, ⟨Kept.below h.b h3 h.b.size (fun k hk e => by have := h.wq; omega), h2, h.o.keep h3, h.wq⟩, h3⟩
theorem PRel.grow {w wr w' : World} {q n : Nat} {v v' : Value} {s : PSt} {out : List (Nat × Nat)} (h : PRel w q n v s wr) (ho : PrOwn w' (q + 1) v' out) (hg : wr.grownBy w' v.ownBlock) : PRel w q n v' ⟨s.tk, out⟩ w' := by
  have hlt := h.o.lt
  refine ⟨Kept.below (O := fun b => q + 1 ≤ b) h.b (Kept.of_grown hg (fun g e _ => (hlt g e).1)) h.b.size (fun k hk e => by have := h.wq; omega), ?_, ho, h.wq⟩
  exact h.m.kept (O := fun b => q + 1 ≤ b) (Kept.of_grown hg (fun g e _ => (hlt g e).1)) (by omega)
/-- a copy in a block of its own -/
structure PCopy (P q : Nat) (v : Value) (pv : Array Value) (wr : World) : Prop where
  p : wr.heap[P]? = some (.cells pv 35 (0, 0))
  ne : ∀ b, v.ownBlock = some b → b ≠ P
  qp : q < P
theorem PCopy.lt {P q : Nat} {v : Value} {pv : Array Value} {wr : World} (h : PCopy P q v pv wr) : P < wr.heap.size := lt_of_block h.p
theorem PCopy.below {P q : Nat} {v : Value} {pv : Array Value} {wr w' : World} (h : PCopy P q v pv wr) (hb : Below wr.heap.size wr w') : PCopy P q v pv w' := ⟨(hb.block P h.lt).trans h.p, h.ne, h.qp⟩
theorem PCopy.kept {P q : Nat} {v : Value} {pv : Array Value} {wr w' : World} (h : PCopy P q v pv wr) (hk : Kept (fun b => b = q) wr w') : PCopy P q v pv w' := ⟨(hk.block P h.lt (fun e => by have := h.qp; omega)).trans h.p, h.ne, h.qp⟩
theorem PCopy.grow {P q g n c : Nat} {v : Value} {pv : Array Value} {wr w' : World} (h : PCopy P q v pv wr) (hg : wr.grownBy w' v.ownBlock) (ho : v.ownBlock = some g ∨ g = wr.heap.size) : PCopy P q (.slice (some ⟨g, 0, none⟩) n c) pv w' := by
  refine ⟨(hg.block P h.lt (fun e => h.ne P e.symm rfl)).trans h.p, fun b e => ?_, h.qp⟩
  have e2 : g = b := by simpa [Value.ownBlock] using e
  subst e2
  rcases ho with e | e
  · exact h.ne g e
  · have := h.lt
    omega
theorem PCopy.cell {P q : Nat} {v : Value} {pv : Array Value} {wr : World} (h : PCopy P q v pv wr) {j : Nat} {x : Value} (hx : pv[j]? = some x) : wr.cell? ⟨P, j, none⟩ = some x := by
  have := h.p
  simp [World.cell?, this, hx]
/-- the copy is made -/
theorem PCopy.new {w wr : World} {q n : Nat} {v : Value} {s : PSt} (h : PRel w q n v s wr) (pv : Array Value) : ∃ V, wr.alloc (.cells pv 35) = V ∧ PRel w q n v s V ∧ PCopy wr.heap.size q v pv V :=
  ⟨_, rfl, h.below (below_al _ _), ⟨heap_alloc_new wr _, fun b e => by have := (h.o.lt b e).2; omega, by have := h.m.lt; omega⟩⟩
/-- the marks are made -/
theorem PRel.new {w wr : World} {n : Nat} (h : Below w.heap.size w wr) : ∃ V, wr.alloc (.cells (Array.replicate n (.bool false)) 4) = V ∧ PRel w wr.heap.size n (.slice none 0 0) ⟨fun _ => false, []⟩ V :=
  ⟨_, rfl, ⟨below_step h (below_al _ _), brow_new wr n, PrOwn.nil _ _, h.size⟩⟩
theorem PairRet.good {L : List Ab} {most least apart : Int} {w w' : World} {q n : Nat} {v : Value} {s : PSt} (he : pairE L most least apart = 0) (hr : PRel w q n v s w') (hs : pairF (oneS L) (nearP L most least apart) L.length = s) : PairRet L most least apart w (.returned (.tuple #[v, .int .i64 0])) w' := by
  refine ⟨v, by rw [he], ?_, hr.b⟩
  unfold pairO
  rw [if_pos he, hs]
  exact hr.o.down (by have := hr.wq; omega)
theorem errP_next {L : List Ab} {k : Nat} (h : ∀ i, i < k → errP L i = 0) (h0 : errP L k = 0) : ∀ i, i < k + 1 → errP L i = 0 := fun i hi => by
  by_cases e : i = k
  · rw [e]; exact h0
  · exact h i (by omega)
/-- a block for a match, and what is stored there -/
theorem mt_new {W : World} (Z : Ext W) : ∃ (Z' : Ext W) (T : Nat), Z.1.heap.size = T ∧ W.heap.size ≤ T ∧ Z.1.alloc (.cells #[.int .i64 0, .int .i64 0, .int .i64 0] 37) = Z'.1 ∧ MtB Z'.1 T mt0 ∧ Below Z.1.heap.size Z.1 Z'.1 := by
  obtain ⟨V, h1, h2, _, h4⟩ := alloc_mt Z.1 mt0
  exact ⟨⟨V, below_step Z.2 h2⟩, _, rfl, Z.2.size, h1, h4, h2⟩
theorem mt_put {W : World} (Z : Ext W) {T : Nat} {m : Mt} (h : MtB Z.1 T m) (hT : W.heap.size ≤ T) (u : Mt) : ∃ Z' : Ext W, ((Z.1.setCell ⟨T, 0, none⟩ (.int .i64 u.shift)).setCell ⟨T, 1, none⟩ (.int .i64 u.many)).setCell ⟨T, 2, none⟩ (.int .i64 u.sum) = Z'.1 ∧ MtB Z'.1 T u := by
  obtain ⟨V, h1, h2, h3⟩ := h.store u
  exact ⟨⟨V, Kept.below Z.2 (h3 (fun b => b = T) rfl) Z.2.size (fun k hk e => by omega)⟩, h1, h2⟩
end Go.Proofs.Ytckjdpnmalkpnaa

/- Pair, of the program. (printed by wip/t/gen_tgc.py) -/
namespace Go.Proofs.Ytckjdpnmalkpnaa
open Go.RowKit Go.BigFrame
open Tr (inR)
open Ft (Mt)

set_option maxHeartbeats 16000000 in
set_option maxRecDepth 100000 in
theorem pair_any (L : List Ab) (la : Option Addr) (lc : Nat) (most least apart : Int) (w : World) (hL : LIn w la L) :
    Calls Try.prog 14 #[.slice la L.length lc, .int .i64 most, .int .i64 least, .int .i64 apart] w fun e w' => PairRet L most least apart w e w' := by
  have HI := mtSize
  have HL := Lib.hid hL
  have HBAD := Lib.hid (fun (er : Int) (w' : World) (he : pairE L most least apart = er) (h0 : er ≠ 0) (hb : Below w.heap.size w w') => PairRet.bad he h0 hb)
  have HGOOD := Lib.hid (fun (w' : World) (q m : Nat) (v : Value) (s : PSt) (he : pairE L most least apart = 0) (hr : PRel w q m v s w') (hs : pairF (oneS L) (nearP L most least apart) L.length = s) => PairRet.good he hr hs)
  have H3 := Lib.hid (fun h => pairE_many (L := L) (most := most) (least := least) (apart := apart) h)
  have HC := Lib.hid (fun h h1 => pairE_chk (L := L) (most := most) (least := least) (apart := apart) h h1)
  have HB := Lib.hid (fun h h1 => pairE_bnd (L := L) (most := most) (least := least) (apart := apart) h h1)
  have HFIT := Lib.hid (fun (i : Nat) (x : Ab) (h : L[i]? = some x) (h0 : ∀ i, i < L.length → errP L i = 0) => errP_fit h h0)
  have HLT := Lib.hid (fun (i : Nat) (h : i < L.length) => show ∃ x, L[i]? = some x from ⟨_, List.getElem?_eq_getElem h⟩)
  have HST : Hid (chkP L = firstE (errP L) (L.length - 0) 0) := Lib.hid rfl
  obtain ⟨n, hn⟩ : ∃ n, L.length = n := ⟨_, rfl⟩
  rw [hn] at HGOOD H3 HC HB HFIT HLT HST ⊢
  obtain ⟨E, hE⟩ : ∃ E, pairF (oneS L) (nearP L most least apart) n = E := ⟨_, rfl⟩
  have HES : Hid (E = poutF (oneS L) (nearP L most least apart) n (n - 0) 0 ⟨fun _ => false, []⟩) := Lib.hid hE.symm
  rw [hE] at HGOOD
  clear hn hE hL
  by_cases h30 : 30 < n
  case pos =>
    have q3 : decide ((30 : Int) < (n : Int)) = true := by rw [decide_eq_true_eq]; omega
    have q3' : decide (30 < n) = true := by rw [decide_eq_true_eq]; omega
    have HF := Lib.hid (H3.out h30)
    clear h30
    go_enter Try.func14, Try.ntmps14
    go_wp2_with fail
    exact bodyPost_ret (v := .tuple #[.slice none 0 0, .int .i64 3]) (by simp [results, Try.results14, go_sem]) rfl (HBAD.out 3 _ HF.out (by decide) (Below.refl _ _))
  have q3 : decide ((30 : Int) < (n : Int)) = false := by rw [decide_eq_false_iff_not]; omega
  have q3' : decide (30 < n) = false := by rw [decide_eq_false_iff_not]; omega
  have hn30 : n ≤ 30 := by omega
  have HC := Lib.hid (HC.out h30)
  have HB := Lib.hid (HB.out h30)
  clear H3 h30
  go_enter Try.func14, Try.ntmps14
  go_wp2_with fail
  clear q3 q3'
  go_loopw [26] (fun iv wr => ∃ (k : Nat), iv = .int .i64 k ∧ k ≤ n ∧ Hid ((chkP L = firstE (errP L) (n - k) k) ∧ ∀ i, i < k → errP L i = 0) ∧ ∃ X : Ext w, wr = X.1) (fun iv _ => n - (intOf iv).toNat)
  case atStart => exact ⟨0, rfl, by omega, Lib.hid ⟨HST.out, fun i hi => by omega⟩, ⟨w, Below.refl _ _⟩, rfl⟩
  case round =>
    clear HST
    obtain ⟨k, rfl, hk, HE, X, rfl⟩ := hrel
    by_cases hlt : k < n
    · have t2 : decide ((k : Int) < (n : Int)) = true := by rw [decide_eq_true_eq]; omega
      have t2' : decide (k < n) = true := by simpa using hlt
      obtain ⟨x, hx⟩ := HLT.out k hlt
      have HX := Lib.hid (HL.out.below X.2)
      obtain ⟨ba, oa, rfl, hba, hc⟩ := HX.out.row.at hx
      have c0 : X.1.cell? ⟨ba, oa + k * 6, none⟩ = some (.string x.A.name) := hc 0 _ rfl
      have c1 : X.1.cell? ⟨ba, oa + k * 6 + 1, none⟩ = some (.int .i64 x.A.sport) := hc 1 _ rfl
      have c2 : X.1.cell? ⟨ba, oa + k * 6 + 2, none⟩ = some (.int .i64 x.A.start) := hc 2 _ rfl
      have c3 : X.1.cell? ⟨ba, oa + k * 6 + 3, none⟩ = some (.slice x.a x.A.sm.length x.ca) := hc 3 _ rfl
      have c4 : X.1.cell? ⟨ba, oa + k * 6 + 4, none⟩ = some (.slice x.b x.A.lp.length x.cb) := hc 4 _ rfl
      have c5 : X.1.cell? ⟨ba, oa + k * 6 + 5, none⟩ = some (.slice x.c x.A.tg.length x.cc) := hc 5 _ rfl
      have HXI := Lib.hid (HX.out.each x (List.mem_of_getElem? hx))
      have DX := fun (W : World) (hb : Below X.1.heap.size X.1 W) => check_any x.A x.a x.b x.c x.ca x.cb x.cc W (HXI.out.below hb)
      have HP := Lib.hid (errP_at hx)
      have HG := Lib.hid (firstE_go hlt HE.out.1)
      have HPR := Lib.hid (fun h0 => errP_next HE.out.2 h0)
      unfold ChkG at DX
      unfold actV at DX
      obtain ⟨e1, he1⟩ : ∃ z, chkA x.A = z := ⟨_, rfl⟩
      obtain ⟨ns, hns⟩ : ∃ z, x.A.sm.length = z := ⟨_, rfl⟩
      have hnsm := HXI.out.nsm
      rw [he1, hns] at HP
      simp only [he1, hns] at DX
      rw [hns] at c3 hnsm
      clear HE hx hc HX HXI he1 hns
      generalize x.A.lp.length = m2 at *
      generalize x.A.tg.length = m3 at *
      generalize x.A.name = xn at *
      generalize x.A.sport = xsp at *
      generalize x.A.start = xst at *
      generalize x.a = xa at *
      generalize x.b = xb at *
      generalize x.c = xc at *
      generalize x.ca = xca at *
      generalize x.cb = xcb at *
      generalize x.cc = xcc at *
      obtain ⟨V0, hV0, hb0, hs0, hl0⟩ := alloc_cells X.1 #[.string xn, .int .i64 xsp, .int .i64 xst, .slice xa ns xca, .slice xb m2 xcb, .slice xc m3 xcc] 35
      have A0 := Ext.ex (hl0 0 _ rfl)
      have A1 := Ext.ex (hl0 1 _ rfl)
      have A2 := Ext.ex (hl0 2 _ rfl)
      have A3 := Ext.ex (hl0 3 _ rfl)
      have A4 := Ext.ex (hl0 4 _ rfl)
      have A5 := Ext.ex (hl0 5 _ rfl)
      have DX := Lib.hid (fun (Y : Ext V0) => Y.calls (DX Y.1 (below_step hb0 Y.2)))
      have HDN := Lib.hid (fun (Z : Ext V0) => show Below w.heap.size w Z.1 from below_step (below_step X.2 hb0) Z.2)
      obtain ⟨T0, hT0⟩ : ∃ T, X.1.heap.size = T := ⟨_, rfl⟩
      rw [hT0] at A0 A1 A2 A3 A4 A5
      have HT0 := Lib.hid hT0
      have HV0 := Lib.hid hV0
      clear hV0 hb0 hs0 hl0 hT0
      by_cases h1 : e1 = 0
      case neg =>
        have b1 := bneT h1
        have HF := Lib.hid (HC.out (by rw [HG.out.1 (by rw [HP.out, if_pos h1]; exact h1), HP.out, if_pos h1]; exact h1))
        have HF := Lib.hid (HF.out.trans ((HG.out.1 (by rw [HP.out, if_pos h1]; exact h1)).trans (HP.out.trans (if_pos h1))))
        have H0 := Lib.hid h1
        clear h1 HG HP HPR
        go_upto_region 6 with (fail)
        rw [HV0.out, HT0.out]
        refine ext_wp fun Y => ?_
        go_wp2_with fail
        refine (DX.out Y).mono ?_
        rintro e w1 ⟨rfl, Z, rfl⟩
        go_wp2_with fail
        exact bodyPost_ret (v := .tuple #[.slice none 0 0, .int .i64 e1]) (by simp [results, Try.results14, go_sem]) rfl (HBAD.out e1 _ HF.out H0.out (HDN.out Z))
      have b1 := bneF h1
      have HP := Lib.hid (HP.out.trans (if_neg (fun h => h h1)))
      by_cases g1 : 400 < ns
      case pos =>
        have q1 : decide ((400 : Int) < (ns : Int)) = true := by rw [decide_eq_true_eq]; omega
        have q1' : decide (400 < ns) = true := by rw [decide_eq_true_eq]; omega
        have HK := Lib.hid ((HG.out.1 (by rw [HP.out, if_pos g1]; decide)).trans (HP.out.trans (if_pos g1)))
        have HF := Lib.hid ((HC.out (by rw [HK.out]; decide)).trans HK.out)
        clear h1 g1 HG HP HPR
        go_upto_region 6 with (fail)
        rw [HV0.out, HT0.out]
        refine ext_wp fun Y => ?_
        go_wp2_with fail
        refine (DX.out Y).mono ?_
        rintro e w1 ⟨rfl, Z, rfl⟩
        go_wp2_with fail
        exact bodyPost_ret (v := .tuple #[.slice none 0 0, .int .i64 3]) (by simp [results, Try.results14, go_sem]) rfl (HBAD.out 3 _ HF.out (by decide) (HDN.out Z))
      have q1 : decide ((400 : Int) < (ns : Int)) = false := by rw [decide_eq_false_iff_not]; omega
      have q1' : decide (400 < ns) = false := by rw [decide_eq_false_iff_not]; omega
      have HP := Lib.hid (HP.out.trans (if_neg g1))
      have HF := Lib.hid (And.intro (HG.out.2 HP.out) (HPR.out HP.out))
      clear h1 g1 HG HP HPR
      go_upto_region 6 with (fail)
      rw [HV0.out, HT0.out]
      refine ext_wp fun Y => ?_
      go_wp2_with fail
      refine (DX.out Y).mono ?_
      rintro e w1 ⟨rfl, Z, rfl⟩
      go_wp2_with fail
      go_roundw
      case rel => exact ⟨k + 1, by go_num, by omega, HF, ⟨Z.1, HDN.out Z⟩, rfl⟩
      case measure => simp [intOf]; omega
    · have t2 : decide ((k : Int) < (n : Int)) = false := by rw [decide_eq_false_iff_not]; omega
      have t2' : decide (k < n) = false := by simpa using hlt
      have HB := Lib.hid (HB.out (firstE_end (by omega) HE.out.1))
      have HALL := Lib.hid (fun i (hi : i < n) => HE.out.2 i (by omega))
      clear HE hlt hk HC
      have D1 := Lib.hid (fun W => checkFit_any most least W)
      have D2 := Lib.hid (fun W => tranged_any apart 0 10000 W)
      have HV := Lib.hid (show bndP most least apart = orL [bndE most least, rngE apart 0 10000] by
        rw [orL_two]
        unfold bndP rngE
        rfl)
      have HZ := Lib.hid (show orL [bndE most least, rngE apart 0 10000] = 0 → bndE most least = 0 ∧ (0 ≤ apart ∧ apart ≤ 10000) from fun h => by
        rw [orL_two] at h
        obtain ⟨h1, h2⟩ := zero_two h
        refine ⟨h1, ?_⟩
        unfold rngE at h2
        split at h2
        · rename_i hh
          exact inR_iff.1 hh
        · cases h2)
      obtain ⟨er, her⟩ : ∃ er, orL [bndE most least, rngE apart 0 10000] = er := ⟨_, rfl⟩
      have HER := Lib.hid her
      rw [her] at HZ HV
      clear her
      generalize rngE apart 0 10000 = r2 at *
      have HBZ := Lib.hid (fun h : bndE most least = 0 => bndE_zero h)
      generalize bndE most least = r1 at *
      by_cases h0 : er = 0
      case neg =>
        have b0 := bneT h0
        have HF := Lib.hid (HB.out.trans HV.out)
        have H0 := Lib.hid h0
        clear h0 HB HV HZ
        go_wp2_with fail
        refine (D1.out _).mono ?_
        rintro e w1 ⟨rfl, hb⟩
        obtain ⟨X1, rfl⟩ : ∃ Z : Ext w, w1 = Z.1 := ⟨⟨w1, below_step X.2 hb⟩, rfl⟩
        clear hb
        go_wp2_with fail
        refine (D2.out _).mono ?_
        rintro e w1 ⟨rfl, rfl⟩
        go_wp2_with fail
        refine (orE_any [r1, r2] _ _ _ (by simp) ?_).mono ?_
        · intro i v h
          rw [World.cell?_alloc_at _ _ _ _ rfl]
          match i, h with
          | 0, h => injection h with h; subst h; rfl
          | 1, h => injection h with h; subst h; rfl
          | n + 2, h => simp at h
        rintro e w1 ⟨rfl, rfl⟩
        rw [HER.out]
        obtain ⟨X2, hX2⟩ : ∃ Z : Ext w, X1.1.alloc _ = Z.1 := ⟨⟨_, below_step X1.2 (below_al _ _)⟩, rfl⟩
        rw [hX2]
        clear hX2
        go_wp2_with fail
        exact bodyPost_ret (v := .tuple #[.slice none 0 0, .int .i64 er]) (by simp [results, Try.results14, go_sem]) rfl (HBAD.out er _ HF.out H0.out X2.2)
      subst h0
      have HF := Lib.hid (HB.out.trans HV.out)
      obtain ⟨rfl, ha0, ha1⟩ := HZ.out rfl
      obtain ⟨⟨hm0, hm1⟩, hl0, hl1⟩ := HBZ.out rfl
      clear HZ HBZ HB HV
      go_wp2_with fail
      refine (D1.out _).mono ?_
      rintro e w1 ⟨rfl, hb⟩
      obtain ⟨X1, rfl⟩ : ∃ Z : Ext w, w1 = Z.1 := ⟨⟨w1, below_step X.2 hb⟩, rfl⟩
      clear hb
      go_wp2_with fail
      refine (D2.out _).mono ?_
      rintro e w1 ⟨rfl, rfl⟩
      go_wp2_with fail
      refine (orE_any [0, r2] _ _ _ (by simp) ?_).mono ?_
      · intro i v h
        rw [World.cell?_alloc_at _ _ _ _ rfl]
        match i, h with
        | 0, h => injection h with h; subst h; rfl
        | 1, h => injection h with h; subst h; rfl
        | n + 2, h => simp at h
      rintro e w1 ⟨rfl, rfl⟩
      rw [HER.out]
      obtain ⟨X2, hX2⟩ : ∃ Z : Ext w, X1.1.alloc _ = Z.1 := ⟨⟨_, below_step X1.2 (below_al _ _)⟩, rfl⟩
      rw [hX2]
      clear hX2
      have hms := make_bools n hn30
      obtain ⟨V1, hV1, hR1⟩ := PRel.new (n := n) X2.2
      obtain ⟨q, hq⟩ : ∃ q, X2.1.heap.size = q := ⟨_, rfl⟩
      rw [hq] at hR1
      have HV1 := Lib.hid hV1
      have HQ := Lib.hid hq
      have HR1 := Lib.hid hR1
      clear hV1 hq hR1
      go_upto_region 17 with (fail)
      rw [HV1.out, HQ.out]
      clear hms HV1 HQ
      go_wp2_with fail
      go_loopw [14, 55] (fun ov iv wr => ∃ (i : Nat) (s : PSt), iv = .int .i64 i ∧ i ≤ n ∧ s.out.length ≤ i * 30 ∧ Hid (E = poutF (oneS L) (nearP L most least apart) n (n - i) i s) ∧ Hid (PRel w q n ov s wr)) (fun _ iv _ => n - (intOf iv).toNat)
      case atStart => exact ⟨0, ⟨fun _ => false, []⟩, rfl, by omega, by simp, HES, HR1⟩
      case round =>
        clear HR1 HES
        obtain ⟨i, s, rfl, hi, hsl, HE, HR⟩ := hrel
        obtain ⟨X, rfl⟩ : ∃ Z : Ext w, wr = Z.1 := ⟨⟨_, HR.out.b⟩, rfl⟩
        by_cases hlt : i < n
        · have t3 : decide ((i : Int) < (n : Int)) = true := by rw [decide_eq_true_eq]; omega
          have t3' : decide (i < n) = true := by simpa using hlt
          obtain ⟨x, hx⟩ := HLT.out i hlt
          have HX := Lib.hid (HL.out.below X.2)
          obtain ⟨ba, oa, rfl, hba, hc⟩ := HX.out.row.at hx
          have HXI := Lib.hid (HX.out.each x (List.mem_of_getElem? hx))
          have HE2 := Lib.hid (poutF_go hlt HE.out)
          have HHX := Lib.hid hx
          clear HE
          have c0 : X.1.cell? ⟨ba, oa + i * 6, none⟩ = some (.string x.A.name) := hc 0 _ rfl
          have c1 : X.1.cell? ⟨ba, oa + i * 6 + 1, none⟩ = some (.int .i64 x.A.sport) := hc 1 _ rfl
          have c2 : X.1.cell? ⟨ba, oa + i * 6 + 2, none⟩ = some (.int .i64 x.A.start) := hc 2 _ rfl
          have c3 : X.1.cell? ⟨ba, oa + i * 6 + 3, none⟩ = some (.slice x.a x.A.sm.length x.ca) := hc 3 _ rfl
          have c4 : X.1.cell? ⟨ba, oa + i * 6 + 4, none⟩ = some (.slice x.b x.A.lp.length x.cb) := hc 4 _ rfl
          have c5 : X.1.cell? ⟨ba, oa + i * 6 + 5, none⟩ = some (.slice x.c x.A.tg.length x.cc) := hc 5 _ rfl
          obtain ⟨V2, hV2, hR2, hC2⟩ := PCopy.new HR.out #[.string x.A.name, .int .i64 x.A.sport, .int .i64 x.A.start, .slice x.a x.A.sm.length x.ca, .slice x.b x.A.lp.length x.cb, .slice x.c x.A.tg.length x.cc]
          obtain ⟨P, hP⟩ : ∃ P, X.1.heap.size = P := ⟨_, rfl⟩
          rw [hP] at hC2
          have HR2 := Lib.hid hR2
          have HC2 := Lib.hid hC2
          have HV2 := Lib.hid hV2
          have HPP := Lib.hid hP
          clear hV2 hR2 hC2 hP hc hx hba HR
          go_upto_region 20 with (fail)
          rw [HV2.out, HPP.out]
          clear c0 c1 c2 c3 c4 c5 HV2 HPP
          go_wp2_with fail
          go_loopw [14, 18] (fun ov kv wr => ∃ (k : Nat) (s : PSt), kv = .int .i64 k ∧ i + 1 ≤ k ∧ k ≤ n ∧ s.out.length ≤ i * 30 + (k - (i + 1)) ∧ Hid (E = poutF (oneS L) (nearP L most least apart) n (n - (i + 1)) (i + 1) (pinF (oneS L) (nearP L most least apart) i (n - k) k s)) ∧ Hid (PRel w q n ov s wr) ∧ Hid (PCopy P q ov #[.string x.A.name, .int .i64 x.A.sport, .int .i64 x.A.start, .slice x.a x.A.sm.length x.ca, .slice x.b x.A.lp.length x.cb, .slice x.c x.A.tg.length x.cc] wr)) (fun _ kv _ => n - (intOf kv).toNat)
          case atStart => exact ⟨i + 1, s, by go_num, by omega, by omega, by omega, HE2, HR2, HC2⟩
          case round =>
            clear HE2 HR2 HC2 hsl s X HX HXI t3 t3'
            obtain ⟨k, s, rfl, hik, hk, hsl, HE, HR, HC⟩ := hrel
            obtain ⟨X, rfl⟩ : ∃ Z : Ext w, wr = Z.1 := ⟨⟨_, HR.out.b⟩, rfl⟩
            by_cases hkn : k < n
            · have t4 : decide ((k : Int) < (n : Int)) = true := by rw [decide_eq_true_eq]; omega
              have t4' : decide (k < n) = true := by simpa using hkn
              obtain ⟨y, hy⟩ := HLT.out k hkn
              have HX := Lib.hid (HL.out.below X.2)
              have HE2 := Lib.hid (pinF_go hkn HE.out)
              have HS1 := Lib.hid (oneS_at HHX.out hy)
              have HN1 := Lib.hid (nearP_at (most := most) (least := least) (apart := apart) HHX.out hy)
              have hni : i ≠ k := by omega
              have hnk : k ≠ i := by omega
              have mi := HR.out.m.cell hlt
              have mk := HR.out.m.cell hkn
              have HXA := Lib.hid (HX.out.each x (List.mem_of_getElem? HHX.out))
              have HYA := Lib.hid (HX.out.each y (List.mem_of_getElem? hy))
              have HOX := Lib.hid (HFIT.out i x HHX.out HALL.out)
              have HOY := Lib.hid (HFIT.out k y hy HALL.out)
              have D0 := Ext.ex (show X.1.cell? ⟨ba, oa + k * 6, none⟩ = some (.string y.A.name) from HX.out.row.on hy 0 _ rfl)
              have D1 := Ext.ex (show X.1.cell? ⟨ba, oa + k * 6 + 1, none⟩ = some (.int .i64 y.A.sport) from HX.out.row.on hy 1 _ rfl)
              have D2 := Ext.ex (show X.1.cell? ⟨ba, oa + k * 6 + 2, none⟩ = some (.int .i64 y.A.start) from HX.out.row.on hy 2 _ rfl)
              have D3 := Ext.ex (show X.1.cell? ⟨ba, oa + k * 6 + 3, none⟩ = some (.slice y.a y.A.sm.length y.ca) from HX.out.row.on hy 3 _ rfl)
              have D4 := Ext.ex (show X.1.cell? ⟨ba, oa + k * 6 + 4, none⟩ = some (.slice y.b y.A.lp.length y.cb) from HX.out.row.on hy 4 _ rfl)
              have D5 := Ext.ex (show X.1.cell? ⟨ba, oa + k * 6 + 5, none⟩ = some (.slice y.c y.A.tg.length y.cc) from HX.out.row.on hy 5 _ rfl)
              have P0 := Ext.ex (HC.out.cell (j := 0) (x := .string x.A.name) rfl)
              have P1 := Ext.ex (HC.out.cell (j := 1) (x := .int .i64 x.A.sport) rfl)
              have P2 := Ext.ex (HC.out.cell (j := 2) (x := .int .i64 x.A.start) rfl)
              have P3 := Ext.ex (HC.out.cell (j := 3) (x := .slice x.a x.A.sm.length x.ca) rfl)
              have P4 := Ext.ex (HC.out.cell (j := 4) (x := .slice x.b x.A.lp.length x.cb) rfl)
              have P5 := Ext.ex (HC.out.cell (j := 5) (x := .slice x.c x.A.tg.length x.cc) rfl)
              clear hy HE
              obtain ⟨bi, hbi⟩ : ∃ b, s.tk i = b := ⟨_, rfl⟩
              obtain ⟨bk, hbk⟩ : ∃ b, s.tk k = b := ⟨_, rfl⟩
              rw [hbi] at mi
              rw [hbk] at mk
              have Mi := Ext.ex mi
              have Mk := Ext.ex mk
              clear mi mk
              cases bi
              case true =>
                have HE3 := Lib.hid (HE2.out.trans (by rw [pstep_skip (Or.inl hbi)]))
                clear hbi hbk HE2 HS1 HN1
                go_wp2_with fail
                refine wp_region_ext (W := X.1) ⟨X.1, Below.refl _ _⟩ (by kernel_rfl) (by kernel_rfl) ?_
                repeat go_big_quiet_step (fail)
                refine wpQuiet_nil ?_
                rintro _ ⟨Y, rfl⟩
                go_wp2_with fail
                go_roundw
                case rel => exact ⟨k + 1, s, by go_num, by omega, by omega, by omega, HE3, Lib.hid (HR.out.below Y.2), Lib.hid (HC.out.below Y.2)⟩
                case measure => simp [intOf]; omega
              cases bk
              case true =>
                have HE3 := Lib.hid (HE2.out.trans (by rw [pstep_skip (Or.inr (Or.inl hbk))]))
                clear hbi hbk HE2 HS1 HN1
                go_wp2_with fail
                refine wp_region_ext (W := X.1) ⟨X.1, Below.refl _ _⟩ (by kernel_rfl) (by kernel_rfl) ?_
                repeat go_big_quiet_step (fail)
                refine wpQuiet_nil ?_
                rintro _ ⟨Y, rfl⟩
                go_wp2_with fail
                go_roundw
                case rel => exact ⟨k + 1, s, by go_num, by omega, by omega, by omega, HE3, Lib.hid (HR.out.below Y.2), Lib.hid (HC.out.below Y.2)⟩
                case measure => simp [intOf]; omega
              by_cases hsp : x.A.sport = y.A.sport
              case neg =>
                have b0 := bneT hsp
                have HE3 := Lib.hid (HE2.out.trans (by rw [pstep_skip (Or.inr (Or.inr (HS1.out.trans (decide_eq_false hsp))))]))
                clear hbi hbk HE2 HS1 HN1 hsp
                go_wp2_with fail
                refine wp_region_ext (W := X.1) ⟨X.1, Below.refl _ _⟩ (by kernel_rfl) (by kernel_rfl) ?_
                repeat go_big_quiet_step (fail)
                refine wpQuiet_nil ?_
                rintro _ ⟨Y, rfl⟩
                go_wp2_with fail
                go_roundw
                case rel => exact ⟨k + 1, s, by go_num, by omega, by omega, by omega, HE3, Lib.hid (HR.out.below Y.2), Lib.hid (HC.out.below Y.2)⟩
                case measure => simp [intOf]; omega
              have b0 := bneF hsp
              have HNOT := Lib.hid (show ¬ (s.tk i = true ∨ s.tk k = true ∨ oneS L i k = false) from by
                rw [hbi, hbk, HS1.out, decide_eq_true hsp]
                simp)
              have DF := fun (W : World) (hb : Below X.1.heap.size X.1 W) => fit_any x.A y.A x.a x.b x.c y.a y.b y.c x.ca x.cb x.cc y.ca y.cb y.cc most least W (HXA.out.sm.below hb) (HYA.out.sm.below hb) HOX.out HOY.out hm0 hm1 hl0 hl1
              have HMO := Lib.hid (fun (m : Mt) h => fit_ok (A := x.A) HOY.out hm0 hm1 hl0 (m := m) h)
              obtain ⟨F, hF⟩ : ∃ F, Ft.fitM (shiftedF x.A y.A) most least = F := ⟨_, rfl⟩
              simp only [hF] at DF
              rw [hF] at HN1 HMO
              unfold actV at DF
              clear hF hbi hbk HS1 HOX HOY HXA HYA hsp
              cases F
              case none =>
                have HE3 := Lib.hid (HE2.out.trans (by rw [pstep_far HNOT.out (HN1.out.trans rfl)]))
                clear HE2 HN1 HNOT HMO
                obtain ⟨m, hm⟩ : ∃ m, mt0 = m := ⟨_, rfl⟩
                simp only [Option.getD_none, Option.isSome_none, hm] at DF
                clear hm
                unfold mtV at DF
                replace DF := Lib.hid (fun (Z : Ext X.1) => DF Z.1 Z.2)
                go_wp2_with fail
                refine wp_region_ext (W := X.1) ⟨X.1, Below.refl _ _⟩ (by kernel_rfl) (by kernel_rfl) ?_
                repeat go_big_quiet_step (fail)
                refine wpQuiet_nil ?_
                rintro _ ⟨Y, rfl⟩
                go_wp2_with fail
                refine held_start (C := fun w' => ∃ Z : Ext X.1, w' = Z.1) (by kernel_rfl) ?_
                obtain ⟨Z0, hZ0⟩ : ∃ Z : Ext X.1, ({ Y.1 with drawn := Y.1.drawn + 1 } : World) = Z.1 := ⟨⟨{ Y.1 with drawn := Y.1.drawn + 1 }, below_step Y.2 ⟨rfl, rfl, rfl, Nat.le_refl _, fun _ _ => rfl⟩⟩, rfl⟩
                rw [hZ0]
                clear hZ0
                refine held_quiet (by kernel_rfl) (fun _ _ d _ _ h => by cases d <;> exact h) ⟨Z0, rfl⟩ [0, 1, 2, 3, 4, 5, 6] 7 _ _ (by kernel_rfl) ?_
                change wpQuiet _ _ _ _ (_ :: _ :: _ :: _ :: _ :: _ :: _ :: []) _
                repeat go_big_quiet_step (fail)
                refine wpQuiet_nil ?_
                refine held_two (i := 7) (j := 11) _ _ rfl rfl (by kernel_rfl) rfl rfl (fun K hK => ?_) (fun K hK => ?_)
                · skip
                  go_simp
                  refine (DF.out Z0).mono ?_
                  rintro e w1 ⟨rfl, hb⟩
                  obtain ⟨Z1, hZn⟩ : ∃ Z : Ext X.1, w1 = Z.1 := ⟨⟨w1, below_step Z0.2 hb⟩, rfl⟩
                  subst hZn
                  refine hK _ _ ⟨Z1, rfl⟩ ?_
                  clear hK K hb
                  try simp only [Act.put, List.setIfInBounds_toArray, List.set_cons_zero, List.set_cons_succ]
                  refine held_quiet (by kernel_rfl) (fun _ _ d _ _ h => by cases d <;> exact h) ⟨Z1, rfl⟩ [8, 9, 10] 3 _ _ (by kernel_rfl) ?_
                  change wpQuiet _ _ _ _ (_ :: _ :: _ :: []) _
                  repeat go_big_quiet_step (fail)
                  refine wpQuiet_nil ?_
                  refine held_do (i := 11) _ rfl (by kernel_rfl) rfl (fun K hK => ?_)
                  go_simp
                  obtain ⟨Z2, T, hT, hXT, hZn, hTB, hZb⟩ := mt_new Z1
                  have HT1 := Lib.hid hTB
                  have HXT := Lib.hid hXT
                  rw [hZn, hT]
                  refine hK _ _ ⟨Z2, rfl⟩ ?_
                  clear hK K hT hXT hZn hTB hZb
                  try simp only [Act.put, List.setIfInBounds_toArray, List.set_cons_zero, List.set_cons_succ]
                  obtain ⟨r0, r1, r2⟩ := HT1.out.cell
                  have f0 := HT1.out.free 0
                  have f1 := HT1.out.free 1
                  have f2 := HT1.out.free 2
                  obtain ⟨Z3, hZ3, hT3⟩ := mt_put Z2 HT1.out HXT.out m
                  obtain ⟨g0, g1, g2⟩ := hT3.cell
                  refine held_do (i := 12) _ rfl (by kernel_rfl) rfl (fun K hK => ?_)
                  unfold mt0 at r0 r1 r2
                  try simp only at r0 r1 r2
                  go_simp
                  try rw [hZ3]
                  refine hK _ _ ⟨Z3, rfl⟩ ?_
                  clear hK K r0 r1 r2 f0 f1 f2 hZ3 HT1
                  try simp only [Act.put, List.setIfInBounds_toArray, List.set_cons_zero, List.set_cons_succ]
                  refine held_quiet (by kernel_rfl) (fun _ _ d _ _ h => by cases d <;> exact h) ⟨Z3, rfl⟩ [13] 0 _ _ (by kernel_rfl) ?_
                  change wpQuiet _ _ _ _ (_ :: []) _
                  repeat go_big_quiet_step (fail)
                  refine wpQuiet_nil ?_
                  refine wpAnyH_done (by kernel_rfl) ?_ _
                  go_wp2_with fail
                  go_roundw
                  case rel => exact ⟨k + 1, s, by go_num, by omega, by omega, by omega, HE3, Lib.hid (HR.out.below Z3.2), Lib.hid (HC.out.below Z3.2)⟩
                  case measure => simp [intOf]; omega
                · skip
                  go_simp
                  obtain ⟨Z1, T, hT, hXT, hZn, hTB, hZb⟩ := mt_new Z0
                  have HT1 := Lib.hid hTB
                  have HXT := Lib.hid hXT
                  rw [hZn, hT]
                  refine hK _ _ ⟨Z1, rfl⟩ ?_
                  clear hK K hT hXT hZn hTB hZb
                  try simp only [Act.put, List.setIfInBounds_toArray, List.set_cons_zero, List.set_cons_succ]
                  refine held_do (i := 7) _ rfl (by kernel_rfl) rfl (fun K hK => ?_)
                  go_simp
                  refine (DF.out Z1).mono ?_
                  rintro e w1 ⟨rfl, hb⟩
                  obtain ⟨Z2, hZn⟩ : ∃ Z : Ext X.1, w1 = Z.1 := ⟨⟨w1, below_step Z1.2 hb⟩, rfl⟩
                  have HT1 : Hid (MtB w1 T mt0) := Lib.hid (HT1.out.below hb)
                  rw [hZn] at HT1
                  subst hZn
                  refine hK _ _ ⟨Z2, rfl⟩ ?_
                  clear hK K hb
                  try simp only [Act.put, List.setIfInBounds_toArray, List.set_cons_zero, List.set_cons_succ]
                  refine held_quiet (by kernel_rfl) (fun _ _ d _ _ h => by cases d <;> exact h) ⟨Z2, rfl⟩ [8, 9, 10] 2 _ _ (by kernel_rfl) ?_
                  change wpQuiet _ _ _ _ (_ :: _ :: _ :: []) _
                  repeat go_big_quiet_step (fail)
                  refine wpQuiet_nil ?_
                  obtain ⟨r0, r1, r2⟩ := HT1.out.cell
                  have f0 := HT1.out.free 0
                  have f1 := HT1.out.free 1
                  have f2 := HT1.out.free 2
                  obtain ⟨Z3, hZ3, hT3⟩ := mt_put Z2 HT1.out HXT.out m
                  obtain ⟨g0, g1, g2⟩ := hT3.cell
                  refine held_do (i := 12) _ rfl (by kernel_rfl) rfl (fun K hK => ?_)
                  unfold mt0 at r0 r1 r2
                  try simp only at r0 r1 r2
                  go_simp
                  try rw [hZ3]
                  refine hK _ _ ⟨Z3, rfl⟩ ?_
                  clear hK K r0 r1 r2 f0 f1 f2 hZ3 HT1
                  try simp only [Act.put, List.setIfInBounds_toArray, List.set_cons_zero, List.set_cons_succ]
                  refine held_quiet (by kernel_rfl) (fun _ _ d _ _ h => by cases d <;> exact h) ⟨Z3, rfl⟩ [13] 0 _ _ (by kernel_rfl) ?_
                  change wpQuiet _ _ _ _ (_ :: []) _
                  repeat go_big_quiet_step (fail)
                  refine wpQuiet_nil ?_
                  refine wpAnyH_done (by kernel_rfl) ?_ _
                  go_wp2_with fail
                  go_roundw
                  case rel => exact ⟨k + 1, s, by go_num, by omega, by omega, by omega, HE3, Lib.hid (HR.out.below Z3.2), Lib.hid (HC.out.below Z3.2)⟩
                  case measure => simp [intOf]; omega
              case some m =>
                obtain ⟨⟨hp0, hp1⟩, hp2, hp3⟩ := near_mul (HMO.out m rfl) ha0 ha1
                have w1 := wrap_in (x := m.many * apart) (by omega) (by omega)
                have w2 := wrap_in (x := m.many * apart * apart) (by omega) (by omega)
                simp only [Option.getD_some, Option.isSome_some] at DF
                unfold mtV at DF
                replace DF := Lib.hid (fun (Z : Ext X.1) => DF Z.1 Z.2)
                by_cases hnr : m.sum ≤ m.many * apart * apart
                case neg =>
                  have d0 : decide (m.sum ≤ m.many * apart * apart) = false := decide_eq_false hnr
                  have HE3 := Lib.hid (HE2.out.trans (by rw [pstep_far HNOT.out (HN1.out.trans d0)]))
                  clear HE2 HN1 HNOT HMO hnr
                  go_wp2_with fail
                  refine wp_region_ext (W := X.1) ⟨X.1, Below.refl _ _⟩ (by kernel_rfl) (by kernel_rfl) ?_
                  repeat go_big_quiet_step (fail)
                  refine wpQuiet_nil ?_
                  rintro _ ⟨Y, rfl⟩
                  go_wp2_with fail
                  refine held_start (C := fun w' => ∃ Z : Ext X.1, w' = Z.1) (by kernel_rfl) ?_
                  obtain ⟨Z0, hZ0⟩ : ∃ Z : Ext X.1, ({ Y.1 with drawn := Y.1.drawn + 1 } : World) = Z.1 := ⟨⟨{ Y.1 with drawn := Y.1.drawn + 1 }, below_step Y.2 ⟨rfl, rfl, rfl, Nat.le_refl _, fun _ _ => rfl⟩⟩, rfl⟩
                  rw [hZ0]
                  clear hZ0
                  refine held_quiet (by kernel_rfl) (fun _ _ d _ _ h => by cases d <;> exact h) ⟨Z0, rfl⟩ [0, 1, 2, 3, 4, 5, 6] 7 _ _ (by kernel_rfl) ?_
                  change wpQuiet _ _ _ _ (_ :: _ :: _ :: _ :: _ :: _ :: _ :: []) _
                  repeat go_big_quiet_step (fail)
                  refine wpQuiet_nil ?_
                  refine held_two (i := 7) (j := 11) _ _ rfl rfl (by kernel_rfl) rfl rfl (fun K hK => ?_) (fun K hK => ?_)
                  · skip
                    go_simp
                    refine (DF.out Z0).mono ?_
                    rintro e w1 ⟨rfl, hb⟩
                    obtain ⟨Z1, hZn⟩ : ∃ Z : Ext X.1, w1 = Z.1 := ⟨⟨w1, below_step Z0.2 hb⟩, rfl⟩
                    subst hZn
                    refine hK _ _ ⟨Z1, rfl⟩ ?_
                    clear hK K hb
                    try simp only [Act.put, List.setIfInBounds_toArray, List.set_cons_zero, List.set_cons_succ]
                    refine held_quiet (by kernel_rfl) (fun _ _ d _ _ h => by cases d <;> exact h) ⟨Z1, rfl⟩ [8, 9, 10] 3 _ _ (by kernel_rfl) ?_
                    change wpQuiet _ _ _ _ (_ :: _ :: _ :: []) _
                    repeat go_big_quiet_step (fail)
                    refine wpQuiet_nil ?_
                    refine held_do (i := 11) _ rfl (by kernel_rfl) rfl (fun K hK => ?_)
                    go_simp
                    obtain ⟨Z2, T, hT, hXT, hZn, hTB, hZb⟩ := mt_new Z1
                    have HT1 := Lib.hid hTB
                    have HXT := Lib.hid hXT
                    rw [hZn, hT]
                    refine hK _ _ ⟨Z2, rfl⟩ ?_
                    clear hK K hT hXT hZn hTB hZb
                    try simp only [Act.put, List.setIfInBounds_toArray, List.set_cons_zero, List.set_cons_succ]
                    obtain ⟨r0, r1, r2⟩ := HT1.out.cell
                    have f0 := HT1.out.free 0
                    have f1 := HT1.out.free 1
                    have f2 := HT1.out.free 2
                    obtain ⟨Z3, hZ3, hT3⟩ := mt_put Z2 HT1.out HXT.out m
                    obtain ⟨g0, g1, g2⟩ := hT3.cell
                    refine held_do (i := 12) _ rfl (by kernel_rfl) rfl (fun K hK => ?_)
                    unfold mt0 at r0 r1 r2
                    try simp only at r0 r1 r2
                    go_simp
                    try rw [hZ3]
                    refine hK _ _ ⟨Z3, rfl⟩ ?_
                    clear hK K r0 r1 r2 f0 f1 f2 hZ3 HT1
                    try simp only [Act.put, List.setIfInBounds_toArray, List.set_cons_zero, List.set_cons_succ]
                    refine held_quiet (by kernel_rfl) (fun _ _ d _ _ h => by cases d <;> exact h) ⟨Z3, rfl⟩ [13] 0 _ _ (by kernel_rfl) ?_
                    change wpQuiet _ _ _ _ (_ :: []) _
                    repeat go_big_quiet_step (fail)
                    refine wpQuiet_nil ?_
                    refine wpAnyH_done (by kernel_rfl) ?_ _
                    go_wp2_with fail
                    go_roundw
                    case rel => exact ⟨k + 1, s, by go_num, by omega, by omega, by omega, HE3, Lib.hid (HR.out.below Z3.2), Lib.hid (HC.out.below Z3.2)⟩
                    case measure => simp [intOf]; omega
                  · skip
                    go_simp
                    obtain ⟨Z1, T, hT, hXT, hZn, hTB, hZb⟩ := mt_new Z0
                    have HT1 := Lib.hid hTB
                    have HXT := Lib.hid hXT
                    rw [hZn, hT]
                    refine hK _ _ ⟨Z1, rfl⟩ ?_
                    clear hK K hT hXT hZn hTB hZb
                    try simp only [Act.put, List.setIfInBounds_toArray, List.set_cons_zero, List.set_cons_succ]
                    refine held_do (i := 7) _ rfl (by kernel_rfl) rfl (fun K hK => ?_)
                    go_simp
                    refine (DF.out Z1).mono ?_
                    rintro e w1 ⟨rfl, hb⟩
                    obtain ⟨Z2, hZn⟩ : ∃ Z : Ext X.1, w1 = Z.1 := ⟨⟨w1, below_step Z1.2 hb⟩, rfl⟩
                    have HT1 : Hid (MtB w1 T mt0) := Lib.hid (HT1.out.below hb)
                    rw [hZn] at HT1
                    subst hZn
                    refine hK _ _ ⟨Z2, rfl⟩ ?_
                    clear hK K hb
                    try simp only [Act.put, List.setIfInBounds_toArray, List.set_cons_zero, List.set_cons_succ]
                    refine held_quiet (by kernel_rfl) (fun _ _ d _ _ h => by cases d <;> exact h) ⟨Z2, rfl⟩ [8, 9, 10] 2 _ _ (by kernel_rfl) ?_
                    change wpQuiet _ _ _ _ (_ :: _ :: _ :: []) _
                    repeat go_big_quiet_step (fail)
                    refine wpQuiet_nil ?_
                    obtain ⟨r0, r1, r2⟩ := HT1.out.cell
                    have f0 := HT1.out.free 0
                    have f1 := HT1.out.free 1
                    have f2 := HT1.out.free 2
                    obtain ⟨Z3, hZ3, hT3⟩ := mt_put Z2 HT1.out HXT.out m
                    obtain ⟨g0, g1, g2⟩ := hT3.cell
                    refine held_do (i := 12) _ rfl (by kernel_rfl) rfl (fun K hK => ?_)
                    unfold mt0 at r0 r1 r2
                    try simp only at r0 r1 r2
                    go_simp
                    try rw [hZ3]
                    refine hK _ _ ⟨Z3, rfl⟩ ?_
                    clear hK K r0 r1 r2 f0 f1 f2 hZ3 HT1
                    try simp only [Act.put, List.setIfInBounds_toArray, List.set_cons_zero, List.set_cons_succ]
                    refine held_quiet (by kernel_rfl) (fun _ _ d _ _ h => by cases d <;> exact h) ⟨Z3, rfl⟩ [13] 0 _ _ (by kernel_rfl) ?_
                    change wpQuiet _ _ _ _ (_ :: []) _
                    repeat go_big_quiet_step (fail)
                    refine wpQuiet_nil ?_
                    refine wpAnyH_done (by kernel_rfl) ?_ _
                    go_wp2_with fail
                    go_roundw
                    case rel => exact ⟨k + 1, s, by go_num, by omega, by omega, by omega, HE3, Lib.hid (HR.out.below Z3.2), Lib.hid (HC.out.below Z3.2)⟩
                    case measure => simp [intOf]; omega
                have d0 : decide (m.sum ≤ m.many * apart * apart) = true := decide_eq_true hnr
                have HE3 := Lib.hid (HE2.out.trans (by rw [pstep_near HNOT.out (HN1.out.trans d0)]))
                clear HE2 HN1 HNOT HMO hnr
                go_wp2_with fail
                refine wp_region_ext (W := X.1) ⟨X.1, Below.refl _ _⟩ (by kernel_rfl) (by kernel_rfl) ?_
                repeat go_big_quiet_step (fail)
                refine wpQuiet_nil ?_
                rintro _ ⟨Y, rfl⟩
                go_wp2_with fail
                refine held_start (C := fun w' => ∃ Z : Ext X.1, w' = Z.1) (by kernel_rfl) ?_
                obtain ⟨Z0, hZ0⟩ : ∃ Z : Ext X.1, ({ Y.1 with drawn := Y.1.drawn + 1 } : World) = Z.1 := ⟨⟨{ Y.1 with drawn := Y.1.drawn + 1 }, below_step Y.2 ⟨rfl, rfl, rfl, Nat.le_refl _, fun _ _ => rfl⟩⟩, rfl⟩
                rw [hZ0]
                clear hZ0
                refine held_quiet (by kernel_rfl) (fun _ _ d _ _ h => by cases d <;> exact h) ⟨Z0, rfl⟩ [0, 1, 2, 3, 4, 5, 6] 7 _ _ (by kernel_rfl) ?_
                change wpQuiet _ _ _ _ (_ :: _ :: _ :: _ :: _ :: _ :: _ :: []) _
                repeat go_big_quiet_step (fail)
                refine wpQuiet_nil ?_
                refine held_two (i := 7) (j := 11) _ _ rfl rfl (by kernel_rfl) rfl rfl (fun K hK => ?_) (fun K hK => ?_)
                · skip
                  go_simp
                  refine (DF.out Z0).mono ?_
                  rintro e w1 ⟨rfl, hb⟩
                  obtain ⟨Z1, hZn⟩ : ∃ Z : Ext X.1, w1 = Z.1 := ⟨⟨w1, below_step Z0.2 hb⟩, rfl⟩
                  subst hZn
                  refine hK _ _ ⟨Z1, rfl⟩ ?_
                  clear hK K hb
                  try simp only [Act.put, List.setIfInBounds_toArray, List.set_cons_zero, List.set_cons_succ]
                  refine held_quiet (by kernel_rfl) (fun _ _ d _ _ h => by cases d <;> exact h) ⟨Z1, rfl⟩ [8, 9, 10] 3 _ _ (by kernel_rfl) ?_
                  change wpQuiet _ _ _ _ (_ :: _ :: _ :: []) _
                  repeat go_big_quiet_step (fail)
                  refine wpQuiet_nil ?_
                  refine held_do (i := 11) _ rfl (by kernel_rfl) rfl (fun K hK => ?_)
                  go_simp
                  obtain ⟨Z2, T, hT, hXT, hZn, hTB, hZb⟩ := mt_new Z1
                  have HT1 := Lib.hid hTB
                  have HXT := Lib.hid hXT
                  rw [hZn, hT]
                  refine hK _ _ ⟨Z2, rfl⟩ ?_
                  clear hK K hT hXT hZn hTB hZb
                  try simp only [Act.put, List.setIfInBounds_toArray, List.set_cons_zero, List.set_cons_succ]
                  obtain ⟨r0, r1, r2⟩ := HT1.out.cell
                  have f0 := HT1.out.free 0
                  have f1 := HT1.out.free 1
                  have f2 := HT1.out.free 2
                  obtain ⟨Z3, hZ3, hT3⟩ := mt_put Z2 HT1.out HXT.out m
                  obtain ⟨g0, g1, g2⟩ := hT3.cell
                  refine held_do (i := 12) _ rfl (by kernel_rfl) rfl (fun K hK => ?_)
                  unfold mt0 at r0 r1 r2
                  try simp only at r0 r1 r2
                  go_simp
                  try rw [hZ3]
                  refine hK _ _ ⟨Z3, rfl⟩ ?_
                  clear hK K r0 r1 r2 f0 f1 f2 hZ3 HT1
                  try simp only [Act.put, List.setIfInBounds_toArray, List.set_cons_zero, List.set_cons_succ]
                  refine held_quiet (by kernel_rfl) (fun _ _ d _ _ h => by cases d <;> exact h) ⟨Z3, rfl⟩ [13] 0 _ _ (by kernel_rfl) ?_
                  change wpQuiet _ _ _ _ (_ :: []) _
                  repeat go_big_quiet_step (fail)
                  refine wpQuiet_nil ?_
                  refine wpAnyH_done (by kernel_rfl) ?_ _
                  obtain ⟨V4, hV4, hb4, hs4, hl4⟩ := alloc_cells Z3.1 #[.int .i64 (i : Nat), .int .i64 (k : Nat)] 47
                  have p0 := hl4 0 _ rfl
                  have p1 := hl4 1 _ rfl
                  have HR4 := Lib.hid (HR.out.below (below_step Z3.2 hb4))
                  have HC4 := Lib.hid (HC.out.below (below_step Z3.2 hb4))
                  clear hb4 hs4 hl4
                  go_upto_region 27 with (at_builtin; refine append_pr rfl _ _ rfl rfl HR4.out.o (p := (i, k)) rfl p0 p1 (by omega) (by have := HR4.out.m.lt; omega) (fun g' c' w3 ho3 hg3 hor => ?_))
                  have HR5 := Lib.hid (HR4.out.grow ho3 hg3)
                  have HC5 := Lib.hid (HC4.out.grow (n := s.out.length + 1) (c := c') hg3 hor)
                  clear ho3 hg3 hor p0 p1 hV4
                  have mi := HR5.out.m.cell hlt
                  have mk := HR5.out.m.cell hkn
                  have fi := HR5.out.m.free i
                  have fk := HR5.out.m.free k
                  obtain ⟨W6, hW, hRW, hKW⟩ := HR5.out.two hlt hkn
                  have HR6 := Lib.hid hRW
                  have HKW := Lib.hid hKW
                  have HWW := Lib.hid hW
                  clear hW hRW hKW
                  have HC6 := Lib.hid (HC5.out.kept HKW.out)
                  go_wp2_with fail
                  rw [HWW.out]
                  go_roundw
                  case rel => exact ⟨k + 1, ⟨tk2 s.tk i k, s.out ++ [(i, k)]⟩, by go_num, by omega, by omega, by rw [List.length_append]; simp only [List.length_singleton]; omega, HE3, HR6, HC6⟩
                  case measure => simp [intOf]; omega
                · skip
                  go_simp
                  obtain ⟨Z1, T, hT, hXT, hZn, hTB, hZb⟩ := mt_new Z0
                  have HT1 := Lib.hid hTB
                  have HXT := Lib.hid hXT
                  rw [hZn, hT]
                  refine hK _ _ ⟨Z1, rfl⟩ ?_
                  clear hK K hT hXT hZn hTB hZb
                  try simp only [Act.put, List.setIfInBounds_toArray, List.set_cons_zero, List.set_cons_succ]
                  refine held_do (i := 7) _ rfl (by kernel_rfl) rfl (fun K hK => ?_)
                  go_simp
                  refine (DF.out Z1).mono ?_
                  rintro e w1 ⟨rfl, hb⟩
                  obtain ⟨Z2, hZn⟩ : ∃ Z : Ext X.1, w1 = Z.1 := ⟨⟨w1, below_step Z1.2 hb⟩, rfl⟩
                  have HT1 : Hid (MtB w1 T mt0) := Lib.hid (HT1.out.below hb)
                  rw [hZn] at HT1
                  subst hZn
                  refine hK _ _ ⟨Z2, rfl⟩ ?_
                  clear hK K hb
                  try simp only [Act.put, List.setIfInBounds_toArray, List.set_cons_zero, List.set_cons_succ]
                  refine held_quiet (by kernel_rfl) (fun _ _ d _ _ h => by cases d <;> exact h) ⟨Z2, rfl⟩ [8, 9, 10] 2 _ _ (by kernel_rfl) ?_
                  change wpQuiet _ _ _ _ (_ :: _ :: _ :: []) _
                  repeat go_big_quiet_step (fail)
                  refine wpQuiet_nil ?_
                  obtain ⟨r0, r1, r2⟩ := HT1.out.cell
                  have f0 := HT1.out.free 0
                  have f1 := HT1.out.free 1
                  have f2 := HT1.out.free 2
                  obtain ⟨Z3, hZ3, hT3⟩ := mt_put Z2 HT1.out HXT.out m
                  obtain ⟨g0, g1, g2⟩ := hT3.cell
                  refine held_do (i := 12) _ rfl (by kernel_rfl) rfl (fun K hK => ?_)
                  unfold mt0 at r0 r1 r2
                  try simp only at r0 r1 r2
                  go_simp
                  try rw [hZ3]
                  refine hK _ _ ⟨Z3, rfl⟩ ?_
                  clear hK K r0 r1 r2 f0 f1 f2 hZ3 HT1
                  try simp only [Act.put, List.setIfInBounds_toArray, List.set_cons_zero, List.set_cons_succ]
                  refine held_quiet (by kernel_rfl) (fun _ _ d _ _ h => by cases d <;> exact h) ⟨Z3, rfl⟩ [13] 0 _ _ (by kernel_rfl) ?_
                  change wpQuiet _ _ _ _ (_ :: []) _
                  repeat go_big_quiet_step (fail)
                  refine wpQuiet_nil ?_
                  refine wpAnyH_done (by kernel_rfl) ?_ _
                  obtain ⟨V4, hV4, hb4, hs4, hl4⟩ := alloc_cells Z3.1 #[.int .i64 (i : Nat), .int .i64 (k : Nat)] 47
                  have p0 := hl4 0 _ rfl
                  have p1 := hl4 1 _ rfl
                  have HR4 := Lib.hid (HR.out.below (below_step Z3.2 hb4))
                  have HC4 := Lib.hid (HC.out.below (below_step Z3.2 hb4))
                  clear hb4 hs4 hl4
                  go_upto_region 27 with (at_builtin; refine append_pr rfl _ _ rfl rfl HR4.out.o (p := (i, k)) rfl p0 p1 (by omega) (by have := HR4.out.m.lt; omega) (fun g' c' w3 ho3 hg3 hor => ?_))
                  have HR5 := Lib.hid (HR4.out.grow ho3 hg3)
                  have HC5 := Lib.hid (HC4.out.grow (n := s.out.length + 1) (c := c') hg3 hor)
                  clear ho3 hg3 hor p0 p1 hV4
                  have mi := HR5.out.m.cell hlt
                  have mk := HR5.out.m.cell hkn
                  have fi := HR5.out.m.free i
                  have fk := HR5.out.m.free k
                  obtain ⟨W6, hW, hRW, hKW⟩ := HR5.out.two hlt hkn
                  have HR6 := Lib.hid hRW
                  have HKW := Lib.hid hKW
                  have HWW := Lib.hid hW
                  clear hW hRW hKW
                  have HC6 := Lib.hid (HC5.out.kept HKW.out)
                  go_wp2_with fail
                  rw [HWW.out]
                  go_roundw
                  case rel => exact ⟨k + 1, ⟨tk2 s.tk i k, s.out ++ [(i, k)]⟩, by go_num, by omega, by omega, by rw [List.length_append]; simp only [List.length_singleton]; omega, HE3, HR6, HC6⟩
                  case measure => simp [intOf]; omega
            · have t4 : decide ((k : Int) < (n : Int)) = false := by rw [decide_eq_false_iff_not]; omega
              have t4' : decide (k < n) = false := by simpa using hkn
              have HE3 := Lib.hid (pinF_end hkn HE.out)
              clear HE hkn
              go_wp2_with fail
              go_roundw
              case rel => exact ⟨i + 1, s, by go_num, by omega, by omega, HE3, HR⟩
              case measure => simp [intOf]; omega
        · have t3 : decide ((i : Int) < (n : Int)) = false := by rw [decide_eq_false_iff_not]; omega
          have t3' : decide (i < n) = false := by simpa using hlt
          have HE3 := Lib.hid (poutF_end hlt HE.out)
          clear HE hlt
          go_wp2_with fail
          exact bodyPost_ret (v := .tuple #[u14, .int .i64 0]) (by simp [results, Try.results14, go_sem]) rfl (HGOOD.out _ _ _ _ _ HF.out HR.out HE3.out)
end Go.Proofs.Ytckjdpnmalkpnaa

/- Pair, of the reference. (printed by wip/t/gen_tgc.py) -/
namespace Go.Proofs.Ytckjdpnmalkpnaa
open Go.RowKit Go.BigFrame
open Tr (inR)
open Ft (Mt)

set_option maxHeartbeats 16000000 in
set_option maxRecDepth 100000 in
theorem rpair_any (L : List Ab) (la : Option Addr) (lc : Nat) (most least apart : Int) (w : World) (hL : LIn w la L) :
    Calls Try.prog 15 #[.slice la L.length lc, .int .i64 most, .int .i64 least, .int .i64 apart] w fun e w' => PairRet L most least apart w e w' := by
  have HI := mtSize
  have HL := Lib.hid hL
  have HBAD := Lib.hid (fun (er : Int) (w' : World) (he : pairE L most least apart = er) (h0 : er ≠ 0) (hb : Below w.heap.size w w') => PairRet.bad he h0 hb)
  have HGOOD := Lib.hid (fun (w' : World) (q m : Nat) (v : Value) (s : PSt) (he : pairE L most least apart = 0) (hr : PRel w q m v s w') (hs : pairF (oneS L) (nearP L most least apart) L.length = s) => PairRet.good he hr hs)
  have H3 := Lib.hid (fun h => pairE_many (L := L) (most := most) (least := least) (apart := apart) h)
  have HC := Lib.hid (fun h h1 => pairE_chk (L := L) (most := most) (least := least) (apart := apart) h h1)
  have HB := Lib.hid (fun h h1 => pairE_bnd (L := L) (most := most) (least := least) (apart := apart) h h1)
  have HFIT := Lib.hid (fun (i : Nat) (x : Ab) (h : L[i]? = some x) (h0 : ∀ i, i < L.length → errP L i = 0) => errP_fit h h0)
  have HLT := Lib.hid (fun (i : Nat) (h : i < L.length) => show ∃ x, L[i]? = some x from ⟨_, List.getElem?_eq_getElem h⟩)
  have HST : Hid (chkP L = firstE (errP L) (L.length - 0) 0) := Lib.hid rfl
  obtain ⟨n, hn⟩ : ∃ n, L.length = n := ⟨_, rfl⟩
  rw [hn] at HGOOD H3 HC HB HFIT HLT HST ⊢
  obtain ⟨E, hE⟩ : ∃ E, pairF (oneS L) (nearP L most least apart) n = E := ⟨_, rfl⟩
  have HES : Hid (E = poutF (oneS L) (nearP L most least apart) n (n - 0) 0 ⟨fun _ => false, []⟩) := Lib.hid hE.symm
  rw [hE] at HGOOD
  clear hn hE hL
  by_cases h30 : 30 < n
  case pos =>
    have q3 : decide ((30 : Int) < (n : Int)) = true := by rw [decide_eq_true_eq]; omega
    have q3' : decide (30 < n) = true := by rw [decide_eq_true_eq]; omega
    have HF := Lib.hid (H3.out h30)
    clear h30
    go_enter Try.func15, Try.ntmps15
    go_wp2_with fail
    exact bodyPost_ret (v := .tuple #[.slice none 0 0, .int .i64 3]) (by simp [results, Try.results15, go_sem]) rfl (HBAD.out 3 _ HF.out (by decide) (Below.refl _ _))
  have q3 : decide ((30 : Int) < (n : Int)) = false := by rw [decide_eq_false_iff_not]; omega
  have q3' : decide (30 < n) = false := by rw [decide_eq_false_iff_not]; omega
  have hn30 : n ≤ 30 := by omega
  have HC := Lib.hid (HC.out h30)
  have HB := Lib.hid (HB.out h30)
  clear H3 h30
  go_enter Try.func15, Try.ntmps15
  go_wp2_with fail
  clear q3 q3'
  go_loopw [25] (fun iv wr => ∃ (k : Nat), iv = .int .i64 k ∧ k ≤ n ∧ Hid ((chkP L = firstE (errP L) (n - k) k) ∧ ∀ i, i < k → errP L i = 0) ∧ ∃ X : Ext w, wr = X.1) (fun iv _ => n - (intOf iv).toNat)
  case atStart => exact ⟨0, rfl, by omega, Lib.hid ⟨HST.out, fun i hi => by omega⟩, ⟨w, Below.refl _ _⟩, rfl⟩
  case round =>
    clear HST
    obtain ⟨k, rfl, hk, HE, X, rfl⟩ := hrel
    by_cases hlt : k < n
    · have t2 : decide ((k : Int) < (n : Int)) = true := by rw [decide_eq_true_eq]; omega
      have t2' : decide (k < n) = true := by simpa using hlt
      obtain ⟨x, hx⟩ := HLT.out k hlt
      have HX := Lib.hid (HL.out.below X.2)
      obtain ⟨ba, oa, rfl, hba, hc⟩ := HX.out.row.at hx
      have c0 : X.1.cell? ⟨ba, oa + k * 6, none⟩ = some (.string x.A.name) := hc 0 _ rfl
      have c1 : X.1.cell? ⟨ba, oa + k * 6 + 1, none⟩ = some (.int .i64 x.A.sport) := hc 1 _ rfl
      have c2 : X.1.cell? ⟨ba, oa + k * 6 + 2, none⟩ = some (.int .i64 x.A.start) := hc 2 _ rfl
      have c3 : X.1.cell? ⟨ba, oa + k * 6 + 3, none⟩ = some (.slice x.a x.A.sm.length x.ca) := hc 3 _ rfl
      have c4 : X.1.cell? ⟨ba, oa + k * 6 + 4, none⟩ = some (.slice x.b x.A.lp.length x.cb) := hc 4 _ rfl
      have c5 : X.1.cell? ⟨ba, oa + k * 6 + 5, none⟩ = some (.slice x.c x.A.tg.length x.cc) := hc 5 _ rfl
      have HXI := Lib.hid (HX.out.each x (List.mem_of_getElem? hx))
      have DX := fun (W : World) (hb : Below X.1.heap.size X.1 W) => rcheck2_any x.A x.a x.b x.c x.ca x.cb x.cc W (HXI.out.below hb)
      have HP := Lib.hid (errP_at hx)
      have HG := Lib.hid (firstE_go hlt HE.out.1)
      have HPR := Lib.hid (fun h0 => errP_next HE.out.2 h0)
      skip
      unfold actV at DX
      obtain ⟨e1, he1⟩ : ∃ z, chkA x.A = z := ⟨_, rfl⟩
      obtain ⟨ns, hns⟩ : ∃ z, x.A.sm.length = z := ⟨_, rfl⟩
      have hnsm := HXI.out.nsm
      rw [he1, hns] at HP
      simp only [he1, hns] at DX
      rw [hns] at c3 hnsm
      clear HE hx hc HX HXI he1 hns
      generalize x.A.lp.length = m2 at *
      generalize x.A.tg.length = m3 at *
      generalize x.A.name = xn at *
      generalize x.A.sport = xsp at *
      generalize x.A.start = xst at *
      generalize x.a = xa at *
      generalize x.b = xb at *
      generalize x.c = xc at *
      generalize x.ca = xca at *
      generalize x.cb = xcb at *
      generalize x.cc = xcc at *
      obtain ⟨V0, hV0, hb0, hs0, hl0⟩ := alloc_cells X.1 #[.string xn, .int .i64 xsp, .int .i64 xst, .slice xa ns xca, .slice xb m2 xcb, .slice xc m3 xcc] 35
      have A0 := Ext.ex (hl0 0 _ rfl)
      have A1 := Ext.ex (hl0 1 _ rfl)
      have A2 := Ext.ex (hl0 2 _ rfl)
      have A3 := Ext.ex (hl0 3 _ rfl)
      have A4 := Ext.ex (hl0 4 _ rfl)
      have A5 := Ext.ex (hl0 5 _ rfl)
      have DX := Lib.hid (fun (Y : Ext V0) => Y.calls (DX Y.1 (below_step hb0 Y.2)))
      have HDN := Lib.hid (fun (Z : Ext V0) => show Below w.heap.size w Z.1 from below_step (below_step X.2 hb0) Z.2)
      obtain ⟨T0, hT0⟩ : ∃ T, X.1.heap.size = T := ⟨_, rfl⟩
      rw [hT0] at A0 A1 A2 A3 A4 A5
      have HT0 := Lib.hid hT0
      have HV0 := Lib.hid hV0
      clear hV0 hb0 hs0 hl0 hT0
      by_cases h1 : e1 = 0
      case neg =>
        have b1 := bneT h1
        have HF := Lib.hid (HC.out (by rw [HG.out.1 (by rw [HP.out, if_pos h1]; exact h1), HP.out, if_pos h1]; exact h1))
        have HF := Lib.hid (HF.out.trans ((HG.out.1 (by rw [HP.out, if_pos h1]; exact h1)).trans (HP.out.trans (if_pos h1))))
        have H0 := Lib.hid h1
        clear h1 HG HP HPR
        go_upto_region 6 with (fail)
        rw [HV0.out, HT0.out]
        refine ext_wp fun Y => ?_
        go_wp2_with fail
        refine (DX.out Y).mono ?_
        rintro e w1 ⟨rfl, Z, rfl⟩
        go_wp2_with fail
        exact bodyPost_ret (v := .tuple #[.slice none 0 0, .int .i64 e1]) (by simp [results, Try.results15, go_sem]) rfl (HBAD.out e1 _ HF.out H0.out (HDN.out Z))
      have b1 := bneF h1
      have HP := Lib.hid (HP.out.trans (if_neg (fun h => h h1)))
      by_cases g1 : 400 < ns
      case pos =>
        have q1 : decide ((400 : Int) < (ns : Int)) = true := by rw [decide_eq_true_eq]; omega
        have q1' : decide (400 < ns) = true := by rw [decide_eq_true_eq]; omega
        have HK := Lib.hid ((HG.out.1 (by rw [HP.out, if_pos g1]; decide)).trans (HP.out.trans (if_pos g1)))
        have HF := Lib.hid ((HC.out (by rw [HK.out]; decide)).trans HK.out)
        clear h1 g1 HG HP HPR
        go_upto_region 6 with (fail)
        rw [HV0.out, HT0.out]
        refine ext_wp fun Y => ?_
        go_wp2_with fail
        refine (DX.out Y).mono ?_
        rintro e w1 ⟨rfl, Z, rfl⟩
        go_wp2_with fail
        exact bodyPost_ret (v := .tuple #[.slice none 0 0, .int .i64 3]) (by simp [results, Try.results15, go_sem]) rfl (HBAD.out 3 _ HF.out (by decide) (HDN.out Z))
      have q1 : decide ((400 : Int) < (ns : Int)) = false := by rw [decide_eq_false_iff_not]; omega
      have q1' : decide (400 < ns) = false := by rw [decide_eq_false_iff_not]; omega
      have HP := Lib.hid (HP.out.trans (if_neg g1))
      have HF := Lib.hid (And.intro (HG.out.2 HP.out) (HPR.out HP.out))
      clear h1 g1 HG HP HPR
      go_upto_region 6 with (fail)
      rw [HV0.out, HT0.out]
      refine ext_wp fun Y => ?_
      go_wp2_with fail
      refine (DX.out Y).mono ?_
      rintro e w1 ⟨rfl, Z, rfl⟩
      go_wp2_with fail
      go_roundw
      case rel => exact ⟨k + 1, by go_num, by omega, HF, ⟨Z.1, HDN.out Z⟩, rfl⟩
      case measure => simp [intOf]; omega
    · have t2 : decide ((k : Int) < (n : Int)) = false := by rw [decide_eq_false_iff_not]; omega
      have t2' : decide (k < n) = false := by simpa using hlt
      have HB := Lib.hid (HB.out (firstE_end (by omega) HE.out.1))
      have HALL := Lib.hid (fun i (hi : i < n) => HE.out.2 i (by omega))
      clear HE hlt hk HC
      have D1 := Lib.hid (fun W => rcheckBounds_any most least W)
      have D2 := Lib.hid (fun W => rout_any apart 0 10000 W)
      have HV : Hid (bndP most least apart = if bndE most least ≠ 0 then bndE most least else if inR apart 0 10000 = true then 0 else 9) := Lib.hid rfl
      have HBZ := Lib.hid (fun h : bndE most least = 0 => bndE_zero h)
      have HAZ := Lib.hid (fun h : inR apart 0 10000 = true => inR_iff.1 h)
      generalize bndE most least = r1 at *
      generalize inR apart 0 10000 = r2 at *
      by_cases h0 : r1 = 0
      case neg =>
        have b0 := bneT h0
        have HF := Lib.hid (HB.out.trans (HV.out.trans (if_pos h0)))
        have H0 := Lib.hid h0
        clear h0 HB HV
        go_wp2_with fail
        refine (D1.out _).mono ?_
        rintro e w1 ⟨rfl, rfl⟩
        go_wp2_with fail
        exact bodyPost_ret (v := .tuple #[.slice none 0 0, .int .i64 r1]) (by simp [results, Try.results15, go_sem]) rfl (HBAD.out r1 _ HF.out H0.out X.2)
      have b0 := bneF h0
      have HV := Lib.hid (HV.out.trans (if_neg (fun h => h h0)))
      cases r2
      · have HF := Lib.hid (HB.out.trans (HV.out.trans (if_neg (by simp))))
        clear h0 HB HV
        go_wp2_with fail
        refine (D1.out _).mono ?_
        rintro e w1 ⟨rfl, rfl⟩
        go_wp2_with fail
        refine (D2.out _).mono ?_
        rintro e w1 ⟨rfl, rfl⟩
        go_wp2_with fail
        exact bodyPost_ret (v := .tuple #[.slice none 0 0, .int .i64 9]) (by simp [results, Try.results15, go_sem]) rfl (HBAD.out 9 _ HF.out (by decide) X.2)
      have HF := Lib.hid (HB.out.trans (HV.out.trans (if_pos rfl)))
      obtain ⟨⟨hm0, hm1⟩, hl0, hl1⟩ := HBZ.out h0
      obtain ⟨ha0, ha1⟩ := HAZ.out rfl
      clear HBZ HAZ HB HV
      go_wp2_with fail
      refine (D1.out _).mono ?_
      rintro e w1 ⟨rfl, rfl⟩
      go_wp2_with fail
      refine (D2.out _).mono ?_
      rintro e w1 ⟨rfl, rfl⟩
      have hms := make_bools n hn30
      obtain ⟨V1, hV1, hR1⟩ := PRel.new (n := n) X.2
      obtain ⟨q, hq⟩ : ∃ q, X.1.heap.size = q := ⟨_, rfl⟩
      rw [hq] at hR1
      have HV1 := Lib.hid hV1
      have HQ := Lib.hid hq
      have HR1 := Lib.hid hR1
      clear hV1 hq hR1
      go_upto_region 19 with (fail)
      rw [HV1.out, HQ.out]
      clear hms HV1 HQ
      go_wp2_with fail
      go_loopw [14, 52] (fun ov iv wr => ∃ (i : Nat) (s : PSt), iv = .int .i64 i ∧ i ≤ n ∧ s.out.length ≤ i * 30 ∧ Hid (E = poutF (oneS L) (nearP L most least apart) n (n - i) i s) ∧ Hid (PRel w q n ov s wr)) (fun _ iv _ => n - (intOf iv).toNat)
      case atStart => exact ⟨0, ⟨fun _ => false, []⟩, rfl, by omega, by simp, HES, HR1⟩
      case round =>
        clear HR1 HES
        obtain ⟨i, s, rfl, hi, hsl, HE, HR⟩ := hrel
        obtain ⟨X, rfl⟩ : ∃ Z : Ext w, wr = Z.1 := ⟨⟨_, HR.out.b⟩, rfl⟩
        by_cases hlt : i < n
        · have t3 : decide ((i : Int) < (n : Int)) = true := by rw [decide_eq_true_eq]; omega
          have t3' : decide (i < n) = true := by simpa using hlt
          obtain ⟨x, hx⟩ := HLT.out i hlt
          have HX := Lib.hid (HL.out.below X.2)
          obtain ⟨ba, oa, rfl, hba, hc⟩ := HX.out.row.at hx
          have HXI := Lib.hid (HX.out.each x (List.mem_of_getElem? hx))
          have HE2 := Lib.hid (poutF_go hlt HE.out)
          have HHX := Lib.hid hx
          clear HE
          clear hc hx hba
          go_wp2_with fail
          go_loopw [14, 17] (fun ov kv wr => ∃ (k : Nat) (s : PSt), kv = .int .i64 k ∧ i + 1 ≤ k ∧ k ≤ n ∧ s.out.length ≤ i * 30 + (k - (i + 1)) ∧ Hid (E = poutF (oneS L) (nearP L most least apart) n (n - (i + 1)) (i + 1) (pinF (oneS L) (nearP L most least apart) i (n - k) k s)) ∧ Hid (PRel w q n ov s wr)) (fun _ kv _ => n - (intOf kv).toNat)
          case atStart => exact ⟨i + 1, s, by go_num, by omega, by omega, by omega, HE2, HR⟩
          case round =>
            clear HE2 HR hsl s X HX HXI t3 t3'
            obtain ⟨k, s, rfl, hik, hk, hsl, HE, HR⟩ := hrel
            obtain ⟨X, rfl⟩ : ∃ Z : Ext w, wr = Z.1 := ⟨⟨_, HR.out.b⟩, rfl⟩
            by_cases hkn : k < n
            · have t4 : decide ((k : Int) < (n : Int)) = true := by rw [decide_eq_true_eq]; omega
              have t4' : decide (k < n) = true := by simpa using hkn
              obtain ⟨y, hy⟩ := HLT.out k hkn
              have HX := Lib.hid (HL.out.below X.2)
              have HE2 := Lib.hid (pinF_go hkn HE.out)
              have HS1 := Lib.hid (oneS_at HHX.out hy)
              have HN1 := Lib.hid (nearP_at (most := most) (least := least) (apart := apart) HHX.out hy)
              have hni : i ≠ k := by omega
              have hnk : k ≠ i := by omega
              have mi := HR.out.m.cell hlt
              have mk := HR.out.m.cell hkn
              have HXA := Lib.hid (HX.out.each x (List.mem_of_getElem? HHX.out))
              have HYA := Lib.hid (HX.out.each y (List.mem_of_getElem? hy))
              have HOX := Lib.hid (HFIT.out i x HHX.out HALL.out)
              have HOY := Lib.hid (HFIT.out k y hy HALL.out)
              have D0 := Ext.ex (show X.1.cell? ⟨ba, oa + k * 6, none⟩ = some (.string y.A.name) from HX.out.row.on hy 0 _ rfl)
              have D1 := Ext.ex (show X.1.cell? ⟨ba, oa + k * 6 + 1, none⟩ = some (.int .i64 y.A.sport) from HX.out.row.on hy 1 _ rfl)
              have D2 := Ext.ex (show X.1.cell? ⟨ba, oa + k * 6 + 2, none⟩ = some (.int .i64 y.A.start) from HX.out.row.on hy 2 _ rfl)
              have D3 := Ext.ex (show X.1.cell? ⟨ba, oa + k * 6 + 3, none⟩ = some (.slice y.a y.A.sm.length y.ca) from HX.out.row.on hy 3 _ rfl)
              have D4 := Ext.ex (show X.1.cell? ⟨ba, oa + k * 6 + 4, none⟩ = some (.slice y.b y.A.lp.length y.cb) from HX.out.row.on hy 4 _ rfl)
              have D5 := Ext.ex (show X.1.cell? ⟨ba, oa + k * 6 + 5, none⟩ = some (.slice y.c y.A.tg.length y.cc) from HX.out.row.on hy 5 _ rfl)
              have P0 := Ext.ex (show X.1.cell? ⟨ba, oa + i * 6, none⟩ = some (.string x.A.name) from HX.out.row.on HHX.out 0 _ rfl)
              have P1 := Ext.ex (show X.1.cell? ⟨ba, oa + i * 6 + 1, none⟩ = some (.int .i64 x.A.sport) from HX.out.row.on HHX.out 1 _ rfl)
              have P2 := Ext.ex (show X.1.cell? ⟨ba, oa + i * 6 + 2, none⟩ = some (.int .i64 x.A.start) from HX.out.row.on HHX.out 2 _ rfl)
              have P3 := Ext.ex (show X.1.cell? ⟨ba, oa + i * 6 + 3, none⟩ = some (.slice x.a x.A.sm.length x.ca) from HX.out.row.on HHX.out 3 _ rfl)
              have P4 := Ext.ex (show X.1.cell? ⟨ba, oa + i * 6 + 4, none⟩ = some (.slice x.b x.A.lp.length x.cb) from HX.out.row.on HHX.out 4 _ rfl)
              have P5 := Ext.ex (show X.1.cell? ⟨ba, oa + i * 6 + 5, none⟩ = some (.slice x.c x.A.tg.length x.cc) from HX.out.row.on HHX.out 5 _ rfl)
              clear hy HE
              obtain ⟨bi, hbi⟩ : ∃ b, s.tk i = b := ⟨_, rfl⟩
              obtain ⟨bk, hbk⟩ : ∃ b, s.tk k = b := ⟨_, rfl⟩
              rw [hbi] at mi
              rw [hbk] at mk
              have Mi := Ext.ex mi
              have Mk := Ext.ex mk
              clear mi mk
              cases bi
              case true =>
                have HE3 := Lib.hid (HE2.out.trans (by rw [pstep_skip (Or.inl hbi)]))
                clear hbi hbk HE2 HS1 HN1
                go_wp2_with fail
                refine wp_region_ext (W := X.1) ⟨X.1, Below.refl _ _⟩ (by kernel_rfl) (by kernel_rfl) ?_
                repeat go_big_quiet_step (fail)
                refine wpQuiet_nil ?_
                rintro _ ⟨Y, rfl⟩
                go_wp2_with fail
                go_roundw
                case rel => exact ⟨k + 1, s, by go_num, by omega, by omega, by omega, HE3, Lib.hid (HR.out.below Y.2)⟩
                case measure => simp [intOf]; omega
              cases bk
              case true =>
                have HE3 := Lib.hid (HE2.out.trans (by rw [pstep_skip (Or.inr (Or.inl hbk))]))
                clear hbi hbk HE2 HS1 HN1
                go_wp2_with fail
                refine wp_region_ext (W := X.1) ⟨X.1, Below.refl _ _⟩ (by kernel_rfl) (by kernel_rfl) ?_
                repeat go_big_quiet_step (fail)
                refine wpQuiet_nil ?_
                rintro _ ⟨Y, rfl⟩
                go_wp2_with fail
                go_roundw
                case rel => exact ⟨k + 1, s, by go_num, by omega, by omega, by omega, HE3, Lib.hid (HR.out.below Y.2)⟩
                case measure => simp [intOf]; omega
              by_cases hsp : x.A.sport = y.A.sport
              case neg =>
                have b0 := bneT hsp
                have HE3 := Lib.hid (HE2.out.trans (by rw [pstep_skip (Or.inr (Or.inr (HS1.out.trans (decide_eq_false hsp))))]))
                clear hbi hbk HE2 HS1 HN1 hsp
                go_wp2_with fail
                refine wp_region_ext (W := X.1) ⟨X.1, Below.refl _ _⟩ (by kernel_rfl) (by kernel_rfl) ?_
                repeat go_big_quiet_step (fail)
                refine wpQuiet_nil ?_
                rintro _ ⟨Y, rfl⟩
                go_wp2_with fail
                go_roundw
                case rel => exact ⟨k + 1, s, by go_num, by omega, by omega, by omega, HE3, Lib.hid (HR.out.below Y.2)⟩
                case measure => simp [intOf]; omega
              have b0 := bneF hsp
              have HNOT := Lib.hid (show ¬ (s.tk i = true ∨ s.tk k = true ∨ oneS L i k = false) from by
                rw [hbi, hbk, HS1.out, decide_eq_true hsp]
                simp)
              have DF := fun (W : World) (hb : Below X.1.heap.size X.1 W) => rfit_any x.A y.A x.a x.b x.c y.a y.b y.c x.ca x.cb x.cc y.ca y.cb y.cc most least W (HXA.out.sm.below hb) (HYA.out.sm.below hb) HOX.out HOY.out hm0 hm1 hl0 hl1
              have HMO := Lib.hid (fun (m : Mt) h => fit_ok (A := x.A) HOY.out hm0 hm1 hl0 (m := m) h)
              obtain ⟨F, hF⟩ : ∃ F, Ft.fitM (shiftedF x.A y.A) most least = F := ⟨_, rfl⟩
              simp only [hF] at DF
              rw [hF] at HN1 HMO
              unfold actV at DF
              clear hF hbi hbk HS1 HOX HOY HXA HYA hsp
              cases F
              case none =>
                have HE3 := Lib.hid (HE2.out.trans (by rw [pstep_far HNOT.out (HN1.out.trans rfl)]))
                clear HE2 HN1 HNOT HMO
                obtain ⟨m, hm⟩ : ∃ m, mt0 = m := ⟨_, rfl⟩
                simp only [Option.getD_none, Option.isSome_none, hm] at DF
                clear hm
                unfold mtV at DF
                replace DF := Lib.hid (fun (Z : Ext X.1) => DF Z.1 Z.2)
                go_wp2_with fail
                refine wp_region_ext (W := X.1) ⟨X.1, Below.refl _ _⟩ (by kernel_rfl) (by kernel_rfl) ?_
                repeat go_big_quiet_step (fail)
                refine wpQuiet_nil ?_
                rintro _ ⟨Y, rfl⟩
                go_wp2_with fail
                refine held_start (C := fun w' => ∃ Z : Ext X.1, w' = Z.1) (by kernel_rfl) ?_
                obtain ⟨Z0, hZ0⟩ : ∃ Z : Ext X.1, ({ Y.1 with drawn := Y.1.drawn + 1 } : World) = Z.1 := ⟨⟨{ Y.1 with drawn := Y.1.drawn + 1 }, below_step Y.2 ⟨rfl, rfl, rfl, Nat.le_refl _, fun _ _ => rfl⟩⟩, rfl⟩
                rw [hZ0]
                clear hZ0
                refine held_quiet (by kernel_rfl) (fun _ _ d _ _ h => by cases d <;> exact h) ⟨Z0, rfl⟩ [0, 1, 2, 3, 4, 5, 6, 7, 8, 9] 7 _ _ (by kernel_rfl) ?_
                change wpQuiet _ _ _ _ (_ :: _ :: _ :: _ :: _ :: _ :: _ :: _ :: _ :: _ :: []) _
                repeat go_big_quiet_step (fail)
                refine wpQuiet_nil ?_
                refine held_two (i := 10) (j := 14) _ _ rfl rfl (by kernel_rfl) rfl rfl (fun K hK => ?_) (fun K hK => ?_)
                · skip
                  go_simp
                  refine (DF.out Z0).mono ?_
                  rintro e w1 ⟨rfl, hb⟩
                  obtain ⟨Z1, hZn⟩ : ∃ Z : Ext X.1, w1 = Z.1 := ⟨⟨w1, below_step Z0.2 hb⟩, rfl⟩
                  subst hZn
                  refine hK _ _ ⟨Z1, rfl⟩ ?_
                  clear hK K hb
                  try simp only [Act.put, List.setIfInBounds_toArray, List.set_cons_zero, List.set_cons_succ]
                  refine held_quiet (by kernel_rfl) (fun _ _ d _ _ h => by cases d <;> exact h) ⟨Z1, rfl⟩ [11, 12, 13] 3 _ _ (by kernel_rfl) ?_
                  change wpQuiet _ _ _ _ (_ :: _ :: _ :: []) _
                  repeat go_big_quiet_step (fail)
                  refine wpQuiet_nil ?_
                  refine held_do (i := 14) _ rfl (by kernel_rfl) rfl (fun K hK => ?_)
                  go_simp
                  obtain ⟨Z2, T, hT, hXT, hZn, hTB, hZb⟩ := mt_new Z1
                  have HT1 := Lib.hid hTB
                  have HXT := Lib.hid hXT
                  rw [hZn, hT]
                  refine hK _ _ ⟨Z2, rfl⟩ ?_
                  clear hK K hT hXT hZn hTB hZb
                  try simp only [Act.put, List.setIfInBounds_toArray, List.set_cons_zero, List.set_cons_succ]
                  obtain ⟨r0, r1, r2⟩ := HT1.out.cell
                  have f0 := HT1.out.free 0
                  have f1 := HT1.out.free 1
                  have f2 := HT1.out.free 2
                  obtain ⟨Z3, hZ3, hT3⟩ := mt_put Z2 HT1.out HXT.out m
                  obtain ⟨g0, g1, g2⟩ := hT3.cell
                  refine held_do (i := 15) _ rfl (by kernel_rfl) rfl (fun K hK => ?_)
                  unfold mt0 at r0 r1 r2
                  try simp only at r0 r1 r2
                  go_simp
                  try rw [hZ3]
                  refine hK _ _ ⟨Z3, rfl⟩ ?_
                  clear hK K r0 r1 r2 f0 f1 f2 hZ3 HT1
                  try simp only [Act.put, List.setIfInBounds_toArray, List.set_cons_zero, List.set_cons_succ]
                  refine held_quiet (by kernel_rfl) (fun _ _ d _ _ h => by cases d <;> exact h) ⟨Z3, rfl⟩ [16] 0 _ _ (by kernel_rfl) ?_
                  change wpQuiet _ _ _ _ (_ :: []) _
                  repeat go_big_quiet_step (fail)
                  refine wpQuiet_nil ?_
                  refine wpAnyH_done (by kernel_rfl) ?_ _
                  go_wp2_with fail
                  go_roundw
                  case rel => exact ⟨k + 1, s, by go_num, by omega, by omega, by omega, HE3, Lib.hid (HR.out.below Z3.2)⟩
                  case measure => simp [intOf]; omega
                · skip
                  go_simp
                  obtain ⟨Z1, T, hT, hXT, hZn, hTB, hZb⟩ := mt_new Z0
                  have HT1 := Lib.hid hTB
                  have HXT := Lib.hid hXT
                  rw [hZn, hT]
                  refine hK _ _ ⟨Z1, rfl⟩ ?_
                  clear hK K hT hXT hZn hTB hZb
                  try simp only [Act.put, List.setIfInBounds_toArray, List.set_cons_zero, List.set_cons_succ]
                  refine held_do (i := 10) _ rfl (by kernel_rfl) rfl (fun K hK => ?_)
                  go_simp
                  refine (DF.out Z1).mono ?_
                  rintro e w1 ⟨rfl, hb⟩
                  obtain ⟨Z2, hZn⟩ : ∃ Z : Ext X.1, w1 = Z.1 := ⟨⟨w1, below_step Z1.2 hb⟩, rfl⟩
                  have HT1 : Hid (MtB w1 T mt0) := Lib.hid (HT1.out.below hb)
                  rw [hZn] at HT1
                  subst hZn
                  refine hK _ _ ⟨Z2, rfl⟩ ?_
                  clear hK K hb
                  try simp only [Act.put, List.setIfInBounds_toArray, List.set_cons_zero, List.set_cons_succ]
                  refine held_quiet (by kernel_rfl) (fun _ _ d _ _ h => by cases d <;> exact h) ⟨Z2, rfl⟩ [11, 12, 13] 2 _ _ (by kernel_rfl) ?_
                  change wpQuiet _ _ _ _ (_ :: _ :: _ :: []) _
                  repeat go_big_quiet_step (fail)
                  refine wpQuiet_nil ?_
                  obtain ⟨r0, r1, r2⟩ := HT1.out.cell
                  have f0 := HT1.out.free 0
                  have f1 := HT1.out.free 1
                  have f2 := HT1.out.free 2
                  obtain ⟨Z3, hZ3, hT3⟩ := mt_put Z2 HT1.out HXT.out m
                  obtain ⟨g0, g1, g2⟩ := hT3.cell
                  refine held_do (i := 15) _ rfl (by kernel_rfl) rfl (fun K hK => ?_)
                  unfold mt0 at r0 r1 r2
                  try simp only at r0 r1 r2
                  go_simp
                  try rw [hZ3]
                  refine hK _ _ ⟨Z3, rfl⟩ ?_
                  clear hK K r0 r1 r2 f0 f1 f2 hZ3 HT1
                  try simp only [Act.put, List.setIfInBounds_toArray, List.set_cons_zero, List.set_cons_succ]
                  refine held_quiet (by kernel_rfl) (fun _ _ d _ _ h => by cases d <;> exact h) ⟨Z3, rfl⟩ [16] 0 _ _ (by kernel_rfl) ?_
                  change wpQuiet _ _ _ _ (_ :: []) _
                  repeat go_big_quiet_step (fail)
                  refine wpQuiet_nil ?_
                  refine wpAnyH_done (by kernel_rfl) ?_ _
                  go_wp2_with fail
                  go_roundw
                  case rel => exact ⟨k + 1, s, by go_num, by omega, by omega, by omega, HE3, Lib.hid (HR.out.below Z3.2)⟩
                  case measure => simp [intOf]; omega
              case some m =>
                obtain ⟨⟨hp0, hp1⟩, hp2, hp3⟩ := near_mul (HMO.out m rfl) ha0 ha1
                have w1 := wrap_in (x := m.many * apart) (by omega) (by omega)
                have w2 := wrap_in (x := m.many * apart * apart) (by omega) (by omega)
                simp only [Option.getD_some, Option.isSome_some] at DF
                unfold mtV at DF
                replace DF := Lib.hid (fun (Z : Ext X.1) => DF Z.1 Z.2)
                by_cases hnr : m.sum ≤ m.many * apart * apart
                case neg =>
                  have d0 : decide (m.sum ≤ m.many * apart * apart) = false := decide_eq_false hnr
                  have HE3 := Lib.hid (HE2.out.trans (by rw [pstep_far HNOT.out (HN1.out.trans d0)]))
                  clear HE2 HN1 HNOT HMO hnr
                  go_wp2_with fail
                  refine wp_region_ext (W := X.1) ⟨X.1, Below.refl _ _⟩ (by kernel_rfl) (by kernel_rfl) ?_
                  repeat go_big_quiet_step (fail)
                  refine wpQuiet_nil ?_
                  rintro _ ⟨Y, rfl⟩
                  go_wp2_with fail
                  refine held_start (C := fun w' => ∃ Z : Ext X.1, w' = Z.1) (by kernel_rfl) ?_
                  obtain ⟨Z0, hZ0⟩ : ∃ Z : Ext X.1, ({ Y.1 with drawn := Y.1.drawn + 1 } : World) = Z.1 := ⟨⟨{ Y.1 with drawn := Y.1.drawn + 1 }, below_step Y.2 ⟨rfl, rfl, rfl, Nat.le_refl _, fun _ _ => rfl⟩⟩, rfl⟩
                  rw [hZ0]
                  clear hZ0
                  refine held_quiet (by kernel_rfl) (fun _ _ d _ _ h => by cases d <;> exact h) ⟨Z0, rfl⟩ [0, 1, 2, 3, 4, 5, 6, 7, 8, 9] 7 _ _ (by kernel_rfl) ?_
                  change wpQuiet _ _ _ _ (_ :: _ :: _ :: _ :: _ :: _ :: _ :: _ :: _ :: _ :: []) _
                  repeat go_big_quiet_step (fail)
                  refine wpQuiet_nil ?_
                  refine held_two (i := 10) (j := 14) _ _ rfl rfl (by kernel_rfl) rfl rfl (fun K hK => ?_) (fun K hK => ?_)
                  · skip
                    go_simp
                    refine (DF.out Z0).mono ?_
                    rintro e w1 ⟨rfl, hb⟩
                    obtain ⟨Z1, hZn⟩ : ∃ Z : Ext X.1, w1 = Z.1 := ⟨⟨w1, below_step Z0.2 hb⟩, rfl⟩
                    subst hZn
                    refine hK _ _ ⟨Z1, rfl⟩ ?_
                    clear hK K hb
                    try simp only [Act.put, List.setIfInBounds_toArray, List.set_cons_zero, List.set_cons_succ]
                    refine held_quiet (by kernel_rfl) (fun _ _ d _ _ h => by cases d <;> exact h) ⟨Z1, rfl⟩ [11, 12, 13] 3 _ _ (by kernel_rfl) ?_
                    change wpQuiet _ _ _ _ (_ :: _ :: _ :: []) _
                    repeat go_big_quiet_step (fail)
                    refine wpQuiet_nil ?_
                    refine held_do (i := 14) _ rfl (by kernel_rfl) rfl (fun K hK => ?_)
                    go_simp
                    obtain ⟨Z2, T, hT, hXT, hZn, hTB, hZb⟩ := mt_new Z1
                    have HT1 := Lib.hid hTB
                    have HXT := Lib.hid hXT
                    rw [hZn, hT]
                    refine hK _ _ ⟨Z2, rfl⟩ ?_
                    clear hK K hT hXT hZn hTB hZb
                    try simp only [Act.put, List.setIfInBounds_toArray, List.set_cons_zero, List.set_cons_succ]
                    obtain ⟨r0, r1, r2⟩ := HT1.out.cell
                    have f0 := HT1.out.free 0
                    have f1 := HT1.out.free 1
                    have f2 := HT1.out.free 2
                    obtain ⟨Z3, hZ3, hT3⟩ := mt_put Z2 HT1.out HXT.out m
                    obtain ⟨g0, g1, g2⟩ := hT3.cell
                    refine held_do (i := 15) _ rfl (by kernel_rfl) rfl (fun K hK => ?_)
                    unfold mt0 at r0 r1 r2
                    try simp only at r0 r1 r2
                    go_simp
                    try rw [hZ3]
                    refine hK _ _ ⟨Z3, rfl⟩ ?_
                    clear hK K r0 r1 r2 f0 f1 f2 hZ3 HT1
                    try simp only [Act.put, List.setIfInBounds_toArray, List.set_cons_zero, List.set_cons_succ]
                    refine held_quiet (by kernel_rfl) (fun _ _ d _ _ h => by cases d <;> exact h) ⟨Z3, rfl⟩ [16] 0 _ _ (by kernel_rfl) ?_
                    change wpQuiet _ _ _ _ (_ :: []) _
                    repeat go_big_quiet_step (fail)
                    refine wpQuiet_nil ?_
                    refine wpAnyH_done (by kernel_rfl) ?_ _
                    go_wp2_with fail
                    go_roundw
                    case rel => exact ⟨k + 1, s, by go_num, by omega, by omega, by omega, HE3, Lib.hid (HR.out.below Z3.2)⟩
                    case measure => simp [intOf]; omega
                  · skip
                    go_simp
                    obtain ⟨Z1, T, hT, hXT, hZn, hTB, hZb⟩ := mt_new Z0
                    have HT1 := Lib.hid hTB
                    have HXT := Lib.hid hXT
                    rw [hZn, hT]
                    refine hK _ _ ⟨Z1, rfl⟩ ?_
                    clear hK K hT hXT hZn hTB hZb
                    try simp only [Act.put, List.setIfInBounds_toArray, List.set_cons_zero, List.set_cons_succ]
                    refine held_do (i := 10) _ rfl (by kernel_rfl) rfl (fun K hK => ?_)
                    go_simp
                    refine (DF.out Z1).mono ?_
                    rintro e w1 ⟨rfl, hb⟩
                    obtain ⟨Z2, hZn⟩ : ∃ Z : Ext X.1, w1 = Z.1 := ⟨⟨w1, below_step Z1.2 hb⟩, rfl⟩
                    have HT1 : Hid (MtB w1 T mt0) := Lib.hid (HT1.out.below hb)
                    rw [hZn] at HT1
                    subst hZn
                    refine hK _ _ ⟨Z2, rfl⟩ ?_
                    clear hK K hb
                    try simp only [Act.put, List.setIfInBounds_toArray, List.set_cons_zero, List.set_cons_succ]
                    refine held_quiet (by kernel_rfl) (fun _ _ d _ _ h => by cases d <;> exact h) ⟨Z2, rfl⟩ [11, 12, 13] 2 _ _ (by kernel_rfl) ?_
                    change wpQuiet _ _ _ _ (_ :: _ :: _ :: []) _
                    repeat go_big_quiet_step (fail)
                    refine wpQuiet_nil ?_
                    obtain ⟨r0, r1, r2⟩ := HT1.out.cell
                    have f0 := HT1.out.free 0
                    have f1 := HT1.out.free 1
                    have f2 := HT1.out.free 2
                    obtain ⟨Z3, hZ3, hT3⟩ := mt_put Z2 HT1.out HXT.out m
                    obtain ⟨g0, g1, g2⟩ := hT3.cell
                    refine held_do (i := 15) _ rfl (by kernel_rfl) rfl (fun K hK => ?_)
                    unfold mt0 at r0 r1 r2
                    try simp only at r0 r1 r2
                    go_simp
                    try rw [hZ3]
                    refine hK _ _ ⟨Z3, rfl⟩ ?_
                    clear hK K r0 r1 r2 f0 f1 f2 hZ3 HT1
                    try simp only [Act.put, List.setIfInBounds_toArray, List.set_cons_zero, List.set_cons_succ]
                    refine held_quiet (by kernel_rfl) (fun _ _ d _ _ h => by cases d <;> exact h) ⟨Z3, rfl⟩ [16] 0 _ _ (by kernel_rfl) ?_
                    change wpQuiet _ _ _ _ (_ :: []) _
                    repeat go_big_quiet_step (fail)
                    refine wpQuiet_nil ?_
                    refine wpAnyH_done (by kernel_rfl) ?_ _
                    go_wp2_with fail
                    go_roundw
                    case rel => exact ⟨k + 1, s, by go_num, by omega, by omega, by omega, HE3, Lib.hid (HR.out.below Z3.2)⟩
                    case measure => simp [intOf]; omega
                have d0 : decide (m.sum ≤ m.many * apart * apart) = true := decide_eq_true hnr
                have HE3 := Lib.hid (HE2.out.trans (by rw [pstep_near HNOT.out (HN1.out.trans d0)]))
                clear HE2 HN1 HNOT HMO hnr
                go_wp2_with fail
                refine wp_region_ext (W := X.1) ⟨X.1, Below.refl _ _⟩ (by kernel_rfl) (by kernel_rfl) ?_
                repeat go_big_quiet_step (fail)
                refine wpQuiet_nil ?_
                rintro _ ⟨Y, rfl⟩
                go_wp2_with fail
                refine held_start (C := fun w' => ∃ Z : Ext X.1, w' = Z.1) (by kernel_rfl) ?_
                obtain ⟨Z0, hZ0⟩ : ∃ Z : Ext X.1, ({ Y.1 with drawn := Y.1.drawn + 1 } : World) = Z.1 := ⟨⟨{ Y.1 with drawn := Y.1.drawn + 1 }, below_step Y.2 ⟨rfl, rfl, rfl, Nat.le_refl _, fun _ _ => rfl⟩⟩, rfl⟩
                rw [hZ0]
                clear hZ0
                refine held_quiet (by kernel_rfl) (fun _ _ d _ _ h => by cases d <;> exact h) ⟨Z0, rfl⟩ [0, 1, 2, 3, 4, 5, 6, 7, 8, 9] 7 _ _ (by kernel_rfl) ?_
                change wpQuiet _ _ _ _ (_ :: _ :: _ :: _ :: _ :: _ :: _ :: _ :: _ :: _ :: []) _
                repeat go_big_quiet_step (fail)
                refine wpQuiet_nil ?_
                refine held_two (i := 10) (j := 14) _ _ rfl rfl (by kernel_rfl) rfl rfl (fun K hK => ?_) (fun K hK => ?_)
                · skip
                  go_simp
                  refine (DF.out Z0).mono ?_
                  rintro e w1 ⟨rfl, hb⟩
                  obtain ⟨Z1, hZn⟩ : ∃ Z : Ext X.1, w1 = Z.1 := ⟨⟨w1, below_step Z0.2 hb⟩, rfl⟩
                  subst hZn
                  refine hK _ _ ⟨Z1, rfl⟩ ?_
                  clear hK K hb
                  try simp only [Act.put, List.setIfInBounds_toArray, List.set_cons_zero, List.set_cons_succ]
                  refine held_quiet (by kernel_rfl) (fun _ _ d _ _ h => by cases d <;> exact h) ⟨Z1, rfl⟩ [11, 12, 13] 3 _ _ (by kernel_rfl) ?_
                  change wpQuiet _ _ _ _ (_ :: _ :: _ :: []) _
                  repeat go_big_quiet_step (fail)
                  refine wpQuiet_nil ?_
                  refine held_do (i := 14) _ rfl (by kernel_rfl) rfl (fun K hK => ?_)
                  go_simp
                  obtain ⟨Z2, T, hT, hXT, hZn, hTB, hZb⟩ := mt_new Z1
                  have HT1 := Lib.hid hTB
                  have HXT := Lib.hid hXT
                  rw [hZn, hT]
                  refine hK _ _ ⟨Z2, rfl⟩ ?_
                  clear hK K hT hXT hZn hTB hZb
                  try simp only [Act.put, List.setIfInBounds_toArray, List.set_cons_zero, List.set_cons_succ]
                  obtain ⟨r0, r1, r2⟩ := HT1.out.cell
                  have f0 := HT1.out.free 0
                  have f1 := HT1.out.free 1
                  have f2 := HT1.out.free 2
                  obtain ⟨Z3, hZ3, hT3⟩ := mt_put Z2 HT1.out HXT.out m
                  obtain ⟨g0, g1, g2⟩ := hT3.cell
                  refine held_do (i := 15) _ rfl (by kernel_rfl) rfl (fun K hK => ?_)
                  unfold mt0 at r0 r1 r2
                  try simp only at r0 r1 r2
                  go_simp
                  try rw [hZ3]
                  refine hK _ _ ⟨Z3, rfl⟩ ?_
                  clear hK K r0 r1 r2 f0 f1 f2 hZ3 HT1
                  try simp only [Act.put, List.setIfInBounds_toArray, List.set_cons_zero, List.set_cons_succ]
                  refine held_quiet (by kernel_rfl) (fun _ _ d _ _ h => by cases d <;> exact h) ⟨Z3, rfl⟩ [16] 0 _ _ (by kernel_rfl) ?_
                  change wpQuiet _ _ _ _ (_ :: []) _
                  repeat go_big_quiet_step (fail)
                  refine wpQuiet_nil ?_
                  refine wpAnyH_done (by kernel_rfl) ?_ _
                  have HR3 := Lib.hid (HR.out.below Z3.2)
                  have mi := HR3.out.m.cell hlt
                  have mk := HR3.out.m.cell hkn
                  have fi := HR3.out.m.free i
                  have fk := HR3.out.m.free k
                  obtain ⟨W4, hW, hRW, hKW⟩ := HR3.out.two hlt hkn
                  have HR4 := Lib.hid hRW
                  have HKW := Lib.hid hKW
                  have HWW := Lib.hid hW
                  clear hW hRW hKW
                  go_upto_region 29 with (fail)
                  rw [HWW.out]
                  clear mi mk fi fk HWW HKW
                  obtain ⟨V5, hV5, hb5, hs5, hl5⟩ := alloc_cells W4 #[.int .i64 (i : Nat), .int .i64 (k : Nat)] 47
                  have p0 := hl5 0 _ rfl
                  have p1 := hl5 1 _ rfl
                  have HR5 := Lib.hid (HR4.out.below hb5)
                  clear hb5 hs5 hl5
                  go_wp2_with (at_builtin; refine append_pr rfl _ _ rfl rfl HR5.out.o (p := (i, k)) rfl p0 p1 (by simp only; omega) (by have := HR5.out.m.lt; omega) (fun g' c' w3 ho3 hg3 hor => ?_))
                  have HR6 := Lib.hid (HR5.out.grow ho3 hg3)
                  clear ho3 hg3 hor p0 p1 hV5
                  go_wp2_with fail
                  go_roundw
                  case rel => exact ⟨k + 1, ⟨tk2 s.tk i k, s.out ++ [(i, k)]⟩, by go_num, by omega, by omega, by rw [List.length_append]; simp only [List.length_singleton]; omega, HE3, HR6⟩
                  case measure => simp [intOf]; omega
                · skip
                  go_simp
                  obtain ⟨Z1, T, hT, hXT, hZn, hTB, hZb⟩ := mt_new Z0
                  have HT1 := Lib.hid hTB
                  have HXT := Lib.hid hXT
                  rw [hZn, hT]
                  refine hK _ _ ⟨Z1, rfl⟩ ?_
                  clear hK K hT hXT hZn hTB hZb
                  try simp only [Act.put, List.setIfInBounds_toArray, List.set_cons_zero, List.set_cons_succ]
                  refine held_do (i := 10) _ rfl (by kernel_rfl) rfl (fun K hK => ?_)
                  go_simp
                  refine (DF.out Z1).mono ?_
                  rintro e w1 ⟨rfl, hb⟩
                  obtain ⟨Z2, hZn⟩ : ∃ Z : Ext X.1, w1 = Z.1 := ⟨⟨w1, below_step Z1.2 hb⟩, rfl⟩
                  have HT1 : Hid (MtB w1 T mt0) := Lib.hid (HT1.out.below hb)
                  rw [hZn] at HT1
                  subst hZn
                  refine hK _ _ ⟨Z2, rfl⟩ ?_
                  clear hK K hb
                  try simp only [Act.put, List.setIfInBounds_toArray, List.set_cons_zero, List.set_cons_succ]
                  refine held_quiet (by kernel_rfl) (fun _ _ d _ _ h => by cases d <;> exact h) ⟨Z2, rfl⟩ [11, 12, 13] 2 _ _ (by kernel_rfl) ?_
                  change wpQuiet _ _ _ _ (_ :: _ :: _ :: []) _
                  repeat go_big_quiet_step (fail)
                  refine wpQuiet_nil ?_
                  obtain ⟨r0, r1, r2⟩ := HT1.out.cell
                  have f0 := HT1.out.free 0
                  have f1 := HT1.out.free 1
                  have f2 := HT1.out.free 2
                  obtain ⟨Z3, hZ3, hT3⟩ := mt_put Z2 HT1.out HXT.out m
                  obtain ⟨g0, g1, g2⟩ := hT3.cell
                  refine held_do (i := 15) _ rfl (by kernel_rfl) rfl (fun K hK => ?_)
                  unfold mt0 at r0 r1 r2
                  try simp only at r0 r1 r2
                  go_simp
                  try rw [hZ3]
                  refine hK _ _ ⟨Z3, rfl⟩ ?_
                  clear hK K r0 r1 r2 f0 f1 f2 hZ3 HT1
                  try simp only [Act.put, List.setIfInBounds_toArray, List.set_cons_zero, List.set_cons_succ]
                  refine held_quiet (by kernel_rfl) (fun _ _ d _ _ h => by cases d <;> exact h) ⟨Z3, rfl⟩ [16] 0 _ _ (by kernel_rfl) ?_
                  change wpQuiet _ _ _ _ (_ :: []) _
                  repeat go_big_quiet_step (fail)
                  refine wpQuiet_nil ?_
                  refine wpAnyH_done (by kernel_rfl) ?_ _
                  have HR3 := Lib.hid (HR.out.below Z3.2)
                  have mi := HR3.out.m.cell hlt
                  have mk := HR3.out.m.cell hkn
                  have fi := HR3.out.m.free i
                  have fk := HR3.out.m.free k
                  obtain ⟨W4, hW, hRW, hKW⟩ := HR3.out.two hlt hkn
                  have HR4 := Lib.hid hRW
                  have HKW := Lib.hid hKW
                  have HWW := Lib.hid hW
                  clear hW hRW hKW
                  go_upto_region 29 with (fail)
                  rw [HWW.out]
                  clear mi mk fi fk HWW HKW
                  obtain ⟨V5, hV5, hb5, hs5, hl5⟩ := alloc_cells W4 #[.int .i64 (i : Nat), .int .i64 (k : Nat)] 47
                  have p0 := hl5 0 _ rfl
                  have p1 := hl5 1 _ rfl
                  have HR5 := Lib.hid (HR4.out.below hb5)
                  clear hb5 hs5 hl5
                  go_wp2_with (at_builtin; refine append_pr rfl _ _ rfl rfl HR5.out.o (p := (i, k)) rfl p0 p1 (by simp only; omega) (by have := HR5.out.m.lt; omega) (fun g' c' w3 ho3 hg3 hor => ?_))
                  have HR6 := Lib.hid (HR5.out.grow ho3 hg3)
                  clear ho3 hg3 hor p0 p1 hV5
                  go_wp2_with fail
                  go_roundw
                  case rel => exact ⟨k + 1, ⟨tk2 s.tk i k, s.out ++ [(i, k)]⟩, by go_num, by omega, by omega, by rw [List.length_append]; simp only [List.length_singleton]; omega, HE3, HR6⟩
                  case measure => simp [intOf]; omega
            · have t4 : decide ((k : Int) < (n : Int)) = false := by rw [decide_eq_false_iff_not]; omega
              have t4' : decide (k < n) = false := by simpa using hkn
              have HE3 := Lib.hid (pinF_end hkn HE.out)
              clear HE hkn
              go_wp2_with fail
              go_roundw
              case rel => exact ⟨i + 1, s, by go_num, by omega, by omega, HE3, HR⟩
              case measure => simp [intOf]; omega
        · have t3 : decide ((i : Int) < (n : Int)) = false := by rw [decide_eq_false_iff_not]; omega
          have t3' : decide (i < n) = false := by simpa using hlt
          have HE3 := Lib.hid (poutF_end hlt HE.out)
          clear HE hlt
          go_wp2_with fail
          exact bodyPost_ret (v := .tuple #[u14, .int .i64 0]) (by simp [results, Try.results15, go_sem]) rfl (HGOOD.out _ _ _ _ _ HF.out HR.out HE3.out)
end Go.Proofs.Ytckjdpnmalkpnaa

/- Rows of pairs compared. -/
namespace Go.Proofs.Ytckjdpnmalkpnaa
open Go.RowKit Go.BigFrame

set_option maxHeartbeats 1000000 in
theorem eqPr_self (p : Nat × Nat) (w : World) : (Op.equalIn 10000 47 (.agg #[.int .i64 (p.1 : Nat), .int .i64 (p.2 : Nat)]) (.agg #[.int .i64 (p.1 : Nat), .int .i64 (p.2 : Nat)])).run Try.prog w = .ok true w := by
  have u3 := Try.underlying3
  have a3 := Try.isAgg3
  have z3 := Try.sizeOf3
  obtain ⟨i0, hi0, hz0, hz1, hz2⟩ := info_parts (show (Try.prog.info? 3).map (fun i => (i.zero, i.size, i.bytes)) = some (some (.int .i64 0), 1, 8) by kernel_rfl)
  have hS : Try.prog.underlying 47 = some (.array 2 3) := by kernel_rfl
  obtain ⟨a, b⟩ := p
  rw [show (10000 : Nat) = 9999 + 1 from rfl, run_equalIn_array w 9999 _ _ hS hi0]
  simp only
  rw [show List.range 2 = [0, 1] from rfl, show Try.prog.cellsOf 3 = 1 by kernel_rfl]
  simp only [Op.eqItems]
  have h1 : (((a : Nat) : Int) == (a : Nat)) = true := by simp
  have h2 : (((b : Nat) : Int) == (b : Nat)) = true := by simp
  go_simp
set_option maxHeartbeats 4000000 in
set_option maxRecDepth 100000 in
theorem equalP_self (l : List (Nat × Nat)) (a b : Option Addr) (c d : Nat) (w : World) (hr : Rw prC 2 w a l) (hq : Rw prC 2 w b l) (hl : l.length ≤ 1000000) :
    Calls Try.prog 16 #[.slice a l.length c, .slice b l.length d] w fun e w' => e = .returned (.bool true) ∧ ∃ q, w' = w.drewN q := by
  have HR := Lib.hid hr
  have HQ := Lib.hid hq
  have HLT := Lib.hid (fun (i : Nat) (h : i < l.length) => show ∃ x, l[i]? = some x from ⟨_, List.getElem?_eq_getElem h⟩)
  obtain ⟨nl, hnl⟩ : ∃ n, l.length = n := ⟨_, rfl⟩
  rw [hnl] at hl HLT ⊢
  have hneq : ((nl : Int) != (nl : Int)) = false := by simp
  clear hr hq hnl
  go_enter Try.func16, Try.ntmps16
  go_wp2_with fail
  go_loopw [13] (fun iv wr => ∃ (k : Nat), iv = .int .i64 k ∧ k ≤ nl ∧ (∃ q, wr = w.drewN q)) (fun iv _ => nl - (intOf iv).toNat)
  case atStart => exact ⟨0, rfl, by omega, ⟨0, rfl⟩⟩
  case round =>
    obtain ⟨k, rfl, hk, ⟨q, rfl⟩⟩ := hrel
    by_cases hlt : k < nl
    · have t1 : decide ((k : Int) < (nl : Int)) = true := by rw [decide_eq_true_eq]; omega
      have t1' : decide (k < nl) = true := by simpa using hlt
      obtain ⟨x, hx⟩ := HLT.out k hlt
      obtain ⟨b1, o1, rfl, hb1, e⟩ := HR.out.at hx
      have e0 : w.cell? ⟨b1, o1 + k * 2, none⟩ = some (.int .i64 (x.1 : Nat)) := e 0 _ rfl
      have e1 : w.cell? ⟨b1, o1 + k * 2 + 1, none⟩ = some (.int .i64 (x.2 : Nat)) := e 1 _ rfl
      obtain ⟨b2, o2, rfl, hb2, f⟩ := HQ.out.at hx
      have f0 : w.cell? ⟨b2, o2 + k * 2, none⟩ = some (.int .i64 (x.1 : Nat)) := f 0 _ rfl
      have f1 : w.cell? ⟨b2, o2 + k * 2 + 1, none⟩ = some (.int .i64 (x.2 : Nat)) := f 1 _ rfl
      have hgd : Try.prog.eqGuardType Try.prog.depth 47 = false := by kernel_rfl
      have hq := fun W => eqPr_self x W
      clear hx e f
      go_wp2_with fail
      go_quiet (fail)
      go_wp2_with fail
      go_roundw
      case rel => exact ⟨k + 1, by go_num, by omega, ⟨_, rfl⟩⟩
      case measure => simp [intOf]; omega
    · have t1 : decide ((k : Int) < (nl : Int)) = false := by rw [decide_eq_false_iff_not]; omega
      have t1' : decide (k < nl) = false := by simpa using hlt
      go_wp2_with fail
      go_ret
      exact ⟨rfl, _, rfl⟩
end Go.Proofs.Ytckjdpnmalkpnaa

/- TrailPairsMatchSpec: the walk. -/
namespace Go.Proofs.Ytckjdpnmalkpnaa
open Go.RowKit Go.BigFrame

theorem PairRet.parts {L : List Ab} {most least apart : Int} {w w' : World} {e : Ending} (h : PairRet L most least apart w e w') : ∃ a c, e = .returned (.tuple #[.slice a (pairO L most least apart).length c, .int .i64 (pairE L most least apart)]) ∧ Rw prC 2 w' a (pairO L most least apart) ∧ Below w.heap.size w w' := by
  obtain ⟨v, he, ho, hb⟩ := h
  obtain ⟨a, c, rfl, _, hr⟩ := ho.row
  exact ⟨a, c, he, hr, hb⟩
theorem pairO_few (L : List Ab) (most least apart : Int) : (pairO L most least apart).length ≤ 1000000 := by
  unfold pairO
  split
  · rename_i h
    have h30 : ¬ 30 < L.length := fun h3 => by rw [pairE_many h3] at h; cases h
    have := (pairF_inv (oneS L) (nearP L most least apart) L.length).few
    omega
  · simp
set_option maxHeartbeats 4000000 in
set_option maxRecDepth 100000 in
theorem pairs_law (L : List Ab) (la : Option Addr) (lc : Nat) (most least apart : Int) (w : World) (hL : LIn w la L) :
    Calls Try.prog 6 #[.slice la L.length lc, .int .i64 most, .int .i64 least, .int .i64 apart] w fun e w' => e = .returned (.bool true) ∧ Below w.heap.size w w' := by
  have D1 := Lib.hid ((pair_any L la lc most least apart w hL).mono fun e w' h => h.parts)
  have D2 := Lib.hid (fun (W : World) (hb : Below w.heap.size w W) => (rpair_any L la lc most least apart W (hL.below hb)).mono fun e w' h => h.parts)
  have D3 := Lib.hid (fun (a b : Option Addr) (c d : Nat) (W : World) (hr : Rw prC 2 W a (pairO L most least apart)) (hq : Rw prC 2 W b (pairO L most least apart)) => equalP_self (pairO L most least apart) a b c d W hr hq (pairO_few L most least apart))
  generalize pairO L most least apart = out at *
  generalize pairE L most least apart = er at *
  generalize L.length = n at *
  have be : (er == er) = true := by simp
  clear hL
  go_enter Try.func6, Try.ntmps6
  go_wp2_with fail
  refine D1.out.mono ?_
  rintro e w1 ⟨a1, c1, rfl, hr1, hb1⟩
  have HR1 := Lib.hid hr1
  have HB1 := Lib.hid hb1
  clear hr1 hb1 D1
  go_wp2_with fail
  refine (D2.out _ HB1.out).mono ?_
  rintro e w2 ⟨a2, c2, rfl, hr2, hb2⟩
  have HR2 := Lib.hid hr2
  have HR1 := Lib.hid (HR1.out.below hb2)
  have HB2 := Lib.hid (below_step HB1.out hb2)
  clear hr2 hb2 D2
  go_wp2_with fail
  refine (D3.out _ _ _ _ _ HR1.out HR2.out).mono ?_
  rintro e w3 ⟨rfl, q, rfl⟩
  have HB3 := Lib.hid (below_drewN HB2.out q)
  go_wp2_with fail
  refine (told2_any _).mono ?_
  rintro e w6 ⟨rfl, hb6⟩
  have HB6 := Lib.hid (below_step HB3.out hb6)
  clear hb6
  go_wp2_with fail
  go_ret
  exact ⟨rfl, HB6.out⟩
end Go.Proofs.Ytckjdpnmalkpnaa

/- A list of activities that came in: how it reads. -/
namespace Go.Proofs.Ytckjdpnmalkpnaa
open Go.ChangeShapes Go.WideShapes Go.ChangeAt Go.RowKit Go.Deep

instance : Inhabited Ab := ⟨⟨⟨⟨#[]⟩, 0, 0, [], [], []⟩, none, none, none, 0, 0, 0⟩⟩
theorem readActs : Try.prog.readableRec 42 = true := by kernel_rfl
theorem rowActs : 42 < Try.prog.types.size := of_decide_eq_true (by kernel_rfl)
theorem slice_one6 {P : Program} {W : World} {r : Reach} {b0 : Nat} {t e : TypeId} {v : Value} (hu : P.underlying t = some (.slice e)) (hv : Value.okWide P W r b0 t v) : v.cells.toList = [v] := by
  obtain ⟨a, l, c, rfl⟩ := okWide_slice hu hv
  rfl
set_option maxRecDepth 100000 in
theorem open_acts {H : Type} {enc : TypeId × Value → H} {W : World} {r : Reach} {b0 base : Nat} {v : Value} {d : DataW H} {p : List MemPlace}
    (hv : Value.okWide Try.prog W r b0 42 v) (h : DataW.Trod enc Try.prog W base (fun _ => true) true 42 v d p) :
    ∃ (L : List Ab) (a : Option Addr) (c : Nat), v = .slice a L.length c ∧ L.length ≤ c ∧ LIn W a L := by
  obtain ⟨fuel, hf⟩ := h
  rw [slice_one6 Try.underlying42 hv] at hf
  obtain ⟨a0, n0, c0, V0, rfl, l0, m0, R0, F0⟩ := open_rowK (P := Try.prog) Try.underlying42 Try.underlying35 (by kernel_rfl) (show 0 < 6 by decide) (hone_of (by kernel_rfl)) hf
  have each : ∀ i, i < n0 → ∃ x : Ab, V0 i = abC x ∧ ActIn W x.A x.a x.b x.c := fun i hi => by
    obtain ⟨A, a, b, c, ca, cb, cc, e, hA, _⟩ := act_cells (F0 i hi).1 (fun j f hj => (F0 i hi).2 j f (by simpa only [Program.fieldsOf, Try.underlying35] using hj))
    exact ⟨⟨A, a, b, c, ca, cb, cc⟩, e, hA⟩
  obtain ⟨X, hX⟩ := choose_lt each
  refine ⟨(List.range n0).map X, a0, c0, by rw [List.length_map, List.length_range], by rw [List.length_map, List.length_range]; exact l0, rw_of (fun _ => rfl) R0 (fun i hi => (hX i hi).1), fun x hx => ?_⟩
  obtain ⟨i, hi, rfl⟩ := List.mem_map.1 hx
  exact (hX i (List.mem_range.1 hi)).2
end Go.Proofs.Ytckjdpnmalkpnaa
