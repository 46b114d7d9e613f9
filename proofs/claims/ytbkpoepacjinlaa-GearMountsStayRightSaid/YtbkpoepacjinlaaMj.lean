/- Several texts of this claim in one. -/
import Derived.Test.YtbkpoepacjinlaaMi
import Derived.Test.YtbkpoepacjinlaaGi
import Derived.Test.YtbkpoepacjinlaaGy
import Derived.Laws.OwnMore
/- Gear: a part mounted, or taken: what Put and Take return, in plain lists; what they keep right. -/
namespace Go.Proofs.Ytbkpoepacjinlaa
open Go Go.Sort
open Gar (endG momG chkP chkS chkM chkU chk anyOver overB hasS hasP befM befU chkUse)

section ins2
variable {α : Type} {lt : α → α → Bool} {R : α → α → Prop}
theorem insL_pair (hO : SWO lt) (u : α) : ∀ l : List α, l.Pairwise R → l.Pairwise (fun x y => lt x y = true) → (∀ x, x ∈ l → (lt x u = true → R x u) ∧ (lt u x = true → R u x) ∧ (lt x u = true ∨ lt u x = true)) → (insL lt u l).Pairwise R
  | [], _, _, _ => by simp [insL]
  | a :: l, h, hl, hd => by
    rw [List.pairwise_cons] at h hl
    rw [insL]
    split
    · rename_i ha
      rw [List.pairwise_cons]
      refine ⟨fun x hx => ?_, insL_pair hO u l h.2 hl.2 fun x hx => hd x (by simp [hx])⟩
      rcases insL_mem hx with rfl | hx
      · exact (hd a (by simp)).1 ha
      · exact h.1 x hx
    · rename_i ha
      have hua : lt u a = true := (hd a (by simp)).2.2.resolve_left ha
      rw [List.pairwise_cons, List.pairwise_cons]
      refine ⟨fun x hx => ?_, h⟩
      rcases List.mem_cons.1 hx with rfl | hx
      · exact (hd x (by simp)).2.1 hua
      · exact (hd x (by simp [hx])).2.1 (hO.trans _ _ _ hua (hl.1 x hx))
theorem insL_find {p : α → Bool} {u : α} (hu : p u = false) : ∀ l : List α, (insL lt u l).find? p = l.find? p
  | [] => by simp [insL, hu]
  | a :: l => by
    rw [insL]
    split
    · rw [List.find?_cons, List.find?_cons, insL_find hu l]
    · rw [List.find?_cons, hu]
theorem insL_self (u : α) (l : List α) : u ∈ insL lt u l := (insL_perm u l).symm.subset (by simp)
end ins2

structure Mo where
  s : ByteArray
  p : ByteArray
  f : Int
  t : Int
instance : Inhabited Mo := ⟨⟨⟨#[]⟩, ⟨#[]⟩, 0, 0⟩⟩
def encM (m : Mo) : List Value := [.string m.s, .string m.p, .int .i64 m.f, .int .i64 m.t]
theorem encM_one (u : Mo) : ∀ v ∈ encM u, v.oneCell' = true := by
  intro v hv
  simp only [encM, List.mem_cons, List.not_mem_nil, or_false] at hv
  rcases hv with rfl | rfl | rfl | rfl <;> rfl
def befm (a b : Mo) : Bool := befB a.f b.f a.s b.s
theorem swo_befm : SWO befm := swo_bef Mo.f Mo.s
def Mo.c (m : Mo) (a : Int) : Bool := isG m.f m.t a
theorem Mo.c_iff {m : Mo} {a : Int} : m.c a = true ↔ m.f ≤ a ∧ a < endG m.t := by simp [Mo.c, isG]
theorem endG_nn {t : Int} (h : 0 ≤ t) : endG t = t := by unfold endG; rw [if_neg (by omega)]
theorem momG_iff {n : Int} : momG n = true ↔ 0 ≤ n ∧ n ≤ 86399999999 := by simp [momG]
/-- two mounts in order: apart where they have the slot, or the part, in common -/
def Rm (a b : Mo) : Prop := befm a b = true ∧ (a.s = b.s ∨ a.p = b.p → endG a.t ≤ b.f)
structure FineM (g : Gar) (m : Mo) : Prop where
  hs : hasS g m.s = true
  hp : hasP g m.p = true
  hf : momG m.f = true
  ht : m.t = -1 ∨ momG m.t = true
  lt : ¬ (m.t ≠ -1 ∧ m.t ≤ m.f)
theorem FineM.end {g : Gar} {m : Mo} (h : FineM g m) : m.f < endG m.t := by
  have h1 := momG_iff.1 h.hf
  unfold endG
  split
  · omega
  · rename_i hn
    rcases h.ht with e | e
    · omega
    · have := h.lt
      by_cases e : m.t = -1
      · omega
      · rcases Int.lt_or_le m.f m.t with h4 | h4
        · exact h4
        · exact absurd ⟨e, h4⟩ this
structure RightM (g : Gar) (l : List Mo) : Prop where
  len : l.length ≤ 2000
  fine : ∀ m, m ∈ l → FineM g m
  pair : l.Pairwise Rm
theorem RightM.ord {g : Gar} {l : List Mo} (h : RightM g l) : l.Pairwise fun a b => befm a b = true := h.pair.imp fun h => h.1
/-- two that have something in common and are there at one moment are one -/
theorem RightM.one {g : Gar} {l : List Mo} (h : RightM g l) {a b : Mo} (ha : a ∈ l) (hb : b ∈ l) (hc : a.s = b.s ∨ a.p = b.p) {x : Int} (h1 : a.c x = true) (h2 : b.c x = true) : a = b := by
  obtain ⟨i, hi, rfl⟩ := List.getElem_of_mem ha
  obtain ⟨j, hj, rfl⟩ := List.getElem_of_mem hb
  rw [Mo.c_iff] at h1 h2
  have hp := List.pairwise_iff_getElem.1 h.pair
  rcases Nat.lt_trichotomy i j with e | e | e
  · have := (hp i j hi hj e).2 hc
    omega
  · subst e; rfl
  · have := (hp j i hj hi e).2 (hc.imp Eq.symm Eq.symm)
    omega
/-- what is in a slot at a moment -/
def inL (slot : ByteArray) (x : Int) (l : List Mo) : Option ByteArray := (l.find? fun m => decide (m.s = slot) && m.c x).map Mo.p
theorem inL_mem {slot : ByteArray} {x : Int} {l : List Mo} {p : ByteArray} (h : inL slot x l = some p) : ∃ m, m ∈ l ∧ m.s = slot ∧ m.c x = true ∧ m.p = p := by
  unfold inL at h
  cases hf : l.find? fun m => decide (m.s = slot) && m.c x with
  | none => rw [hf] at h; simp at h
  | some m =>
    rw [hf] at h
    simp at h
    have h1 := List.find?_some hf
    simp at h1
    exact ⟨m, List.mem_of_find?_eq_some hf, h1.1, h1.2, h⟩
theorem inL_of {g : Gar} {l : List Mo} (h : RightM g l) {m : Mo} (hm : m ∈ l) {x : Int} (hc : m.c x = true) : inL m.s x l = some m.p := by
  cases hf : l.find? fun y => decide (y.s = m.s) && y.c x with
  | none =>
    rw [List.find?_eq_none] at hf
    have := hf m hm
    simp [hc] at this
  | some y =>
    have h1 := List.find?_some hf
    simp at h1
    have e := h.one (List.mem_of_find?_eq_some hf) hm (Or.inl h1.1) h1.2 hc
    unfold inL
    rw [hf, e]
    rfl
theorem inL_none {slot : ByteArray} {x : Int} {l : List Mo} (h : ∀ m, m ∈ l → m.s = slot → m.c x = false) : inL slot x l = none := by
  unfold inL
  rw [List.find?_eq_none.2]
  · rfl
  · intro m hm
    by_cases e : m.s = slot
    · simp [h m hm e]
    · simp [e]

/-! some that are there at a moment end at it -/
def endO (q : Mo → Bool) (x : Int) (m : Mo) : Option Mo := if (m.c x && q m) = true then (if m.f = x then none else some ⟨m.s, m.p, m.f, x⟩) else some m
def endL (q : Mo → Bool) (x : Int) (l : List Mo) : List Mo := l.filterMap (endO q x)
theorem endO_some {q : Mo → Bool} {x : Int} {m b : Mo} (h : endO q x m = some b) : (m.c x = true ∧ q m = true ∧ m.f ≠ x ∧ b = ⟨m.s, m.p, m.f, x⟩) ∨ ((m.c x && q m) = false ∧ b = m) := by
  unfold endO at h
  split at h
  · rename_i a
    rw [Bool.and_eq_true] at a
    split at h
    · cases h
    · rename_i c
      injection h with h
      exact Or.inl ⟨a.1, a.2, c, h.symm⟩
  · rename_i a
    injection h with h
    exact Or.inr ⟨by simpa using a, h.symm⟩
theorem endO_keeps {q : Mo → Bool} {x : Int} (hx : 0 ≤ x) {m b : Mo} (h : endO q x m = some b) : b.s = m.s ∧ b.p = m.p ∧ b.f = m.f ∧ endG b.t ≤ endG m.t := by
  rcases endO_some h with ⟨h1, _, _, rfl⟩ | ⟨_, rfl⟩
  · refine ⟨rfl, rfl, rfl, ?_⟩
    have := (Mo.c_iff.1 h1).2
    show endG x ≤ _
    rw [endG_nn hx]
    omega
  · exact ⟨rfl, rfl, rfl, Int.le_refl _⟩
theorem endL_len (q : Mo → Bool) (x : Int) (l : List Mo) : (endL q x l).length ≤ l.length := List.length_filterMap_le _ _
theorem endL_right {g : Gar} {l : List Mo} (h : RightM g l) {x : Int} (hx : momG x = true) (q : Mo → Bool) : RightM g (endL q x l) := by
  have hx0 := momG_iff.1 hx
  refine ⟨Nat.le_trans (endL_len q x l) h.len, fun b hb => ?_, ?_⟩
  · obtain ⟨m, hm, hb⟩ := List.mem_filterMap.1 hb
    have hf := h.fine m hm
    rcases endO_some hb with ⟨h1, _, h3, rfl⟩ | ⟨_, rfl⟩
    · have := (Mo.c_iff.1 h1).1
      exact ⟨hf.hs, hf.hp, hf.hf, Or.inr hx, fun e => by have := e.2; simp at this; omega⟩
    · exact hf
  · refine List.Pairwise.filterMap _ (fun a a' hr b hb b' hb' => ?_) h.pair
    obtain ⟨e1, e2, e3, e4⟩ := endO_keeps hx0.1 hb
    obtain ⟨f1, f2, f3, _⟩ := endO_keeps hx0.1 hb'
    refine ⟨?_, fun hc => ?_⟩
    · have := hr.1
      unfold befm at this ⊢
      rw [e1, e3, f1, f3]
      exact this
    · rw [e1, e2, f1, f2] at hc
      have := hr.2 hc
      rw [f3]
      omega

/-! the next start -/
def nxt (q : Mo → Bool) (x : Int) (t : Int) (m : Mo) : Int := if (q m && decide (x < m.f) && (decide (t < 0) || decide (m.f < t))) = true then m.f else t
def nextT (q : Mo → Bool) (x : Int) (l : List Mo) : Int := l.foldl (nxt q x) (-1)
theorem nxt_end {q : Mo → Bool} {x : Int} (hq : ∀ a b : Mo, a.s = b.s → a.p = b.p → q a = q b) : ∀ (l : List Mo) (t : Int), (endL q x l).foldl (nxt q x) t = l.foldl (nxt q x) t
  | [], _ => rfl
  | m :: l, t => by
    unfold endL
    rw [List.filterMap_cons]
    cases h : endO q x m with
    | none =>
      have e : nxt q x t m = t := by
        unfold endO at h
        split at h
        · split at h
          · rename_i e
            unfold nxt
            rw [if_neg]
            simp
            omega
          · cases h
        · cases h
      rw [List.foldl_cons, e]
      exact nxt_end hq l t
    | some b =>
      have e : nxt q x t b = nxt q x t m := by
        rcases endO_some h with ⟨_, _, _, rfl⟩ | ⟨_, rfl⟩
        · unfold nxt
          rw [hq ⟨m.s, m.p, m.f, x⟩ m rfl rfl]
        · rfl
      simp only
      rw [List.foldl_cons, List.foldl_cons, e]
      exact nxt_end hq l _
theorem nextT_end {q : Mo → Bool} {x : Int} (hq : ∀ a b : Mo, a.s = b.s → a.p = b.p → q a = q b) (l : List Mo) : nextT q x (endL q x l) = nextT q x l := nxt_end hq l _
def NextIs (q : Mo → Bool) (x : Int) (l : List Mo) (t : Int) : Prop := (t = -1 ∧ ∀ m, m ∈ l → q m = true → ¬ x < m.f) ∨ (0 ≤ t ∧ x < t ∧ (∃ m, m ∈ l ∧ q m = true ∧ m.f = t) ∧ ∀ m, m ∈ l → q m = true → x < m.f → t ≤ m.f)
theorem next_step {q : Mo → Bool} {x : Int} {l : List Mo} {t : Int} {m : Mo} (hx : 0 ≤ x) (h : NextIs q x l t) : NextIs q x (l ++ [m]) (nxt q x t m) := by
  unfold nxt
  split
  · rename_i a
    simp only [Bool.and_eq_true, Bool.or_eq_true, decide_eq_true_eq] at a
    obtain ⟨⟨a1, a2⟩, a3⟩ := a
    refine Or.inr ⟨by omega, a2, ⟨m, by simp, a1, rfl⟩, fun y hy hq hl => ?_⟩
    rcases List.mem_append.1 hy with hy | hy
    · rcases h with ⟨_, h2⟩ | ⟨h1, _, _, h4⟩
      · exact absurd hl (h2 y hy hq)
      · have := h4 y hy hq hl
        omega
    · rw [List.mem_singleton.1 hy]
      exact Int.le_refl _
  · rename_i a
    rcases h with ⟨h1, h2⟩ | ⟨h1, h2, ⟨y, hy, hq, hyt⟩, h4⟩
    · refine Or.inl ⟨h1, fun y hy hq hl => ?_⟩
      rcases List.mem_append.1 hy with hy | hy
      · exact h2 y hy hq hl
      · rw [List.mem_singleton.1 hy] at hq hl
        apply a
        simp [hq, hl]
        omega
    · refine Or.inr ⟨h1, h2, ⟨y, by simp [hy], hq, hyt⟩, fun z hz hq' hl => ?_⟩
      rcases List.mem_append.1 hz with hz | hz
      · exact h4 z hz hq' hl
      · rw [List.mem_singleton.1 hz] at hq' hl ⊢
        rcases Int.lt_or_le m.f t with e | e
        · exfalso
          apply a
          simp [hq', hl, e]
        · exact e
theorem next_is (q : Mo → Bool) {x : Int} (hx : 0 ≤ x) : ∀ (l2 l1 : List Mo) (t : Int), NextIs q x l1 t → NextIs q x (l1 ++ l2) (l2.foldl (nxt q x) t)
  | [], l1, t, h => by simpa using h
  | m :: l2, l1, t, h => by
    have := next_is q hx l2 (l1 ++ [m]) _ (next_step hx h (m := m))
    rw [List.append_assoc] at this
    exact this
theorem nextT_is (q : Mo → Bool) {x : Int} (hx : 0 ≤ x) (l : List Mo) : NextIs q x l (nextT q x l) := by
  have := next_is q hx l [] (-1) (Or.inl ⟨rfl, fun m hm => by simp at hm⟩)
  exact this

/-! Put -/
def mineB (slot part : ByteArray) (m : Mo) : Bool := decide (m.s = slot) || decide (m.p = part)
def bothB (slot part : ByteArray) (m : Mo) : Bool := decide (m.s = slot) && decide (m.p = part)
theorem mine_sp (slot part : ByteArray) : ∀ a b : Mo, a.s = b.s → a.p = b.p → mineB slot part a = mineB slot part b := fun a b h1 h2 => by unfold mineB; rw [h1, h2]
theorem mine_iff {slot part : ByteArray} {m : Mo} : mineB slot part m = true ↔ m.s = slot ∨ m.p = part := by simp [mineB]
def newM (slot part : ByteArray) (x : Int) (l : List Mo) : Mo := ⟨slot, part, x, nextT (mineB slot part) x l⟩
def putL (slot part : ByteArray) (x : Int) (l : List Mo) : List Mo := insL befm (newM slot part x l) (endL (mineB slot part) x l)
/-- what is left of mine, once ended, at a moment -/
theorem end_mine {g : Gar} {l : List Mo} (h : RightM g l) {q : Mo → Bool} {x : Int} {b : Mo} (hb : b ∈ endL q x l) (_hq : ∀ a b : Mo, a.s = b.s → a.p = b.p → q a = q b) (hm : q b = true) : (b.f < x ∧ (0 ≤ x → endG b.t ≤ x)) ∨ (x < b.f ∧ b ∈ l) := by
  obtain ⟨m, hml, hb⟩ := List.mem_filterMap.1 hb
  have hf := (h.fine m hml).end
  rcases endO_some hb with ⟨h1, _, h3, rfl⟩ | ⟨h1, rfl⟩
  · have h4 := Mo.c_iff.1 h1
    refine Or.inl ⟨by show m.f < x; omega, fun h0 => ?_⟩
    show endG x ≤ x
    rw [endG_nn h0]
    exact Int.le_refl _
  · rw [hm, Bool.and_true] at h1
    have h2 : ¬ (b.f ≤ x ∧ x < endG b.t) := fun e => by rw [Mo.c_iff.2 e] at h1; cases h1
    rcases Int.lt_or_le x b.f with e | e
    · exact Or.inr ⟨e, hml⟩
    · exact Or.inl ⟨by omega, fun _ => by omega⟩
theorem put_tri {g : Gar} {l : List Mo} (h : RightM g l) {slot part : ByteArray} {x : Int} {b : Mo} (hb : b ∈ endL (mineB slot part) x l) : befm b (newM slot part x l) = true ∨ befm (newM slot part x l) b = true := by
  rcases befB_tot b.f x b.s slot with e | e | ⟨e1, e2⟩
  · exact Or.inl e
  · exact Or.inr e
  · rcases end_mine h hb (mine_sp slot part) (mine_iff.2 (Or.inl e2)) with ⟨e, _⟩ | ⟨e, _⟩ <;> omega
theorem put_right {g : Gar} {l : List Mo} (h : RightM g l) {slot part : ByteArray} {x : Int} (hs : hasS g slot = true) (hp : hasP g part = true) (hx : momG x = true) (hl : (putL slot part x l).length ≤ 2000) : RightM g (putL slot part x l) := by
  have he := endL_right h hx (mineB slot part)
  have hx0 := momG_iff.1 hx
  have hn := nextT_is (mineB slot part) hx0.1 l
  refine ⟨hl, fun m hm => ?_, ?_⟩
  · rcases insL_mem hm with rfl | hm
    · refine ⟨hs, hp, hx, ?_, ?_⟩
      · rcases hn with ⟨e, _⟩ | ⟨_, _, ⟨y, hy, _, hyt⟩, _⟩
        · exact Or.inl e
        · refine Or.inr ?_
          show momG (nextT _ x l) = true
          rw [← hyt]
          exact (h.fine y hy).hf
      · rintro ⟨e1, e2⟩
        rcases hn with ⟨e, _⟩ | ⟨_, e, _⟩
        · exact e1 e
        · have : nextT (mineB slot part) x l ≤ x := e2
          omega
    · exact he.fine m hm
  · refine insL_pair swo_befm _ _ he.pair he.ord fun b hb => ⟨fun hlt => ⟨hlt, fun hc => ?_⟩, fun hlt => ⟨hlt, fun hc => ?_⟩, put_tri h hb⟩
    · have hm : mineB slot part b = true := mine_iff.2 hc
      show endG b.t ≤ x
      rcases end_mine h hb (mine_sp slot part) hm with ⟨_, e⟩ | ⟨e, _⟩
      · exact e hx0.1
      · rcases befB_iff.1 hlt with e2 | ⟨e2, _⟩
        · have : b.f < x := e2
          omega
        · have : b.f = x := e2
          omega
    · have hm : mineB slot part b = true := mine_iff.2 (hc.imp Eq.symm Eq.symm)
      show endG (nextT (mineB slot part) x l) ≤ b.f
      rcases end_mine h hb (mine_sp slot part) hm with ⟨e, _⟩ | ⟨e, hbl⟩
      · rcases befB_iff.1 hlt with e2 | ⟨e2, _⟩
        · have : x < b.f := e2
          omega
        · have : x = b.f := e2
          omega
      · rcases hn with ⟨_, e2⟩ | ⟨e1, _, _, e4⟩
        · exact absurd e (e2 b hbl hm)
        · rw [endG_nn e1]
          exact e4 b hbl hm e
theorem new_covers {slot part : ByteArray} {x : Int} (hx : momG x = true) (l : List Mo) : (newM slot part x l).c x = true := by
  have hx0 := momG_iff.1 hx
  rw [Mo.c_iff]
  refine ⟨Int.le_refl _, ?_⟩
  show x < endG (nextT (mineB slot part) x l)
  rcases nextT_is (mineB slot part) hx0.1 l with ⟨e, _⟩ | ⟨e1, e2, _⟩
  · rw [e]
    unfold endG
    rw [if_pos (by omega)]
    omega
  · rw [endG_nn e1]
    exact e2
/-- the part is in the slot then -/
theorem put_in {g : Gar} {l : List Mo} {slot part : ByteArray} {x : Int} (h : RightM g (putL slot part x l)) (hx : momG x = true) : inL slot x (putL slot part x l) = some part :=
  inL_of h (m := newM slot part x l) (insL_self _ _) (new_covers hx l)
/-- and in no other one -/
theorem put_else {g : Gar} {l : List Mo} {slot part : ByteArray} {x : Int} (h : RightM g (putL slot part x l)) (hx : momG x = true) {s : ByteArray} (hs : s ≠ slot) : inL s x (putL slot part x l) ≠ some part := by
  intro hi
  obtain ⟨m, hm, h1, h2, h3⟩ := inL_mem hi
  have e := h.one hm (insL_self (newM slot part x l) _) (Or.inr h3) h2 (new_covers hx l)
  apply hs
  rw [← h1, e]
  rfl
theorem find_end {q : Mo → Bool} {x y : Int} (hy : y < x) (hx : 0 ≤ x) (s : ByteArray) : ∀ l : List Mo, inL s y (endL q x l) = inL s y l
  | [] => rfl
  | m :: l => by
    have ih := find_end (q := q) hy hx s l
    unfold inL endL at ih ⊢
    rw [List.filterMap_cons, List.find?_cons]
    cases h : endO q x m with
    | none =>
      have e : m.c y = false := by
        unfold endO at h
        split at h
        · split at h
          · rename_i e
            cases hc : m.c y with
            | false => rfl
            | true => have := Mo.c_iff.1 hc; omega
          · cases h
        · cases h
      simp only [e, Bool.and_false]
      exact ih
    | some b =>
      obtain ⟨e1, e2, e3, _⟩ := endO_keeps hx h
      have e : b.c y = m.c y := by
        rcases endO_some h with ⟨h1, _, _, rfl⟩ | ⟨_, rfl⟩
        · have h2 := Mo.c_iff.1 h1
          rw [Bool.eq_iff_iff, Mo.c_iff, Mo.c_iff]
          show m.f ≤ y ∧ y < endG x ↔ _
          rw [endG_nn hx]
          omega
        · rfl
      simp only
      rw [List.find?_cons, e1, e]
      cases hc : (decide (m.s = s) && m.c y)
      · exact ih
      · show some b.p = some m.p
        rw [e2]
/-- before this moment nothing has changed -/
theorem put_before {l : List Mo} {slot part : ByteArray} {x y : Int} (hy : y < x) (hx : 0 ≤ x) (s : ByteArray) : inL s y (putL slot part x l) = inL s y l := by
  rw [← find_end (q := mineB slot part) hy hx s l]
  unfold inL putL
  rw [insL_find]
  have : (newM slot part x l).c y = false := by
    cases hc : (newM slot part x l).c y with
    | false => rfl
    | true =>
      have : x ≤ y := (Mo.c_iff.1 hc).1
      omega
  rw [this, Bool.and_false]
/-- after Take the slot is empty then -/
theorem take_none {g : Gar} {l : List Mo} (h : RightM g l) {slot part : ByteArray} {x : Int} (hx : 0 ≤ x) (hi : inL slot x l = some part) : inL slot x (endL (bothB slot part) x l) = none := by
  obtain ⟨m0, h0, h1, h2, h3⟩ := inL_mem hi
  refine inL_none fun b hb hs => ?_
  obtain ⟨m, hm, hb⟩ := List.mem_filterMap.1 hb
  rcases endO_some hb with ⟨h4, _, _, rfl⟩ | ⟨h4, rfl⟩
  · cases hc : (⟨m.s, m.p, m.f, x⟩ : Mo).c x with
    | false => rfl
    | true =>
      have : x < endG x := (Mo.c_iff.1 hc).2
      rw [endG_nn hx] at this
      omega
  · cases hc : b.c x with
    | false => rfl
    | true =>
      have e := h.one hm h0 (Or.inl (hs.trans h1.symm)) hc h2
      subst e
      rw [hc, Bool.true_and] at h4
      unfold bothB at h4
      simp [h1, h3] at h4
end Go.Proofs.Ytbkpoepacjinlaa

/- Gear: the garage that Put and Take return; what is in it. -/
namespace Go.Proofs.Ytbkpoepacjinlaa
open Go Go.Sort
open Gar (endG momG chkP chkS chkM chkU chk anyOver overB hasS hasP befM befU chkUse)

namespace Gar
def mn (g : Gar) (i : Nat) : Mo := ⟨g.ms i, g.mp i, g.mf i, g.mt i⟩
def mnts (g : Gar) : List Mo := (List.range g.nm).map g.mn
def setM (g : Gar) (l : List Mo) : Gar := { g with nm := l.length, ms := fun i => (l.getD i default).s, mp := fun i => (l.getD i default).p, mf := fun i => (l.getD i default).f, mt := fun i => (l.getD i default).t }
theorem mnts_len (g : Gar) : g.mnts.length = g.nm := by simp [mnts]
theorem mnts_get (g : Gar) {i : Nat} (h : i < g.nm) : g.mnts[i]'(by rw [mnts_len]; exact h) = g.mn i := by simp [mnts]
theorem mnts_getD (g : Gar) {i : Nat} (h : i < g.nm) : g.mnts.getD i default = g.mn i := by
  rw [List.getD_eq_getElem?_getD, List.getElem?_eq_getElem (by rw [mnts_len]; exact h), Option.getD_some, mnts_get g h]
theorem setM_mnts (g : Gar) (l : List Mo) : (g.setM l).mnts = l := by
  apply List.ext_getElem (by simp [mnts, setM])
  intro i h1 h2
  have h3 : i < (g.setM l).nm := h2
  rw [mnts_get _ h3]
  show (⟨(l.getD i default).s, (l.getD i default).p, (l.getD i default).f, (l.getD i default).t⟩ : Mo) = l[i]
  rw [List.getD_eq_getElem?_getD, List.getElem?_eq_getElem h2, Option.getD_some]
  cases l[i]
  rfl
theorem rangeM_map (l : List Mo) : (List.range l.length).map (fun i => l.getD i default) = l := by
  apply List.ext_getElem (by simp)
  intro i h1 h2
  simp [List.getD_eq_getElem?_getD, List.getElem?_eq_getElem h2]
theorem chkP_setM (g : Gar) (l : List Mo) : ∀ n k, chkP (g.setM l) n k = chkP g n k
  | 0, _ => rfl
  | n + 1, k => by rw [chkP, chkP, chkP_setM g l n]; rfl
theorem chkS_setM (g : Gar) (l : List Mo) : ∀ n k, chkS (g.setM l) n k = chkS g n k
  | 0, _ => rfl
  | n + 1, k => by rw [chkS, chkS, chkS_setM g l n]; rfl
theorem chkU_setM (g : Gar) (l : List Mo) : ∀ n k, chkU (g.setM l) n k = chkU g n k
  | 0, _ => rfl
  | n + 1, k => by rw [chkU, chkU, chkU_setM g l n]; rfl
theorem chkM_zero {g : Gar} : ∀ n k, (∀ i, k ≤ i → i < k + n → (hasS g (g.ms i) && hasP g (g.mp i)) = true ∧ (momG (g.mf i) && (decide (g.mt i = -1) || momG (g.mt i))) = true ∧ ¬ (g.mt i ≠ -1 ∧ g.mt i ≤ g.mf i) ∧ (0 < i → befM g (i - 1) i = true)) → chkM g n k = 0
  | 0, _, _ => rfl
  | n + 1, k, h => by
    obtain ⟨h1, h2, h3, h4⟩ := h k (Nat.le_refl _) (by omega)
    rw [chkM, if_neg (by rw [h1]; simp), if_neg (by rw [h2]; simp), if_neg (fun e => e.elim h3 fun ⟨a, b⟩ => by rw [h4 a] at b; cases b)]
    exact chkM_zero n (k + 1) fun i hi hi2 => h i (by omega) (by omega)
theorem right_mnts {g : Gar} (h : chk g = 0) : RightM g g.mnts := by
  have hp := chk_parts h
  have hm := hp.2.2.2.2.2.2.1
  have ho := hp.2.2.2.2.2.2.2.1
  refine ⟨by rw [mnts_len]; exact hp.2.2.1, fun m hmm => ?_, ?_⟩
  · obtain ⟨i, hi, rfl⟩ := List.mem_map.1 hmm
    have hi := List.mem_range.1 hi
    obtain ⟨h1, h2, h3, _⟩ := chkM_each g.nm 0 hm i (by omega) (by omega)
    exact ⟨h1.1, h1.2, h2.1, h2.2, h3⟩
  · rw [List.pairwise_iff_getElem]
    intro i j hi hj hij
    rw [mnts_len] at hi hj
    rw [mnts_get g hi, mnts_get g hj]
    have step : ∀ k, 0 < k → k < g.nm → befm (g.mn (k - 1)) (g.mn k) = true := fun k h1 h2 => (chkM_each g.nm 0 hm k (by omega) (by omega)).2.2.2 h1
    have key : ∀ j, i < j → j < g.nm → befm (g.mn i) (g.mn j) = true := by
      intro j
      induction j with
      | zero => intro h; omega
      | succ j ih =>
        intro h1 h2
        have hs := step (j + 1) (by omega) h2
        by_cases e : i = j
        · subst e; exact hs
        · exact swo_befm.trans _ _ _ (ih (by omega) (by omega)) hs
    exact ⟨key j hij hj, fun hc => apart hm ho hij hj hc⟩
theorem chk_setM {g : Gar} (h : chk g = 0) {l : List Mo} (hl : RightM g l) : chk (g.setM l) = 0 := by
  obtain ⟨p0, p1, p2, p3, p4, p5, p6, p7, p8⟩ := chk_parts h
  have e : ∀ j, j < l.length → l.getD j default = l[j]! := fun j hj => by rw [List.getD_eq_getElem?_getD, List.getElem?_eq_getElem hj, Option.getD_some, getElem!_pos l j hj]
  have hpair := List.pairwise_iff_getElem.1 hl.pair
  have hm : chkM (g.setM l) (g.setM l).nm 0 = 0 := by
    refine chkM_zero _ _ fun i _ hi => ?_
    have hi : i < l.length := by simpa [setM] using hi
    have hf := hl.fine (l.getD i default) (by rw [e i hi, getElem!_pos l i hi]; exact List.getElem_mem hi)
    refine ⟨?_, ?_, hf.lt, fun h0 => ?_⟩
    · show (hasS g (l.getD i default).s && hasP g (l.getD i default).p) = true
      rw [hf.hs, hf.hp]
      rfl
    · show (momG (l.getD i default).f && (decide ((l.getD i default).t = -1) || momG (l.getD i default).t)) = true
      rw [hf.hf, Bool.true_and, Bool.or_eq_true, decide_eq_true_eq]
      exact hf.ht
    · have := (hpair (i - 1) i (by omega) hi (by omega)).1
      show befm (l.getD (i - 1) default) (l.getD i default) = true
      rw [e (i - 1) (by omega), e i hi, getElem!_pos l (i - 1) (by omega), getElem!_pos l i hi]
      exact this
  have ha : anyOver (g.setM l) = false := by
    unfold anyOver
    rw [List.any_eq_false]
    intro k hk
    have hk : k < l.length := by simpa [setM] using hk
    rw [Bool.not_eq_true, List.any_eq_false]
    intro i hi
    have hi := List.mem_range.1 hi
    have hp := (hpair i k (by omega) hk hi).2
    rw [Bool.not_eq_true]
    show ((decide ((l.getD i default).s = (l.getD k default).s) || decide ((l.getD i default).p = (l.getD k default).p)) && decide (max (l.getD i default).f (l.getD k default).f < min (endG (l.getD i default).t) (endG (l.getD k default).t))) = false
    rw [e i (by omega), e k hk, getElem!_pos l i (by omega), getElem!_pos l k hk, Bool.and_eq_false_iff]
    by_cases hc : l[i].s = l[k].s ∨ l[i].p = l[k].p
    · have := hp hc
      refine Or.inr ?_
      rw [decide_eq_false_iff_not]
      omega
    · refine Or.inl ?_
      simp only [not_or] at hc
      simp [hc.1, hc.2]
  unfold chk
  rw [if_neg (fun e => by rcases e with e | e | e | e; exact absurd e (Nat.not_lt.2 p0); exact absurd e (Nat.not_lt.2 p1); exact absurd e (Nat.not_lt.2 hl.len); exact absurd e (Nat.not_lt.2 p3))]
  rw [chkP_setM, chkS_setM, chkU_setM]
  rw [if_neg (by show ¬ chkP g g.np 0 ≠ 0; rw [p4]; simp), if_neg (by show ¬ chkS g g.ns 0 ≠ 0; rw [p5]; simp), if_neg (by rw [hm]; simp), if_neg (by rw [ha]; simp)]
  exact p8
theorem inF_list (g : Gar) (slot : ByteArray) (x : Int) : ∀ n k, inF g slot x n k = inL slot x ((List.range' k n).map g.mn)
  | 0, _ => rfl
  | n + 1, k => by
    rw [inF, List.range'_succ, List.map_cons]
    unfold inL
    rw [List.find?_cons]
    have e : (decide ((g.mn k).s = slot) && (g.mn k).c x) = (decide (g.ms k = slot) && isG (g.mf k) (g.mt k) x) := rfl
    rw [e]
    cases h : (decide (g.ms k = slot) && isG (g.mf k) (g.mt k) x)
    · rw [if_neg (by simp)]
      exact inF_list g slot x n (k + 1)
    · rw [if_pos rfl]
      rfl
theorem inF_mnts (g : Gar) (slot : ByteArray) (x : Int) : inF g slot x g.nm 0 = inL slot x g.mnts := by
  rw [inF_list]
  unfold mnts
  rw [List.range_eq_range']
theorem hasP_name {g : Gar} (h : chk g = 0) {p : ByteArray} (hp : hasP g p = true) : p ≠ ⟨#[]⟩ := by
  unfold hasP at hp
  rw [List.any_eq_true] at hp
  obtain ⟨j, hj, hje⟩ := hp
  rw [decide_eq_true_eq] at hje
  have h4 := chkP_each g.np 0 (chk_parts h).2.2.2.2.1 j (by omega) (by have := List.mem_range.1 hj; omega)
  rw [hje] at h4
  intro e
  rw [e] at h4
  unfold nameB at h4
  rw [Bool.and_eq_true, Bool.and_eq_true, decide_eq_true_eq] at h4
  exact absurd h4.1.1 (by decide)
def putErr (g : Gar) (slot part : ByteArray) (x : Int) : Int :=
  if chk g ≠ 0 then chk g else if (hasS g slot && hasP g part) = false then 4 else if momG x = false then 9
  else if (inR (inF g slot x g.nm 0)).1 = part then 5 else if 2000 < (putL slot part x g.mnts).length then 3 else 0
def putG (g : Gar) (slot part : ByteArray) (x : Int) : Gar := if putErr g slot part x = 0 then g.setM (putL slot part x g.mnts) else zero
def takeErr (g : Gar) (slot : ByteArray) (x : Int) : Int := if (InS g slot x).2.2 ≠ 0 then (InS g slot x).2.2 else if (InS g slot x).2.1 = false then 13 else 0
def takeG (g : Gar) (slot : ByteArray) (x : Int) : Gar := if takeErr g slot x = 0 then g.setM (endL (bothB slot (InS g slot x).1) x g.mnts) else zero
theorem put_zero {g : Gar} {slot part : ByteArray} {x : Int} (h : putErr g slot part x = 0) : chk g = 0 ∧ hasS g slot = true ∧ hasP g part = true ∧ momG x = true ∧ (putL slot part x g.mnts).length ≤ 2000 := by
  unfold putErr at h
  split at h
  · rename_i a; exact absurd h a
  · rename_i a
    split at h
    · omega
    · rename_i b
      split at h
      · omega
      · rename_i c
        split at h
        · omega
        · split at h
          · omega
          · rename_i d
            have b' : (hasS g slot && hasP g part) = true := by simpa using b
            rw [Bool.and_eq_true] at b'
            exact ⟨by simpa using a, b'.1, b'.2, by simpa using c, by omega⟩
theorem ins_ok {g : Gar} (h : chk g = 0) {slot : ByteArray} {x : Int} (hs : hasS g slot = true) (hx : momG x = true) : InS g slot x = ((inR (inL slot x g.mnts)).1, (inR (inL slot x g.mnts)).2, 0) := by
  unfold InS
  rw [if_neg (by rw [h]; simp), if_neg (by rw [hs]; simp), if_neg (by rw [hx]; simp), inF_mnts]
structure PutOk (g : Gar) (slot part : ByteArray) (x : Int) : Prop where
  e : putG g slot part x = g.setM (putL slot part x g.mnts)
  r : RightM g (putL slot part x g.mnts)
  k : chk (putG g slot part x) = 0
  i : InS (putG g slot part x) slot x = (part, true, 0)
  o : ∀ s, hasS g s = true → s ≠ slot → (InS (putG g slot part x) s x).1 ≠ part
  b : ∀ s y, hasS g s = true → 0 ≤ y → y < x → InS (putG g slot part x) s y = InS g s y
theorem put_ok {g : Gar} {slot part : ByteArray} {x : Int} (h : putErr g slot part x = 0) : PutOk g slot part x := by
  obtain ⟨h1, h2, h3, h4, h5⟩ := put_zero h
  have hr := put_right (right_mnts h1) h2 h3 h4 h5
  have e : putG g slot part x = g.setM (putL slot part x g.mnts) := by unfold putG; rw [if_pos h]
  have hk := chk_setM h1 hr
  have hx0 := momG_iff.1 h4
  rw [← e] at hk
  have hm : (putG g slot part x).mnts = putL slot part x g.mnts := by rw [e, setM_mnts]
  have hh : ∀ s, hasS (putG g slot part x) s = hasS g s := fun s => by rw [e]; rfl
  refine ⟨e, hr, hk, ?_, fun s hs hne => ?_, fun s y hs hy0 hy => ?_⟩
  · rw [ins_ok hk (by rw [hh]; exact h2) h4, hm, put_in hr h4]
    rfl
  · rw [ins_ok hk (by rw [hh]; exact hs) h4, hm]
    cases hi : inL s x (putL slot part x g.mnts) with
    | none => exact fun e => hasP_name h1 h3 e.symm
    | some p => exact fun e => put_else hr h4 hne (hi.trans (congrArg some e))
  · have hmy : momG y = true := momG_iff.2 ⟨hy0, by omega⟩
    rw [ins_ok hk (by rw [hh]; exact hs) hmy, hm, put_before hy (by omega), ins_ok h1 hs hmy]
structure TakeOk (g : Gar) (slot : ByteArray) (x : Int) : Prop where
  c : chk g = 0
  s : hasS g slot = true
  m : momG x = true
  l : inL slot x g.mnts = some (InS g slot x).1
  e : takeG g slot x = g.setM (endL (bothB slot (InS g slot x).1) x g.mnts)
  r : RightM g (endL (bothB slot (InS g slot x).1) x g.mnts)
  k : chk (takeG g slot x) = 0
  i : InS (takeG g slot x) slot x = (⟨#[]⟩, false, 0)
theorem take_ok {g : Gar} {slot : ByteArray} {x : Int} (h : takeErr g slot x = 0) : TakeOk g slot x := by
  have e : takeG g slot x = g.setM (endL (bothB slot (InS g slot x).1) x g.mnts) := by unfold takeG; rw [if_pos h]
  unfold takeErr at h
  split at h
  · rename_i a; exact absurd h a
  · rename_i a
    split at h
    · omega
    · rename_i b
      have a' : (InS g slot x).2.2 = 0 := by simpa using a
      have b' : (InS g slot x).2.1 = true := by simpa using b
      have hall : chk g = 0 ∧ hasS g slot = true ∧ momG x = true := by
        unfold InS at a'
        split at a'
        · rename_i c; exact absurd a' c
        · rename_i c
          split at a'
          · simp at a'
          · rename_i d
            split at a'
            · simp at a'
            · rename_i f
              exact ⟨by simpa using c, by simpa using d, by simpa using f⟩
      obtain ⟨h1, h2, h3⟩ := hall
      have hi := ins_ok h1 h2 h3
      have hl : inL slot x g.mnts = some (InS g slot x).1 := by
        rw [hi] at b'
        cases hc : inL slot x g.mnts with
        | none => rw [hc] at b'; cases b'
        | some p => rw [hi, hc]; rfl
      have hx0 := momG_iff.1 h3
      have hr := endL_right (right_mnts h1) h3 (bothB slot (InS g slot x).1)
      have hk := chk_setM h1 hr
      rw [← e] at hk
      refine ⟨h1, h2, h3, hl, e, hr, hk, ?_⟩
      have hm : (takeG g slot x).mnts = endL (bothB slot (InS g slot x).1) x g.mnts := by rw [e, setM_mnts]
      have hh : hasS (takeG g slot x) slot = hasS g slot := by rw [e]; rfl
      rw [ins_ok hk (by rw [hh]; exact h2) h3, hm, take_none (right_mnts h1) hx0.1 hl]
      rfl
end Gar
end Go.Proofs.Ytbkpoepacjinlaa

/- Gear: mounts put in order by the library's sort; some of them ended, of the program and of the reference. (Printed by gen_ended.py.) -/
namespace Go.Proofs.Ytbkpoepacjinlaa
open Go.RowKit Go.BigFrame
open Gar (endG momG)

section
open Go.Sort
theorem mountCmp (blk off size : Nat) (w : World) : CmpLays Try.prog 90 #[] encM 4 (fun x y : Mo => ordI x.f y.f x.s y.s) blk off size w :=
  fun _ _ _ _ x y => mountOrder_grow x.s x.p y.s y.p x.f x.t y.f y.t _
set_option maxHeartbeats 2000000 in
set_option maxRecDepth 100000 in
theorem orderedM_any (l l' : List Mo) (hp : l'.Perm l) (hs : l'.Pairwise fun a b => befm a b = true) (base q cap : Nat) (w : World) (hown : w.ownsRow base 54 4 (.slice (some ⟨q, 0, none⟩) l.length cap) l.length (l.flatMap encM)) (hn : l.length < 4611686018427387904) :
    Calls Try.prog 88 #[.slice (some ⟨q, 0, none⟩) l.length cap, .func (.func 90) #[] #[]] w fun e w' =>
      e = .returned (.slice (some ⟨q, 0, none⟩) l.length cap) ∧ w'.ownsRow base 54 4 (.slice (some ⟨q, 0, none⟩) l.length cap) l.length (l'.flatMap encM) ∧ w.grownBy w' (some q) := by
  have eg : ∀ args w, (callFunc 90 args).run Try.prog w = .ok (.enter 90 args) w := enters_of Try.func90 (by kernel_rfl) rfl
  have hO : SWO (ltOf fun x y : Mo => ordI x.f y.f x.s y.s) := by rw [lt_ord Mo.f Mo.s]; exact swo_befm
  have hq : q < w.heap.size := (hown.lt q rfl).2
  have hcon := AnyQ.slices_SortFunc Try.sortMnt 4 Try.isAgg54 Try.sizeOf54 encM (fun _ => rfl) encM_one (fun x y : Mo => ordI x.f y.f x.s y.s) hO 90 #[] q 0 cap l.toArray w eg (mountCmp q 0 l.toArray.size w) (own_holds (enc := encM) (k := 4) (fun _ => rfl) hown) hq (by simpa using hn)
  change Calls Try.prog 132 #[.slice (some ⟨q, 0, none⟩) l.length cap, .func (.func 90) #[] #[]] w _ at hcon
  have HC := Lib.hid (hcon.mono (R' := fun e w' => e = .returned (.tuple #[]) ∧ w'.ownsRow base 54 4 (.slice (some ⟨q, 0, none⟩) l.length cap) l.length (l'.flatMap encM) ∧ w.grownBy w' (some q)) (by
    rintro e w' ⟨rfl, d, m, os, h1, h2, rfl⟩
    have hd : d.toList = l' := by
      rw [lt_ord Mo.f Mo.s] at h2
      exact sorted_one swo_befm h1 h2 hp hs
    have h3 := own_sorted (enc := encM) (k := 4) (fun _ => rfl) hown (d := d) (by rw [h1.1]; simp) m os
    rw [hd] at h3
    exact ⟨rfl, h3⟩))
  clear hcon hown hp hs hO eg hq
  generalize l'.flatMap encM = xs at HC ⊢
  generalize l.length = n at HC ⊢
  go_enter Try.func88, Try.ntmps88
  go_wp2_with (go_at_call 132; refine HC.out.mono ?_; rintro e w' ⟨rfl, h1, h2⟩)
  have H1 := Lib.hid h1
  have H2 := Lib.hid h2
  clear h1 h2
  go_wp2_with fail
  go_ret
  exact ⟨rfl, H1.out, H2.out⟩
end
theorem flatM_range (l : List Mo) : (List.range l.length).flatMap (fun i => encM (l.getD i default)) = l.flatMap encM := by
  have h : ∀ r : List Nat, r.flatMap (fun i => encM (l.getD i default)) = (r.map fun i => l.getD i default).flatMap encM := by
    intro r
    induction r with
    | nil => rfl
    | cons x r ih => rw [List.flatMap_cons, List.map_cons, List.flatMap_cons, ih]
  rw [h, Gar.rangeM_map]
theorem endL_take (q : Mo → Bool) (x : Int) (l : List Mo) {k : Nat} (h : k < l.length) : endL q x (l.take (k + 1)) = endL q x (l.take k) ++ (endO q x (l.getD k default)).toList := by
  unfold endL
  rw [List.take_add_one, List.getElem?_eq_getElem h, List.filterMap_append, List.getD_eq_getElem?_getD, List.getElem?_eq_getElem h]
  cases hb : endO q x l[k] <;> simp [hb]
theorem endL_le (q : Mo → Bool) (x : Int) (l : List Mo) (k : Nat) : (endL q x (l.take k)).length ≤ k := by
  have h1 := endL_len q x (l.take k)
  rw [List.length_take] at h1
  omega

set_option maxHeartbeats 4000000 in
set_option maxRecDepth 100000 in
theorem ended_any (l : List Mo) (a : Option Addr) (cap : Nat) (x : Int) (q : Mo → Bool) (fid : FuncId) (caps : Array Value) (w : World) (hrow : RowK w a l.length 4 (fun i => encM (l.getD i default))) (hn : l.length ≤ 2000) (hcf : ∀ args w, Sem.run Try.prog (callFunc fid args) w = .ok (.enter fid args) w) (hcl : ∀ (m : Mo) (W : World), Below w.heap.size w W → Calls Try.prog fid (#[mountV m.s m.p m.f m.t] ++ caps) W fun e w' => e = .returned (.bool (q m)) ∧ Below W.heap.size W w') :
    Calls Try.prog 89 #[.slice a l.length cap, .int .i64 x, .func (.func fid) #[] caps] w fun e w' => ∃ v, e = .returned v ∧ w'.ownsRow w.heap.size 54 4 v (endL q x l).length ((endL q x l).flatMap encM) ∧ Below w.heap.size w w' := by
  have HROW := Lib.hid hrow
  obtain ⟨i0, hi0, hz0, hz1, hz2⟩ := info_parts (show (Try.prog.info? 54).map (fun i => (i.zero, i.size, i.bytes)) = some (some (.agg #[.string ⟨#[]⟩, .string ⟨#[]⟩, .int .i64 0, .int .i64 0]), 4, 48) by kernel_rfl)
  have HI0 := Lib.hid hi0
  have HZ0 := Lib.hid hz0
  have HZ1 := Lib.hid hz1
  have HZ2 := Lib.hid hz2
  have HUS := Lib.hid (show Try.prog.underlying 24 = some (.slice 54) by kernel_rfl)
  have HTK := Lib.hid (fun (k : Nat) (h : k < l.length) => endL_take q x l h)
  have HLE := Lib.hid (fun (k : Nat) => endL_le q x l k)
  have HL0 : Hid (w.ownsRow w.heap.size 54 4 (.slice none 0 0) (endL q x (l.take 0)).length ((endL q x (l.take 0)).flatMap encM)) := Lib.hid (World.ownsRow_nil _ _ _ _)
  have HCF := Lib.hid hcf
  have HCL := Lib.hid hcl
  clear hcf hcl
  clear hrow hi0 hz0 hz1 hz2
  go_enter Try.func89, Try.ntmps89
  go_wp2_with fail
  go_loopw [7, 12] (fun ov iv wr => ∃ (k : Nat), iv = .int .i64 k ∧ k ≤ l.length ∧ Hid (Below w.heap.size w wr) ∧ Hid (wr.ownsRow w.heap.size 54 4 ov (endL q x (l.take k)).length ((endL q x (l.take k)).flatMap encM))) (fun _ iv _ => l.length - (intOf iv).toNat)
  case atStart => exact ⟨0, rfl, by omega, Lib.hid (Below.refl _ _), HL0⟩
  case round =>
    obtain ⟨k, rfl, hk, HB, HO⟩ := hrel
    by_cases hlt : k < l.length
    · have t1 : decide ((k : Int) < (l.length : Int)) = true := by rw [decide_eq_true_eq]; omega
      have t1' : decide (k < l.length) = true := by simpa using hlt
      have t2 : (k : Int) < (l.length : Int) := by omega
      obtain ⟨b, off, rfl, hbl, hc⟩ := (HROW.out.below HB.out (Nat.le_refl _)).here (by omega)
      have e0 : wr.cell? ⟨b, off + k * 4, none⟩ = some (.string (l.getD k default).s) := hc k hlt 0 (by omega)
      have e1 : wr.cell? ⟨b, off + k * 4 + 1, none⟩ = some (.string (l.getD k default).p) := hc k hlt 1 (by omega)
      have e2 : wr.cell? ⟨b, off + k * 4 + 2, none⟩ = some (.int .i64 (l.getD k default).f) := hc k hlt 2 (by omega)
      have e3 : wr.cell? ⟨b, off + k * 4 + 3, none⟩ = some (.int .i64 (l.getD k default).t) := hc k hlt 3 (by omega)
      have htk := HTK.out k hlt
      have hle := HLE.out k
      obtain ⟨m, hm⟩ : ∃ m, l.getD k default = m := ⟨_, rfl⟩
      rw [hm] at e0 e1 e2 e3 htk
      obtain ⟨n, hnn⟩ : ∃ n, (endL q x (l.take k)).length = n := ⟨_, rfl⟩
      have ho := HO.out
      rw [hnn] at hle ho
      have HTK1 := Lib.hid htk
      have HNN := Lib.hid hnn
      obtain ⟨V1, hV1, hvb, hvs, hvl⟩ := alloc_block wr #[.string m.s, .string m.p, .int .i64 m.f, .int .i64 m.t] 54
      obtain ⟨p, hp⟩ : ∃ p, wr.heap.size = p := ⟨_, rfl⟩
      have hnp : u7.ownBlock ≠ some p := fun e => by have := (ho.lt p e).2; omega
      have HNP := Lib.hid hnp
      have hbw := HB.out
      have hbp : w.heap.size ≤ p := by rw [← hp]; exact hbw.size
      have z0 : ∀ X : Ext V1, X.1.cell? ⟨p, 0, none⟩ = some (.string m.s) := fun X => block_cell (below_block X.2 (hp ▸ hvl)) rfl
      have z1 : ∀ X : Ext V1, X.1.cell? ⟨p, 1, none⟩ = some (.string m.p) := fun X => block_cell (below_block X.2 (hp ▸ hvl)) rfl
      have z2 : ∀ X : Ext V1, X.1.cell? ⟨p, 2, none⟩ = some (.int .i64 m.f) := fun X => block_cell (below_block X.2 (hp ▸ hvl)) rfl
      have z3 : ∀ X : Ext V1, X.1.cell? ⟨p, 3, none⟩ = some (.int .i64 m.t) := fun X => block_cell (below_block X.2 (hp ▸ hvl)) rfl
      have f3 : ∀ X : Ext V1, X.1.frozen? ⟨p, 3, none⟩ = false := fun X => block_free (below_block X.2 (hp ▸ hvl))
      have HBOX := Lib.hid (fun X : Ext V1 => below_block X.2 (hp ▸ hvl))
      have HBX := Lib.hid (fun X : Ext V1 => (hbw.trans (hvb.mono hbw.size)).trans (X.2.mono (Nat.le_trans hbw.size hvb.size)))
      have HOX := Lib.hid (fun X : Ext V1 => ownsRow_below (ownsRow_below ho hvb) X.2)
      have HV1 : Hid (wr.alloc (.cells #[.string m.s, .string m.p, .int .i64 m.f, .int .i64 m.t] 54) = V1) := Lib.hid hV1
      have HP := Lib.hid hp
      have DI := Lib.hid (fun W => is_any m.s m.p m.f m.t x W)
      have DQ := Lib.hid (fun (X : Ext V1) => HCL.out m X.1 (HBX.out X))
      have hcf := HCF.out
      unfold mountV at DI DQ
      rw [show isG m.f m.t x = m.c x from rfl] at DI
      clear hV1 hvb hvs hvl hc hbl ho htk hnn hbw hnp hm hp
      cases hc : m.c x
      · rw [hc] at DI
        have HEO : Hid (endO q x m = some m) := Lib.hid (by unfold endO; rw [if_neg (by rw [hc]; simp)])
        clear hc
        go_upto_region 5 with (fail)
        rw [HV1.out]
        rw [HP.out]
        refine ext_wp fun X0 => ?_
        clear e0 e1 e2 e3
        go_wp2_with fail
        refine (Ext.calls _ (DI.out X0.1)).mono ?_
        rintro e y1 ⟨rfl, X1, rfl⟩
        go_upto_region 8 with (fail)
        obtain ⟨wz, hwz⟩ : ∃ wz, X1.1 = wz := ⟨_, rfl⟩
        have c0 := z0 X1
        have c1 := z1 X1
        have c2 := z2 X1
        have c3 := z3 X1
        have hoz := HOX.out X1
        have hbz := HBX.out X1
        rw [hwz] at c0 c1 c2 c3 hoz hbz ⊢
        have HOZ := Lib.hid hoz
        have HBZ := Lib.hid hbz
        have hsz : w.heap.size ≤ wz.heap.size := hbz.size
        clear hoz hbz hwz
        clear z0 z1 z2 z3 f3
        go_wp2_with (at_builtin; refine wpList_append_where _ rfl (.tmp 30) (.tmp 32) 24 rfl w.heap.size 54 i0 (.agg #[.string ⟨#[]⟩, .string ⟨#[]⟩, .int .i64 0, .int .i64 0]) 4 48 HUS.out HI0.out HZ0.out HZ1.out HZ2.out rfl (by decide) u7 n _ rfl (HOZ.out.alloc _) ⟨wz.heap.size, 0, none⟩ 1 1 (encM ⟨m.s, m.p, m.f, m.t⟩) rfl (by decide) rfl ?c1 ?c2 ?c3 ?c4 ?c5 ?_)
        case c1 =>
          intro jj uu hu
          rw [addr_add0, World.cell?_alloc_at _ _ _ _ rfl]
          simpa [encM] using hu
        case c2 => exact encM_one _
        case c3 => unfold maxLen; omega
        case c4 => omega
        case c5 => simp; omega
        intro v7 w7 hown7 hg7 _
        obtain ⟨q7, cap7, rfl⟩ := ownsRow_succ hown7
        have HO9 : Hid (w7.ownsRow w.heap.size 54 4 (.slice (some ⟨q7, 0, none⟩) (n + 1) cap7) (endL q x (l.take (k + 1))).length ((endL q x (l.take (k + 1))).flatMap encM)) := Lib.hid (by
          rw [HTK1.out, HEO.out, List.length_append, List.flatMap_append, HNN.out]
          simpa [encM] using hown7)
        have HB9 : Hid (Below w.heap.size w w7) := Lib.hid ((HBZ.out.alloc HBZ.out.size (.cells #[.string m.s, .string m.p, .int .i64 m.f, .int .i64 m.t] 54)).grown hg7 (by simp; omega) (fun q hq => (HOZ.out.lt q hq).1))
        clear hown7 hg7 c0 c1 c2 c3
        go_wp2_with fail
        go_roundw
        case rel => exact ⟨k + 1, by go_num, by omega, HB9, HO9⟩
        case measure => simp [intOf]; omega
      · rw [hc] at DI
        cases hq : q m
        · rw [hq] at DQ
          have HEO : Hid (endO q x m = some m) := Lib.hid (by unfold endO; rw [if_neg (by rw [hq]; simp)])
          clear hc hq
          go_upto_region 5 with (fail)
          rw [HV1.out]
          rw [HP.out]
          refine ext_wp fun X0 => ?_
          clear e0 e1 e2 e3
          go_wp2_with fail
          refine (Ext.calls _ (DI.out X0.1)).mono ?_
          rintro e y1 ⟨rfl, X1, rfl⟩
          go_wp2_with fail
          refine (Ext.calls _ (DQ.out X1)).mono ?_
          rintro e y2 ⟨rfl, X2, rfl⟩
          go_upto_region 8 with (fail)
          obtain ⟨wz, hwz⟩ : ∃ wz, X2.1 = wz := ⟨_, rfl⟩
          have c0 := z0 X2
          have c1 := z1 X2
          have c2 := z2 X2
          have c3 := z3 X2
          have hoz := HOX.out X2
          have hbz := HBX.out X2
          rw [hwz] at c0 c1 c2 c3 hoz hbz ⊢
          have HOZ := Lib.hid hoz
          have HBZ := Lib.hid hbz
          have hsz : w.heap.size ≤ wz.heap.size := hbz.size
          clear hoz hbz hwz
          clear z0 z1 z2 z3 f3
          go_wp2_with (at_builtin; refine wpList_append_where _ rfl (.tmp 30) (.tmp 32) 24 rfl w.heap.size 54 i0 (.agg #[.string ⟨#[]⟩, .string ⟨#[]⟩, .int .i64 0, .int .i64 0]) 4 48 HUS.out HI0.out HZ0.out HZ1.out HZ2.out rfl (by decide) u7 n _ rfl (HOZ.out.alloc _) ⟨wz.heap.size, 0, none⟩ 1 1 (encM ⟨m.s, m.p, m.f, m.t⟩) rfl (by decide) rfl ?c1 ?c2 ?c3 ?c4 ?c5 ?_)
          case c1 =>
            intro jj uu hu
            rw [addr_add0, World.cell?_alloc_at _ _ _ _ rfl]
            simpa [encM] using hu
          case c2 => exact encM_one _
          case c3 => unfold maxLen; omega
          case c4 => omega
          case c5 => simp; omega
          intro v7 w7 hown7 hg7 _
          obtain ⟨q7, cap7, rfl⟩ := ownsRow_succ hown7
          have HO9 : Hid (w7.ownsRow w.heap.size 54 4 (.slice (some ⟨q7, 0, none⟩) (n + 1) cap7) (endL q x (l.take (k + 1))).length ((endL q x (l.take (k + 1))).flatMap encM)) := Lib.hid (by
            rw [HTK1.out, HEO.out, List.length_append, List.flatMap_append, HNN.out]
            simpa [encM] using hown7)
          have HB9 : Hid (Below w.heap.size w w7) := Lib.hid ((HBZ.out.alloc HBZ.out.size (.cells #[.string m.s, .string m.p, .int .i64 m.f, .int .i64 m.t] 54)).grown hg7 (by simp; omega) (fun q hq => (HOZ.out.lt q hq).1))
          clear hown7 hg7 c0 c1 c2 c3
          go_wp2_with fail
          go_roundw
          case rel => exact ⟨k + 1, by go_num, by omega, HB9, HO9⟩
          case measure => simp [intOf]; omega
        · rw [hq] at DQ
          by_cases hf : m.f = x
          · have t3 : (m.f == x) = true := by rw [beq_iff_eq]; exact hf
            have HEO : Hid (endO q x m = none) := Lib.hid (by unfold endO; rw [if_pos (by rw [hc, hq]; rfl), if_pos hf])
            clear hc hq hf
            go_upto_region 5 with (fail)
            rw [HV1.out]
            rw [HP.out]
            refine ext_wp fun X0 => ?_
            clear e0 e1 e2 e3
            go_wp2_with fail
            refine (Ext.calls _ (DI.out X0.1)).mono ?_
            rintro e y1 ⟨rfl, X1, rfl⟩
            go_wp2_with fail
            refine (Ext.calls _ (DQ.out X1)).mono ?_
            rintro e y2 ⟨rfl, X2, rfl⟩
            have HO9 : Hid (X2.1.ownsRow w.heap.size 54 4 u7 (endL q x (l.take (k + 1))).length ((endL q x (l.take (k + 1))).flatMap encM)) := Lib.hid (by
              rw [HTK1.out, HEO.out]
              simp only [Option.toList_none, List.append_nil]
              rw [HNN.out]
              exact HOX.out X2)
            have HB9 := Lib.hid (HBX.out X2)
            go_wp2_with fail
            go_roundw
            case rel => exact ⟨k + 1, by go_num, by omega, HB9, HO9⟩
            case measure => simp [intOf]; omega
          · have t3 : (m.f == x) = false := by rw [beq_eq_false_iff_ne]; exact hf
            have HEO : Hid (endO q x m = some ⟨m.s, m.p, m.f, x⟩) := Lib.hid (by unfold endO; rw [if_pos (by rw [hc, hq]; rfl), if_neg hf])
            clear hc hq hf
            go_upto_region 5 with (fail)
            rw [HV1.out]
            rw [HP.out]
            refine ext_wp fun X0 => ?_
            clear e0 e1 e2 e3
            go_wp2_with fail
            refine (Ext.calls _ (DI.out X0.1)).mono ?_
            rintro e y1 ⟨rfl, X1, rfl⟩
            go_wp2_with fail
            refine (Ext.calls _ (DQ.out X1)).mono ?_
            rintro e y2 ⟨rfl, X2, rfl⟩
            go_upto_region 8 with (fail)
            obtain ⟨wz, hwz⟩ : ∃ wz, X2.1.setCell ⟨p, 3, none⟩ (.int .i64 x) = wz := ⟨_, rfl⟩
            rw [hwz]
            have hkz : Kept (fun k => k = p) X2.1 wz := hwz ▸ kept_set (O := fun k => k = p) (Kept.refl _ _) rfl _
            have hbz : wz.heap[p]? = some (.cells #[.string m.s, .string m.p, .int .i64 m.f, .int .i64 x] 54 (0, 0)) := hwz ▸ cells_setCell (HBOX.out X2)
            have c0 : wz.cell? ⟨p, 0, none⟩ = some (.string m.s) := block_cell hbz rfl
            have c1 : wz.cell? ⟨p, 1, none⟩ = some (.string m.p) := block_cell hbz rfl
            have c2 : wz.cell? ⟨p, 2, none⟩ = some (.int .i64 m.f) := block_cell hbz rfl
            have c3 : wz.cell? ⟨p, 3, none⟩ = some (.int .i64 x) := block_cell hbz rfl
            have HOZ := Lib.hid (own_keep (HOX.out X2) hkz HNP.out)
            have HBZ := Lib.hid (Kept.below (HBX.out X2) hkz (HBX.out X2).size (fun k hk e => by omega))
            have hsz : w.heap.size ≤ wz.heap.size := HBZ.out.size
            clear hkz hbz hwz
            clear z0 z1 z2 z3 f3
            go_wp2_with (at_builtin; refine wpList_append_where _ rfl (.tmp 30) (.tmp 32) 24 rfl w.heap.size 54 i0 (.agg #[.string ⟨#[]⟩, .string ⟨#[]⟩, .int .i64 0, .int .i64 0]) 4 48 HUS.out HI0.out HZ0.out HZ1.out HZ2.out rfl (by decide) u7 n _ rfl (HOZ.out.alloc _) ⟨wz.heap.size, 0, none⟩ 1 1 (encM ⟨m.s, m.p, m.f, x⟩) rfl (by decide) rfl ?c1 ?c2 ?c3 ?c4 ?c5 ?_)
            case c1 =>
              intro jj uu hu
              rw [addr_add0, World.cell?_alloc_at _ _ _ _ rfl]
              simpa [encM] using hu
            case c2 => exact encM_one _
            case c3 => unfold maxLen; omega
            case c4 => omega
            case c5 => simp; omega
            intro v7 w7 hown7 hg7 _
            obtain ⟨q7, cap7, rfl⟩ := ownsRow_succ hown7
            have HO9 : Hid (w7.ownsRow w.heap.size 54 4 (.slice (some ⟨q7, 0, none⟩) (n + 1) cap7) (endL q x (l.take (k + 1))).length ((endL q x (l.take (k + 1))).flatMap encM)) := Lib.hid (by
              rw [HTK1.out, HEO.out, List.length_append, List.flatMap_append, HNN.out]
              simpa [encM] using hown7)
            have HB9 : Hid (Below w.heap.size w w7) := Lib.hid ((HBZ.out.alloc HBZ.out.size (.cells #[.string m.s, .string m.p, .int .i64 m.f, .int .i64 x] 54)).grown hg7 (by simp; omega) (fun q hq => (HOZ.out.lt q hq).1))
            clear hown7 hg7 c0 c1 c2 c3
            go_wp2_with fail
            go_roundw
            case rel => exact ⟨k + 1, by go_num, by omega, HB9, HO9⟩
            case measure => simp [intOf]; omega
    · have t1 : decide ((k : Int) < (l.length : Int)) = false := by rw [decide_eq_false_iff_not]; omega
      have t1' : decide (k < l.length) = false := by simpa using hlt
      obtain rfl : k = l.length := by omega
      have ho := HO.out
      rw [List.take_length] at ho
      have HO9 := Lib.hid ho
      clear hlt ho HO
      go_wp2_with fail
      go_ret
      exact ⟨u7, rfl, HO9.out, HB.out⟩

set_option maxHeartbeats 4000000 in
set_option maxRecDepth 100000 in
theorem rended_any (l : List Mo) (a : Option Addr) (cap : Nat) (x : Int) (slot part : ByteArray) (w : World) (hrow : RowK w a l.length 4 (fun i => encM (l.getD i default))) (hn : l.length ≤ 2000) :
    Calls Try.prog 91 #[.slice a l.length cap, .string slot, .string part, .int .i64 x] w fun e w' => ∃ v, e = .returned v ∧ w'.ownsRow w.heap.size 54 4 v (endL (mineB slot part) x l).length ((endL (mineB slot part) x l).flatMap encM) ∧ Below w.heap.size w w' := by
  have HROW := Lib.hid hrow
  obtain ⟨i0, hi0, hz0, hz1, hz2⟩ := info_parts (show (Try.prog.info? 54).map (fun i => (i.zero, i.size, i.bytes)) = some (some (.agg #[.string ⟨#[]⟩, .string ⟨#[]⟩, .int .i64 0, .int .i64 0]), 4, 48) by kernel_rfl)
  have HI0 := Lib.hid hi0
  have HZ0 := Lib.hid hz0
  have HZ1 := Lib.hid hz1
  have HZ2 := Lib.hid hz2
  have HUS := Lib.hid (show Try.prog.underlying 24 = some (.slice 54) by kernel_rfl)
  have HTK := Lib.hid (fun (k : Nat) (h : k < l.length) => endL_take (mineB slot part) x l h)
  have HLE := Lib.hid (fun (k : Nat) => endL_le (mineB slot part) x l k)
  have HL0 : Hid (w.ownsRow w.heap.size 54 4 (.slice none 0 0) (endL (mineB slot part) x (l.take 0)).length ((endL (mineB slot part) x (l.take 0)).flatMap encM)) := Lib.hid (World.ownsRow_nil _ _ _ _)
  clear hrow hi0 hz0 hz1 hz2
  go_enter Try.func91, Try.ntmps91
  go_wp2_with fail
  go_loopw [9, 14] (fun ov iv wr => ∃ (k : Nat), iv = .int .i64 k ∧ k ≤ l.length ∧ Hid (Below w.heap.size w wr) ∧ Hid (wr.ownsRow w.heap.size 54 4 ov (endL (mineB slot part) x (l.take k)).length ((endL (mineB slot part) x (l.take k)).flatMap encM))) (fun _ iv _ => l.length - (intOf iv).toNat)
  case atStart => exact ⟨0, rfl, by omega, Lib.hid (Below.refl _ _), HL0⟩
  case round =>
    obtain ⟨k, rfl, hk, HB, HO⟩ := hrel
    by_cases hlt : k < l.length
    · have t1 : decide ((k : Int) < (l.length : Int)) = true := by rw [decide_eq_true_eq]; omega
      have t1' : decide (k < l.length) = true := by simpa using hlt
      have t2 : (k : Int) < (l.length : Int) := by omega
      obtain ⟨b, off, rfl, hbl, hc⟩ := (HROW.out.below HB.out (Nat.le_refl _)).here (by omega)
      have e0 : wr.cell? ⟨b, off + k * 4, none⟩ = some (.string (l.getD k default).s) := hc k hlt 0 (by omega)
      have e1 : wr.cell? ⟨b, off + k * 4 + 1, none⟩ = some (.string (l.getD k default).p) := hc k hlt 1 (by omega)
      have e2 : wr.cell? ⟨b, off + k * 4 + 2, none⟩ = some (.int .i64 (l.getD k default).f) := hc k hlt 2 (by omega)
      have e3 : wr.cell? ⟨b, off + k * 4 + 3, none⟩ = some (.int .i64 (l.getD k default).t) := hc k hlt 3 (by omega)
      have htk := HTK.out k hlt
      have hle := HLE.out k
      obtain ⟨m, hm⟩ : ∃ m, l.getD k default = m := ⟨_, rfl⟩
      rw [hm] at e0 e1 e2 e3 htk
      obtain ⟨n, hnn⟩ : ∃ n, (endL (mineB slot part) x (l.take k)).length = n := ⟨_, rfl⟩
      have ho := HO.out
      rw [hnn] at hle ho
      have HTK1 := Lib.hid htk
      have HNN := Lib.hid hnn
      obtain ⟨V1, hV1, hvb, hvs, hvl⟩ := alloc_block wr #[.string m.s, .string m.p, .int .i64 m.f, .int .i64 m.t] 54
      obtain ⟨p, hp⟩ : ∃ p, wr.heap.size = p := ⟨_, rfl⟩
      have hnp : u9.ownBlock ≠ some p := fun e => by have := (ho.lt p e).2; omega
      have HNP := Lib.hid hnp
      have hbw := HB.out
      have hbp : w.heap.size ≤ p := by rw [← hp]; exact hbw.size
      have z0 : ∀ X : Ext V1, X.1.cell? ⟨p, 0, none⟩ = some (.string m.s) := fun X => block_cell (below_block X.2 (hp ▸ hvl)) rfl
      have z1 : ∀ X : Ext V1, X.1.cell? ⟨p, 1, none⟩ = some (.string m.p) := fun X => block_cell (below_block X.2 (hp ▸ hvl)) rfl
      have z2 : ∀ X : Ext V1, X.1.cell? ⟨p, 2, none⟩ = some (.int .i64 m.f) := fun X => block_cell (below_block X.2 (hp ▸ hvl)) rfl
      have z3 : ∀ X : Ext V1, X.1.cell? ⟨p, 3, none⟩ = some (.int .i64 m.t) := fun X => block_cell (below_block X.2 (hp ▸ hvl)) rfl
      have f3 : ∀ X : Ext V1, X.1.frozen? ⟨p, 3, none⟩ = false := fun X => block_free (below_block X.2 (hp ▸ hvl))
      have HBOX := Lib.hid (fun X : Ext V1 => below_block X.2 (hp ▸ hvl))
      have HBX := Lib.hid (fun X : Ext V1 => (hbw.trans (hvb.mono hbw.size)).trans (X.2.mono (Nat.le_trans hbw.size hvb.size)))
      have HOX := Lib.hid (fun X : Ext V1 => ownsRow_below (ownsRow_below ho hvb) X.2)
      have HV1 : Hid (wr.alloc (.cells #[.string m.s, .string m.p, .int .i64 m.f, .int .i64 m.t] 54) = V1) := Lib.hid hV1
      have HP := Lib.hid hp
      have DI := Lib.hid (fun W => covers_any m.s m.p m.f m.t x W)
      have hs1 := str_eq m.s slot
      have hs2 := str_eq m.p part
      unfold mountV at DI
      rw [show isG m.f m.t x = m.c x from rfl] at DI
      clear hV1 hvb hvs hvl hc hbl ho htk hnn hbw hnp hm hp
      by_cases hb1 : m.s = slot
      · have hq : mineB slot part m = true := mine_iff.2 (Or.inl hb1)
        rw [decide_eq_true hb1] at hs1
        clear hb1 hs2
        cases hc : m.c x
        · rw [hc] at DI
          have HEO : Hid (endO (mineB slot part) x m = some m) := Lib.hid (by unfold endO; rw [if_neg (by rw [hc]; simp)])
          clear hc hq
          go_upto_region 5 with (fail)
          rw [HV1.out]
          rw [HP.out]
          refine ext_wp fun X0 => ?_
          clear e0 e1 e2 e3
          go_wp2_with fail
          refine (Ext.calls _ (DI.out X0.1)).mono ?_
          rintro e y1 ⟨rfl, X1, rfl⟩
          go_upto_region 8 with (fail)
          obtain ⟨wz, hwz⟩ : ∃ wz, X1.1 = wz := ⟨_, rfl⟩
          have c0 := z0 X1
          have c1 := z1 X1
          have c2 := z2 X1
          have c3 := z3 X1
          have hoz := HOX.out X1
          have hbz := HBX.out X1
          rw [hwz] at c0 c1 c2 c3 hoz hbz ⊢
          have HOZ := Lib.hid hoz
          have HBZ := Lib.hid hbz
          have hsz : w.heap.size ≤ wz.heap.size := hbz.size
          clear hoz hbz hwz
          clear z0 z1 z2 z3 f3
          go_wp2_with (at_builtin; refine wpList_append_where _ rfl (.tmp 39) (.tmp 41) 24 rfl w.heap.size 54 i0 (.agg #[.string ⟨#[]⟩, .string ⟨#[]⟩, .int .i64 0, .int .i64 0]) 4 48 HUS.out HI0.out HZ0.out HZ1.out HZ2.out rfl (by decide) u9 n _ rfl (HOZ.out.alloc _) ⟨wz.heap.size, 0, none⟩ 1 1 (encM ⟨m.s, m.p, m.f, m.t⟩) rfl (by decide) rfl ?c1 ?c2 ?c3 ?c4 ?c5 ?_)
          case c1 =>
            intro jj uu hu
            rw [addr_add0, World.cell?_alloc_at _ _ _ _ rfl]
            simpa [encM] using hu
          case c2 => exact encM_one _
          case c3 => unfold maxLen; omega
          case c4 => omega
          case c5 => simp; omega
          intro v7 w7 hown7 hg7 _
          obtain ⟨q7, cap7, rfl⟩ := ownsRow_succ hown7
          have HO9 : Hid (w7.ownsRow w.heap.size 54 4 (.slice (some ⟨q7, 0, none⟩) (n + 1) cap7) (endL (mineB slot part) x (l.take (k + 1))).length ((endL (mineB slot part) x (l.take (k + 1))).flatMap encM)) := Lib.hid (by
            rw [HTK1.out, HEO.out, List.length_append, List.flatMap_append, HNN.out]
            simpa [encM] using hown7)
          have HB9 : Hid (Below w.heap.size w w7) := Lib.hid ((HBZ.out.alloc HBZ.out.size (.cells #[.string m.s, .string m.p, .int .i64 m.f, .int .i64 m.t] 54)).grown hg7 (by simp; omega) (fun q hq => (HOZ.out.lt q hq).1))
          clear hown7 hg7 c0 c1 c2 c3
          go_wp2_with fail
          go_roundw
          case rel => exact ⟨k + 1, by go_num, by omega, HB9, HO9⟩
          case measure => simp [intOf]; omega
        · rw [hc] at DI
          by_cases hf : m.f = x
          · have t3 : (m.f == x) = true := by rw [beq_iff_eq]; exact hf
            have HEO : Hid (endO (mineB slot part) x m = none) := Lib.hid (by unfold endO; rw [if_pos (by rw [hc, hq]; rfl), if_pos hf])
            clear hc hq hf
            go_upto_region 5 with (fail)
            rw [HV1.out]
            rw [HP.out]
            refine ext_wp fun X0 => ?_
            clear e0 e1 e2 e3
            go_wp2_with fail
            refine (Ext.calls _ (DI.out X0.1)).mono ?_
            rintro e y1 ⟨rfl, X1, rfl⟩
            have HO9 : Hid (X1.1.ownsRow w.heap.size 54 4 u9 (endL (mineB slot part) x (l.take (k + 1))).length ((endL (mineB slot part) x (l.take (k + 1))).flatMap encM)) := Lib.hid (by
              rw [HTK1.out, HEO.out]
              simp only [Option.toList_none, List.append_nil]
              rw [HNN.out]
              exact HOX.out X1)
            have HB9 := Lib.hid (HBX.out X1)
            go_wp2_with fail
            go_roundw
            case rel => exact ⟨k + 1, by go_num, by omega, HB9, HO9⟩
            case measure => simp [intOf]; omega
          · have t3 : (m.f == x) = false := by rw [beq_eq_false_iff_ne]; exact hf
            have HEO : Hid (endO (mineB slot part) x m = some ⟨m.s, m.p, m.f, x⟩) := Lib.hid (by unfold endO; rw [if_pos (by rw [hc, hq]; rfl), if_neg hf])
            clear hc hq hf
            go_upto_region 5 with (fail)
            rw [HV1.out]
            rw [HP.out]
            refine ext_wp fun X0 => ?_
            clear e0 e1 e2 e3
            go_wp2_with fail
            refine (Ext.calls _ (DI.out X0.1)).mono ?_
            rintro e y1 ⟨rfl, X1, rfl⟩
            go_upto_region 8 with (fail)
            obtain ⟨wz, hwz⟩ : ∃ wz, X1.1.setCell ⟨p, 3, none⟩ (.int .i64 x) = wz := ⟨_, rfl⟩
            rw [hwz]
            have hkz : Kept (fun k => k = p) X1.1 wz := hwz ▸ kept_set (O := fun k => k = p) (Kept.refl _ _) rfl _
            have hbz : wz.heap[p]? = some (.cells #[.string m.s, .string m.p, .int .i64 m.f, .int .i64 x] 54 (0, 0)) := hwz ▸ cells_setCell (HBOX.out X1)
            have c0 : wz.cell? ⟨p, 0, none⟩ = some (.string m.s) := block_cell hbz rfl
            have c1 : wz.cell? ⟨p, 1, none⟩ = some (.string m.p) := block_cell hbz rfl
            have c2 : wz.cell? ⟨p, 2, none⟩ = some (.int .i64 m.f) := block_cell hbz rfl
            have c3 : wz.cell? ⟨p, 3, none⟩ = some (.int .i64 x) := block_cell hbz rfl
            have HOZ := Lib.hid (own_keep (HOX.out X1) hkz HNP.out)
            have HBZ := Lib.hid (Kept.below (HBX.out X1) hkz (HBX.out X1).size (fun k hk e => by omega))
            have hsz : w.heap.size ≤ wz.heap.size := HBZ.out.size
            clear hkz hbz hwz
            clear z0 z1 z2 z3 f3
            go_wp2_with (at_builtin; refine wpList_append_where _ rfl (.tmp 39) (.tmp 41) 24 rfl w.heap.size 54 i0 (.agg #[.string ⟨#[]⟩, .string ⟨#[]⟩, .int .i64 0, .int .i64 0]) 4 48 HUS.out HI0.out HZ0.out HZ1.out HZ2.out rfl (by decide) u9 n _ rfl (HOZ.out.alloc _) ⟨wz.heap.size, 0, none⟩ 1 1 (encM ⟨m.s, m.p, m.f, x⟩) rfl (by decide) rfl ?c1 ?c2 ?c3 ?c4 ?c5 ?_)
            case c1 =>
              intro jj uu hu
              rw [addr_add0, World.cell?_alloc_at _ _ _ _ rfl]
              simpa [encM] using hu
            case c2 => exact encM_one _
            case c3 => unfold maxLen; omega
            case c4 => omega
            case c5 => simp; omega
            intro v7 w7 hown7 hg7 _
            obtain ⟨q7, cap7, rfl⟩ := ownsRow_succ hown7
            have HO9 : Hid (w7.ownsRow w.heap.size 54 4 (.slice (some ⟨q7, 0, none⟩) (n + 1) cap7) (endL (mineB slot part) x (l.take (k + 1))).length ((endL (mineB slot part) x (l.take (k + 1))).flatMap encM)) := Lib.hid (by
              rw [HTK1.out, HEO.out, List.length_append, List.flatMap_append, HNN.out]
              simpa [encM] using hown7)
            have HB9 : Hid (Below w.heap.size w w7) := Lib.hid ((HBZ.out.alloc HBZ.out.size (.cells #[.string m.s, .string m.p, .int .i64 m.f, .int .i64 x] 54)).grown hg7 (by simp; omega) (fun q hq => (HOZ.out.lt q hq).1))
            clear hown7 hg7 c0 c1 c2 c3
            go_wp2_with fail
            go_roundw
            case rel => exact ⟨k + 1, by go_num, by omega, HB9, HO9⟩
            case measure => simp [intOf]; omega
      · rw [decide_eq_false hb1] at hs1
        by_cases hb2 : m.p = part
        · have hq : mineB slot part m = true := mine_iff.2 (Or.inr hb2)
          rw [decide_eq_true hb2] at hs2
          clear hb1 hb2
          cases hc : m.c x
          · rw [hc] at DI
            have HEO : Hid (endO (mineB slot part) x m = some m) := Lib.hid (by unfold endO; rw [if_neg (by rw [hc]; simp)])
            clear hc hq
            go_upto_region 5 with (fail)
            rw [HV1.out]
            rw [HP.out]
            refine ext_wp fun X0 => ?_
            clear e0 e1 e2 e3
            go_wp2_with fail
            refine (Ext.calls _ (DI.out X0.1)).mono ?_
            rintro e y1 ⟨rfl, X1, rfl⟩
            go_upto_region 8 with (fail)
            obtain ⟨wz, hwz⟩ : ∃ wz, X1.1 = wz := ⟨_, rfl⟩
            have c0 := z0 X1
            have c1 := z1 X1
            have c2 := z2 X1
            have c3 := z3 X1
            have hoz := HOX.out X1
            have hbz := HBX.out X1
            rw [hwz] at c0 c1 c2 c3 hoz hbz ⊢
            have HOZ := Lib.hid hoz
            have HBZ := Lib.hid hbz
            have hsz : w.heap.size ≤ wz.heap.size := hbz.size
            clear hoz hbz hwz
            clear z0 z1 z2 z3 f3
            go_wp2_with (at_builtin; refine wpList_append_where _ rfl (.tmp 39) (.tmp 41) 24 rfl w.heap.size 54 i0 (.agg #[.string ⟨#[]⟩, .string ⟨#[]⟩, .int .i64 0, .int .i64 0]) 4 48 HUS.out HI0.out HZ0.out HZ1.out HZ2.out rfl (by decide) u9 n _ rfl (HOZ.out.alloc _) ⟨wz.heap.size, 0, none⟩ 1 1 (encM ⟨m.s, m.p, m.f, m.t⟩) rfl (by decide) rfl ?c1 ?c2 ?c3 ?c4 ?c5 ?_)
            case c1 =>
              intro jj uu hu
              rw [addr_add0, World.cell?_alloc_at _ _ _ _ rfl]
              simpa [encM] using hu
            case c2 => exact encM_one _
            case c3 => unfold maxLen; omega
            case c4 => omega
            case c5 => simp; omega
            intro v7 w7 hown7 hg7 _
            obtain ⟨q7, cap7, rfl⟩ := ownsRow_succ hown7
            have HO9 : Hid (w7.ownsRow w.heap.size 54 4 (.slice (some ⟨q7, 0, none⟩) (n + 1) cap7) (endL (mineB slot part) x (l.take (k + 1))).length ((endL (mineB slot part) x (l.take (k + 1))).flatMap encM)) := Lib.hid (by
              rw [HTK1.out, HEO.out, List.length_append, List.flatMap_append, HNN.out]
              simpa [encM] using hown7)
            have HB9 : Hid (Below w.heap.size w w7) := Lib.hid ((HBZ.out.alloc HBZ.out.size (.cells #[.string m.s, .string m.p, .int .i64 m.f, .int .i64 m.t] 54)).grown hg7 (by simp; omega) (fun q hq => (HOZ.out.lt q hq).1))
            clear hown7 hg7 c0 c1 c2 c3
            go_wp2_with fail
            go_roundw
            case rel => exact ⟨k + 1, by go_num, by omega, HB9, HO9⟩
            case measure => simp [intOf]; omega
          · rw [hc] at DI
            by_cases hf : m.f = x
            · have t3 : (m.f == x) = true := by rw [beq_iff_eq]; exact hf
              have HEO : Hid (endO (mineB slot part) x m = none) := Lib.hid (by unfold endO; rw [if_pos (by rw [hc, hq]; rfl), if_pos hf])
              clear hc hq hf
              go_upto_region 5 with (fail)
              rw [HV1.out]
              rw [HP.out]
              refine ext_wp fun X0 => ?_
              clear e0 e1 e2 e3
              go_wp2_with fail
              refine (Ext.calls _ (DI.out X0.1)).mono ?_
              rintro e y1 ⟨rfl, X1, rfl⟩
              have HO9 : Hid (X1.1.ownsRow w.heap.size 54 4 u9 (endL (mineB slot part) x (l.take (k + 1))).length ((endL (mineB slot part) x (l.take (k + 1))).flatMap encM)) := Lib.hid (by
                rw [HTK1.out, HEO.out]
                simp only [Option.toList_none, List.append_nil]
                rw [HNN.out]
                exact HOX.out X1)
              have HB9 := Lib.hid (HBX.out X1)
              go_wp2_with fail
              go_roundw
              case rel => exact ⟨k + 1, by go_num, by omega, HB9, HO9⟩
              case measure => simp [intOf]; omega
            · have t3 : (m.f == x) = false := by rw [beq_eq_false_iff_ne]; exact hf
              have HEO : Hid (endO (mineB slot part) x m = some ⟨m.s, m.p, m.f, x⟩) := Lib.hid (by unfold endO; rw [if_pos (by rw [hc, hq]; rfl), if_neg hf])
              clear hc hq hf
              go_upto_region 5 with (fail)
              rw [HV1.out]
              rw [HP.out]
              refine ext_wp fun X0 => ?_
              clear e0 e1 e2 e3
              go_wp2_with fail
              refine (Ext.calls _ (DI.out X0.1)).mono ?_
              rintro e y1 ⟨rfl, X1, rfl⟩
              go_upto_region 8 with (fail)
              obtain ⟨wz, hwz⟩ : ∃ wz, X1.1.setCell ⟨p, 3, none⟩ (.int .i64 x) = wz := ⟨_, rfl⟩
              rw [hwz]
              have hkz : Kept (fun k => k = p) X1.1 wz := hwz ▸ kept_set (O := fun k => k = p) (Kept.refl _ _) rfl _
              have hbz : wz.heap[p]? = some (.cells #[.string m.s, .string m.p, .int .i64 m.f, .int .i64 x] 54 (0, 0)) := hwz ▸ cells_setCell (HBOX.out X1)
              have c0 : wz.cell? ⟨p, 0, none⟩ = some (.string m.s) := block_cell hbz rfl
              have c1 : wz.cell? ⟨p, 1, none⟩ = some (.string m.p) := block_cell hbz rfl
              have c2 : wz.cell? ⟨p, 2, none⟩ = some (.int .i64 m.f) := block_cell hbz rfl
              have c3 : wz.cell? ⟨p, 3, none⟩ = some (.int .i64 x) := block_cell hbz rfl
              have HOZ := Lib.hid (own_keep (HOX.out X1) hkz HNP.out)
              have HBZ := Lib.hid (Kept.below (HBX.out X1) hkz (HBX.out X1).size (fun k hk e => by omega))
              have hsz : w.heap.size ≤ wz.heap.size := HBZ.out.size
              clear hkz hbz hwz
              clear z0 z1 z2 z3 f3
              go_wp2_with (at_builtin; refine wpList_append_where _ rfl (.tmp 39) (.tmp 41) 24 rfl w.heap.size 54 i0 (.agg #[.string ⟨#[]⟩, .string ⟨#[]⟩, .int .i64 0, .int .i64 0]) 4 48 HUS.out HI0.out HZ0.out HZ1.out HZ2.out rfl (by decide) u9 n _ rfl (HOZ.out.alloc _) ⟨wz.heap.size, 0, none⟩ 1 1 (encM ⟨m.s, m.p, m.f, x⟩) rfl (by decide) rfl ?c1 ?c2 ?c3 ?c4 ?c5 ?_)
              case c1 =>
                intro jj uu hu
                rw [addr_add0, World.cell?_alloc_at _ _ _ _ rfl]
                simpa [encM] using hu
              case c2 => exact encM_one _
              case c3 => unfold maxLen; omega
              case c4 => omega
              case c5 => simp; omega
              intro v7 w7 hown7 hg7 _
              obtain ⟨q7, cap7, rfl⟩ := ownsRow_succ hown7
              have HO9 : Hid (w7.ownsRow w.heap.size 54 4 (.slice (some ⟨q7, 0, none⟩) (n + 1) cap7) (endL (mineB slot part) x (l.take (k + 1))).length ((endL (mineB slot part) x (l.take (k + 1))).flatMap encM)) := Lib.hid (by
                rw [HTK1.out, HEO.out, List.length_append, List.flatMap_append, HNN.out]
                simpa [encM] using hown7)
              have HB9 : Hid (Below w.heap.size w w7) := Lib.hid ((HBZ.out.alloc HBZ.out.size (.cells #[.string m.s, .string m.p, .int .i64 m.f, .int .i64 x] 54)).grown hg7 (by simp; omega) (fun q hq => (HOZ.out.lt q hq).1))
              clear hown7 hg7 c0 c1 c2 c3
              go_wp2_with fail
              go_roundw
              case rel => exact ⟨k + 1, by go_num, by omega, HB9, HO9⟩
              case measure => simp [intOf]; omega
        · have hq : mineB slot part m = false := by unfold mineB; simp [hb1, hb2]
          rw [decide_eq_false hb2] at hs2
          have HEO : Hid (endO (mineB slot part) x m = some m) := Lib.hid (by unfold endO; rw [if_neg (by rw [hq]; simp)])
          clear hb1 hb2 hq
          go_upto_region 5 with (fail)
          rw [HV1.out]
          rw [HP.out]
          refine ext_wp fun X0 => ?_
          clear e0 e1 e2 e3
          go_upto_region 8 with (fail)
          obtain ⟨wz, hwz⟩ : ∃ wz, X0.1 = wz := ⟨_, rfl⟩
          have c0 := z0 X0
          have c1 := z1 X0
          have c2 := z2 X0
          have c3 := z3 X0
          have hoz := HOX.out X0
          have hbz := HBX.out X0
          rw [hwz] at c0 c1 c2 c3 hoz hbz ⊢
          have HOZ := Lib.hid hoz
          have HBZ := Lib.hid hbz
          have hsz : w.heap.size ≤ wz.heap.size := hbz.size
          clear hoz hbz hwz
          clear z0 z1 z2 z3 f3
          go_wp2_with (at_builtin; refine wpList_append_where _ rfl (.tmp 39) (.tmp 41) 24 rfl w.heap.size 54 i0 (.agg #[.string ⟨#[]⟩, .string ⟨#[]⟩, .int .i64 0, .int .i64 0]) 4 48 HUS.out HI0.out HZ0.out HZ1.out HZ2.out rfl (by decide) u9 n _ rfl (HOZ.out.alloc _) ⟨wz.heap.size, 0, none⟩ 1 1 (encM ⟨m.s, m.p, m.f, m.t⟩) rfl (by decide) rfl ?c1 ?c2 ?c3 ?c4 ?c5 ?_)
          case c1 =>
            intro jj uu hu
            rw [addr_add0, World.cell?_alloc_at _ _ _ _ rfl]
            simpa [encM] using hu
          case c2 => exact encM_one _
          case c3 => unfold maxLen; omega
          case c4 => omega
          case c5 => simp; omega
          intro v7 w7 hown7 hg7 _
          obtain ⟨q7, cap7, rfl⟩ := ownsRow_succ hown7
          have HO9 : Hid (w7.ownsRow w.heap.size 54 4 (.slice (some ⟨q7, 0, none⟩) (n + 1) cap7) (endL (mineB slot part) x (l.take (k + 1))).length ((endL (mineB slot part) x (l.take (k + 1))).flatMap encM)) := Lib.hid (by
            rw [HTK1.out, HEO.out, List.length_append, List.flatMap_append, HNN.out]
            simpa [encM] using hown7)
          have HB9 : Hid (Below w.heap.size w w7) := Lib.hid ((HBZ.out.alloc HBZ.out.size (.cells #[.string m.s, .string m.p, .int .i64 m.f, .int .i64 m.t] 54)).grown hg7 (by simp; omega) (fun q hq => (HOZ.out.lt q hq).1))
          clear hown7 hg7 c0 c1 c2 c3
          go_wp2_with fail
          go_roundw
          case rel => exact ⟨k + 1, by go_num, by omega, HB9, HO9⟩
          case measure => simp [intOf]; omega
    · have t1 : decide ((k : Int) < (l.length : Int)) = false := by rw [decide_eq_false_iff_not]; omega
      have t1' : decide (k < l.length) = false := by simpa using hlt
      obtain rfl : k = l.length := by omega
      have ho := HO.out
      rw [List.take_length] at ho
      have HO9 := Lib.hid ho
      clear hlt ho HO
      go_wp2_with fail
      go_ret
      exact ⟨u9, rfl, HO9.out, HB.out⟩

end Go.Proofs.Ytbkpoepacjinlaa

/- Gear: Take of the program. (Printed by gen_take.py.) -/
namespace Go.Proofs.Ytbkpoepacjinlaa
open Go.RowKit Go.BigFrame
open Gar (chk momG hasS hasP takeErr takeG)

set_option maxHeartbeats 1000000 in
theorem takeCl_any (m : Mo) (slot part : ByteArray) (b1 b2 : Nat) (w : World) (h1 : w.cell? ⟨b1, 0, none⟩ = some (.string slot)) (h2 : w.cell? ⟨b2, 0, none⟩ = some (.string part)) :
    Calls Try.prog 93 #[mountV m.s m.p m.f m.t, .pointer (some ⟨b1, 0, none⟩), .pointer (some ⟨b2, 0, none⟩)] w fun e w' => e = .returned (.bool (bothB slot part m)) ∧ Below w.heap.size w w' := by
  unfold mountV bothB
  have hs1 := str_eq m.s slot
  have hs2 := str_eq m.p part
  obtain ⟨W, hW, hb, hs, hl⟩ := alloc_cells w #[.string m.s, .string m.p, .int .i64 m.f, .int .i64 m.t] 54
  have m0 : W.cell? ⟨w.heap.size, 0, none⟩ = some (.string m.s) := hl 0 _ rfl
  have m1 : W.cell? ⟨w.heap.size, 1, none⟩ = some (.string m.p) := hl 1 _ rfl
  have n1 := below_cell hb h1
  have n2 := below_cell hb h2
  have HW := Lib.hid hW
  have HB := Lib.hid hb
  clear hW hb hs hl h1 h2
  generalize decide (m.s = slot) = c1 at hs1 ⊢
  generalize decide (m.p = part) = c2 at hs2 ⊢
  cases c1 <;> cases c2
  all_goals
    go_enter Try.func93, Try.ntmps93
    go_upto_region 1 with (fail)
    rw [HW.out]
    go_wp2_with fail
    go_ret
    exact ⟨rfl, HB.out⟩
theorem setM_in {w0 w : World} {g : Gar} {a0 a1 a2 a3 b0 b1 b2 b3 : Option Addr} (h0 : GarIn w0 g a0 a1 a2 a3) {l : List Mo} (hl : RightM g l) (r0 : RowK w b0 g.np 2 g.cellsP) (r1 : RowK w b1 g.ns 2 g.cellsS) (r2 : RowK w b2 l.length 4 (fun i => encM (l.getD i default)))
    (r3 : RowK w b3 g.nu 5 g.cellsU) : GarIn w (g.setM l) b0 b1 b2 b3 := by
  refine ⟨r0, r1, r2, r3, h0.z0, h0.z1, fun i hi => ?_, h0.z3, h0.l0, h0.l1, ?_, h0.l3⟩
  · have hi : i < l.length := hi
    have hm : l.getD i default ∈ l := by
      rw [List.getD_eq_getElem?_getD, List.getElem?_eq_getElem hi]
      exact List.getElem_mem hi
    have hf := hl.fine _ hm
    have h1 := hf.hs
    have h2 := hf.hp
    unfold hasS at h1
    unfold hasP at h2
    rw [List.any_eq_true] at h1 h2
    obtain ⟨j, hj, e1⟩ := h1
    obtain ⟨k, hk, e2⟩ := h2
    rw [decide_eq_true_eq] at e1 e2
    show (l.getD i default).s.size ≤ maxLen ∧ (l.getD i default).p.size ≤ maxLen
    rw [← e1, ← e2]
    exact ⟨(h0.z1 j (List.mem_range.1 hj)).1, h0.z0 k (List.mem_range.1 hk)⟩
  · have := hl.len
    show (l.length : Int) ≤ _
    omega
theorem rowM_of {w : World} {g : Gar} {a : Option Addr} (h : RowK w a g.nm 4 g.cellsM) : RowK w a g.mnts.length 4 (fun i => encM (g.mnts.getD i default)) := by
  rw [Gar.mnts_len]
  refine ⟨fun hl => ?_⟩
  obtain ⟨b, off, e1, e2, e3⟩ := h.here hl
  refine ⟨b, off, e1, e2, fun i hi j hj => ?_⟩
  rw [e3 i hi j hj]
  show _ = (encM (g.mnts.getD i default))[j]?
  rw [Gar.mnts_getD g hi]
  rfl

set_option maxHeartbeats 8000000 in
set_option maxRecDepth 100000 in
theorem take_any (g : Gar) (a0 a1 a2 a3 : Option Addr) (c0 c1 c2 c3 : Nat) (slot : ByteArray) (x : Int) (w : World) (h : GarIn w g a0 a1 a2 a3) :
    Calls Try.prog 40 #[garV g a0 a1 a2 a3 c0 c1 c2 c3, .string slot, .int .i64 x] w fun e w' => RetG w w' e (takeG g slot x) (takeErr g slot x) := by
  have HG := Lib.hid h
  obtain ⟨W0, hW0, hb0, hs0', hq0⟩ := allocs w [.cells #[.slice a0 g.np c0, .slice a1 g.ns c1, .slice a2 g.nm c2, .slice a3 g.nu c3] 27, .cells #[.string slot] 9, .cells #[.slice none 0 0, .slice none 0 0, .slice none 0 0, .slice none 0 0] 27]
  have hs0 : W0.heap.size = w.heap.size + 3 := hs0'
  clear hs0'
  have G0 := Ext.ex (show W0.cell? ⟨w.heap.size, 0, none⟩ = some (.slice a0 g.np c0) from block_cell (hq0 0 _ rfl) rfl)
  have G1 := Ext.ex (show W0.cell? ⟨w.heap.size, 1, none⟩ = some (.slice a1 g.ns c1) from block_cell (hq0 0 _ rfl) rfl)
  have G2 := Ext.ex (show W0.cell? ⟨w.heap.size, 2, none⟩ = some (.slice a2 g.nm c2) from block_cell (hq0 0 _ rfl) rfl)
  have G3 := Ext.ex (show W0.cell? ⟨w.heap.size, 3, none⟩ = some (.slice a3 g.nu c3) from block_cell (hq0 0 _ rfl) rfl)
  have U0 := Ext.ex (show W0.cell? ⟨w.heap.size + 1, 0, none⟩ = some (.string slot) from block_cell (hq0 1 _ rfl) rfl)
  have HR := Lib.hid (fun (X : Ext W0) => below_block X.2 (hq0 2 _ rfl))
  have HW0 := Lib.hid (show ((w.alloc (.cells #[.slice a0 g.np c0, .slice a1 g.ns c1, .slice a2 g.nm c2, .slice a3 g.nu c3] 27)).alloc (.cells #[.string slot] 9)).alloc (.cells #[.slice none 0 0, .slice none 0 0, .slice none 0 0, .slice none 0 0] 27) = W0 from hW0)
  have HB := Lib.hid hb0
  have hbs : w.heap.size ≤ W0.heap.size := by omega
  have hmf : ∀ fn first cap w, (Instr.makeFunc fn first cap).run Try.prog w = .ok (.func fn first cap) w := fun _ _ _ _ => rfl
  have DK := Lib.hid (fun (Y : Ext W0) => gIn_any g a0 a1 a2 a3 c0 c1 c2 c3 slot x Y.1 (HG.out.below (Y.down HB.out hbs)))
  have DC0 := Lib.hid (fun (hk : chk g = 0) (W : World) (hW : Below w.heap.size w W) => cloned_any g a0 a1 a2 a3 c0 c1 c2 c3 W (HG.out.below hW) hk)
  have HOK := Lib.hid (fun he => Gar.take_ok (g := g) (slot := slot) (x := x) he)
  obtain ⟨er, her⟩ : ∃ z, takeErr g slot x = z := ⟨_, rfl⟩
  obtain ⟨gg, hgg⟩ : ∃ z, takeG g slot x = z := ⟨_, rfl⟩
  rw [her, hgg]
  rw [her] at HOK
  have HE := Lib.hid her
  have HGG := Lib.hid hgg
  unfold takeErr at her
  unfold takeG at hgg
  rw [HE.out] at hgg
  obtain ⟨r, hr⟩ : ∃ r, InS g slot x = r := ⟨_, rfl⟩
  have HRR := Lib.hid hr
  rw [hr] at DK her hgg
  obtain ⟨p, okb, ei⟩ := r
  simp only at her hgg
  have HER := Lib.hid her
  have HGR := Lib.hid hgg
  unfold tri at DK
  unfold garV at DK DC0
  unfold garV
  clear h hW0 hb0 hq0 her hgg hr

  by_cases k1 : ei = 0
  case neg =>
    have HX : Hid (gg = Gar.zero ∧ er = ei) := Lib.hid (by
      have e := HER.out
      rw [if_pos k1] at e
      have e2 := HGR.out
      rw [if_neg (by rw [← e]; exact k1)] at e2
      exact ⟨e2.symm, e.symm⟩)
    have n1 : (ei != 0) = true := by rw [bne_iff_ne]; exact k1
    clear k1 DC0 HE HGG HER HGR HOK HRR
    go_enter Try.func40, Try.ntmps40
    go_upto_region 1 with (fail)
    rw [HW0.out]
    refine ext_wp fun X => ?_
    go_wp2_with fail
    refine (Ext.calls _ (DK.out _)).mono ?_
    rintro e w2 ⟨rfl, Y, rfl⟩
    go_upto_region 2 with (fail)
    obtain ⟨V, hV, hvb, hvs, hvq⟩ := alloc_block Y.1 #[.string p] 9
    rw [hV]
    obtain ⟨Y2, rfl⟩ : ∃ Y : Ext W0, V = Y.1 := ⟨⟨V, below_step Y.2 hvb⟩, rfl⟩
    clear hV hvb hvs hvq
    have Z0 : Y2.1.cell? ⟨w.heap.size + 2, 0, none⟩ = some (.slice none 0 0) := block_cell (HR.out Y2) rfl
    have Z1 : Y2.1.cell? ⟨w.heap.size + 2, 1, none⟩ = some (.slice none 0 0) := block_cell (HR.out Y2) rfl
    have Z2 : Y2.1.cell? ⟨w.heap.size + 2, 2, none⟩ = some (.slice none 0 0) := block_cell (HR.out Y2) rfl
    have Z3 : Y2.1.cell? ⟨w.heap.size + 2, 3, none⟩ = some (.slice none 0 0) := block_cell (HR.out Y2) rfl
    have F0 : Y2.1.frozen? ⟨w.heap.size + 2, 0, none⟩ = false := block_free (HR.out Y2)
    have F1 : Y2.1.frozen? ⟨w.heap.size + 2, 1, none⟩ = false := block_free (HR.out Y2)
    have F2 : Y2.1.frozen? ⟨w.heap.size + 2, 2, none⟩ = false := block_free (HR.out Y2)
    have F3 : Y2.1.frozen? ⟨w.heap.size + 2, 3, none⟩ = false := block_free (HR.out Y2)
    go_wp2_with fail
    obtain ⟨W5, hW5, hr5, hk5, _⟩ := store4 (HR.out Y2) (.slice none 0 0) (.slice none 0 0) (.slice none 0 0) (.slice none 0 0)
    have x0 : W5.cell? ⟨w.heap.size + 2, 0, none⟩ = some (.slice none 0 0) := block_cell hr5 rfl
    have x1 : W5.cell? ⟨w.heap.size + 2, 1, none⟩ = some (.slice none 0 0) := block_cell hr5 rfl
    have x2 : W5.cell? ⟨w.heap.size + 2, 2, none⟩ = some (.slice none 0 0) := block_cell hr5 rfl
    have x3 : W5.cell? ⟨w.heap.size + 2, 3, none⟩ = some (.slice none 0 0) := block_cell hr5 rfl
    have HB5 := Lib.hid (Kept.below (Y2.down HB.out hbs) hk5 (Nat.le_trans hbs Y2.2.size) (fun k hk e => by omega))
    try rw [show w.heap.size + 1 + 1 = w.heap.size + 2 from rfl]
    rw [hW5]
    clear hW5 hr5 hk5
    exact bodyPost_ret (v := .tuple #[garV Gar.zero none none none none 0 0 0 0, .int .i64 ei]) (by unfold garV; simp [results, Try.results40, go_sem, x0, x1, x2, x3, Gar.zero]) rfl (by rw [HX.out.1, HX.out.2]; exact RetG.zero HB5.out)
  subst k1
  have n1 : ((0 : Int) != 0) = false := rfl
  cases okb
  case false =>
    have HX : Hid (gg = Gar.zero ∧ er = 13) := Lib.hid (by
      have e := HER.out
      rw [if_neg (by simp), if_pos rfl] at e
      have e2 := HGR.out
      rw [if_neg (by rw [← e]; simp)] at e2
      exact ⟨e2.symm, e.symm⟩)
    clear DC0 HE HGG HER HGR HOK HRR
    go_enter Try.func40, Try.ntmps40
    go_upto_region 1 with (fail)
    rw [HW0.out]
    refine ext_wp fun X => ?_
    go_wp2_with fail
    refine (Ext.calls _ (DK.out _)).mono ?_
    rintro e w2 ⟨rfl, Y, rfl⟩
    go_upto_region 2 with (fail)
    obtain ⟨V, hV, hvb, hvs, hvq⟩ := alloc_block Y.1 #[.string p] 9
    rw [hV]
    obtain ⟨Y2, rfl⟩ : ∃ Y : Ext W0, V = Y.1 := ⟨⟨V, below_step Y.2 hvb⟩, rfl⟩
    clear hV hvb hvs hvq
    have Z0 : Y2.1.cell? ⟨w.heap.size + 2, 0, none⟩ = some (.slice none 0 0) := block_cell (HR.out Y2) rfl
    have Z1 : Y2.1.cell? ⟨w.heap.size + 2, 1, none⟩ = some (.slice none 0 0) := block_cell (HR.out Y2) rfl
    have Z2 : Y2.1.cell? ⟨w.heap.size + 2, 2, none⟩ = some (.slice none 0 0) := block_cell (HR.out Y2) rfl
    have Z3 : Y2.1.cell? ⟨w.heap.size + 2, 3, none⟩ = some (.slice none 0 0) := block_cell (HR.out Y2) rfl
    have F0 : Y2.1.frozen? ⟨w.heap.size + 2, 0, none⟩ = false := block_free (HR.out Y2)
    have F1 : Y2.1.frozen? ⟨w.heap.size + 2, 1, none⟩ = false := block_free (HR.out Y2)
    have F2 : Y2.1.frozen? ⟨w.heap.size + 2, 2, none⟩ = false := block_free (HR.out Y2)
    have F3 : Y2.1.frozen? ⟨w.heap.size + 2, 3, none⟩ = false := block_free (HR.out Y2)
    go_wp2_with fail
    obtain ⟨W5, hW5, hr5, hk5, _⟩ := store4 (HR.out Y2) (.slice none 0 0) (.slice none 0 0) (.slice none 0 0) (.slice none 0 0)
    have x0 : W5.cell? ⟨w.heap.size + 2, 0, none⟩ = some (.slice none 0 0) := block_cell hr5 rfl
    have x1 : W5.cell? ⟨w.heap.size + 2, 1, none⟩ = some (.slice none 0 0) := block_cell hr5 rfl
    have x2 : W5.cell? ⟨w.heap.size + 2, 2, none⟩ = some (.slice none 0 0) := block_cell hr5 rfl
    have x3 : W5.cell? ⟨w.heap.size + 2, 3, none⟩ = some (.slice none 0 0) := block_cell hr5 rfl
    have HB5 := Lib.hid (Kept.below (Y2.down HB.out hbs) hk5 (Nat.le_trans hbs Y2.2.size) (fun k hk e => by omega))
    try rw [show w.heap.size + 1 + 1 = w.heap.size + 2 from rfl]
    rw [hW5]
    clear hW5 hr5 hk5
    exact bodyPost_ret (v := .tuple #[garV Gar.zero none none none none 0 0 0 0, .int .i64 13]) (by unfold garV; simp [results, Try.results40, go_sem, x0, x1, x2, x3, Gar.zero]) rfl (by rw [HX.out.1, HX.out.2]; exact RetG.zero HB5.out)
  have her0 : er = 0 := by
    have e := HER.out
    rw [if_neg (by simp), if_neg (by simp)] at e
    exact e.symm
  subst her0
  have hok := HOK.out rfl
  have hpp : (InS g slot x).1 = p := by rw [HRR.out]
  have hr0 := hok.r
  rw [hpp] at hr0
  have HRI := Lib.hid hr0
  have HX : Hid (gg = g.setM (endL (bothB slot p) x g.mnts)) := Lib.hid (by
    have e2 := HGR.out
    rw [if_pos rfl] at e2
    exact e2.symm)
  have DC := Lib.hid (DC0.out hok.c)
  have hnm : g.nm ≤ 2000 := (Gar.chk_parts hok.c).2.2.1
  obtain ⟨L, hL⟩ : ∃ L, endL (bothB slot p) x g.mnts = L := ⟨_, rfl⟩
  rw [hL] at HX HRI
  have HL := Lib.hid hL
  clear hok hpp hr0 DC0 HE HGG HER HGR HOK HRR hL
  go_enter Try.func40, Try.ntmps40
  go_upto_region 1 with (fail)
  rw [HW0.out]
  refine ext_wp fun X => ?_
  go_wp2_with fail
  refine (Ext.calls _ (DK.out _)).mono ?_
  rintro e w2 ⟨rfl, Y4, rfl⟩
  go_upto_region 2 with (fail)
  obtain ⟨W1, hW1, hvb, hvs, hvq⟩ := alloc_block Y4.1 #[.string p] 9
  rw [hW1]
  obtain ⟨pb, hpb⟩ : ∃ z, Y4.1.heap.size = z := ⟨_, rfl⟩
  rw [hpb] at hvq hvs ⊢
  have hre := below_step Y4.2 hvb
  replace G0 := Ext.re hre G0
  replace G1 := Ext.re hre G1
  replace G2 := Ext.re hre G2
  replace G3 := Ext.re hre G3
  replace U0 := Ext.re hre U0
  have P0 := Ext.ex (show W1.cell? ⟨pb, 0, none⟩ = some (.string p) from block_cell hvq rfl)
  have HR1 := Lib.hid (fun (X : Ext W1) => show X.1.heap[w.heap.size + 2]? = some (.cells #[.slice none 0 0, .slice none 0 0, .slice none 0 0, .slice none 0 0] 27 (0, 0)) from HR.out ⟨X.1, below_step hre X.2⟩)
  have HB1 := Lib.hid (HB.out.trans (hre.mono hbs))
  have hsz := hre.size
  have hs1 : w.heap.size + 3 ≤ W1.heap.size := by omega
  have hbs1 : w.heap.size ≤ W1.heap.size := by omega
  clear hW1 hvb hvs hvq hre hsz HR HB hbs DK hpb
  refine ext_wp fun X1 => ?_
  go_wp2_with fail
  refine (DC.out _ (X1.down HB1.out hbs1)).mono ?_
  rintro e w5 ⟨b0, b1, b2, b3, d0, d1, d2, d3, rfl, hog, hb5⟩
  have HOG := Lib.hid hog
  have HB5 := Lib.hid hb5
  obtain ⟨Y5, rfl⟩ : ∃ Y : Ext W1, w5 = Y.1 := ⟨⟨w5, X1.2.trans (hb5.mono X1.2.size)⟩, rfl⟩
  clear hog hb5
  go_upto_region 7 with (fail)
  obtain ⟨V2, hV2, hvb2, hvs2, hvq2⟩ := alloc_block Y5.1 #[.slice b0 g.np d0, .slice b1 g.ns d1, .slice b2 g.nm d2, .slice b3 g.nu d3] 27
  rw [hV2]
  obtain ⟨o, ho⟩ : ∃ o, Y5.1.heap.size = o := ⟨_, rfl⟩
  rw [ho] at hvs2 hvq2 ⊢
  have hbase : W1.heap.size ≤ X1.1.heap.size := X1.2.size
  have hO0 := ownsRow_below (ownsRow_lower HOG.out.o0 hbase) hvb2
  have hO1 := ownsRow_below (ownsRow_lower HOG.out.o1 hbase) hvb2
  have hO3 := ownsRow_below (ownsRow_lower HOG.out.o3 hbase) hvb2
  have hy5 := Y5.2.size
  obtain ⟨Y6, rfl⟩ : ∃ Y : Ext W1, V2 = Y.1 := ⟨⟨V2, below_step Y5.2 hvb2⟩, rfl⟩
  have HO0 := Lib.hid hO0
  have HO1 := Lib.hid hO1
  have HO3 := Lib.hid hO3
  have HOB := Lib.hid hvq2
  have HSZ : Hid (W1.heap.size ≤ o) := Lib.hid (by omega)
  have DE0 := ended_any g.mnts a2 c2 x (bothB slot p) 93 #[.pointer (some ⟨w.heap.size + 1, 0, none⟩), .pointer (some ⟨pb, 0, none⟩)] Y6.1 (rowM_of (HG.out.below (Y6.down HB1.out hbs1)).r2) (by rw [Gar.mnts_len]; exact hnm) (fun _ _ => rfl)
    (fun m W hW => takeCl_any m slot p (w.heap.size + 1) pb W (U0 ⟨W, below_step Y6.2 hW⟩) (P0 ⟨W, below_step Y6.2 hW⟩))
  rw [Gar.mnts_len, HL.out] at DE0
  have DE := Lib.hid DE0
  obtain ⟨n, hn⟩ : ∃ n, L.length = n := ⟨_, rfl⟩
  rw [hn] at DE
  have HN := Lib.hid hn
  clear hO0 hO1 hO3 hvb2 hvq2 hvs2 hV2 HOG HB5 ho hy5 hbase DE0 hn
  go_wp2_with fail
  refine DE.out.mono ?_
  rintro e w8 ⟨v8, rfl, hown8, hb8⟩
  have hown8' := hown8
  rw [← HN.out, ← flatM_range, HN.out] at hown8'
  obtain ⟨b9, d9, rfl, _, _⟩ := ownRow_hdr (f := fun i => encM (L.getD i default)) (fun _ => rfl) hown8'
  have rB := below_block hb8 HOB.out
  have HQ8 := Lib.hid (And.intro (ownsRow_below HO0.out hb8) (And.intro (ownsRow_below HO1.out hb8) (And.intro (ownsRow_lower hown8 Y6.2.size) (And.intro (ownsRow_below HO3.out hb8) (And.intro rB (below_step Y6.2 hb8))))))
  have s2 : w8.cell? ⟨o, 2, none⟩ = some (.slice b2 g.nm d2) := block_cell rB rfl
  have f2 : w8.frozen? ⟨o, 2, none⟩ = false := block_free rB
  clear hown8 hown8' hb8 rB DE HO0 HO1 HO3 HOB
  go_upto_region 8 with (fail)
  obtain ⟨w9, hw9⟩ : ∃ w9, w8.setCell ⟨o, 2, none⟩ (.slice b9 n d9) = w9 := ⟨_, rfl⟩
  rw [hw9]
  obtain ⟨r0, r1, r2, r3, rB, hb8⟩ := HQ8.out
  have hk9 : Kept (fun k => k = o) w8 w9 := hw9 ▸ kept_set (O := fun k => k = o) (Kept.refl _ _) rfl _
  have tB : w9.heap[o]? = some (.cells #[.slice b0 g.np d0, .slice b1 g.ns d1, .slice b9 n d9, .slice b3 g.nu d3] 27 (0, 0)) := hw9 ▸ cells_setCell rB
  have t0 := own_keep r0 hk9 (row_box r0 rB (by decide))
  have t1 := own_keep r1 hk9 (row_box r1 rB (by decide))
  have t2 := own_keep r2 hk9 (row_box r2 rB (by decide))
  have t3 := own_keep r3 hk9 (row_box r3 rB (by decide))
  have hso := HSZ.out
  have hb9 : Below W1.heap.size W1 w9 := Kept.below hb8 hk9 hb8.size (fun k hk e => by omega)
  obtain ⟨Y9, rfl⟩ : ∃ Y : Ext W1, w9 = Y.1 := ⟨⟨w9, hb9⟩, rfl⟩
  have m0 : Y9.1.cell? ⟨o, 0, none⟩ = some (.slice b0 g.np d0) := block_cell tB rfl
  have m1 : Y9.1.cell? ⟨o, 1, none⟩ = some (.slice b1 g.ns d1) := block_cell tB rfl
  have m2 : Y9.1.cell? ⟨o, 2, none⟩ = some (.slice b9 n d9) := block_cell tB rfl
  have m3 : Y9.1.cell? ⟨o, 3, none⟩ = some (.slice b3 g.nu d3) := block_cell tB rfl
  have Z0 : Y9.1.cell? ⟨w.heap.size + 2, 0, none⟩ = some (.slice none 0 0) := block_cell (HR1.out Y9) rfl
  have Z1 : Y9.1.cell? ⟨w.heap.size + 2, 1, none⟩ = some (.slice none 0 0) := block_cell (HR1.out Y9) rfl
  have Z2 : Y9.1.cell? ⟨w.heap.size + 2, 2, none⟩ = some (.slice none 0 0) := block_cell (HR1.out Y9) rfl
  have Z3 : Y9.1.cell? ⟨w.heap.size + 2, 3, none⟩ = some (.slice none 0 0) := block_cell (HR1.out Y9) rfl
  have F0 : Y9.1.frozen? ⟨w.heap.size + 2, 0, none⟩ = false := block_free (HR1.out Y9)
  have F1 : Y9.1.frozen? ⟨w.heap.size + 2, 1, none⟩ = false := block_free (HR1.out Y9)
  have F2 : Y9.1.frozen? ⟨w.heap.size + 2, 2, none⟩ = false := block_free (HR1.out Y9)
  have F3 : Y9.1.frozen? ⟨w.heap.size + 2, 3, none⟩ = false := block_free (HR1.out Y9)
  have HQ9 := Lib.hid (And.intro t0 (And.intro t1 (And.intro t2 t3)))
  clear r0 r1 r2 r3 rB hb8 hk9 tB t0 t1 t2 t3 hb9 hw9 s2 f2 HQ8 hso
  go_wp2_with fail
  obtain ⟨t0, t1, t2, t3⟩ := HQ9.out
  obtain ⟨W5, hW5, hr5, hk5, _⟩ := store4 (HR1.out Y9) (.slice b0 g.np d0) (.slice b1 g.ns d1) (.slice b9 n d9) (.slice b3 g.nu d3)
  have x0 : W5.cell? ⟨w.heap.size + 2, 0, none⟩ = some (.slice b0 g.np d0) := block_cell hr5 rfl
  have x1 : W5.cell? ⟨w.heap.size + 2, 1, none⟩ = some (.slice b1 g.ns d1) := block_cell hr5 rfl
  have x2 : W5.cell? ⟨w.heap.size + 2, 2, none⟩ = some (.slice b9 n d9) := block_cell hr5 rfl
  have x3 : W5.cell? ⟨w.heap.size + 2, 3, none⟩ = some (.slice b3 g.nu d3) := block_cell hr5 rfl
  have low : ∀ b, W1.heap.size ≤ b → ¬ b = w.heap.size + 2 := fun b hb e => by omega
  have z0 := ownsRow_kept t0 hk5 low
  have z1 := ownsRow_kept t1 hk5 low
  have z2 := ownsRow_kept t2 hk5 low
  have z3 := ownsRow_kept t3 hk5 low
  rw [← HN.out, ← flatM_range] at z2
  have e0 := ownRow_of (f := g.cellsP) (fun _ => rfl) z0
  have e1 := ownRow_of (f := g.cellsS) (fun _ => rfl) z1
  have e2 := ownRow_of (f := fun i => encM (L.getD i default)) (fun _ => rfl) z2
  have e3 := ownRow_of (f := g.cellsU) (fun _ => rfl) z3
  have HB5 := Lib.hid (Kept.below (Y9.down HB1.out hbs1) hk5 (Nat.le_trans hbs1 Y9.2.size) (fun k hk e => by omega))
  have HFIN : Hid (RetG w W5 (.returned (.tuple #[garV (g.setM L) b0 b1 b9 b3 d0 d1 d9 d3, .int .i64 0])) gg 0) := Lib.hid (by
    rw [HX.out]
    exact ⟨⟨b0, b1, b9, b3, d0, d1, d9, d3, rfl, setM_in HG.out HRI.out e0.2 e1.2 e2.2 e3.2, e2.1, e3.1⟩, HB5.out⟩)
  try rw [show w.heap.size + 1 + 1 = w.heap.size + 2 from rfl]
  rw [hW5]
  have hlI : (g.setM L).nm = n := HN.out
  exact bodyPost_ret (v := .tuple #[garV (g.setM L) b0 b1 b9 b3 d0 d1 d9 d3, .int .i64 0]) (by unfold garV; rw [hlI]; simp [results, Try.results40, go_sem, x0, x1, x2, x3, Gar.setM]) rfl HFIN.out
end Go.Proofs.Ytbkpoepacjinlaa

/- Gear: Take of the reference. (Printed by gen_rtake.py.) -/
namespace Go.Proofs.Ytbkpoepacjinlaa
open Go.RowKit Go.BigFrame
open Gar (chk momG hasS hasP takeErr takeG)

namespace Gar
theorem ins_c {g : Gar} {slot : ByteArray} {x : Int} (h1 : chk g = 0) (h2 : hasS g slot = true) (h3 : momG x = true) : InS g slot x = ((inR (inF g slot x g.nm 0)).1, (inR (inF g slot x g.nm 0)).2, 0) := by
  unfold InS
  rw [if_neg (by rw [h1]; simp), if_neg (by rw [h2]; simp), if_neg (by rw [h3]; simp)]
theorem take_bad {g : Gar} {slot : ByteArray} {x : Int} {e : Int} (h : takeErr g slot x = e) (he : e ≠ 0) : takeG g slot x = zero := by
  unfold takeG
  rw [if_neg (by rw [h]; exact he)]
theorem take_c1 {g : Gar} {slot : ByteArray} {x : Int} (h1 : chk g ≠ 0) : takeErr g slot x = chk g := by
  unfold takeErr
  have e : InS g slot x = (⟨#[]⟩, false, chk g) := by unfold InS; rw [if_pos h1]
  rw [e, if_pos h1]
theorem take_c2 {g : Gar} {slot : ByteArray} {x : Int} (h1 : chk g = 0) (h2 : hasS g slot = false) : takeErr g slot x = 4 := by
  unfold takeErr
  have e : InS g slot x = (⟨#[]⟩, false, 4) := by unfold InS; rw [if_neg (by rw [h1]; simp), if_pos h2]
  rw [e, if_pos (by simp)]
theorem take_c3 {g : Gar} {slot : ByteArray} {x : Int} (h1 : chk g = 0) (h2 : hasS g slot = true) (h3 : momG x = false) : takeErr g slot x = 9 := by
  unfold takeErr
  have e : InS g slot x = (⟨#[]⟩, false, 9) := by unfold InS; rw [if_neg (by rw [h1]; simp), if_neg (by rw [h2]; simp), if_pos h3]
  rw [e, if_pos (by simp)]
theorem take_c4 {g : Gar} {slot : ByteArray} {x : Int} (h1 : chk g = 0) (h2 : hasS g slot = true) (h3 : momG x = true) (h4 : inF g slot x g.nm 0 = none) : takeErr g slot x = 13 := by
  unfold takeErr
  rw [ins_c h1 h2 h3, h4]
  rfl
theorem take_c5 {g : Gar} {slot p : ByteArray} {x : Int} (h1 : chk g = 0) (h2 : hasS g slot = true) (h3 : momG x = true) (h4 : inF g slot x g.nm 0 = some p) : takeErr g slot x = 0 ∧ takeG g slot x = g.setM (endL (bothB slot p) x g.mnts) ∧ RightM g (endL (bothB slot p) x g.mnts) := by
  have he : takeErr g slot x = 0 := by
    unfold takeErr
    rw [ins_c h1 h2 h3, h4, if_neg (by simp), if_neg (by simp [inR])]
  have hp : (InS g slot x).1 = p := by rw [ins_c h1 h2 h3, h4]; rfl
  have hk := take_ok he
  have e := hk.e
  have r := hk.r
  rw [hp] at e r
  exact ⟨he, e, r⟩
end Gar
/-- the loop of Take -/
structure RTp (l : List Mo) (q : Mo → Bool) (x : Int) (V wr : World) (o : Nat) (s0 s1 s3 : Value) (k : Nat) (v : Value) : Prop where
  keep : Kept (fun b => b = o) V wr
  row : wr.ownsRow V.heap.size 54 4 v (endL q x (l.take k)).length ((endL q x (l.take k)).flatMap encM)
  box : wr.heap[o]? = some (.cells #[s0, s1, v, s3] 27 (0, 0))
section
variable {l : List Mo} {q : Mo → Bool} {x : Int} {V wr wx w7 : World} {o : Nat} {s0 s1 s3 : Value} {k : Nat} {v v' : Value}
theorem RTp.below (h : RTp l q x V wr o s0 s1 s3 k v) (hb : Below wr.heap.size wr wx) : RTp l q x V wx o s0 s1 s3 k v :=
  ⟨h.keep.trans (Kept.of_below hb), ownsRow_below h.row hb, below_block hb h.box⟩
theorem RTp.skip (h : RTp l q x V wr o s0 s1 s3 k v) (hk : k < l.length) (e : endO q x (l.getD k default) = none) : RTp l q x V wr o s0 s1 s3 (k + 1) v := by
  refine ⟨h.keep, ?_, h.box⟩
  rw [endL_take q x l hk, e]
  simpa using h.row
theorem RTp.add {m : Mo} (h : RTp l q x V wr o s0 s1 s3 k v) (hk : k < l.length) (e : endO q x (l.getD k default) = some m) (V3 : World) (hb : Below wr.heap.size wr V3) (hg : V3.grownBy w7 v.ownBlock)
    (ho : w7.ownsRow V.heap.size 54 4 v' ((endL q x (l.take k)).length + 1) ((endL q x (l.take k)).flatMap encM ++ encM m)) : RTp l q x V (w7.setCell ⟨o, 2, none⟩ v') o s0 s1 s3 (k + 1) v' := by
  have r3 := ownsRow_below h.row hb
  have b3 := below_block hb h.box
  have b7 := grown_block hg b3 (row_box r3 b3 (by decide))
  have k7 : Kept (fun b => b = o) V w7 := (h.keep.trans (Kept.of_below hb)).grown hg (fun q hq hl => by have := (r3.lt q hq).1; omega)
  have k9 : Kept (fun b => b = o) w7 (w7.setCell ⟨o, 2, none⟩ v') := kept_set (O := fun b => b = o) (Kept.refl _ _) rfl _
  refine ⟨k7.trans k9, ?_, cells_setCell b7⟩
  have hr := own_keep ho k9 (row_box ho b7 (by decide))
  rw [endL_take q x l hk, e, List.length_append, List.flatMap_append]
  simpa using hr
/-- a box of the round's own is stored into -/
theorem RTp.kept {p : Nat} (h : RTp l q x V wr o s0 s1 s3 k v) (hk : Kept (fun b => b = p) wr wx) (hp : V.heap.size ≤ p) (hpo : p ≠ o) (hv : v.ownBlock ≠ some p) (_ho : o < V.heap.size) : RTp l q x V wx o s0 s1 s3 k v :=
  ⟨⟨hk.os.trans h.keep.os, hk.tape.trans h.keep.tape, hk.output.trans h.keep.output, Nat.le_trans h.keep.size hk.size, fun b hb hn => (hk.block b (Nat.lt_of_lt_of_le hb h.keep.size) (by omega)).trans (h.keep.block b hb hn)⟩,
    own_keep h.row hk hv, (hk.block o (lt_of_block h.box) (fun e => hpo e.symm)).trans h.box⟩
end

set_option maxHeartbeats 8000000 in
set_option maxRecDepth 100000 in
theorem rtake_any (g : Gar) (a0 a1 a2 a3 : Option Addr) (c0 c1 c2 c3 : Nat) (slot : ByteArray) (x : Int) (w : World) (h : GarIn w g a0 a1 a2 a3) (hc2 : g.nm ≤ c2) (hc3 : g.nu ≤ c3) :
    Calls Try.prog 41 #[garV g a0 a1 a2 a3 c0 c1 c2 c3, .string slot, .int .i64 x] w fun e w' => RetG w w' e (takeG g slot x) (takeErr g slot x) := by
  have HG := Lib.hid h
  obtain ⟨W0, hW0, hb0, hs0', hq0⟩ := allocs w [.cells #[.slice a0 g.np c0, .slice a1 g.ns c1, .slice a2 g.nm c2, .slice a3 g.nu c3] 27, .cells #[.slice none 0 0, .slice none 0 0, .slice none 0 0, .slice none 0 0] 27]
  have hs0 : W0.heap.size = w.heap.size + 2 := hs0'
  clear hs0'
  have G0 := Ext.ex (show W0.cell? ⟨w.heap.size, 0, none⟩ = some (.slice a0 g.np c0) from block_cell (hq0 0 _ rfl) rfl)
  have G1 := Ext.ex (show W0.cell? ⟨w.heap.size, 1, none⟩ = some (.slice a1 g.ns c1) from block_cell (hq0 0 _ rfl) rfl)
  have G2 := Ext.ex (show W0.cell? ⟨w.heap.size, 2, none⟩ = some (.slice a2 g.nm c2) from block_cell (hq0 0 _ rfl) rfl)
  have G3 := Ext.ex (show W0.cell? ⟨w.heap.size, 3, none⟩ = some (.slice a3 g.nu c3) from block_cell (hq0 0 _ rfl) rfl)
  have HR := Lib.hid (fun (X : Ext W0) => below_block X.2 (hq0 1 _ rfl))
  have Z0 : ∀ X : Ext W0, X.1.cell? ⟨w.heap.size + 1, 0, none⟩ = some (.slice none 0 0) := fun X => block_cell (HR.out X) rfl
  have Z1 : ∀ X : Ext W0, X.1.cell? ⟨w.heap.size + 1, 1, none⟩ = some (.slice none 0 0) := fun X => block_cell (HR.out X) rfl
  have Z2 : ∀ X : Ext W0, X.1.cell? ⟨w.heap.size + 1, 2, none⟩ = some (.slice none 0 0) := fun X => block_cell (HR.out X) rfl
  have Z3 : ∀ X : Ext W0, X.1.cell? ⟨w.heap.size + 1, 3, none⟩ = some (.slice none 0 0) := fun X => block_cell (HR.out X) rfl
  have F0 : ∀ X : Ext W0, X.1.frozen? ⟨w.heap.size + 1, 0, none⟩ = false := fun X => block_free (HR.out X)
  have F1 : ∀ X : Ext W0, X.1.frozen? ⟨w.heap.size + 1, 1, none⟩ = false := fun X => block_free (HR.out X)
  have F2 : ∀ X : Ext W0, X.1.frozen? ⟨w.heap.size + 1, 2, none⟩ = false := fun X => block_free (HR.out X)
  have F3 : ∀ X : Ext W0, X.1.frozen? ⟨w.heap.size + 1, 3, none⟩ = false := fun X => block_free (HR.out X)
  have HW0 := Lib.hid (show (w.alloc (.cells #[.slice a0 g.np c0, .slice a1 g.ns c1, .slice a2 g.nm c2, .slice a3 g.nu c3] 27)).alloc (.cells #[.slice none 0 0, .slice none 0 0, .slice none 0 0, .slice none 0 0] 27) = W0 from hW0)
  have HB := Lib.hid hb0
  have hbs : w.heap.size ≤ W0.heap.size := by omega
  have DK := Lib.hid (fun (Y : Ext W0) => rCheck_any g a0 a1 a2 a3 c0 c1 c2 c3 Y.1 (HG.out.below (Y.down HB.out hbs)) hc2 hc3)
  have DS := Lib.hid (fun (Y : Ext W0) => slotAt_any g a0 a1 a2 a3 c0 c1 c2 c3 slot Y.1 (HG.out.below (Y.down HB.out hbs)))
  have DM := Lib.hid (fun W => rmoment_any x W)
  have DI := Lib.hid (fun (Y : Ext W0) => rin_any g a0 a1 a2 a3 c0 c1 c2 c3 slot x Y.1 (HG.out.below (Y.down HB.out hbs)) _ rfl)
  have DC0 := Lib.hid (fun (hk : chk g = 0) (Y : Ext W0) => copied_any g a0 a1 a2 a3 c0 c1 c2 c3 Y.1 (HG.out.below (Y.down HB.out hbs)) hk)
  have is1 := hasS_idx g slot
  generalize idxF (fun i => decide (g.sn i = slot)) g.ns 0 = i1 at DS is1
  have T1 := Lib.hid (fun h => Gar.take_c1 (g := g) (slot := slot) (x := x) h)
  have T2 := Lib.hid (fun h1 h2 => Gar.take_c2 (g := g) (slot := slot) (x := x) h1 h2)
  have T3 := Lib.hid (fun h1 h2 h3 => Gar.take_c3 (g := g) (slot := slot) (x := x) h1 h2 h3)
  have T4 := Lib.hid (fun h1 h2 h3 h4 => Gar.take_c4 (g := g) (slot := slot) (x := x) h1 h2 h3 h4)
  have T5 := Lib.hid (fun p h1 h2 h3 h4 => Gar.take_c5 (g := g) (slot := slot) (p := p) (x := x) h1 h2 h3 h4)
  have TB := Lib.hid (fun (e : Int) h he => Gar.take_bad (g := g) (slot := slot) (x := x) (e := e) h he)
  obtain ⟨er, her⟩ : ∃ z, takeErr g slot x = z := ⟨_, rfl⟩
  obtain ⟨gg, hgg⟩ : ∃ z, takeG g slot x = z := ⟨_, rfl⟩
  rw [her] at T1 T2 T3 T4 T5 TB
  rw [hgg] at T5 TB
  rw [her, hgg]
  unfold garV at DK DS DI DC0
  unfold garV
  clear h hW0 hb0 hq0 her hgg hc2 hc3
  by_cases k1 : chk g = 0
  case neg =>
    have HX : Hid (gg = Gar.zero ∧ er = chk g) := Lib.hid ⟨TB.out _ (T1.out k1) k1, T1.out k1⟩
    have n1 : (chk g != 0) = true := by rw [bne_iff_ne]; exact k1
    clear k1 DC0 T1 T2 T3 T4 T5 TB DI DS DM
    generalize chk g = ck at *
    go_enter Try.func41, Try.ntmps41
    go_upto_region 1 with (fail)
    rw [HW0.out]
    refine ext_wp fun X => ?_
    go_wp2_with fail
    refine (Ext.calls _ (DK.out _)).mono ?_
    rintro e w2 ⟨rfl, Y, rfl⟩
    go_wp2_with fail
    obtain ⟨W5, hW5, hr5, hk5, _⟩ := store4 (HR.out Y) (.slice none 0 0) (.slice none 0 0) (.slice none 0 0) (.slice none 0 0)
    have x0 : W5.cell? ⟨w.heap.size + 1, 0, none⟩ = some (.slice none 0 0) := block_cell hr5 rfl
    have x1 : W5.cell? ⟨w.heap.size + 1, 1, none⟩ = some (.slice none 0 0) := block_cell hr5 rfl
    have x2 : W5.cell? ⟨w.heap.size + 1, 2, none⟩ = some (.slice none 0 0) := block_cell hr5 rfl
    have x3 : W5.cell? ⟨w.heap.size + 1, 3, none⟩ = some (.slice none 0 0) := block_cell hr5 rfl
    have HB5 := Lib.hid (Kept.below (Y.down HB.out hbs) hk5 (Nat.le_trans hbs Y.2.size) (fun k hk e => by omega))
    rw [hW5]
    clear hW5 hr5 hk5
    exact bodyPost_ret (v := .tuple #[garV Gar.zero none none none none 0 0 0 0, .int .i64 ck]) (by unfold garV; simp [results, Try.results41, go_sem, x0, x1, x2, x3, Gar.zero]) rfl (by rw [HX.out.1, HX.out.2]; exact RetG.zero HB5.out)
  rw [k1] at DK
  have n1 : ((0 : Int) != 0) = false := rfl
  cases k2 : hasS g slot
  case false =>
    have HX : Hid (gg = Gar.zero ∧ er = 4) := Lib.hid ⟨TB.out _ (T2.out k1 k2) (by simp), T2.out k1 k2⟩
    rw [k2] at is1
    clear k1 k2 DC0 T1 T2 T3 T4 T5 TB DI DM
    go_enter Try.func41, Try.ntmps41
    go_upto_region 1 with (fail)
    rw [HW0.out]
    refine ext_wp fun X => ?_
    go_wp2_with fail
    refine (Ext.calls _ (DK.out _)).mono ?_
    rintro e w2 ⟨rfl, Y, rfl⟩
    go_wp2_with fail
    refine (Ext.calls _ (DS.out _)).mono ?_
    rintro e w2 ⟨rfl, Y2, rfl⟩
    go_wp2_with fail
    obtain ⟨W5, hW5, hr5, hk5, _⟩ := store4 (HR.out Y2) (.slice none 0 0) (.slice none 0 0) (.slice none 0 0) (.slice none 0 0)
    have x0 : W5.cell? ⟨w.heap.size + 1, 0, none⟩ = some (.slice none 0 0) := block_cell hr5 rfl
    have x1 : W5.cell? ⟨w.heap.size + 1, 1, none⟩ = some (.slice none 0 0) := block_cell hr5 rfl
    have x2 : W5.cell? ⟨w.heap.size + 1, 2, none⟩ = some (.slice none 0 0) := block_cell hr5 rfl
    have x3 : W5.cell? ⟨w.heap.size + 1, 3, none⟩ = some (.slice none 0 0) := block_cell hr5 rfl
    have HB5 := Lib.hid (Kept.below (Y2.down HB.out hbs) hk5 (Nat.le_trans hbs Y2.2.size) (fun k hk e => by omega))
    rw [hW5]
    clear hW5 hr5 hk5
    exact bodyPost_ret (v := .tuple #[garV Gar.zero none none none none 0 0 0 0, .int .i64 4]) (by unfold garV; simp [results, Try.results41, go_sem, x0, x1, x2, x3, Gar.zero]) rfl (by rw [HX.out.1, HX.out.2]; exact RetG.zero HB5.out)
  cases k3 : momG x
  case false =>
    have HX : Hid (gg = Gar.zero ∧ er = 9) := Lib.hid ⟨TB.out _ (T3.out k1 k2 k3) (by simp), T3.out k1 k2 k3⟩
    rw [k2] at is1
    rw [k3] at DM
    clear k1 k2 k3 DC0 T1 T2 T3 T4 T5 TB DI
    go_enter Try.func41, Try.ntmps41
    go_upto_region 1 with (fail)
    rw [HW0.out]
    refine ext_wp fun X => ?_
    go_wp2_with fail
    refine (Ext.calls _ (DK.out _)).mono ?_
    rintro e w2 ⟨rfl, Y, rfl⟩
    go_wp2_with fail
    refine (Ext.calls _ (DS.out _)).mono ?_
    rintro e w2 ⟨rfl, Y2, rfl⟩
    go_wp2_with fail
    refine (DM.out _).mono ?_
    rintro e w2 ⟨rfl, rfl⟩
    go_wp2_with fail
    obtain ⟨W5, hW5, hr5, hk5, _⟩ := store4 (HR.out Y2) (.slice none 0 0) (.slice none 0 0) (.slice none 0 0) (.slice none 0 0)
    have x0 : W5.cell? ⟨w.heap.size + 1, 0, none⟩ = some (.slice none 0 0) := block_cell hr5 rfl
    have x1 : W5.cell? ⟨w.heap.size + 1, 1, none⟩ = some (.slice none 0 0) := block_cell hr5 rfl
    have x2 : W5.cell? ⟨w.heap.size + 1, 2, none⟩ = some (.slice none 0 0) := block_cell hr5 rfl
    have x3 : W5.cell? ⟨w.heap.size + 1, 3, none⟩ = some (.slice none 0 0) := block_cell hr5 rfl
    have HB5 := Lib.hid (Kept.below (Y2.down HB.out hbs) hk5 (Nat.le_trans hbs Y2.2.size) (fun k hk e => by omega))
    rw [hW5]
    clear hW5 hr5 hk5
    exact bodyPost_ret (v := .tuple #[garV Gar.zero none none none none 0 0 0 0, .int .i64 9]) (by unfold garV; simp [results, Try.results41, go_sem, x0, x1, x2, x3, Gar.zero]) rfl (by rw [HX.out.1, HX.out.2]; exact RetG.zero HB5.out)
  cases k4 : inF g slot x g.nm 0
  case none =>
    have HX : Hid (gg = Gar.zero ∧ er = 13) := Lib.hid ⟨TB.out _ (T4.out k1 k2 k3 k4) (by simp), T4.out k1 k2 k3 k4⟩
    rw [k2] at is1
    rw [k3] at DM
    rw [k4] at DI
    simp only [inR] at DI
    clear k1 k2 k3 k4 DC0 T1 T2 T3 T4 T5 TB
    go_enter Try.func41, Try.ntmps41
    go_upto_region 1 with (fail)
    rw [HW0.out]
    refine ext_wp fun X => ?_
    go_wp2_with fail
    refine (Ext.calls _ (DK.out _)).mono ?_
    rintro e w2 ⟨rfl, Y, rfl⟩
    go_wp2_with fail
    refine (Ext.calls _ (DS.out _)).mono ?_
    rintro e w2 ⟨rfl, Y2, rfl⟩
    go_wp2_with fail
    refine (DM.out _).mono ?_
    rintro e w2 ⟨rfl, rfl⟩
    go_wp2_with fail
    refine (Ext.calls _ (DI.out _)).mono ?_
    rintro e w2 ⟨rfl, Y3, rfl⟩
    go_wp2_with fail
    obtain ⟨W5, hW5, hr5, hk5, _⟩ := store4 (HR.out Y3) (.slice none 0 0) (.slice none 0 0) (.slice none 0 0) (.slice none 0 0)
    have x0 : W5.cell? ⟨w.heap.size + 1, 0, none⟩ = some (.slice none 0 0) := block_cell hr5 rfl
    have x1 : W5.cell? ⟨w.heap.size + 1, 1, none⟩ = some (.slice none 0 0) := block_cell hr5 rfl
    have x2 : W5.cell? ⟨w.heap.size + 1, 2, none⟩ = some (.slice none 0 0) := block_cell hr5 rfl
    have x3 : W5.cell? ⟨w.heap.size + 1, 3, none⟩ = some (.slice none 0 0) := block_cell hr5 rfl
    have HB5 := Lib.hid (Kept.below (Y3.down HB.out hbs) hk5 (Nat.le_trans hbs Y3.2.size) (fun k hk e => by omega))
    rw [hW5]
    clear hW5 hr5 hk5
    exact bodyPost_ret (v := .tuple #[garV Gar.zero none none none none 0 0 0 0, .int .i64 13]) (by unfold garV; simp [results, Try.results41, go_sem, x0, x1, x2, x3, Gar.zero]) rfl (by rw [HX.out.1, HX.out.2]; exact RetG.zero HB5.out)
  case some p =>
  obtain ⟨hx1, hx2, hri⟩ := T5.out p k1 k2 k3 k4
  have HX := Lib.hid (And.intro hx1 hx2)
  have HRI := Lib.hid hri
  have DC := Lib.hid (DC0.out k1)
  have hnm : g.nm ≤ 2000 := (Gar.chk_parts k1).2.2.1
  rw [k2] at is1
  rw [k3] at DM
  rw [k4] at DI
  simp only [inR] at DI
  obtain ⟨i0, hi0, hz0, hz1, hz2⟩ := info_parts (show (Try.prog.info? 54).map (fun i => (i.zero, i.size, i.bytes)) = some (some (.agg #[.string ⟨#[]⟩, .string ⟨#[]⟩, .int .i64 0, .int .i64 0]), 4, 48) by kernel_rfl)
  have HI0 := Lib.hid hi0
  have HZ0 := Lib.hid hz0
  have HZ1 := Lib.hid hz1
  have HZ2 := Lib.hid hz2
  have HUS := Lib.hid (show Try.prog.underlying 24 = some (.slice 54) by kernel_rfl)
  have HLE := Lib.hid (fun (k : Nat) => endL_le (bothB slot p) x g.mnts k)
  clear hi0 hz0 hz1 hz2 hx1 hx2 hri k1 k2 k3 k4 DC0 T1 T2 T3 T4 T5 TB
  go_enter Try.func41, Try.ntmps41
  go_upto_region 1 with (fail)
  rw [HW0.out]
  refine ext_wp fun X => ?_
  go_wp2_with fail
  refine (Ext.calls _ (DK.out _)).mono ?_
  rintro e w2 ⟨rfl, Y, rfl⟩
  go_wp2_with fail
  refine (Ext.calls _ (DS.out _)).mono ?_
  rintro e w2 ⟨rfl, Y2, rfl⟩
  go_wp2_with fail
  refine (DM.out _).mono ?_
  rintro e w2 ⟨rfl, rfl⟩
  go_wp2_with fail
  refine (Ext.calls _ (DI.out _)).mono ?_
  rintro e w2 ⟨rfl, Y3, rfl⟩
  go_wp2_with fail
  refine (DC.out _).mono ?_
  rintro e w5 ⟨b0, b1, b2, b3, d0, d1, d2, d3, rfl, hog, hb5⟩
  have HOG := Lib.hid hog
  have HB5 := Lib.hid hb5
  obtain ⟨Y5, rfl⟩ : ∃ Y : Ext W0, w5 = Y.1 := ⟨⟨w5, Y3.2.trans (hb5.mono Y3.2.size)⟩, rfl⟩
  clear hog hb5
  go_upto_region 12 with (fail)
  obtain ⟨V2, hV2, hvb2, hvs2, hvq2⟩ := alloc_block Y5.1 #[.slice b0 g.np d0, .slice b1 g.ns d1, .slice b2 g.nm d2, .slice b3 g.nu d3] 27
  rw [hV2]
  obtain ⟨o, ho⟩ : ∃ o, Y5.1.heap.size = o := ⟨_, rfl⟩
  rw [ho] at hvs2 hvq2 ⊢
  have hbase : W0.heap.size ≤ Y3.1.heap.size := Y3.2.size
  have hO0 := ownsRow_below (ownsRow_lower HOG.out.o0 hbase) hvb2
  have hO1 := ownsRow_below (ownsRow_lower HOG.out.o1 hbase) hvb2
  have hO3 := ownsRow_below (ownsRow_lower HOG.out.o3 hbase) hvb2
  have hy5 := Y5.2.size
  obtain ⟨Y6, rfl⟩ : ∃ Y : Ext W0, V2 = Y.1 := ⟨⟨V2, below_step Y5.2 hvb2⟩, rfl⟩
  have k3 : Y6.1.cell? ⟨o, 2, none⟩ = some (.slice b2 g.nm d2) := block_cell hvq2 rfl
  have f3 : Y6.1.frozen? ⟨o, 2, none⟩ = false := block_free hvq2
  have HO0 := Lib.hid hO0
  have HO1 := Lib.hid hO1
  have HO3 := Lib.hid hO3
  have HOB := Lib.hid hvq2
  have HSZ : Hid (Y6.1.heap.size = o + 1 ∧ W0.heap.size ≤ o) := Lib.hid ⟨hvs2, by omega⟩
  clear hO0 hO1 hO3 hvb2 hvq2 hvs2 hV2 HOG HB5 ho hy5 hbase
  go_upto_region 13 with (fail)
  obtain ⟨V, hV⟩ : ∃ V, Y6.1.setCell ⟨o, 2, none⟩ (.slice none 0 0) = V := ⟨_, rfl⟩
  rw [hV]
  obtain ⟨hso3, hso2⟩ := HSZ.out
  have hkV : Kept (fun k => k = o) Y6.1 V := hV ▸ kept_set (O := fun k => k = o) (Kept.refl _ _) rfl _
  have tB : V.heap[o]? = some (.cells #[.slice b0 g.np d0, .slice b1 g.ns d1, .slice none 0 0, .slice b3 g.nu d3] 27 (0, 0)) := hV ▸ cells_setCell HOB.out
  have t0 := own_keep HO0.out hkV (row_box HO0.out HOB.out (by decide))
  have t1 := own_keep HO1.out hkV (row_box HO1.out HOB.out (by decide))
  have t3 := own_keep HO3.out hkV (row_box HO3.out HOB.out (by decide))
  have hVs : o < V.heap.size := lt_of_block tB
  have hbV : Below W0.heap.size W0 V := Y6.2.trans ⟨hkV.os, hkV.tape, hkV.output, hkV.size, fun k hk => hkV.block k (by omega) (by omega)⟩
  obtain ⟨Y7, rfl⟩ : ∃ Y : Ext W0, V = Y.1 := ⟨⟨V, hbV⟩, rfl⟩
  have HT := Lib.hid (And.intro t0 (And.intro t1 (And.intro t3 tB)))
  have HVS := Lib.hid (And.intro hVs Y7.2.size)
  have HL0 : Hid (RTp g.mnts (bothB slot p) x Y7.1 Y7.1 o (.slice b0 g.np d0) (.slice b1 g.ns d1) (.slice b3 g.nu d3) 0 (.slice none 0 0)) := Lib.hid ⟨Kept.refl _ _, World.ownsRow_nil _ _ _ _, tB⟩
  clear hso2 hso3 hkV tB t0 t1 t3 hVs hbV k3 f3 HO0 HO1 HO3 HOB hV DK DC DI DM DS
  go_wp2_with fail
  go_loopw [45] (fun iv wr => ∃ (k : Nat) (v : Value), iv = .int .i64 k ∧ k ≤ g.nm ∧ Hid (RTp g.mnts (bothB slot p) x Y7.1 wr o (.slice b0 g.np d0) (.slice b1 g.ns d1) (.slice b3 g.nu d3) k v)) (fun iv _ => g.nm - (intOf iv).toNat)
  case atStart => exact ⟨0, .slice none 0 0, rfl, by omega, HL0⟩
  case round =>
    obtain ⟨k, v, rfl, hk, HD⟩ := hrel
    have hbw : Below W0.heap.size W0 wr := Y7.2.trans (by
      have h1 := HD.out.keep
      have h2 := HVS.out
      have h3 := HSZ.out
      exact ⟨h1.os, h1.tape, h1.output, h1.size, fun k hk => h1.block k (by omega) (by omega)⟩)
    obtain ⟨X1, rfl⟩ : ∃ X : Ext W0, wr = X.1 := ⟨⟨wr, hbw⟩, rfl⟩
    clear hbw
    by_cases hlt : k < g.nm
    · have t1 : decide ((k : Int) < (g.nm : Int)) = true := by rw [decide_eq_true_eq]; omega
      have t1' : decide (k < g.nm) = true := by simpa using hlt
      have t2 : (k : Int) < (g.nm : Int) := by omega
      obtain ⟨b, off, rfl, hbl, hc⟩ := (HG.out.below (X1.down HB.out hbs)).r2.here (by omega)
      have e0 : X1.1.cell? ⟨b, off + k * 4, none⟩ = some (.string (g.ms k)) := hc k hlt 0 (by omega)
      have e1 : X1.1.cell? ⟨b, off + k * 4 + 1, none⟩ = some (.string (g.mp k)) := hc k hlt 1 (by omega)
      have e2 : X1.1.cell? ⟨b, off + k * 4 + 2, none⟩ = some (.int .i64 (g.mf k)) := hc k hlt 2 (by omega)
      have e3 : X1.1.cell? ⟨b, off + k * 4 + 3, none⟩ = some (.int .i64 (g.mt k)) := hc k hlt 3 (by omega)
      have hgk : g.mnts.getD k default = g.mn k := Gar.mnts_getD g hlt
      have hkl : k < g.mnts.length := by rw [Gar.mnts_len]; exact hlt
      have HSK := Lib.hid (fun (wx : World) (h : RTp g.mnts (bothB slot p) x Y7.1 wx o (.slice b0 g.np d0) (.slice b1 g.ns d1) (.slice b3 g.nu d3) k v) (e : endO (bothB slot p) x (g.mn k) = none) => h.skip hkl (by rw [hgk]; exact e))
      have HAD := Lib.hid (fun (wx w7 : World) (v' : Value) (mm : Mo) (h : RTp g.mnts (bothB slot p) x Y7.1 wx o (.slice b0 g.np d0) (.slice b1 g.ns d1) (.slice b3 g.nu d3) k v) (e : endO (bothB slot p) x (g.mn k) = some mm) => h.add (w7 := w7) (v' := v') hkl (by rw [hgk]; exact e))
      have hle := HLE.out k
      obtain ⟨n, hnn⟩ : ∃ n, (endL (bothB slot p) x (g.mnts.take k)).length = n := ⟨_, rfl⟩
      have ho := HD.out.row
      rw [hnn] at hle ho
      rw [hnn] at HAD
      obtain ⟨m, hm⟩ : ∃ m, g.mn k = m := ⟨_, rfl⟩
      rw [hm] at HSK HAD
      replace e0 : X1.1.cell? ⟨b, off + k * 4, none⟩ = some (.string m.s) := hm ▸ e0
      replace e1 : X1.1.cell? ⟨b, off + k * 4 + 1, none⟩ = some (.string m.p) := hm ▸ e1
      replace e2 : X1.1.cell? ⟨b, off + k * 4 + 2, none⟩ = some (.int .i64 m.f) := hm ▸ e2
      replace e3 : X1.1.cell? ⟨b, off + k * 4 + 3, none⟩ = some (.int .i64 m.t) := hm ▸ e3
      obtain ⟨V1, hV1, hvb, hvs, hvl⟩ := alloc_block X1.1 #[.string m.s, .string m.p, .int .i64 m.f, .int .i64 m.t] 54
      obtain ⟨pm, hp⟩ : ∃ p, X1.1.heap.size = p := ⟨_, rfl⟩
      have hnp : v.ownBlock ≠ some pm := fun e => by have := (ho.lt pm e).2; omega
      have HNP := Lib.hid hnp
      have HPM : Hid (Y7.1.heap.size ≤ pm) := Lib.hid (by rw [← hp]; exact HD.out.keep.size)
      have z0 : ∀ X : Ext V1, X.1.cell? ⟨pm, 0, none⟩ = some (.string m.s) := fun X => block_cell (below_block X.2 (hp ▸ hvl)) rfl
      have z1 : ∀ X : Ext V1, X.1.cell? ⟨pm, 1, none⟩ = some (.string m.p) := fun X => block_cell (below_block X.2 (hp ▸ hvl)) rfl
      have z2 : ∀ X : Ext V1, X.1.cell? ⟨pm, 2, none⟩ = some (.int .i64 m.f) := fun X => block_cell (below_block X.2 (hp ▸ hvl)) rfl
      have z3 : ∀ X : Ext V1, X.1.cell? ⟨pm, 3, none⟩ = some (.int .i64 m.t) := fun X => block_cell (below_block X.2 (hp ▸ hvl)) rfl
      have f3 : ∀ X : Ext V1, X.1.frozen? ⟨pm, 3, none⟩ = false := fun X => block_free (below_block X.2 (hp ▸ hvl))
      have HBOX := Lib.hid (fun X : Ext V1 => below_block X.2 (hp ▸ hvl))
      have HDX := Lib.hid (fun X : Ext V1 => (HD.out.below hvb).below X.2)
      have HV1 : Hid (X1.1.alloc (.cells #[.string m.s, .string m.p, .int .i64 m.f, .int .i64 m.t] 54) = V1) := Lib.hid hV1
      have HP := Lib.hid hp
      have HN := Lib.hid hnn
      have DV := Lib.hid (fun W => covers_any m.s m.p m.f m.t x W)
      have hs1 := str_eq m.s slot
      have hs2 := str_eq m.p p
      unfold mountV at DV
      rw [show isG m.f m.t x = m.c x from rfl] at DV
      clear hV1 hvb hvs hvl hc hbl ho hnn hnp hm hp hgk hkl G0 G1 G2 G3 Z0 Z1 Z2 Z3 F0 F1 F2 F3
      by_cases hb1 : m.s = slot
      · rw [decide_eq_true hb1] at hs1
        by_cases hb2 : m.p = p
        · have hq : bothB slot p m = true := by unfold bothB; simp [hb1, hb2]
          rw [decide_eq_true hb2] at hs2
          clear hb1 hb2
          cases hc : m.c x
          · rw [hc] at DV
            have HEO : Hid (endO (bothB slot p) x m = some m) := Lib.hid (by unfold endO; rw [if_neg (by rw [hc]; simp)])
            clear hc hq
            go_upto_region 16 with (fail)
            rw [HV1.out]
            rw [HP.out]
            refine ext_wp fun X0 => ?_
            clear e0 e1 e2 e3
            go_wp2_with fail
            refine (Ext.calls _ (DV.out X0.1)).mono ?_
            rintro e y1 ⟨rfl, X2, rfl⟩
            go_upto_region 19 with (fail)
            obtain ⟨wz, hwz⟩ : ∃ wz, X2.1 = wz := ⟨_, rfl⟩
            have c0 := z0 X2
            have c1 := z1 X2
            have c2 := z2 X2
            have c3 := z3 X2
            have hdz := HDX.out X2
            rw [hwz] at c0 c1 c2 c3 hdz ⊢
            have HDZ := Lib.hid hdz
            clear hdz hwz
            clear z0 z1 z2 z3 f3
            have y3 : wz.cell? ⟨o, 2, none⟩ = some v := block_cell HDZ.out.box rfl
            have hoz := HDZ.out.row
            rw [HN.out] at hoz
            have HOZ := Lib.hid hoz
            have hsz : Y7.1.heap.size ≤ wz.heap.size := HDZ.out.keep.size
            clear hoz
            go_wp2_with (at_builtin; refine wpList_append_where _ rfl (.tmp 71) (.tmp 73) 24 rfl Y7.1.heap.size 54 i0 (.agg #[.string ⟨#[]⟩, .string ⟨#[]⟩, .int .i64 0, .int .i64 0]) 4 48 HUS.out HI0.out HZ0.out HZ1.out HZ2.out rfl (by decide) v n _ rfl (HOZ.out.alloc _) ⟨wz.heap.size, 0, none⟩ 1 1 (encM ⟨m.s, m.p, m.f, m.t⟩) rfl (by decide) rfl ?c1 ?c2 ?c3 ?c4 ?c5 ?_)
            case c1 =>
              intro jj uu hu
              rw [addr_add0, World.cell?_alloc_at _ _ _ _ rfl]
              simpa [encM] using hu
            case c2 => exact encM_one _
            case c3 => unfold maxLen; omega
            case c4 => omega
            case c5 => simp; omega
            intro v7 w7 hown7 hg7 _
            obtain ⟨q7, cap7, rfl⟩ := ownsRow_succ hown7
            obtain ⟨V3, hV3, hvb3, _, _⟩ := alloc_block wz #[.string m.s, .string m.p, .int .i64 m.f, .int .i64 m.t] 54
            rw [hV3] at hg7
            have pB := below_block hvb3 HDZ.out.box
            have qB := grown_block hg7 pB (row_box (ownsRow_below HOZ.out hvb3) pB (by decide))
            have s3 : w7.cell? ⟨o, 2, none⟩ = some v := block_cell qB rfl
            have g3 : w7.frozen? ⟨o, 2, none⟩ = false := block_free qB
            have HN2 := Lib.hid (HAD.out wz w7 _ _ HDZ.out HEO.out V3 hvb3 hg7 hown7)
            clear hV3 hvb3 pB qB hg7 hown7 c0 c1 c2 c3 y3 HDZ HOZ
            go_wp2_with fail
            go_roundw
            case rel => exact ⟨k + 1, _, by go_num, by omega, HN2⟩
            case measure => simp [intOf]; omega
          · rw [hc] at DV
            by_cases hf : m.f = x
            · have t3 : (m.f == x) = true := by rw [beq_iff_eq]; exact hf
              have HEO : Hid (endO (bothB slot p) x m = none) := Lib.hid (by unfold endO; rw [if_pos (by rw [hc, hq]; rfl), if_pos hf])
              clear hc hq hf
              go_upto_region 16 with (fail)
              rw [HV1.out]
              rw [HP.out]
              refine ext_wp fun X0 => ?_
              clear e0 e1 e2 e3
              go_wp2_with fail
              refine (Ext.calls _ (DV.out X0.1)).mono ?_
              rintro e y1 ⟨rfl, X2, rfl⟩
              have HD9 := Lib.hid (HSK.out X2.1 (HDX.out X2) HEO.out)
              go_wp2_with fail
              go_roundw
              case rel => exact ⟨k + 1, v, by go_num, by omega, HD9⟩
              case measure => simp [intOf]; omega
            · have t3 : (m.f == x) = false := by rw [beq_eq_false_iff_ne]; exact hf
              have HEO : Hid (endO (bothB slot p) x m = some ⟨m.s, m.p, m.f, x⟩) := Lib.hid (by unfold endO; rw [if_pos (by rw [hc, hq]; rfl), if_neg hf])
              clear hc hq hf
              go_upto_region 16 with (fail)
              rw [HV1.out]
              rw [HP.out]
              refine ext_wp fun X0 => ?_
              clear e0 e1 e2 e3
              go_wp2_with fail
              refine (Ext.calls _ (DV.out X0.1)).mono ?_
              rintro e y1 ⟨rfl, X2, rfl⟩
              go_upto_region 19 with (fail)
              obtain ⟨wz, hwz⟩ : ∃ wz, X2.1.setCell ⟨pm, 3, none⟩ (.int .i64 x) = wz := ⟨_, rfl⟩
              rw [hwz]
              have hkz : Kept (fun k => k = pm) X2.1 wz := hwz ▸ kept_set (O := fun k => k = pm) (Kept.refl _ _) rfl _
              have hbz : wz.heap[pm]? = some (.cells #[.string m.s, .string m.p, .int .i64 m.f, .int .i64 x] 54 (0, 0)) := hwz ▸ cells_setCell (HBOX.out X2)
              have c0 : wz.cell? ⟨pm, 0, none⟩ = some (.string m.s) := block_cell hbz rfl
              have c1 : wz.cell? ⟨pm, 1, none⟩ = some (.string m.p) := block_cell hbz rfl
              have c2 : wz.cell? ⟨pm, 2, none⟩ = some (.int .i64 m.f) := block_cell hbz rfl
              have c3 : wz.cell? ⟨pm, 3, none⟩ = some (.int .i64 x) := block_cell hbz rfl
              have hpm := HPM.out
              have hvs := HVS.out.1
              have HDZ := Lib.hid ((HDX.out X2).kept hkz hpm (by omega) HNP.out hvs)
              clear hkz hbz hwz hpm hvs
              clear z0 z1 z2 z3 f3
              have y3 : wz.cell? ⟨o, 2, none⟩ = some v := block_cell HDZ.out.box rfl
              have hoz := HDZ.out.row
              rw [HN.out] at hoz
              have HOZ := Lib.hid hoz
              have hsz : Y7.1.heap.size ≤ wz.heap.size := HDZ.out.keep.size
              clear hoz
              go_wp2_with (at_builtin; refine wpList_append_where _ rfl (.tmp 71) (.tmp 73) 24 rfl Y7.1.heap.size 54 i0 (.agg #[.string ⟨#[]⟩, .string ⟨#[]⟩, .int .i64 0, .int .i64 0]) 4 48 HUS.out HI0.out HZ0.out HZ1.out HZ2.out rfl (by decide) v n _ rfl (HOZ.out.alloc _) ⟨wz.heap.size, 0, none⟩ 1 1 (encM ⟨m.s, m.p, m.f, x⟩) rfl (by decide) rfl ?c1 ?c2 ?c3 ?c4 ?c5 ?_)
              case c1 =>
                intro jj uu hu
                rw [addr_add0, World.cell?_alloc_at _ _ _ _ rfl]
                simpa [encM] using hu
              case c2 => exact encM_one _
              case c3 => unfold maxLen; omega
              case c4 => omega
              case c5 => simp; omega
              intro v7 w7 hown7 hg7 _
              obtain ⟨q7, cap7, rfl⟩ := ownsRow_succ hown7
              obtain ⟨V3, hV3, hvb3, _, _⟩ := alloc_block wz #[.string m.s, .string m.p, .int .i64 m.f, .int .i64 x] 54
              rw [hV3] at hg7
              have pB := below_block hvb3 HDZ.out.box
              have qB := grown_block hg7 pB (row_box (ownsRow_below HOZ.out hvb3) pB (by decide))
              have s3 : w7.cell? ⟨o, 2, none⟩ = some v := block_cell qB rfl
              have g3 : w7.frozen? ⟨o, 2, none⟩ = false := block_free qB
              have HN2 := Lib.hid (HAD.out wz w7 _ _ HDZ.out HEO.out V3 hvb3 hg7 hown7)
              clear hV3 hvb3 pB qB hg7 hown7 c0 c1 c2 c3 y3 HDZ HOZ
              go_wp2_with fail
              go_roundw
              case rel => exact ⟨k + 1, _, by go_num, by omega, HN2⟩
              case measure => simp [intOf]; omega
        · have hq : bothB slot p m = false := by unfold bothB; simp [hb2]
          rw [decide_eq_false hb2] at hs2
          have HEO : Hid (endO (bothB slot p) x m = some m) := Lib.hid (by unfold endO; rw [if_neg (by rw [hq]; simp)])
          clear hb1 hb2 hq
          go_upto_region 16 with (fail)
          rw [HV1.out]
          rw [HP.out]
          refine ext_wp fun X0 => ?_
          clear e0 e1 e2 e3
          go_upto_region 19 with (fail)
          obtain ⟨wz, hwz⟩ : ∃ wz, X0.1 = wz := ⟨_, rfl⟩
          have c0 := z0 X0
          have c1 := z1 X0
          have c2 := z2 X0
          have c3 := z3 X0
          have hdz := HDX.out X0
          rw [hwz] at c0 c1 c2 c3 hdz ⊢
          have HDZ := Lib.hid hdz
          clear hdz hwz
          clear z0 z1 z2 z3 f3
          have y3 : wz.cell? ⟨o, 2, none⟩ = some v := block_cell HDZ.out.box rfl
          have hoz := HDZ.out.row
          rw [HN.out] at hoz
          have HOZ := Lib.hid hoz
          have hsz : Y7.1.heap.size ≤ wz.heap.size := HDZ.out.keep.size
          clear hoz
          go_wp2_with (at_builtin; refine wpList_append_where _ rfl (.tmp 71) (.tmp 73) 24 rfl Y7.1.heap.size 54 i0 (.agg #[.string ⟨#[]⟩, .string ⟨#[]⟩, .int .i64 0, .int .i64 0]) 4 48 HUS.out HI0.out HZ0.out HZ1.out HZ2.out rfl (by decide) v n _ rfl (HOZ.out.alloc _) ⟨wz.heap.size, 0, none⟩ 1 1 (encM ⟨m.s, m.p, m.f, m.t⟩) rfl (by decide) rfl ?c1 ?c2 ?c3 ?c4 ?c5 ?_)
          case c1 =>
            intro jj uu hu
            rw [addr_add0, World.cell?_alloc_at _ _ _ _ rfl]
            simpa [encM] using hu
          case c2 => exact encM_one _
          case c3 => unfold maxLen; omega
          case c4 => omega
          case c5 => simp; omega
          intro v7 w7 hown7 hg7 _
          obtain ⟨q7, cap7, rfl⟩ := ownsRow_succ hown7
          obtain ⟨V3, hV3, hvb3, _, _⟩ := alloc_block wz #[.string m.s, .string m.p, .int .i64 m.f, .int .i64 m.t] 54
          rw [hV3] at hg7
          have pB := below_block hvb3 HDZ.out.box
          have qB := grown_block hg7 pB (row_box (ownsRow_below HOZ.out hvb3) pB (by decide))
          have s3 : w7.cell? ⟨o, 2, none⟩ = some v := block_cell qB rfl
          have g3 : w7.frozen? ⟨o, 2, none⟩ = false := block_free qB
          have HN2 := Lib.hid (HAD.out wz w7 _ _ HDZ.out HEO.out V3 hvb3 hg7 hown7)
          clear hV3 hvb3 pB qB hg7 hown7 c0 c1 c2 c3 y3 HDZ HOZ
          go_wp2_with fail
          go_roundw
          case rel => exact ⟨k + 1, _, by go_num, by omega, HN2⟩
          case measure => simp [intOf]; omega
      · have hq : bothB slot p m = false := by unfold bothB; simp [hb1]
        rw [decide_eq_false hb1] at hs1
        have HEO : Hid (endO (bothB slot p) x m = some m) := Lib.hid (by unfold endO; rw [if_neg (by rw [hq]; simp)])
        clear hb1 hq hs2
        go_upto_region 16 with (fail)
        rw [HV1.out]
        rw [HP.out]
        refine ext_wp fun X0 => ?_
        clear e0 e1 e2 e3
        go_upto_region 19 with (fail)
        obtain ⟨wz, hwz⟩ : ∃ wz, X0.1 = wz := ⟨_, rfl⟩
        have c0 := z0 X0
        have c1 := z1 X0
        have c2 := z2 X0
        have c3 := z3 X0
        have hdz := HDX.out X0
        rw [hwz] at c0 c1 c2 c3 hdz ⊢
        have HDZ := Lib.hid hdz
        clear hdz hwz
        clear z0 z1 z2 z3 f3
        have y3 : wz.cell? ⟨o, 2, none⟩ = some v := block_cell HDZ.out.box rfl
        have hoz := HDZ.out.row
        rw [HN.out] at hoz
        have HOZ := Lib.hid hoz
        have hsz : Y7.1.heap.size ≤ wz.heap.size := HDZ.out.keep.size
        clear hoz
        go_wp2_with (at_builtin; refine wpList_append_where _ rfl (.tmp 71) (.tmp 73) 24 rfl Y7.1.heap.size 54 i0 (.agg #[.string ⟨#[]⟩, .string ⟨#[]⟩, .int .i64 0, .int .i64 0]) 4 48 HUS.out HI0.out HZ0.out HZ1.out HZ2.out rfl (by decide) v n _ rfl (HOZ.out.alloc _) ⟨wz.heap.size, 0, none⟩ 1 1 (encM ⟨m.s, m.p, m.f, m.t⟩) rfl (by decide) rfl ?c1 ?c2 ?c3 ?c4 ?c5 ?_)
        case c1 =>
          intro jj uu hu
          rw [addr_add0, World.cell?_alloc_at _ _ _ _ rfl]
          simpa [encM] using hu
        case c2 => exact encM_one _
        case c3 => unfold maxLen; omega
        case c4 => omega
        case c5 => simp; omega
        intro v7 w7 hown7 hg7 _
        obtain ⟨q7, cap7, rfl⟩ := ownsRow_succ hown7
        obtain ⟨V3, hV3, hvb3, _, _⟩ := alloc_block wz #[.string m.s, .string m.p, .int .i64 m.f, .int .i64 m.t] 54
        rw [hV3] at hg7
        have pB := below_block hvb3 HDZ.out.box
        have qB := grown_block hg7 pB (row_box (ownsRow_below HOZ.out hvb3) pB (by decide))
        have s3 : w7.cell? ⟨o, 2, none⟩ = some v := block_cell qB rfl
        have g3 : w7.frozen? ⟨o, 2, none⟩ = false := block_free qB
        have HN2 := Lib.hid (HAD.out wz w7 _ _ HDZ.out HEO.out V3 hvb3 hg7 hown7)
        clear hV3 hvb3 pB qB hg7 hown7 c0 c1 c2 c3 y3 HDZ HOZ
        go_wp2_with fail
        go_roundw
        case rel => exact ⟨k + 1, _, by go_num, by omega, HN2⟩
        case measure => simp [intOf]; omega
    · have t1 : decide ((k : Int) < (g.nm : Int)) = false := by rw [decide_eq_false_iff_not]; omega
      have t1' : decide (k < g.nm) = false := by simpa using hlt
      obtain rfl : k = g.nm := by omega
      obtain ⟨L, hL⟩ : ∃ L, endL (bothB slot p) x g.mnts = L := ⟨_, rfl⟩
      have hrow := HD.out.row
      rw [show g.mnts.take g.nm = g.mnts by rw [← Gar.mnts_len, List.take_length], hL] at hrow
      have hxx := HX.out
      rw [hL] at hxx
      have HX2 := Lib.hid hxx
      have hri := HRI.out
      rw [hL] at hri
      have HRI2 := Lib.hid hri
      have hkV := HD.out.keep
      have rB := HD.out.box
      obtain ⟨s0, s1, s3, sB⟩ := HT.out
      have t0 := own_keep s0 hkV (row_box s0 sB (by decide))
      have t1 := own_keep s1 hkV (row_box s1 sB (by decide))
      have t3 := own_keep s3 hkV (row_box s3 sB (by decide))
      have t2 := ownsRow_lower hrow HVS.out.2
      obtain ⟨n, hn⟩ : ∃ n, L.length = n := ⟨_, rfl⟩
      have HN := Lib.hid hn
      have t2' := t2
      rw [← flatM_range, hn] at t2'
      rw [hn] at t2
      obtain ⟨b9, d9, rfl, _, _⟩ := ownRow_hdr (f := fun i => encM (L.getD i default)) (fun _ => rfl) t2'
      obtain ⟨Y9, hY9⟩ : ∃ Y : Ext W0, X1 = Y := ⟨_, rfl⟩
      rw [hY9] at t0 t1 t2 t3 rB ⊢
      have m0 : Y9.1.cell? ⟨o, 0, none⟩ = some (.slice b0 g.np d0) := block_cell rB rfl
      have m1 : Y9.1.cell? ⟨o, 1, none⟩ = some (.slice b1 g.ns d1) := block_cell rB rfl
      have m2 : Y9.1.cell? ⟨o, 2, none⟩ = some (.slice b9 n d9) := block_cell rB rfl
      have m3 : Y9.1.cell? ⟨o, 3, none⟩ = some (.slice b3 g.nu d3) := block_cell rB rfl
      have HQ9 := Lib.hid (And.intro t0 (And.intro t1 (And.intro t2 t3)))
      clear hrow hkV rB s0 s1 s3 sB t0 t1 t2 t2' t3 HD HL0 hlt hY9 hL hn hxx hri
      go_wp2_with fail
      obtain ⟨t0, t1, t2, t3⟩ := HQ9.out
      obtain ⟨W5, hW5, hr5, hk5, _⟩ := store4 (HR.out Y9) (.slice b0 g.np d0) (.slice b1 g.ns d1) (.slice b9 n d9) (.slice b3 g.nu d3)
      have x0 : W5.cell? ⟨w.heap.size + 1, 0, none⟩ = some (.slice b0 g.np d0) := block_cell hr5 rfl
      have x1 : W5.cell? ⟨w.heap.size + 1, 1, none⟩ = some (.slice b1 g.ns d1) := block_cell hr5 rfl
      have x2 : W5.cell? ⟨w.heap.size + 1, 2, none⟩ = some (.slice b9 n d9) := block_cell hr5 rfl
      have x3 : W5.cell? ⟨w.heap.size + 1, 3, none⟩ = some (.slice b3 g.nu d3) := block_cell hr5 rfl
      have low : ∀ b, W0.heap.size ≤ b → ¬ b = w.heap.size + 1 := fun b hb e => by omega
      have z0 := ownsRow_kept t0 hk5 low
      have z1 := ownsRow_kept t1 hk5 low
      have z2 := ownsRow_kept t2 hk5 low
      have z3 := ownsRow_kept t3 hk5 low
      rw [← HN.out, ← flatM_range] at z2
      have e0 := ownRow_of (f := g.cellsP) (fun _ => rfl) z0
      have e1 := ownRow_of (f := g.cellsS) (fun _ => rfl) z1
      have e2 := ownRow_of (f := fun i => encM (L.getD i default)) (fun _ => rfl) z2
      have e3 := ownRow_of (f := g.cellsU) (fun _ => rfl) z3
      have HB5 := Lib.hid (Kept.below (Y9.down HB.out hbs) hk5 (Nat.le_trans hbs Y9.2.size) (fun k hk e => by omega))
      have HFIN : Hid (RetG w W5 (.returned (.tuple #[garV (g.setM L) b0 b1 b9 b3 d0 d1 d9 d3, .int .i64 0])) gg er) := Lib.hid (by
        rw [HX2.out.1, HX2.out.2]
        exact ⟨⟨b0, b1, b9, b3, d0, d1, d9, d3, rfl, setM_in HG.out HRI2.out e0.2 e1.2 e2.2 e3.2, e2.1, e3.1⟩, HB5.out⟩)
      rw [hW5]
      have hlI : (g.setM L).nm = n := HN.out
      exact bodyPost_ret (v := .tuple #[garV (g.setM L) b0 b1 b9 b3 d0 d1 d9 d3, .int .i64 0]) (by unfold garV; rw [hlI]; simp [results, Try.results41, go_sem, x0, x1, x2, x3, Gar.setM]) rfl HFIN.out
end Go.Proofs.Ytbkpoepacjinlaa

/- Gear: Put of the program. (Printed by gen_put.py.) -/
namespace Go.Proofs.Ytbkpoepacjinlaa
open Go.RowKit Go.BigFrame
open Gar (chk momG hasS hasP putErr putG)

theorem putL_sorted {g : Gar} {l : List Mo} (h : RightM g l) {slot part : ByteArray} {x : Int} (hx : momG x = true) : (putL slot part x l).Pairwise fun a b => befm a b = true :=
  insL_sorted swo_befm _ _ (endL_right h hx _).ord fun _ hb => put_tri h hb
namespace Gar
section
variable {g : Gar} {slot part : ByteArray} {x : Int}
theorem put_bad {e : Int} (h : putErr g slot part x = e) (he : e ≠ 0) : putG g slot part x = zero := by
  unfold putG
  rw [if_neg (by rw [h]; exact he)]
theorem put_c1 (h1 : chk g ≠ 0) : putErr g slot part x = chk g := by
  unfold putErr
  rw [if_pos h1]
theorem put_c2 (h1 : chk g = 0) (h2 : (hasS g slot && hasP g part) = false) : putErr g slot part x = 4 := by
  unfold putErr
  rw [if_neg (by rw [h1]; simp), if_pos h2]
theorem put_c3 (h1 : chk g = 0) (h2 : (hasS g slot && hasP g part) = true) (h3 : momG x = false) : putErr g slot part x = 9 := by
  unfold putErr
  rw [if_neg (by rw [h1]; simp), if_neg (by rw [h2]; simp), if_pos h3]
theorem put_c4 (h1 : chk g = 0) (h2 : (hasS g slot && hasP g part) = true) (h3 : momG x = true) (h4 : (inR (inF g slot x g.nm 0)).1 = part) : putErr g slot part x = 5 := by
  unfold putErr
  rw [if_neg (by rw [h1]; simp), if_neg (by rw [h2]; simp), if_neg (by rw [h3]; simp), if_pos h4]
theorem put_c5 (h1 : chk g = 0) (h2 : (hasS g slot && hasP g part) = true) (h3 : momG x = true) (h4 : (inR (inF g slot x g.nm 0)).1 ≠ part) : putErr g slot part x = if 2000 < (putL slot part x g.mnts).length then 3 else 0 := by
  unfold putErr
  rw [if_neg (by rw [h1]; simp), if_neg (by rw [h2]; simp), if_neg (by rw [h3]; simp), if_neg h4]
end
end Gar
theorem putL_len {g : Gar} (slot part : ByteArray) (x : Int) (h : g.nm ≤ 2000) : (putL slot part x g.mnts).length ≤ 2001 := by
  unfold putL
  rw [insL_len]
  have := endL_len (mineB slot part) x g.mnts
  rw [Gar.mnts_len] at this
  omega
set_option maxHeartbeats 1000000 in
theorem putCl_any (m : Mo) (slot part : ByteArray) (b1 b2 : Nat) (w : World) (h1 : w.cell? ⟨b1, 0, none⟩ = some (.string slot)) (h2 : w.cell? ⟨b2, 0, none⟩ = some (.string part)) :
    Calls Try.prog 87 #[mountV m.s m.p m.f m.t, .pointer (some ⟨b1, 0, none⟩), .pointer (some ⟨b2, 0, none⟩)] w fun e w' => e = .returned (.bool (mineB slot part m)) ∧ Below w.heap.size w w' := by
  unfold mountV mineB
  have hs1 := str_eq m.s slot
  have hs2 := str_eq m.p part
  obtain ⟨W, hW, hb, hs, hl⟩ := alloc_cells w #[.string m.s, .string m.p, .int .i64 m.f, .int .i64 m.t] 54
  have m0 : W.cell? ⟨w.heap.size, 0, none⟩ = some (.string m.s) := hl 0 _ rfl
  have m1 : W.cell? ⟨w.heap.size, 1, none⟩ = some (.string m.p) := hl 1 _ rfl
  have n1 := below_cell hb h1
  have n2 := below_cell hb h2
  have HW := Lib.hid hW
  have HB := Lib.hid hb
  clear hW hb hs hl h1 h2
  generalize decide (m.s = slot) = c1 at hs1 ⊢
  generalize decide (m.p = part) = c2 at hs2 ⊢
  cases c1 <;> cases c2
  all_goals
    go_enter Try.func87, Try.ntmps87
    go_upto_region 1 with (fail)
    rw [HW.out]
    go_wp2_with fail
    go_ret
    exact ⟨rfl, HB.out⟩
/-- the loop that looks for the next start -/
structure NXp (l : List Mo) (q : Mo → Bool) (x : Int) (slot part : ByteArray) (V wr : World) (pm k : Nat) (T : Int) : Prop where
  keep : Kept (fun b => b = pm) V wr
  val : T = (l.take k).foldl (nxt q x) (-1)
  box : wr.heap[pm]? = some (.cells #[.string slot, .string part, .int .i64 x, .int .i64 T] 54 (0, 0))
section
variable {l : List Mo} {q : Mo → Bool} {x : Int} {slot part : ByteArray} {V wr wx : World} {pm k : Nat} {T : Int}
theorem NXp.below (h : NXp l q x slot part V wr pm k T) (hb : Below wr.heap.size wr wx) : NXp l q x slot part V wx pm k T := ⟨h.keep.trans (Kept.of_below hb), h.val, below_block hb h.box⟩
theorem fold_take {l : List Mo} {k : Nat} (h : k < l.length) (t : Int) : (l.take (k + 1)).foldl (nxt q x) t = nxt q x ((l.take k).foldl (nxt q x) t) (l.getD k default) := by
  rw [List.take_add_one, List.getElem?_eq_getElem h, List.foldl_append, List.getD_eq_getElem?_getD, List.getElem?_eq_getElem h]
  rfl
theorem NXp.same (h : NXp l q x slot part V wr pm k T) (hk : k < l.length) (e : nxt q x T (l.getD k default) = T) : NXp l q x slot part V wr pm (k + 1) T :=
  ⟨h.keep, by rw [fold_take hk, ← h.val, e], h.box⟩
theorem NXp.turn (h : NXp l q x slot part V wr pm k T) (hk : k < l.length) (e : nxt q x T (l.getD k default) = (l.getD k default).f) : NXp l q x slot part V (wr.setCell ⟨pm, 3, none⟩ (.int .i64 (l.getD k default).f)) pm (k + 1) (l.getD k default).f :=
  ⟨kept_set (O := fun b => b = pm) h.keep rfl _, by rw [fold_take hk, ← h.val, e], cells_setCell h.box⟩
end

set_option maxHeartbeats 8000000 in
set_option maxRecDepth 200000 in
theorem put_any (g : Gar) (a0 a1 a2 a3 : Option Addr) (c0 c1 c2 c3 : Nat) (slot part : ByteArray) (x : Int) (w : World) (h : GarIn w g a0 a1 a2 a3) :
    Calls Try.prog 38 #[garV g a0 a1 a2 a3 c0 c1 c2 c3, .string slot, .string part, .int .i64 x] w fun e w' => RetG w w' e (putG g slot part x) (putErr g slot part x) := by
  have HG := Lib.hid h
  obtain ⟨W0, hW0, hb0, hs0', hq0⟩ := allocs w [.cells #[.slice a0 g.np c0, .slice a1 g.ns c1, .slice a2 g.nm c2, .slice a3 g.nu c3] 27, .cells #[.string slot] 9, .cells #[.string part] 9, .cells #[.slice none 0 0, .slice none 0 0, .slice none 0 0, .slice none 0 0] 27]
  have hs0 : W0.heap.size = w.heap.size + 4 := hs0'
  clear hs0'
  have G0 := Ext.ex (show W0.cell? ⟨w.heap.size, 0, none⟩ = some (.slice a0 g.np c0) from block_cell (hq0 0 _ rfl) rfl)
  have G1 := Ext.ex (show W0.cell? ⟨w.heap.size, 1, none⟩ = some (.slice a1 g.ns c1) from block_cell (hq0 0 _ rfl) rfl)
  have G2 := Ext.ex (show W0.cell? ⟨w.heap.size, 2, none⟩ = some (.slice a2 g.nm c2) from block_cell (hq0 0 _ rfl) rfl)
  have G3 := Ext.ex (show W0.cell? ⟨w.heap.size, 3, none⟩ = some (.slice a3 g.nu c3) from block_cell (hq0 0 _ rfl) rfl)
  have U0 := Ext.ex (show W0.cell? ⟨w.heap.size + 1, 0, none⟩ = some (.string slot) from block_cell (hq0 1 _ rfl) rfl)
  have P0 := Ext.ex (show W0.cell? ⟨w.heap.size + 2, 0, none⟩ = some (.string part) from block_cell (hq0 2 _ rfl) rfl)
  have HR := Lib.hid (fun (X : Ext W0) => below_block X.2 (hq0 3 _ rfl))
  have Z0 : ∀ X : Ext W0, X.1.cell? ⟨w.heap.size + 3, 0, none⟩ = some (.slice none 0 0) := fun X => block_cell (HR.out X) rfl
  have Z1 : ∀ X : Ext W0, X.1.cell? ⟨w.heap.size + 3, 1, none⟩ = some (.slice none 0 0) := fun X => block_cell (HR.out X) rfl
  have Z2 : ∀ X : Ext W0, X.1.cell? ⟨w.heap.size + 3, 2, none⟩ = some (.slice none 0 0) := fun X => block_cell (HR.out X) rfl
  have Z3 : ∀ X : Ext W0, X.1.cell? ⟨w.heap.size + 3, 3, none⟩ = some (.slice none 0 0) := fun X => block_cell (HR.out X) rfl
  have F0 : ∀ X : Ext W0, X.1.frozen? ⟨w.heap.size + 3, 0, none⟩ = false := fun X => block_free (HR.out X)
  have F1 : ∀ X : Ext W0, X.1.frozen? ⟨w.heap.size + 3, 1, none⟩ = false := fun X => block_free (HR.out X)
  have F2 : ∀ X : Ext W0, X.1.frozen? ⟨w.heap.size + 3, 2, none⟩ = false := fun X => block_free (HR.out X)
  have F3 : ∀ X : Ext W0, X.1.frozen? ⟨w.heap.size + 3, 3, none⟩ = false := fun X => block_free (HR.out X)
  have HW0 := Lib.hid (show (((w.alloc (.cells #[.slice a0 g.np c0, .slice a1 g.ns c1, .slice a2 g.nm c2, .slice a3 g.nu c3] 27)).alloc (.cells #[.string slot] 9)).alloc (.cells #[.string part] 9)).alloc (.cells #[.slice none 0 0, .slice none 0 0, .slice none 0 0, .slice none 0 0] 27) = W0 from hW0)
  have HB := Lib.hid hb0
  have hbs : w.heap.size ≤ W0.heap.size := by omega
  have hmf : ∀ fn first cap w, (Instr.makeFunc fn first cap).run Try.prog w = .ok (.func fn first cap) w := fun _ _ _ _ => rfl
  have DK := Lib.hid (fun (Y : Ext W0) => gCheck_any g a0 a1 a2 a3 c0 c1 c2 c3 Y.1 (HG.out.below (Y.down HB.out hbs)))
  have DS := Lib.hid (fun (Y : Ext W0) => hasS_at' g a0 a1 a2 a3 c0 c1 c2 c3 slot Y.1 (HG.out.below (Y.down HB.out hbs)))
  have DP := Lib.hid (fun (Y : Ext W0) => hasP_at' g a0 a1 a2 a3 c0 c1 c2 c3 part Y.1 (HG.out.below (Y.down HB.out hbs)))
  have DM := Lib.hid (fun W => gmoment_any x W)
  have DI := Lib.hid (fun (Y : Ext W0) => inSlot_any g a0 a1 a2 a3 c0 c1 c2 c3 slot x Y.1 (HG.out.below (Y.down HB.out hbs)) _ rfl)
  have DC0 := Lib.hid (fun (hk : chk g = 0) (Y : Ext W0) => cloned_any g a0 a1 a2 a3 c0 c1 c2 c3 Y.1 (HG.out.below (Y.down HB.out hbs)) hk)
  have T1 := Lib.hid (fun h => Gar.put_c1 (g := g) (slot := slot) (part := part) (x := x) h)
  have T2 := Lib.hid (fun h1 h2 => Gar.put_c2 (g := g) (slot := slot) (part := part) (x := x) h1 h2)
  have T3 := Lib.hid (fun h1 h2 h3 => Gar.put_c3 (g := g) (slot := slot) (part := part) (x := x) h1 h2 h3)
  have T4 := Lib.hid (fun h1 h2 h3 h4 => Gar.put_c4 (g := g) (slot := slot) (part := part) (x := x) h1 h2 h3 h4)
  have T5 := Lib.hid (fun h1 h2 h3 h4 => Gar.put_c5 (g := g) (slot := slot) (part := part) (x := x) h1 h2 h3 h4)
  have TB := Lib.hid (fun (e : Int) h he => Gar.put_bad (g := g) (slot := slot) (part := part) (x := x) (e := e) h he)
  have TO := Lib.hid (fun h => Gar.put_ok (g := g) (slot := slot) (part := part) (x := x) h)
  obtain ⟨er, her⟩ : ∃ z, putErr g slot part x = z := ⟨_, rfl⟩
  obtain ⟨gg, hgg⟩ : ∃ z, putG g slot part x = z := ⟨_, rfl⟩
  have HGE : Hid (putG g slot part x = gg) := Lib.hid hgg
  rw [her] at T1 T2 T3 T4 T5 TB TO
  rw [hgg] at TB
  rw [her, hgg]
  unfold garV at DK DS DP DI DC0
  unfold garV
  clear h hW0 hb0 hq0 her hgg
  by_cases k1 : chk g = 0
  case neg =>
    have HX : Hid (gg = Gar.zero ∧ er = chk g) := Lib.hid ⟨TB.out _ (T1.out k1) k1, T1.out k1⟩
    have n1 : (chk g != 0) = true := by rw [bne_iff_ne]; exact k1
    clear k1 DC0 T1 T2 T3 T4 T5 TB TO DI DS DM DP
    generalize chk g = ck at *
    go_enter Try.func38, Try.ntmps38
    go_upto_region 1 with (fail)
    rw [HW0.out]
    refine ext_wp fun X => ?_
    go_wp2_with fail
    refine (Ext.calls _ (DK.out _)).mono ?_
    rintro e w2 ⟨rfl, Y, rfl⟩
    go_wp2_with fail
    obtain ⟨W5, hW5, hr5, hk5, _⟩ := store4 (HR.out Y) (.slice none 0 0) (.slice none 0 0) (.slice none 0 0) (.slice none 0 0)
    have x0 : W5.cell? ⟨w.heap.size + 3, 0, none⟩ = some (.slice none 0 0) := block_cell hr5 rfl
    have x1 : W5.cell? ⟨w.heap.size + 3, 1, none⟩ = some (.slice none 0 0) := block_cell hr5 rfl
    have x2 : W5.cell? ⟨w.heap.size + 3, 2, none⟩ = some (.slice none 0 0) := block_cell hr5 rfl
    have x3 : W5.cell? ⟨w.heap.size + 3, 3, none⟩ = some (.slice none 0 0) := block_cell hr5 rfl
    have HB5 := Lib.hid (Kept.below (Y.down HB.out hbs) hk5 (Nat.le_trans hbs Y.2.size) (fun k hk e => by omega))
    try rw [show w.heap.size + 1 + 1 + 1 = w.heap.size + 3 from rfl]
    rw [hW5]
    clear hW5 hr5 hk5
    exact bodyPost_ret (v := .tuple #[garV Gar.zero none none none none 0 0 0 0, .int .i64 ck]) (by unfold garV; simp [results, Try.results38, go_sem, x0, x1, x2, x3, Gar.zero]) rfl (by rw [HX.out.1, HX.out.2]; exact RetG.zero HB5.out)
  rw [k1] at DK
  have n1 : ((0 : Int) != 0) = false := rfl
  cases k2 : hasS g slot
  case false =>
    have h2 : (hasS g slot && hasP g part) = false := by rw [k2]; rfl
    have HX : Hid (gg = Gar.zero ∧ er = 4) := Lib.hid ⟨TB.out _ (T2.out k1 h2) (by simp), T2.out k1 h2⟩
    rw [k2] at DS
    clear k1 k2 h2 DC0 T1 T2 T3 T4 T5 TB TO DI DM DP
    go_enter Try.func38, Try.ntmps38
    go_upto_region 1 with (fail)
    rw [HW0.out]
    refine ext_wp fun X => ?_
    go_wp2_with fail
    refine (Ext.calls _ (DK.out _)).mono ?_
    rintro e w2 ⟨rfl, Y, rfl⟩
    go_wp2_with fail
    refine (Ext.calls _ (DS.out _)).mono ?_
    rintro e w2 ⟨rfl, Y2, rfl⟩
    go_wp2_with fail
    obtain ⟨W5, hW5, hr5, hk5, _⟩ := store4 (HR.out Y2) (.slice none 0 0) (.slice none 0 0) (.slice none 0 0) (.slice none 0 0)
    have x0 : W5.cell? ⟨w.heap.size + 3, 0, none⟩ = some (.slice none 0 0) := block_cell hr5 rfl
    have x1 : W5.cell? ⟨w.heap.size + 3, 1, none⟩ = some (.slice none 0 0) := block_cell hr5 rfl
    have x2 : W5.cell? ⟨w.heap.size + 3, 2, none⟩ = some (.slice none 0 0) := block_cell hr5 rfl
    have x3 : W5.cell? ⟨w.heap.size + 3, 3, none⟩ = some (.slice none 0 0) := block_cell hr5 rfl
    have HB5 := Lib.hid (Kept.below (Y2.down HB.out hbs) hk5 (Nat.le_trans hbs Y2.2.size) (fun k hk e => by omega))
    try rw [show w.heap.size + 1 + 1 + 1 = w.heap.size + 3 from rfl]
    rw [hW5]
    clear hW5 hr5 hk5
    exact bodyPost_ret (v := .tuple #[garV Gar.zero none none none none 0 0 0 0, .int .i64 4]) (by unfold garV; simp [results, Try.results38, go_sem, x0, x1, x2, x3, Gar.zero]) rfl (by rw [HX.out.1, HX.out.2]; exact RetG.zero HB5.out)
  rw [k2] at DS
  cases k2' : hasP g part
  case false =>
    have h2 : (hasS g slot && hasP g part) = false := by rw [k2, k2']; rfl
    have HX : Hid (gg = Gar.zero ∧ er = 4) := Lib.hid ⟨TB.out _ (T2.out k1 h2) (by simp), T2.out k1 h2⟩
    rw [k2'] at DP
    clear k1 k2 k2' h2 DC0 T1 T2 T3 T4 T5 TB TO DI DM
    go_enter Try.func38, Try.ntmps38
    go_upto_region 1 with (fail)
    rw [HW0.out]
    refine ext_wp fun X => ?_
    go_wp2_with fail
    refine (Ext.calls _ (DK.out _)).mono ?_
    rintro e w2 ⟨rfl, Y, rfl⟩
    go_wp2_with fail
    refine (Ext.calls _ (DS.out _)).mono ?_
    rintro e w2 ⟨rfl, Y2, rfl⟩
    go_wp2_with fail
    refine (Ext.calls _ (DP.out _)).mono ?_
    rintro e w2 ⟨rfl, Y3, rfl⟩
    go_wp2_with fail
    obtain ⟨W5, hW5, hr5, hk5, _⟩ := store4 (HR.out Y3) (.slice none 0 0) (.slice none 0 0) (.slice none 0 0) (.slice none 0 0)
    have x0 : W5.cell? ⟨w.heap.size + 3, 0, none⟩ = some (.slice none 0 0) := block_cell hr5 rfl
    have x1 : W5.cell? ⟨w.heap.size + 3, 1, none⟩ = some (.slice none 0 0) := block_cell hr5 rfl
    have x2 : W5.cell? ⟨w.heap.size + 3, 2, none⟩ = some (.slice none 0 0) := block_cell hr5 rfl
    have x3 : W5.cell? ⟨w.heap.size + 3, 3, none⟩ = some (.slice none 0 0) := block_cell hr5 rfl
    have HB5 := Lib.hid (Kept.below (Y3.down HB.out hbs) hk5 (Nat.le_trans hbs Y3.2.size) (fun k hk e => by omega))
    try rw [show w.heap.size + 1 + 1 + 1 = w.heap.size + 3 from rfl]
    rw [hW5]
    clear hW5 hr5 hk5
    exact bodyPost_ret (v := .tuple #[garV Gar.zero none none none none 0 0 0 0, .int .i64 4]) (by unfold garV; simp [results, Try.results38, go_sem, x0, x1, x2, x3, Gar.zero]) rfl (by rw [HX.out.1, HX.out.2]; exact RetG.zero HB5.out)
  rw [k2'] at DP
  have h2 : (hasS g slot && hasP g part) = true := by rw [k2, k2']; rfl
  cases k3 : momG x
  case false =>
    have HX : Hid (gg = Gar.zero ∧ er = 9) := Lib.hid ⟨TB.out _ (T3.out k1 h2 k3) (by simp), T3.out k1 h2 k3⟩
    rw [k3] at DM
    clear k1 k2 k2' k3 h2 DC0 T1 T2 T3 T4 T5 TB TO DI
    go_enter Try.func38, Try.ntmps38
    go_upto_region 1 with (fail)
    rw [HW0.out]
    refine ext_wp fun X => ?_
    go_wp2_with fail
    refine (Ext.calls _ (DK.out _)).mono ?_
    rintro e w2 ⟨rfl, Y, rfl⟩
    go_wp2_with fail
    refine (Ext.calls _ (DS.out _)).mono ?_
    rintro e w2 ⟨rfl, Y2, rfl⟩
    go_wp2_with fail
    refine (Ext.calls _ (DP.out _)).mono ?_
    rintro e w2 ⟨rfl, Y3, rfl⟩
    go_wp2_with fail
    refine (DM.out _).mono ?_
    rintro e w2 ⟨rfl, rfl⟩
    go_wp2_with fail
    obtain ⟨W5, hW5, hr5, hk5, _⟩ := store4 (HR.out Y3) (.slice none 0 0) (.slice none 0 0) (.slice none 0 0) (.slice none 0 0)
    have x0 : W5.cell? ⟨w.heap.size + 3, 0, none⟩ = some (.slice none 0 0) := block_cell hr5 rfl
    have x1 : W5.cell? ⟨w.heap.size + 3, 1, none⟩ = some (.slice none 0 0) := block_cell hr5 rfl
    have x2 : W5.cell? ⟨w.heap.size + 3, 2, none⟩ = some (.slice none 0 0) := block_cell hr5 rfl
    have x3 : W5.cell? ⟨w.heap.size + 3, 3, none⟩ = some (.slice none 0 0) := block_cell hr5 rfl
    have HB5 := Lib.hid (Kept.below (Y3.down HB.out hbs) hk5 (Nat.le_trans hbs Y3.2.size) (fun k hk e => by omega))
    try rw [show w.heap.size + 1 + 1 + 1 = w.heap.size + 3 from rfl]
    rw [hW5]
    clear hW5 hr5 hk5
    exact bodyPost_ret (v := .tuple #[garV Gar.zero none none none none 0 0 0 0, .int .i64 9]) (by unfold garV; simp [results, Try.results38, go_sem, x0, x1, x2, x3, Gar.zero]) rfl (by rw [HX.out.1, HX.out.2]; exact RetG.zero HB5.out)
  rw [k3] at DM
  have hse := str_eq (inR (inF g slot x g.nm 0)).1 part
  by_cases k4 : (inR (inF g slot x g.nm 0)).1 = part
  case pos =>
    have HX : Hid (gg = Gar.zero ∧ er = 5) := Lib.hid ⟨TB.out _ (T4.out k1 h2 k3 k4) (by simp), T4.out k1 h2 k3 k4⟩
    rw [decide_eq_true k4] at hse
    clear k1 k2 k2' k3 k4 h2 DC0 T1 T2 T3 T4 T5 TB TO
    generalize (inR (inF g slot x g.nm 0)).1 = ps at DI hse
    go_enter Try.func38, Try.ntmps38
    go_upto_region 1 with (fail)
    rw [HW0.out]
    refine ext_wp fun X => ?_
    go_wp2_with fail
    refine (Ext.calls _ (DK.out _)).mono ?_
    rintro e w2 ⟨rfl, Y, rfl⟩
    go_wp2_with fail
    refine (Ext.calls _ (DS.out _)).mono ?_
    rintro e w2 ⟨rfl, Y2, rfl⟩
    go_wp2_with fail
    refine (Ext.calls _ (DP.out _)).mono ?_
    rintro e w2 ⟨rfl, Y3, rfl⟩
    go_wp2_with fail
    refine (DM.out _).mono ?_
    rintro e w2 ⟨rfl, rfl⟩
    go_upto_region 8 with (fail)
    refine wp_region_ext (W := W0) _ (by kernel_rfl) (by kernel_rfl) ?_
    repeat go_big_quiet_step ((go_at_call 45; exact Ext.calls _ (DI.out _)))
    refine wpQuiet_nil ?_
    intro _ hw'
    obtain ⟨Y4, rfl⟩ := hw'
    go_wp2_with fail
    obtain ⟨W5, hW5, hr5, hk5, _⟩ := store4 (HR.out Y4) (.slice none 0 0) (.slice none 0 0) (.slice none 0 0) (.slice none 0 0)
    have x0 : W5.cell? ⟨w.heap.size + 3, 0, none⟩ = some (.slice none 0 0) := block_cell hr5 rfl
    have x1 : W5.cell? ⟨w.heap.size + 3, 1, none⟩ = some (.slice none 0 0) := block_cell hr5 rfl
    have x2 : W5.cell? ⟨w.heap.size + 3, 2, none⟩ = some (.slice none 0 0) := block_cell hr5 rfl
    have x3 : W5.cell? ⟨w.heap.size + 3, 3, none⟩ = some (.slice none 0 0) := block_cell hr5 rfl
    have HB5 := Lib.hid (Kept.below (Y4.down HB.out hbs) hk5 (Nat.le_trans hbs Y4.2.size) (fun k hk e => by omega))
    try rw [show w.heap.size + 1 + 1 + 1 = w.heap.size + 3 from rfl]
    rw [hW5]
    clear hW5 hr5 hk5
    exact bodyPost_ret (v := .tuple #[garV Gar.zero none none none none 0 0 0 0, .int .i64 5]) (by unfold garV; simp [results, Try.results38, go_sem, x0, x1, x2, x3, Gar.zero]) rfl (by rw [HX.out.1, HX.out.2]; exact RetG.zero HB5.out)
  rw [decide_eq_false k4] at hse
  have hnm : g.nm ≤ 2000 := (Gar.chk_parts k1).2.2.1
  have HT5 := Lib.hid (T5.out k1 h2 k3 k4)
  have HRM := Lib.hid (Gar.right_mnts k1)
  have HK3 := Lib.hid k3
  have DC := Lib.hid (DC0.out k1)
  have HPL := Lib.hid (putL_len slot part x hnm)
  have HSO := Lib.hid (putL_sorted (slot := slot) (part := part) (Gar.right_mnts k1) k3)
  generalize (inR (inF g slot x g.nm 0)).1 = ps at DI hse
  obtain ⟨i0, hi0, hz0, hz1, hz2⟩ := info_parts (show (Try.prog.info? 54).map (fun i => (i.zero, i.size, i.bytes)) = some (some (.agg #[.string ⟨#[]⟩, .string ⟨#[]⟩, .int .i64 0, .int .i64 0]), 4, 48) by kernel_rfl)
  have HI0 := Lib.hid hi0
  have HZ0 := Lib.hid hz0
  have HZ1 := Lib.hid hz1
  have HZ2 := Lib.hid hz2
  have HUS := Lib.hid (show Try.prog.underlying 24 = some (.slice 54) by kernel_rfl)
  clear hi0 hz0 hz1 hz2 k1 k2 k2' k3 k4 h2 DC0 T1 T2 T3 T4 T5
  go_enter Try.func38, Try.ntmps38
  go_upto_region 1 with (fail)
  rw [HW0.out]
  refine ext_wp fun X => ?_
  go_wp2_with fail
  refine (Ext.calls _ (DK.out _)).mono ?_
  rintro e w2 ⟨rfl, Y, rfl⟩
  go_wp2_with fail
  refine (Ext.calls _ (DS.out _)).mono ?_
  rintro e w2 ⟨rfl, Y2, rfl⟩
  go_wp2_with fail
  refine (Ext.calls _ (DP.out _)).mono ?_
  rintro e w2 ⟨rfl, Y3, rfl⟩
  go_wp2_with fail
  refine (DM.out _).mono ?_
  rintro e w2 ⟨rfl, rfl⟩
  go_upto_region 8 with (fail)
  refine wp_region_ext (W := W0) _ (by kernel_rfl) (by kernel_rfl) ?_
  repeat go_big_quiet_step ((go_at_call 45; exact Ext.calls _ (DI.out _)))
  refine wpQuiet_nil ?_
  intro _ hw'
  obtain ⟨Y4, rfl⟩ := hw'
  clear DK DS DP DM DI hse
  go_upto_region 12 with (fail)
  obtain ⟨V, hV, hvb, hvs, hvq⟩ := alloc_block Y4.1 #[.string slot, .string part, .int .i64 x, .int .i64 (-1)] 54
  rw [hV]
  obtain ⟨pm, hp⟩ : ∃ p, Y4.1.heap.size = p := ⟨_, rfl⟩
  rw [hp] at hvq hvs ⊢
  have HPM : Hid (W0.heap.size ≤ pm) := Lib.hid (hp ▸ Y4.2.size)
  obtain ⟨Y5, rfl⟩ : ∃ Y : Ext W0, V = Y.1 := ⟨⟨V, below_step Y4.2 hvb⟩, rfl⟩
  have HVS : Hid (Y5.1.heap.size = pm + 1) := Lib.hid hvs
  have HL0 : Hid (NXp g.mnts (mineB slot part) x slot part Y5.1 Y5.1 pm 0 (-1)) := Lib.hid ⟨Kept.refl _ _, rfl, hvq⟩
  clear hV hvb hvs hvq hp
  have DF := Lib.hid (fun (m : Mo) (X : Ext W0) => putCl_any m slot part (w.heap.size + 1) (w.heap.size + 2) X.1 (U0 X) (P0 X))
  go_wp2_with fail
  go_loopw [55] (fun iv wr => ∃ (k : Nat) (T : Int), iv = .int .i64 k ∧ k ≤ g.nm ∧ Hid (NXp g.mnts (mineB slot part) x slot part Y5.1 wr pm k T)) (fun iv _ => g.nm - (intOf iv).toNat)
  case atStart => exact ⟨0, -1, rfl, by omega, HL0⟩
  case round =>
    obtain ⟨k, T, rfl, hk, HD⟩ := hrel
    have hbw : Below W0.heap.size W0 wr := Y5.2.trans (by
      have h1 := HD.out.keep
      have h2 := HPM.out
      have h3 := HVS.out
      exact ⟨h1.os, h1.tape, h1.output, h1.size, fun k hk => h1.block k (by omega) (by omega)⟩)
    obtain ⟨X1, rfl⟩ : ∃ X : Ext W0, wr = X.1 := ⟨⟨wr, hbw⟩, rfl⟩
    clear hbw
    by_cases hlt : k < g.nm
    · have t1 : decide ((k : Int) < (g.nm : Int)) = true := by rw [decide_eq_true_eq]; omega
      have t1' : decide (k < g.nm) = true := by simpa using hlt
      have t2 : (k : Int) < (g.nm : Int) := by omega
      obtain ⟨b, off, rfl, hbl, hc⟩ := (HG.out.below (X1.down HB.out hbs)).r2.here (by omega)
      have e0 : X1.1.cell? ⟨b, off + k * 4, none⟩ = some (.string (g.ms k)) := hc k hlt 0 (by omega)
      have e1 : X1.1.cell? ⟨b, off + k * 4 + 1, none⟩ = some (.string (g.mp k)) := hc k hlt 1 (by omega)
      have e2 : X1.1.cell? ⟨b, off + k * 4 + 2, none⟩ = some (.int .i64 (g.mf k)) := hc k hlt 2 (by omega)
      have e3 : X1.1.cell? ⟨b, off + k * 4 + 3, none⟩ = some (.int .i64 (g.mt k)) := hc k hlt 3 (by omega)
      have hgk : g.mnts.getD k default = g.mn k := Gar.mnts_getD g hlt
      have hkl : k < g.mnts.length := by rw [Gar.mnts_len]; exact hlt
      have HSM := Lib.hid (fun (wx : World) (h : NXp g.mnts (mineB slot part) x slot part Y5.1 wx pm k T) (e : nxt (mineB slot part) x T (g.mnts.getD k default) = T) => h.same hkl e)
      have HTU := Lib.hid (fun (wx : World) (h : NXp g.mnts (mineB slot part) x slot part Y5.1 wx pm k T) (e : nxt (mineB slot part) x T (g.mnts.getD k default) = (g.mnts.getD k default).f) => h.turn hkl e)
      rw [hgk] at HSM HTU
      obtain ⟨m, hm⟩ : ∃ m, g.mn k = m := ⟨_, rfl⟩
      rw [hm] at HSM HTU
      replace e0 : X1.1.cell? ⟨b, off + k * 4, none⟩ = some (.string m.s) := hm ▸ e0
      replace e1 : X1.1.cell? ⟨b, off + k * 4 + 1, none⟩ = some (.string m.p) := hm ▸ e1
      replace e2 : X1.1.cell? ⟨b, off + k * 4 + 2, none⟩ = some (.int .i64 m.f) := hm ▸ e2
      replace e3 : X1.1.cell? ⟨b, off + k * 4 + 3, none⟩ = some (.int .i64 m.t) := hm ▸ e3
      obtain ⟨V1, hV1, hvb, hvs, hvl⟩ := alloc_block X1.1 #[.string m.s, .string m.p, .int .i64 m.f, .int .i64 m.t] 54
      obtain ⟨pb, hp⟩ : ∃ p, X1.1.heap.size = p := ⟨_, rfl⟩
      have z0 : ∀ X : Ext V1, X.1.cell? ⟨pb, 0, none⟩ = some (.string m.s) := fun X => block_cell (below_block X.2 (hp ▸ hvl)) rfl
      have z1 : ∀ X : Ext V1, X.1.cell? ⟨pb, 1, none⟩ = some (.string m.p) := fun X => block_cell (below_block X.2 (hp ▸ hvl)) rfl
      have z2 : ∀ X : Ext V1, X.1.cell? ⟨pb, 2, none⟩ = some (.int .i64 m.f) := fun X => block_cell (below_block X.2 (hp ▸ hvl)) rfl
      have z3 : ∀ X : Ext V1, X.1.cell? ⟨pb, 3, none⟩ = some (.int .i64 m.t) := fun X => block_cell (below_block X.2 (hp ▸ hvl)) rfl
      have HDX := Lib.hid (fun X : Ext V1 => (HD.out.below hvb).below X.2)
      have y3 : ∀ X : Ext V1, X.1.cell? ⟨pm, 3, none⟩ = some (.int .i64 T) := fun X => block_cell (HDX.out X).box rfl
      have f3 : ∀ X : Ext V1, X.1.frozen? ⟨pm, 3, none⟩ = false := fun X => block_free (HDX.out X).box
      have HV1 : Hid (X1.1.alloc (.cells #[.string m.s, .string m.p, .int .i64 m.f, .int .i64 m.t] 54) = V1) := Lib.hid hV1
      have HP := Lib.hid hp
      have DF1 := Lib.hid (fun X : Ext V1 => DF.out m ⟨X.1, below_step X1.2 (below_step hvb X.2)⟩)
      have hcf : ∀ args w, Sem.run Try.prog (callFunc 87 args) w = .ok (.enter 87 args) w := fun _ _ => rfl
      unfold mountV at DF1
      simp only [] at DF1
      clear hV1 hvb hvs hvl hc hbl hm hp hgk hkl G0 G1 G2 G3 Z0 Z1 Z2 Z3 F0 F1 F2 F3 U0 P0
      cases hq : mineB slot part m
      · rw [hq] at DF1
        have HEO : Hid (nxt (mineB slot part) x T m = T) := Lib.hid (by unfold nxt; rw [hq]; rfl)
        clear hq
        go_upto_region 15 with (fail)
        rw [HV1.out]
        rw [HP.out]
        refine ext_wp fun X0 => ?_
        clear e0 e1 e2 e3
        go_wp2_with fail
        refine (Ext.calls _ (DF1.out X0)).mono ?_
        rintro e y1 ⟨rfl, X2, rfl⟩
        have HD9 := Lib.hid (HSM.out X2.1 (HDX.out X2) HEO.out)
        go_wp2_with fail
        go_roundw
        case rel => exact ⟨k + 1, T, by go_num, by omega, HD9⟩
        case measure => simp [intOf]; omega
      rw [hq] at DF1
      cases hg1 : decide (x < m.f)
      · have HEO : Hid (nxt (mineB slot part) x T m = T) := Lib.hid (by unfold nxt; rw [hq, hg1]; rfl)
        clear hq
        go_upto_region 15 with (fail)
        rw [HV1.out]
        rw [HP.out]
        refine ext_wp fun X0 => ?_
        clear e0 e1 e2 e3
        go_wp2_with fail
        refine (Ext.calls _ (DF1.out X0)).mono ?_
        rintro e y1 ⟨rfl, X2, rfl⟩
        have HD9 := Lib.hid (HSM.out X2.1 (HDX.out X2) HEO.out)
        go_wp2_with fail
        go_roundw
        case rel => exact ⟨k + 1, T, by go_num, by omega, HD9⟩
        case measure => simp [intOf]; omega
      cases hg2 : decide (T < 0)
      · cases hg3 : decide (m.f < T)
        · have HEO : Hid (nxt (mineB slot part) x T m = T) := Lib.hid (by unfold nxt; rw [hq, hg1, hg2, hg3]; rfl)
          clear hq
          go_upto_region 15 with (fail)
          rw [HV1.out]
          rw [HP.out]
          refine ext_wp fun X0 => ?_
          clear e0 e1 e2 e3
          go_wp2_with fail
          refine (Ext.calls _ (DF1.out X0)).mono ?_
          rintro e y1 ⟨rfl, X2, rfl⟩
          have HD9 := Lib.hid (HSM.out X2.1 (HDX.out X2) HEO.out)
          go_wp2_with fail
          go_roundw
          case rel => exact ⟨k + 1, T, by go_num, by omega, HD9⟩
          case measure => simp [intOf]; omega
        · have HEO : Hid (nxt (mineB slot part) x T m = m.f) := Lib.hid (by unfold nxt; rw [hq, hg1, hg2, hg3]; rfl)
          clear hq
          go_upto_region 15 with (fail)
          rw [HV1.out]
          rw [HP.out]
          refine ext_wp fun X0 => ?_
          clear e0 e1 e2 e3
          go_wp2_with fail
          refine (Ext.calls _ (DF1.out X0)).mono ?_
          rintro e y1 ⟨rfl, X2, rfl⟩
          have HD9 := Lib.hid (HTU.out X2.1 (HDX.out X2) HEO.out)
          go_wp2_with fail
          go_roundw
          case rel => exact ⟨k + 1, m.f, by go_num, by omega, HD9⟩
          case measure => simp [intOf]; omega
      · have HEO : Hid (nxt (mineB slot part) x T m = m.f) := Lib.hid (by unfold nxt; rw [hq, hg1, hg2]; rfl)
        clear hq
        go_upto_region 15 with (fail)
        rw [HV1.out]
        rw [HP.out]
        refine ext_wp fun X0 => ?_
        clear e0 e1 e2 e3
        go_wp2_with fail
        refine (Ext.calls _ (DF1.out X0)).mono ?_
        rintro e y1 ⟨rfl, X2, rfl⟩
        have HD9 := Lib.hid (HTU.out X2.1 (HDX.out X2) HEO.out)
        go_wp2_with fail
        go_roundw
        case rel => exact ⟨k + 1, m.f, by go_num, by omega, HD9⟩
        case measure => simp [intOf]; omega
    · have t1 : decide ((k : Int) < (g.nm : Int)) = false := by rw [decide_eq_false_iff_not]; omega
      have t1' : decide (k < g.nm) = false := by simpa using hlt
      obtain rfl : k = g.nm := by omega
      have hval := HD.out.val
      rw [show g.mnts.take g.nm = g.mnts by rw [← Gar.mnts_len, List.take_length]] at hval
      have HVL : Hid (T = nextT (mineB slot part) x g.mnts) := Lib.hid hval
      have HBM : Hid (∀ X : Ext X1.1, X.1.heap[pm]? = some (.cells #[.string slot, .string part, .int .i64 x, .int .i64 T] 54 (0, 0))) := Lib.hid (fun X => below_block X.2 HD.out.box)
      clear hval HD HL0 hlt
      obtain ⟨L, hL⟩ : ∃ L, endL (mineB slot part) x g.mnts = L := ⟨_, rfl⟩
      obtain ⟨n, hn⟩ : ∃ n, L.length = n := ⟨_, rfl⟩
      have hn2 : n ≤ 2000 := by
        have := endL_len (mineB slot part) x g.mnts
        rw [hL, hn, Gar.mnts_len] at this
        omega
      have HL := Lib.hid hL
      have HN := Lib.hid hn
      clear hL hn
      go_upto_region 18 with (fail)
      go_wp2_with fail
      refine (DC.out _).mono ?_
      rintro e w5 ⟨b0, b1, b2, b3, d0, d1, d2, d3, rfl, hog, hb5⟩
      have HOG := Lib.hid hog
      obtain ⟨Y6, rfl⟩ : ∃ Y : Ext X1.1, w5 = Y.1 := ⟨⟨w5, hb5⟩, rfl⟩
      clear hog hb5
      go_upto_region 19 with (fail)
      obtain ⟨V2, hV2, hvb2, hvs2, hvq2⟩ := alloc_block Y6.1 #[.slice b0 g.np d0, .slice b1 g.ns d1, .slice b2 g.nm d2, .slice b3 g.nu d3] 27
      rw [hV2]
      obtain ⟨o, ho⟩ : ∃ o, Y6.1.heap.size = o := ⟨_, rfl⟩
      rw [ho] at hvs2 hvq2 ⊢
      have hx1 := X1.2.size
      have hy6 := Y6.2.size
      have HSZ : Hid (W0.heap.size ≤ o ∧ W0.heap.size ≤ V2.heap.size) := Lib.hid ⟨by omega, by omega⟩
      have hpmo : pm ≠ o := by have := lt_of_block (HBM.out Y6); omega
      have hso : W0.heap.size ≤ o := HSZ.out.1
      have hb61 : Below X1.1.heap.size X1.1 V2 := below_step Y6.2 hvb2
      have hbV : Below W0.heap.size W0 V2 := below_step X1.2 hb61
      have HBV := Lib.hid hbV
      have HO0 := Lib.hid (ownsRow_below (ownsRow_lower HOG.out.o0 hx1) hvb2)
      have HO1 := Lib.hid (ownsRow_below (ownsRow_lower HOG.out.o1 hx1) hvb2)
      have HO3 := Lib.hid (ownsRow_below (ownsRow_lower HOG.out.o3 hx1) hvb2)
      have HOB := Lib.hid hvq2
      have hbm2 : V2.heap[pm]? = some (.cells #[.string slot, .string part, .int .i64 x, .int .i64 T] 54 (0, 0)) := HBM.out ⟨V2, hb61⟩
      have E2 := ExtO.ex (O := fun b => b = o) (p := ⟨w.heap.size, 2, none⟩) (by show ¬ w.heap.size = o; omega) (show V2.cell? ⟨w.heap.size, 2, none⟩ = some (.slice a2 g.nm c2) from G2 ⟨V2, hbV⟩)
      have EU := ExtO.ex (O := fun b => b = o) (p := ⟨w.heap.size + 1, 0, none⟩) (by show ¬ w.heap.size + 1 = o; omega) (show V2.cell? ⟨w.heap.size + 1, 0, none⟩ = some (.string slot) from U0 ⟨V2, hbV⟩)
      have EP := ExtO.ex (O := fun b => b = o) (p := ⟨w.heap.size + 2, 0, none⟩) (by show ¬ w.heap.size + 2 = o; omega) (show V2.cell? ⟨w.heap.size + 2, 0, none⟩ = some (.string part) from P0 ⟨V2, hbV⟩)
      have M0 := ExtO.ex (O := fun b => b = o) (p := ⟨pm, 0, none⟩) hpmo (show V2.cell? ⟨pm, 0, none⟩ = some (.string slot) from block_cell hbm2 rfl)
      have M1 := ExtO.ex (O := fun b => b = o) (p := ⟨pm, 1, none⟩) hpmo (show V2.cell? ⟨pm, 1, none⟩ = some (.string part) from block_cell hbm2 rfl)
      have M2 := ExtO.ex (O := fun b => b = o) (p := ⟨pm, 2, none⟩) hpmo (show V2.cell? ⟨pm, 2, none⟩ = some (.int .i64 x) from block_cell hbm2 rfl)
      have M3 := ExtO.ex (O := fun b => b = o) (p := ⟨pm, 3, none⟩) hpmo (show V2.cell? ⟨pm, 3, none⟩ = some (.int .i64 T) from block_cell hbm2 rfl)
      have hBV2 : Below w.heap.size w V2 := HB.out.trans (hbV.mono hbs)
      have HDN := Lib.hid (fun (Z : ExtO (fun b => b = o) V2) => Z.down hBV2 (by omega) (fun k hk e => by omega))
      have DE0 := fun (Z : ExtO (fun b => b = o) V2) => ended_any g.mnts a2 c2 x (mineB slot part) 87 #[.pointer (some ⟨w.heap.size + 1, 0, none⟩), .pointer (some ⟨w.heap.size + 2, 0, none⟩)] Z.1 (rowM_of (HG.out.below (HDN.out Z)).r2) (by rw [Gar.mnts_len]; exact hnm) (fun _ _ => rfl)
        (fun m W hW => putCl_any m slot part (w.heap.size + 1) (w.heap.size + 2) W (below_cell hW (EU Z)) (below_cell hW (EP Z)))
      rw [Gar.mnts_len, HL.out, HN.out] at DE0
      have DE := Lib.hid DE0
      have HBM2 := Lib.hid hbm2
      clear hV2 hvb2 hvs2 hvq2 ho hx1 hy6 hso hb61 hbV hbm2 hBV2 DE0 HOG DC hpmo G0 G1 G2 G3 U0 P0
      refine held_start (C := fun w' => ∃ Z : ExtO (fun b => b = o) V2, w' = Z.1) (by kernel_rfl) ?_
      obtain ⟨Z0, hZ0⟩ : ∃ Z : ExtO (fun b => b = o) V2, ({ V2 with drawn := V2.drawn + 1 } : World) = Z.1 := ⟨⟨{ V2 with drawn := V2.drawn + 1 }, ⟨rfl, rfl, rfl, Nat.le_refl _, fun _ _ _ => rfl⟩⟩, rfl⟩
      have HOZ : Hid (Z0.1.heap[o]? = some (.cells #[.slice b0 g.np d0, .slice b1 g.ns d1, .slice b2 g.nm d2, .slice b3 g.nu d3] 27 (0, 0))) := Lib.hid (by rw [← hZ0]; exact HOB.out)
      have HBZ : Hid (Z0.1.heap[pm]? = some (.cells #[.string slot, .string part, .int .i64 x, .int .i64 T] 54 (0, 0))) := Lib.hid (by rw [← hZ0]; exact HBM2.out)
      rw [hZ0]
      clear hZ0
      refine held_quiet (by kernel_rfl) (fun _ _ d _ _ h => by cases d <;> exact h) ⟨Z0, rfl⟩ [0, 1, 2, 3, 5] 6 _ _ (by kernel_rfl) ?_
      change wpQuiet _ _ _ _ (_ :: _ :: _ :: _ :: _ :: []) _
      repeat go_big_quiet_step (fail)
      refine wpQuiet_nil ?_
      clear E2 EU EP M0 M1 M2 M3
      refine held_two (i := 4) (j := 6) _ _ rfl rfl (by kernel_rfl) rfl rfl (fun K hK => ?_) (fun K hK => ?_)
      · go_simp
        refine (DE.out Z0).mono ?_
        rintro e w1 ⟨v4, rfl, hown4, hb4⟩
        have hk1 := Z0.2.trans (Kept.of_below hb4)
        have ho1 := below_block hb4 HOZ.out
        have hbm := below_block hb4 HBZ.out
        have hz0 := Z0.2.size
        obtain ⟨Z1, rfl⟩ : ∃ Z : ExtO (fun b => b = o) V2, w1 = Z.1 := ⟨⟨w1, hk1⟩, rfl⟩
        have HO4 := Lib.hid hown4
        have HO1' := Lib.hid ho1
        have HBM1 := Lib.hid hbm
        refine hK _ _ ⟨Z1, rfl⟩ ?_
        clear hK K hown4 hb4 hk1 ho1 hbm
        try simp only [Act.put, List.setIfInBounds_toArray, List.set_cons_zero, List.set_cons_succ]
        refine held_do (i := 6) _ rfl (by kernel_rfl) rfl (fun K hK => ?_)
        go_simp
        obtain ⟨Wc, hWc, hvb3, _, hvq3⟩ := alloc_block Z1.1 #[.string slot, .string part, .int .i64 x, .int .i64 T] 54
        rw [hWc]
        obtain ⟨pbx, hpbx⟩ : ∃ z, Z1.1.heap.size = z := ⟨_, rfl⟩
        rw [hpbx] at hvq3 ⊢
        have HPB := Lib.hid hvq3
        have HKC : Hid (Kept (fun b => b = o) V2 Wc) := Lib.hid (Z1.2.trans (Kept.of_below hvb3))
        have HOC : Hid (Wc.ownsRow V2.heap.size 54 4 v4 n (L.flatMap encM)) := Lib.hid (ownsRow_below (ownsRow_lower HO4.out hz0) hvb3)
        have HOBC := Lib.hid (below_block hvb3 HO1'.out)
        refine hK _ _ ⟨⟨Wc, HKC.out⟩, rfl⟩ ?_
        clear hK K hWc hvb3 hvq3 hpbx HO4 HO1' HBM1 hz0
        try simp only [Act.put, List.setIfInBounds_toArray, List.set_cons_zero, List.set_cons_succ]
        refine held_do (i := 7) _ rfl (by kernel_rfl) rfl (fun K hK => ?_)
        refine wp_append_own Wc (.tmp 90) (.tmp 92) 24 rfl V2.heap.size 54 i0 (.agg #[.string ⟨#[]⟩, .string ⟨#[]⟩, .int .i64 0, .int .i64 0]) 4 48 HUS.out HI0.out HZ0.out HZ1.out HZ2.out rfl (by decide) v4 n (L.flatMap encM) rfl HOC.out ⟨pbx, 0, none⟩ 1 1 (encM ⟨slot, part, x, T⟩) rfl rfl (fun j uu hu => by rw [addr_add0]; exact block_cell HPB.out (by rw [← Array.getElem?_toList]; exact hu)) (encM_one _) (by unfold maxLen; omega) (by omega) HKC.out.size (fun v7 w7 hown7 hg7 _ => ?_)
        obtain ⟨q, cap, rfl⟩ := ownsRow_succ hown7
        have hk7 : Kept (fun b => b = o) V2 w7 := HKC.out.grown hg7 (fun q hq _ => by have := (HOC.out.lt q hq).1; omega)
        have b7 := grown_block hg7 HOBC.out (row_box HOC.out HOBC.out (by decide))
        have hxs : L.flatMap encM ++ encM ⟨slot, part, x, T⟩ = (L ++ [newM slot part x g.mnts]).flatMap encM := by
          rw [List.flatMap_append]
          simp [newM, ← HVL.out]
        rw [hxs] at hown7
        have hl7 : (L ++ [newM slot part x g.mnts]).length = n + 1 := by rw [List.length_append, HN.out]; rfl
        have DO := orderedM_any (L ++ [newM slot part x g.mnts]) (putL slot part x g.mnts) (by rw [← HL.out]; exact insL_perm _ _) HSO.out V2.heap.size q cap w7 (by rw [hl7]; exact hown7) (by rw [hl7]; omega)
        rw [hl7] at DO
        have HDO := Lib.hid DO
        have HO7 := Lib.hid hown7
        have HB7 := Lib.hid b7
        have HK7 := Lib.hid hk7
        refine hK _ _ ⟨⟨w7, hk7⟩, rfl⟩ ?_
        clear hK K hown7 hg7 hk7 b7 hxs hl7 DO
        try simp only [Act.put, List.setIfInBounds_toArray, List.set_cons_zero, List.set_cons_succ]
        refine held_do (i := 8) _ rfl (by kernel_rfl) rfl (fun K hK => ?_)
        go_simp
        refine HDO.out.mono ?_
        rintro e w8 ⟨rfl, hown8, hg8⟩
        have hk8 : Kept (fun b => b = o) V2 w8 := HK7.out.grown hg8 (fun q' hq _ => by
          injection hq with hq
          have := (HO7.out.lt q rfl).1
          omega)
        have b8 := grown_block hg8 HB7.out (row_box HO7.out HB7.out (by decide))
        have s2 : w8.cell? ⟨o, 2, none⟩ = some (.slice b2 g.nm d2) := block_cell b8 rfl
        have g2 : w8.frozen? ⟨o, 2, none⟩ = false := block_free b8
        have HO8 := Lib.hid hown8
        have HB8 := Lib.hid b8
        have HK8 := Lib.hid hk8
        refine hK _ _ ⟨⟨w8, hk8⟩, rfl⟩ ?_
        clear hK K hown8 hg8 hk8 b8 HDO HO7 HB7 HK7
        try simp only [Act.put, List.setIfInBounds_toArray, List.set_cons_zero, List.set_cons_succ]
        refine held_do (i := 9) _ rfl (by kernel_rfl) rfl (fun K hK => ?_)
        go_simp
        refine hK _ _ ⟨⟨w8, HK8.out⟩, rfl⟩ ?_
        clear hK K
        try simp only [Act.put, List.setIfInBounds_toArray, List.set_cons_zero, List.set_cons_succ]
        refine held_do (i := 10) _ rfl (by kernel_rfl) rfl (fun K hK => ?_)
        go_simp
        obtain ⟨w9, hw9⟩ : ∃ w9, w8.setCell ⟨o, 2, none⟩ (.slice (some ⟨q, 0, none⟩) (n + 1) cap) = w9 := ⟨_, rfl⟩
        rw [hw9]
        have hk9 : Kept (fun b => b = o) w8 w9 := hw9 ▸ kept_set (O := fun b => b = o) (Kept.refl _ _) rfl _
        have tB : w9.heap[o]? = some (.cells #[.slice b0 g.np d0, .slice b1 g.ns d1, .slice (some ⟨q, 0, none⟩) (n + 1) cap, .slice b3 g.nu d3] 27 (0, 0)) := hw9 ▸ cells_setCell HB8.out
        have hkV : Kept (fun b => b = o) V2 w9 := HK8.out.trans hk9
        have t0 := own_keep HO0.out hkV (row_box HO0.out HOB.out (by decide))
        have t1 := own_keep HO1.out hkV (row_box HO1.out HOB.out (by decide))
        have t3 := own_keep HO3.out hkV (row_box HO3.out HOB.out (by decide))
        have t2 := ownsRow_lower (own_keep HO8.out hk9 (row_box HO8.out HB8.out (by decide))) HSZ.out.2
        have hso := HSZ.out.1
        have hb9 : Below W0.heap.size W0 w9 := Kept.below HBV.out hkV HSZ.out.2 (fun k hk e => by omega)
        have hpl : (putL slot part x g.mnts).length = n + 1 := by unfold putL; rw [insL_len, HL.out, HN.out]
        have HQ9 := Lib.hid (And.intro t0 (And.intro t1 (And.intro t2 (And.intro t3 (And.intro tB (And.intro hb9 hpl))))))
        refine hK _ _ ⟨⟨w9, hkV⟩, rfl⟩ ?_
        clear hK K t0 t1 t2 t3 tB hb9 hso hkV hk9 hw9 s2 g2 HO8 HB8 HK8 hpl
        try simp only [Act.put, List.setIfInBounds_toArray, List.set_cons_zero, List.set_cons_succ]
        refine wpAnyH_done (by kernel_rfl) ?_ _
        obtain ⟨t0, t1, t2, t3, tB, hb9, hmm⟩ := HQ9.out
        obtain ⟨Y9, rfl⟩ : ∃ Y : Ext W0, w9 = Y.1 := ⟨⟨w9, hb9⟩, rfl⟩
        have m0 : Y9.1.cell? ⟨o, 0, none⟩ = some (.slice b0 g.np d0) := block_cell tB rfl
        have m1 : Y9.1.cell? ⟨o, 1, none⟩ = some (.slice b1 g.ns d1) := block_cell tB rfl
        have m2 : Y9.1.cell? ⟨o, 2, none⟩ = some (.slice (some ⟨q, 0, none⟩) (n + 1) cap) := block_cell tB rfl
        have m3 : Y9.1.cell? ⟨o, 3, none⟩ = some (.slice b3 g.nu d3) := block_cell tB rfl
        have HT9 := Lib.hid (And.intro t0 (And.intro t1 (And.intro t2 t3)))
        clear t0 t1 t2 t3 tB hb9 HQ9
        by_cases hbig : 2000 < n + 1
        · have hx5 := HT5.out
          rw [hmm, if_pos hbig] at hx5
          have HX : Hid (gg = Gar.zero ∧ er = 3) := Lib.hid ⟨TB.out _ hx5 (by simp), hx5⟩
          have t5 : decide ((2000 : Int) < (n : Int) + 1) = true := by rw [decide_eq_true_eq]; omega
          have t5' : decide (2000 < n + 1) = true := by simpa using hbig
          clear hx5 hbig hmm
          go_wp2_with fail
          obtain ⟨W5, hW5, hr5, hk5, _⟩ := store4 (HR.out Y9) (.slice none 0 0) (.slice none 0 0) (.slice none 0 0) (.slice none 0 0)
          have x0 : W5.cell? ⟨w.heap.size + 3, 0, none⟩ = some (.slice none 0 0) := block_cell hr5 rfl
          have x1 : W5.cell? ⟨w.heap.size + 3, 1, none⟩ = some (.slice none 0 0) := block_cell hr5 rfl
          have x2 : W5.cell? ⟨w.heap.size + 3, 2, none⟩ = some (.slice none 0 0) := block_cell hr5 rfl
          have x3 : W5.cell? ⟨w.heap.size + 3, 3, none⟩ = some (.slice none 0 0) := block_cell hr5 rfl
          have HB5 := Lib.hid (Kept.below (Y9.down HB.out hbs) hk5 (Nat.le_trans hbs Y9.2.size) (fun k hk e => by omega))
          try rw [show w.heap.size + 1 + 1 + 1 = w.heap.size + 3 from rfl]
          rw [hW5]
          clear hW5 hr5 hk5
          exact bodyPost_ret (v := .tuple #[garV Gar.zero none none none none 0 0 0 0, .int .i64 3]) (by unfold garV; simp [results, Try.results38, go_sem, x0, x1, x2, x3, Gar.zero]) rfl (by rw [HX.out.1, HX.out.2]; exact RetG.zero HB5.out)
        · have hx5 := HT5.out
          rw [hmm, if_neg hbig] at hx5
          have hok := TO.out hx5
          have hge := HGE.out
          have HX2 : Hid (gg = g.setM (putL slot part x g.mnts) ∧ er = 0) := Lib.hid ⟨hge.symm.trans hok.e, hx5⟩
          have HRI2 := Lib.hid hok.r
          have t5 : decide ((2000 : Int) < (n : Int) + 1) = false := by rw [decide_eq_false_iff_not]; omega
          have t5' : decide (2000 < n + 1) = false := by simpa using hbig
          have HMM := Lib.hid hmm
          clear hx5 hbig hmm hok hge
          go_wp2_with fail
          obtain ⟨t0, t1, t2, t3⟩ := HT9.out
          obtain ⟨W5, hW5, hr5, hk5, _⟩ := store4 (HR.out Y9) (.slice b0 g.np d0) (.slice b1 g.ns d1) (.slice (some ⟨q, 0, none⟩) (n + 1) cap) (.slice b3 g.nu d3)
          have x0 : W5.cell? ⟨w.heap.size + 3, 0, none⟩ = some (.slice b0 g.np d0) := block_cell hr5 rfl
          have x1 : W5.cell? ⟨w.heap.size + 3, 1, none⟩ = some (.slice b1 g.ns d1) := block_cell hr5 rfl
          have x2 : W5.cell? ⟨w.heap.size + 3, 2, none⟩ = some (.slice (some ⟨q, 0, none⟩) (n + 1) cap) := block_cell hr5 rfl
          have x3 : W5.cell? ⟨w.heap.size + 3, 3, none⟩ = some (.slice b3 g.nu d3) := block_cell hr5 rfl
          have low : ∀ b, W0.heap.size ≤ b → ¬ b = w.heap.size + 3 := fun b hb e => by omega
          have z0 := ownsRow_kept t0 hk5 low
          have z1 := ownsRow_kept t1 hk5 low
          have z2 := ownsRow_kept t2 hk5 low
          have z3 := ownsRow_kept t3 hk5 low
          rw [← HMM.out, ← flatM_range] at z2
          have e0 := ownRow_of (f := g.cellsP) (fun _ => rfl) z0
          have e1 := ownRow_of (f := g.cellsS) (fun _ => rfl) z1
          have e2 := ownRow_of (f := fun i => encM ((putL slot part x g.mnts).getD i default)) (fun _ => rfl) z2
          have e3 := ownRow_of (f := g.cellsU) (fun _ => rfl) z3
          have HB5 := Lib.hid (Kept.below (Y9.down HB.out hbs) hk5 (Nat.le_trans hbs Y9.2.size) (fun k hk e => by omega))
          have HFIN : Hid (RetG w W5 (.returned (.tuple #[garV (g.setM (putL slot part x g.mnts)) b0 b1 (some ⟨q, 0, none⟩) b3 d0 d1 cap d3, .int .i64 0])) gg er) := Lib.hid (by
            rw [HX2.out.1, HX2.out.2]
            exact ⟨⟨b0, b1, some ⟨q, 0, none⟩, b3, d0, d1, cap, d3, rfl, setM_in HG.out HRI2.out e0.2 e1.2 e2.2 e3.2, e2.1, e3.1⟩, HB5.out⟩)
          try rw [show w.heap.size + 1 + 1 + 1 = w.heap.size + 3 from rfl]
          rw [hW5]
          have hlI : (g.setM (putL slot part x g.mnts)).nm = n + 1 := HMM.out
          exact bodyPost_ret (v := .tuple #[garV (g.setM (putL slot part x g.mnts)) b0 b1 (some ⟨q, 0, none⟩) b3 d0 d1 cap d3, .int .i64 0]) (by unfold garV; rw [hlI]; simp [results, Try.results38, go_sem, x0, x1, x2, x3, Gar.setM]) rfl HFIN.out
      · go_simp
        obtain ⟨V3, hV3, hvb3, _, hvq3⟩ := alloc_block Z0.1 #[.string slot, .string part, .int .i64 x, .int .i64 T] 54
        rw [hV3]
        obtain ⟨pbx, hpbx⟩ : ∃ z, Z0.1.heap.size = z := ⟨_, rfl⟩
        rw [hpbx] at hvq3 ⊢
        have hk3 := Z0.2.trans (Kept.of_below hvb3)
        have HO3' := Lib.hid (below_block hvb3 HOZ.out)
        obtain ⟨Z3, rfl⟩ : ∃ Z : ExtO (fun b => b = o) V2, V3 = Z.1 := ⟨⟨V3, hk3⟩, rfl⟩
        have HPB3 := Lib.hid hvq3
        refine hK _ _ ⟨Z3, rfl⟩ ?_
        clear hK K hV3 hvb3 hvq3 hpbx hk3
        try simp only [Act.put, List.setIfInBounds_toArray, List.set_cons_zero, List.set_cons_succ]
        refine held_do (i := 4) _ rfl (by kernel_rfl) rfl (fun K hK => ?_)
        go_simp
        refine (DE.out Z3).mono ?_
        rintro e Wc ⟨v4, rfl, hown4, hb4⟩
        have HPB := Lib.hid (below_block hb4 HPB3.out)
        have HKC : Hid (Kept (fun b => b = o) V2 Wc) := Lib.hid (Z3.2.trans (Kept.of_below hb4))
        have HOC : Hid (Wc.ownsRow V2.heap.size 54 4 v4 n (L.flatMap encM)) := Lib.hid (ownsRow_lower hown4 Z3.2.size)
        have HOBC := Lib.hid (below_block hb4 HO3'.out)
        refine hK _ _ ⟨⟨Wc, HKC.out⟩, rfl⟩ ?_
        clear hK K hown4 hb4 HPB3 HO3'
        try simp only [Act.put, List.setIfInBounds_toArray, List.set_cons_zero, List.set_cons_succ]
        refine held_do (i := 7) _ rfl (by kernel_rfl) rfl (fun K hK => ?_)
        refine wp_append_own Wc (.tmp 90) (.tmp 92) 24 rfl V2.heap.size 54 i0 (.agg #[.string ⟨#[]⟩, .string ⟨#[]⟩, .int .i64 0, .int .i64 0]) 4 48 HUS.out HI0.out HZ0.out HZ1.out HZ2.out rfl (by decide) v4 n (L.flatMap encM) rfl HOC.out ⟨pbx, 0, none⟩ 1 1 (encM ⟨slot, part, x, T⟩) rfl rfl (fun j uu hu => by rw [addr_add0]; exact block_cell HPB.out (by rw [← Array.getElem?_toList]; exact hu)) (encM_one _) (by unfold maxLen; omega) (by omega) HKC.out.size (fun v7 w7 hown7 hg7 _ => ?_)
        obtain ⟨q, cap, rfl⟩ := ownsRow_succ hown7
        have hk7 : Kept (fun b => b = o) V2 w7 := HKC.out.grown hg7 (fun q hq _ => by have := (HOC.out.lt q hq).1; omega)
        have b7 := grown_block hg7 HOBC.out (row_box HOC.out HOBC.out (by decide))
        have hxs : L.flatMap encM ++ encM ⟨slot, part, x, T⟩ = (L ++ [newM slot part x g.mnts]).flatMap encM := by
          rw [List.flatMap_append]
          simp [newM, ← HVL.out]
        rw [hxs] at hown7
        have hl7 : (L ++ [newM slot part x g.mnts]).length = n + 1 := by rw [List.length_append, HN.out]; rfl
        have DO := orderedM_any (L ++ [newM slot part x g.mnts]) (putL slot part x g.mnts) (by rw [← HL.out]; exact insL_perm _ _) HSO.out V2.heap.size q cap w7 (by rw [hl7]; exact hown7) (by rw [hl7]; omega)
        rw [hl7] at DO
        have HDO := Lib.hid DO
        have HO7 := Lib.hid hown7
        have HB7 := Lib.hid b7
        have HK7 := Lib.hid hk7
        refine hK _ _ ⟨⟨w7, hk7⟩, rfl⟩ ?_
        clear hK K hown7 hg7 hk7 b7 hxs hl7 DO
        try simp only [Act.put, List.setIfInBounds_toArray, List.set_cons_zero, List.set_cons_succ]
        refine held_do (i := 8) _ rfl (by kernel_rfl) rfl (fun K hK => ?_)
        go_simp
        refine HDO.out.mono ?_
        rintro e w8 ⟨rfl, hown8, hg8⟩
        have hk8 : Kept (fun b => b = o) V2 w8 := HK7.out.grown hg8 (fun q' hq _ => by
          injection hq with hq
          have := (HO7.out.lt q rfl).1
          omega)
        have b8 := grown_block hg8 HB7.out (row_box HO7.out HB7.out (by decide))
        have s2 : w8.cell? ⟨o, 2, none⟩ = some (.slice b2 g.nm d2) := block_cell b8 rfl
        have g2 : w8.frozen? ⟨o, 2, none⟩ = false := block_free b8
        have HO8 := Lib.hid hown8
        have HB8 := Lib.hid b8
        have HK8 := Lib.hid hk8
        refine hK _ _ ⟨⟨w8, hk8⟩, rfl⟩ ?_
        clear hK K hown8 hg8 hk8 b8 HDO HO7 HB7 HK7
        try simp only [Act.put, List.setIfInBounds_toArray, List.set_cons_zero, List.set_cons_succ]
        refine held_do (i := 9) _ rfl (by kernel_rfl) rfl (fun K hK => ?_)
        go_simp
        refine hK _ _ ⟨⟨w8, HK8.out⟩, rfl⟩ ?_
        clear hK K
        try simp only [Act.put, List.setIfInBounds_toArray, List.set_cons_zero, List.set_cons_succ]
        refine held_do (i := 10) _ rfl (by kernel_rfl) rfl (fun K hK => ?_)
        go_simp
        obtain ⟨w9, hw9⟩ : ∃ w9, w8.setCell ⟨o, 2, none⟩ (.slice (some ⟨q, 0, none⟩) (n + 1) cap) = w9 := ⟨_, rfl⟩
        rw [hw9]
        have hk9 : Kept (fun b => b = o) w8 w9 := hw9 ▸ kept_set (O := fun b => b = o) (Kept.refl _ _) rfl _
        have tB : w9.heap[o]? = some (.cells #[.slice b0 g.np d0, .slice b1 g.ns d1, .slice (some ⟨q, 0, none⟩) (n + 1) cap, .slice b3 g.nu d3] 27 (0, 0)) := hw9 ▸ cells_setCell HB8.out
        have hkV : Kept (fun b => b = o) V2 w9 := HK8.out.trans hk9
        have t0 := own_keep HO0.out hkV (row_box HO0.out HOB.out (by decide))
        have t1 := own_keep HO1.out hkV (row_box HO1.out HOB.out (by decide))
        have t3 := own_keep HO3.out hkV (row_box HO3.out HOB.out (by decide))
        have t2 := ownsRow_lower (own_keep HO8.out hk9 (row_box HO8.out HB8.out (by decide))) HSZ.out.2
        have hso := HSZ.out.1
        have hb9 : Below W0.heap.size W0 w9 := Kept.below HBV.out hkV HSZ.out.2 (fun k hk e => by omega)
        have hpl : (putL slot part x g.mnts).length = n + 1 := by unfold putL; rw [insL_len, HL.out, HN.out]
        have HQ9 := Lib.hid (And.intro t0 (And.intro t1 (And.intro t2 (And.intro t3 (And.intro tB (And.intro hb9 hpl))))))
        refine hK _ _ ⟨⟨w9, hkV⟩, rfl⟩ ?_
        clear hK K t0 t1 t2 t3 tB hb9 hso hkV hk9 hw9 s2 g2 HO8 HB8 HK8 hpl
        try simp only [Act.put, List.setIfInBounds_toArray, List.set_cons_zero, List.set_cons_succ]
        refine wpAnyH_done (by kernel_rfl) ?_ _
        obtain ⟨t0, t1, t2, t3, tB, hb9, hmm⟩ := HQ9.out
        obtain ⟨Y9, rfl⟩ : ∃ Y : Ext W0, w9 = Y.1 := ⟨⟨w9, hb9⟩, rfl⟩
        have m0 : Y9.1.cell? ⟨o, 0, none⟩ = some (.slice b0 g.np d0) := block_cell tB rfl
        have m1 : Y9.1.cell? ⟨o, 1, none⟩ = some (.slice b1 g.ns d1) := block_cell tB rfl
        have m2 : Y9.1.cell? ⟨o, 2, none⟩ = some (.slice (some ⟨q, 0, none⟩) (n + 1) cap) := block_cell tB rfl
        have m3 : Y9.1.cell? ⟨o, 3, none⟩ = some (.slice b3 g.nu d3) := block_cell tB rfl
        have HT9 := Lib.hid (And.intro t0 (And.intro t1 (And.intro t2 t3)))
        clear t0 t1 t2 t3 tB hb9 HQ9
        by_cases hbig : 2000 < n + 1
        · have hx5 := HT5.out
          rw [hmm, if_pos hbig] at hx5
          have HX : Hid (gg = Gar.zero ∧ er = 3) := Lib.hid ⟨TB.out _ hx5 (by simp), hx5⟩
          have t5 : decide ((2000 : Int) < (n : Int) + 1) = true := by rw [decide_eq_true_eq]; omega
          have t5' : decide (2000 < n + 1) = true := by simpa using hbig
          clear hx5 hbig hmm
          go_wp2_with fail
          obtain ⟨W5, hW5, hr5, hk5, _⟩ := store4 (HR.out Y9) (.slice none 0 0) (.slice none 0 0) (.slice none 0 0) (.slice none 0 0)
          have x0 : W5.cell? ⟨w.heap.size + 3, 0, none⟩ = some (.slice none 0 0) := block_cell hr5 rfl
          have x1 : W5.cell? ⟨w.heap.size + 3, 1, none⟩ = some (.slice none 0 0) := block_cell hr5 rfl
          have x2 : W5.cell? ⟨w.heap.size + 3, 2, none⟩ = some (.slice none 0 0) := block_cell hr5 rfl
          have x3 : W5.cell? ⟨w.heap.size + 3, 3, none⟩ = some (.slice none 0 0) := block_cell hr5 rfl
          have HB5 := Lib.hid (Kept.below (Y9.down HB.out hbs) hk5 (Nat.le_trans hbs Y9.2.size) (fun k hk e => by omega))
          try rw [show w.heap.size + 1 + 1 + 1 = w.heap.size + 3 from rfl]
          rw [hW5]
          clear hW5 hr5 hk5
          exact bodyPost_ret (v := .tuple #[garV Gar.zero none none none none 0 0 0 0, .int .i64 3]) (by unfold garV; simp [results, Try.results38, go_sem, x0, x1, x2, x3, Gar.zero]) rfl (by rw [HX.out.1, HX.out.2]; exact RetG.zero HB5.out)
        · have hx5 := HT5.out
          rw [hmm, if_neg hbig] at hx5
          have hok := TO.out hx5
          have hge := HGE.out
          have HX2 : Hid (gg = g.setM (putL slot part x g.mnts) ∧ er = 0) := Lib.hid ⟨hge.symm.trans hok.e, hx5⟩
          have HRI2 := Lib.hid hok.r
          have t5 : decide ((2000 : Int) < (n : Int) + 1) = false := by rw [decide_eq_false_iff_not]; omega
          have t5' : decide (2000 < n + 1) = false := by simpa using hbig
          have HMM := Lib.hid hmm
          clear hx5 hbig hmm hok hge
          go_wp2_with fail
          obtain ⟨t0, t1, t2, t3⟩ := HT9.out
          obtain ⟨W5, hW5, hr5, hk5, _⟩ := store4 (HR.out Y9) (.slice b0 g.np d0) (.slice b1 g.ns d1) (.slice (some ⟨q, 0, none⟩) (n + 1) cap) (.slice b3 g.nu d3)
          have x0 : W5.cell? ⟨w.heap.size + 3, 0, none⟩ = some (.slice b0 g.np d0) := block_cell hr5 rfl
          have x1 : W5.cell? ⟨w.heap.size + 3, 1, none⟩ = some (.slice b1 g.ns d1) := block_cell hr5 rfl
          have x2 : W5.cell? ⟨w.heap.size + 3, 2, none⟩ = some (.slice (some ⟨q, 0, none⟩) (n + 1) cap) := block_cell hr5 rfl
          have x3 : W5.cell? ⟨w.heap.size + 3, 3, none⟩ = some (.slice b3 g.nu d3) := block_cell hr5 rfl
          have low : ∀ b, W0.heap.size ≤ b → ¬ b = w.heap.size + 3 := fun b hb e => by omega
          have z0 := ownsRow_kept t0 hk5 low
          have z1 := ownsRow_kept t1 hk5 low
          have z2 := ownsRow_kept t2 hk5 low
          have z3 := ownsRow_kept t3 hk5 low
          rw [← HMM.out, ← flatM_range] at z2
          have e0 := ownRow_of (f := g.cellsP) (fun _ => rfl) z0
          have e1 := ownRow_of (f := g.cellsS) (fun _ => rfl) z1
          have e2 := ownRow_of (f := fun i => encM ((putL slot part x g.mnts).getD i default)) (fun _ => rfl) z2
          have e3 := ownRow_of (f := g.cellsU) (fun _ => rfl) z3
          have HB5 := Lib.hid (Kept.below (Y9.down HB.out hbs) hk5 (Nat.le_trans hbs Y9.2.size) (fun k hk e => by omega))
          have HFIN : Hid (RetG w W5 (.returned (.tuple #[garV (g.setM (putL slot part x g.mnts)) b0 b1 (some ⟨q, 0, none⟩) b3 d0 d1 cap d3, .int .i64 0])) gg er) := Lib.hid (by
            rw [HX2.out.1, HX2.out.2]
            exact ⟨⟨b0, b1, some ⟨q, 0, none⟩, b3, d0, d1, cap, d3, rfl, setM_in HG.out HRI2.out e0.2 e1.2 e2.2 e3.2, e2.1, e3.1⟩, HB5.out⟩)
          try rw [show w.heap.size + 1 + 1 + 1 = w.heap.size + 3 from rfl]
          rw [hW5]
          have hlI : (g.setM (putL slot part x g.mnts)).nm = n + 1 := HMM.out
          exact bodyPost_ret (v := .tuple #[garV (g.setM (putL slot part x g.mnts)) b0 b1 (some ⟨q, 0, none⟩) b3 d0 d1 cap d3, .int .i64 0]) (by unfold garV; rw [hlI]; simp [results, Try.results38, go_sem, x0, x1, x2, x3, Gar.setM]) rfl HFIN.out
end Go.Proofs.Ytbkpoepacjinlaa
