/- Gear: the pieces of a use in a slot, in plain lists: one pass over the mounts in order, and from boundary to boundary, give the same. -/
namespace Go.Proofs.Ytbkpoepacjinlaa
namespace Pcs
structure Mnt where
  s : ByteArray
  p : ByteArray
  f : Int
  t : Int
def never : Int := 4611686018427387904
def en (m : Mnt) : Int := if m.t < 0 then never else m.t
abbrev Pc := ByteArray × Int
def em : ByteArray := ⟨#[]⟩
/-- a piece up to a moment, if there is one -/
def add (last : Int) (st : Int × List Pc) (part : ByteArray) (to : Int) : Int × List Pc :=
  if st.1 < min to last then (min to last, st.2 ++ [(part, min to last - st.1)]) else st
def step (last : Int) (st : Int × List Pc) (m : Mnt) : Int × List Pc :=
  if st.1 < en m then add last (add last st em m.f) m.p (en m) else st
def pieces (at' last : Int) (ms : List Mnt) : List Pc := (add last (ms.foldl (step last) (at', [])) em last).2
/-- the next boundary, and the part until then -/
def look (at' : Int) : List Mnt → ByteArray × Int → ByteArray × Int
  | [], st => st
  | m :: ms, st => look at' ms (if m.f ≤ at' ∧ at' < en m then (m.p, min st.2 (en m)) else if at' < m.f then (st.1, min st.2 m.f) else st)
def rpieces (last : Int) (ms : List Mnt) : Nat → Int → List Pc
  | 0, _ => []
  | n + 1, at' => if at' < last then ((look at' ms (em, last)).1, (look at' ms (em, last)).2 - at') :: rpieces last ms n (look at' ms (em, last)).2 else []
/-- right mounts of one slot, in order -/
inductive Ord : List Mnt → Prop
  | nil : Ord []
  | cons (m : Mnt) (ms : List Mnt) : m.f < en m → (∀ x, x ∈ ms → en m ≤ x.f) → Ord ms → Ord (m :: ms)

theorem look_mono (at' : Int) : ∀ (ms : List Mnt) (st : ByteArray × Int), (look at' ms st).2 ≤ st.2
  | [], st => Int.le_refl _
  | m :: ms, st => by
    unfold look
    refine Int.le_trans (look_mono at' ms _) ?_
    split
    · simp only; omega
    · split
      · simp only; omega
      · omega
theorem look_gt (at' : Int) : ∀ (ms : List Mnt) (st : ByteArray × Int), at' < st.2 → at' < (look at' ms st).2
  | [], st, h => h
  | m :: ms, st, h => by
    unfold look
    refine look_gt at' ms _ ?_
    split
    · simp only; omega
    · split
      · simp only; omega
      · omega
/-- mounts that begin later than the boundary say nothing -/
theorem look_far (at' : Int) : ∀ (ms : List Mnt) (st : ByteArray × Int), (∀ x, x ∈ ms → st.2 ≤ x.f) → at' < st.2 → look at' ms st = st
  | [], st, _, _ => rfl
  | m :: ms, st, h, hl => by
    have hm := h m (by simp)
    unfold look
    rw [if_neg (by omega), if_pos (by omega)]
    have : (st.1, min st.2 m.f) = st := by
      cases st
      simp at hm ⊢
      omega
    rw [this]
    exact look_far at' ms st (fun x hx => h x (by simp [hx])) hl
theorem look_skip {at' : Int} {m : Mnt} {ms : List Mnt} (st : ByteArray × Int) (h1 : m.f < en m) (h2 : en m ≤ at') : look at' (m :: ms) st = look at' ms st := by
  rw [look, if_neg (by omega), if_neg (by omega)]
theorem rp_skip {last : Int} {m : Mnt} {ms : List Mnt} (h1 : m.f < en m) : ∀ (n : Nat) (at' : Int), en m ≤ at' → rpieces last (m :: ms) n at' = rpieces last ms n at'
  | 0, _, _ => rfl
  | n + 1, at', h2 => by
    unfold rpieces
    rw [look_skip _ h1 h2]
    split
    · rename_i hl
      have := look_gt at' ms (em, last) hl
      rw [rp_skip h1 n _ (by omega)]
    · rfl
/-- enough fuel is enough -/
theorem rp_fuel {last : Int} {ms : List Mnt} : ∀ (n k : Nat) (at' : Int), last - at' ≤ n → n ≤ k → rpieces last ms k at' = rpieces last ms n at'
  | 0, 0, _, _, _ => rfl
  | 0, k + 1, at', h, _ => by
    unfold rpieces
    rw [if_neg (by omega)]
  | n + 1, 0, _, _, h => by omega
  | n + 1, k + 1, at', h, hk => by
    unfold rpieces
    split
    · rename_i hl
      have := look_gt at' ms (em, last) hl
      rw [rp_fuel n k _ (by omega) (by omega)]
    · rfl
theorem add_acc (last : Int) (a : Int) (l : List Pc) (p : ByteArray) (to : Int) : add last (a, l) p to = ((add last (a, []) p to).1, l ++ (add last (a, []) p to).2) := by
  unfold add
  simp only
  split <;> simp
theorem step_acc (last : Int) (a : Int) (l : List Pc) (m : Mnt) : step last (a, l) m = ((step last (a, []) m).1, l ++ (step last (a, []) m).2) := by
  unfold step
  simp only
  split
  · rw [add_acc last a l]
    generalize add last (a, []) em m.f = st
    obtain ⟨b, r⟩ := st
    simp only
    rw [add_acc last b (l ++ r), add_acc last b r]
    simp [List.append_assoc]
  · simp
theorem fold_acc (last : Int) : ∀ (ms : List Mnt) (a : Int) (l : List Pc), ms.foldl (step last) (a, l) = ((ms.foldl (step last) (a, [])).1, l ++ (ms.foldl (step last) (a, [])).2)
  | [], a, l => by simp
  | m :: ms, a, l => by
    rw [List.foldl_cons, List.foldl_cons, step_acc]
    generalize step last (a, []) m = st
    obtain ⟨b, r⟩ := st
    simp only
    rw [fold_acc last ms b (l ++ r), fold_acc last ms b r]
    simp [List.append_assoc]
/-- pieces, one mount after another -/
def walk (last : Int) : List Mnt → Int → List Pc
  | [], a => (add last (a, []) em last).2
  | m :: ms, a => (step last (a, []) m).2 ++ walk last ms (step last (a, []) m).1
theorem pieces_walk (last : Int) : ∀ (ms : List Mnt) (a : Int), pieces a last ms = walk last ms a
  | [], a => rfl
  | m :: ms, a => by
    unfold pieces walk
    rw [List.foldl_cons]
    generalize step last (a, []) m = st
    obtain ⟨b, r⟩ := st
    simp only
    rw [fold_acc, add_acc, ← pieces_walk last ms b]
    unfold pieces
    generalize ms.foldl (step last) (b, []) = s2
    obtain ⟨c, q⟩ := s2
    simp only
    rw [add_acc last c q]
    simp [List.append_assoc]
theorem add_none {last a to : Int} (p : ByteArray) (l : List Pc) (h : last ≤ a ∨ to ≤ a) : add last (a, l) p to = (a, l) := by
  unfold add
  simp only
  rw [if_neg (by omega)]
theorem add_some {last a to : Int} (p : ByteArray) (l : List Pc) (h : a < last) (h2 : a < to) : add last (a, l) p to = (min to last, l ++ [(p, min to last - a)]) := by
  unfold add
  simp only
  rw [if_pos (by omega)]
theorem step_past {last a : Int} (m : Mnt) (h : last ≤ a) : step last (a, []) m = (a, []) := by
  unfold step
  simp only
  split
  · rw [add_none _ _ (Or.inl h), add_none _ _ (Or.inl h)]
  · rfl
theorem walk_past {last a : Int} (h : last ≤ a) : ∀ ms, walk last ms a = []
  | [] => by unfold walk; rw [add_none _ _ (Or.inl h)]
  | m :: ms => by
    unfold walk
    rw [step_past m h]
    simp [walk_past h ms]
theorem rp_past {last a : Int} (h : last ≤ a) (ms : List Mnt) : ∀ n, rpieces last ms n a = []
  | 0 => rfl
  | n + 1 => by unfold rpieces; rw [if_neg (by omega)]
theorem ord_tail {m : Mnt} {ms : List Mnt} (h : Ord (m :: ms)) : m.f < en m ∧ (∀ x, x ∈ ms → en m ≤ x.f) ∧ Ord ms := by
  cases h with | cons _ _ a b c => exact ⟨a, b, c⟩
/-- the mount that stands first, from within it -/
theorem rp_in {last a : Int} {m : Mnt} {ms : List Mnt} (h : Ord (m :: ms)) (n : Nat) (hl : a < last) (h1 : m.f ≤ a) (h2 : a < en m) :
    rpieces last (m :: ms) (n + 1) a = (m.p, min (en m) last - a) :: rpieces last (m :: ms) n (min (en m) last) := by
  obtain ⟨g1, g2, g3⟩ := ord_tail h
  have hk : look a (m :: ms) (em, last) = (m.p, min (en m) last) := by
    rw [look, if_pos ⟨h1, h2⟩]
    rw [look_far _ _ _ (fun x hx => by have := g2 x hx; simp only; omega) (by simp only; omega)]
    simp only [Int.min_comm]
  rw [rpieces, if_pos hl, hk]
theorem rp_out {last a : Int} {m : Mnt} {ms : List Mnt} (h : Ord (m :: ms)) (n : Nat) (hl : a < last) (h1 : a < m.f) :
    rpieces last (m :: ms) (n + 1) a = (em, min m.f last - a) :: rpieces last (m :: ms) n (min m.f last) := by
  obtain ⟨g1, g2, g3⟩ := ord_tail h
  have hk : look a (m :: ms) (em, last) = (em, min m.f last) := by
    rw [look, if_neg (by omega), if_pos h1]
    rw [look_far _ _ _ (fun x hx => by have := g2 x hx; simp only; omega) (by simp only; omega)]
    simp only [Int.min_comm]
  rw [rpieces, if_pos hl, hk]
theorem main {last : Int} : ∀ (ms : List Mnt), Ord ms → ∀ (a : Int) (n : Nat), last - a ≤ n → rpieces last ms n a = walk last ms a
  | [], _, a, n, hn => by
    by_cases hl : a < last
    · cases n with
      | zero => omega
      | succ n =>
        unfold rpieces walk
        rw [if_pos hl, add_some _ _ hl hl]
        simp only [look, Int.min_self, List.nil_append]
        rw [rp_past (Int.le_refl _)]
    · rw [rp_past (by omega), walk_past (by omega)]
  | m :: ms, h, a, n, hn => by
    obtain ⟨g1, g2, g3⟩ := ord_tail h
    have ih := main (last := last) ms g3
    -- from within or behind m
    have inn : ∀ (a : Int) (n : Nat), m.f ≤ a → last - a ≤ n → rpieces last (m :: ms) n a = walk last (m :: ms) a := by
      intro a n h1 hn
      by_cases h2 : a < en m
      · by_cases hl : a < last
        · cases n with
          | zero => omega
          | succ n =>
            rw [rp_in h n hl h1 h2, walk]
            unfold step
            simp only
            rw [if_pos h2, add_none _ _ (Or.inr h1), add_some _ _ hl h2]
            simp only [List.nil_append, List.singleton_append, List.cons.injEq, true_and]
            by_cases h3 : last ≤ en m
            · rw [show min (en m) last = last by omega, rp_past (Int.le_refl _), walk_past (Int.le_refl _)]
            · rw [show min (en m) last = en m by omega, rp_skip g1 _ _ (Int.le_refl _)]
              exact ih _ _ (by omega)
        · rw [rp_past (by omega), walk_past (by omega)]
      · rw [rp_skip g1 _ _ (by omega), ih _ _ hn, walk]
        unfold step
        simp only
        rw [if_neg h2]
        simp
    by_cases h1 : a < m.f
    · by_cases hl : a < last
      · cases n with
        | zero => omega
        | succ n =>
          rw [rp_out h n hl h1]
          by_cases h3 : last ≤ m.f
          · rw [show min m.f last = last by omega, rp_past (Int.le_refl _), walk]
            unfold step
            simp only
            rw [if_pos (by omega), add_some _ _ hl h1, show min m.f last = last by omega, add_none _ _ (Or.inl (Int.le_refl _)), walk_past (Int.le_refl _)]
            simp
          · rw [show min m.f last = m.f by omega, inn m.f n (Int.le_refl _) (by omega), walk, walk]
            unfold step
            simp only
            rw [if_pos g1, if_pos (by omega), add_none _ _ (Or.inr (Int.le_refl _)), add_some _ _ hl h1, show min m.f last = m.f by omega]
            rw [add_acc last m.f ([] ++ [(em, m.f - a)])]
            simp
      · rw [rp_past (by omega), walk_past (by omega)]
    · exact inn a n (by omega) hn
theorem pieces_eq {last a : Int} {ms : List Mnt} (h : Ord ms) {n : Nat} (hn : last - a ≤ n) : rpieces last ms n a = pieces a last ms := by
  rw [main ms h a n hn, pieces_walk]
/-- the part at a moment -/
def partAt (ms : List Mnt) (x : Int) : ByteArray :=
  match ms with
  | [] => em
  | m :: ms => if m.f ≤ x ∧ x < en m then m.p else partAt ms x
theorem partAt_far {x : Int} : ∀ {ms : List Mnt}, (∀ m, m ∈ ms → x < m.f) → partAt ms x = em
  | [], _ => rfl
  | m :: ms, h => by
    have := h m (by simp)
    rw [partAt, if_neg (by omega)]
    exact partAt_far fun m hm => h m (by simp [hm])
theorem look_part {at' : Int} : ∀ {ms : List Mnt}, Ord ms → ∀ (nx : Int), at' < nx → ∀ x, at' ≤ x → x < (look at' ms (em, nx)).2 → partAt ms x = (look at' ms (em, nx)).1
  | [], _, _, _, _, _, _ => rfl
  | m :: ms, h, nx, hn, x, h1, h2 => by
    obtain ⟨g1, g2, g3⟩ := ord_tail h
    by_cases c : m.f ≤ at' ∧ at' < en m
    · rw [look, if_pos c] at h2 ⊢
      rw [look_far _ _ _ (fun y hy => by have := g2 y hy; simp only; omega) (by simp only; omega)] at h2 ⊢
      simp only at h2 ⊢
      rw [partAt, if_pos (by omega)]
    · by_cases d : at' < m.f
      · rw [look, if_neg c, if_pos d] at h2 ⊢
        rw [look_far _ _ _ (fun y hy => by have := g2 y hy; simp only; omega) (by simp only; omega)] at h2 ⊢
        simp only at h2 ⊢
        rw [partAt, if_neg (by omega)]
        exact partAt_far fun y hy => by have := g2 y hy; omega
      · rw [look_skip _ g1 (by omega)] at h2 ⊢
        rw [partAt, if_neg (by omega)]
        exact look_part g3 nx hn x h1 h2
/-- the piece in which a second lies -/
def pick (left : Int) : List Pc → Option ByteArray
  | [] => none
  | q :: l => if left < q.2 then some q.1 else pick (left - q.2) l
theorem rp_pick {last : Int} {ms : List Mnt} (h : Ord ms) : ∀ (n : Nat) (a x : Int), last - a ≤ n → a ≤ x → x < last → pick (x - a) (rpieces last ms n a) = some (partAt ms x)
  | 0, a, x, hn, h1, h2 => by omega
  | n + 1, a, x, hn, h1, h2 => by
    have hl : a < last := by omega
    have hgt := look_gt a ms (em, last) hl
    rw [rpieces, if_pos hl, pick]
    by_cases c : x < (look a ms (em, last)).2
    · rw [if_pos (by simp only; omega), look_part h last hl x h1 c]
    · rw [if_neg (by simp only; omega)]
      simp only
      rw [show x - a - ((look a ms (em, last)).2 - a) = x - (look a ms (em, last)).2 by omega]
      exact rp_pick h n _ x (by omega) (by omega) h2
/-- pieces are of one second at least, and fill the use -/
def secs (l : List Pc) : Int := (l.map (·.2)).sum
theorem rp_fill {last : Int} {ms : List Mnt} : ∀ (n : Nat) (a : Int), last - a ≤ n → a ≤ last → secs (rpieces last ms n a) = last - a ∧ ∀ q, q ∈ rpieces last ms n a → 0 < q.2
  | 0, a, hn, h => by
    have : last = a := by omega
    subst this
    exact ⟨by simp [rpieces, secs], by simp [rpieces]⟩
  | n + 1, a, hn, h => by
    rw [rpieces]
    by_cases hl : a < last
    · have hgt := look_gt a ms (em, last) hl
      have hle := look_mono a ms (em, last)
      simp only at hgt hle
      obtain ⟨i1, i2⟩ := rp_fill n (look a ms (em, last)).2 (by omega) hle
      rw [if_pos hl]
      refine ⟨?_, ?_⟩
      · unfold secs at i1 ⊢
        rw [List.map_cons, List.sum_cons, i1]
        simp only
        omega
      · intro q hq
        rcases List.mem_cons.1 hq with rfl | hq
        · simp only; omega
        · exact i2 q hq
    · rw [if_neg hl]
      exact ⟨by simp [secs]; omega, by simp⟩
theorem secs_ge : ∀ (l : List Pc), (∀ q, q ∈ l → 0 < q.2) → (l.length : Int) ≤ secs l
  | [], _ => by simp [secs]
  | q :: l, h => by
    have h1 := h q (by simp)
    have h2 := secs_ge l fun x hx => h x (by simp [hx])
    unfold secs at h2 ⊢
    simp only [List.map_cons, List.sum_cons, List.length_cons]
    omega
end Pcs
end Go.Proofs.Ytbkpoepacjinlaa
