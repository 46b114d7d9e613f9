/- Several texts of this claim in one. -/
/- Gear: mounts overlap, in plain numbers: the end of the last mount of a slot, or of a part, tells it. -/
namespace Go.Proofs.YthdmceeipmmhjaaGreatDoor
namespace Gmt
/-- the end of the last of the first k mounts with this name; 0: there is none -/
def lastE (x : Nat → ByteArray) (e : Nat → Int) : Nat → ByteArray → Int
  | 0, _ => 0
  | k + 1, key => if x k = key then e k else lastE x e k key
def bad1 (s p : Nat → ByteArray) (f e : Nat → Int) (k : Nat) : Prop := f k < lastE s e k (s k) ∨ f k < lastE p e k (p k)
def bad2 (s p : Nat → ByteArray) (f e : Nat → Int) (k : Nat) : Prop := ∃ i, i < k ∧ (s i = s k ∨ p i = p k) ∧ max (f i) (f k) < min (e i) (e k)
theorem lastE_spec (x : Nat → ByteArray) (e : Nat → Int) (key : ByteArray) : ∀ k, (lastE x e k key = 0 ∧ ∀ i, i < k → x i ≠ key) ∨ ∃ j, j < k ∧ x j = key ∧ lastE x e k key = e j ∧ ∀ i, j < i → i < k → x i ≠ key
  | 0 => Or.inl ⟨rfl, fun i hi => by omega⟩
  | k + 1 => by
    rw [lastE]
    by_cases h : x k = key
    · rw [if_pos h]
      exact Or.inr ⟨k, by omega, h, rfl, fun i h1 h2 => by omega⟩
    · rw [if_neg h]
      rcases lastE_spec x e key k with ⟨h1, h2⟩ | ⟨j, h1, h2, h3, h4⟩
      · exact Or.inl ⟨h1, fun i hi => by
          by_cases e1 : i = k
          · subst e1; exact h
          · exact h2 i (by omega)⟩
      · exact Or.inr ⟨j, by omega, h2, h3, fun i h5 h6 => by
          by_cases e1 : i = k
          · subst e1; exact h
          · exact h4 i h5 (by omega)⟩
theorem bad_iff {s p : Nat → ByteArray} {f e : Nat → Int} {n : Nat} (h0 : ∀ i, i < n → 0 ≤ f i ∧ f i < e i) (hs : ∀ i j, i < j → j < n → f i ≤ f j) :
    (∃ k, k < n ∧ bad1 s p f e k) ↔ ∃ k, k < n ∧ bad2 s p f e k := by
  constructor
  · rintro ⟨k, hk, h⟩
    have hfk := h0 k hk
    refine ⟨k, hk, ?_⟩
    rcases h with h | h
    · rcases lastE_spec s e (s k) k with ⟨h1, _⟩ | ⟨j, h1, h2, h3, _⟩
      · omega
      · have := hs j k h1 hk
        exact ⟨j, h1, Or.inl h2, by omega⟩
    · rcases lastE_spec p e (p k) k with ⟨h1, _⟩ | ⟨j, h1, h2, h3, _⟩
      · omega
      · have := hs j k h1 hk
        exact ⟨j, h1, Or.inr h2, by omega⟩
  · -- the least k
    have key : ∀ m k, k ≤ m → k < n → bad2 s p f e k → ∃ k', k' < n ∧ bad1 s p f e k' := by
      intro m
      induction m with
      | zero =>
        intro k hk _ h
        obtain ⟨i, hi, _⟩ := h
        omega
      | succ m ih =>
        intro k hk hkn h
        by_cases hex : ∃ k', k' < k ∧ bad2 s p f e k'
        · obtain ⟨k', h1, h2⟩ := hex
          exact ih k' (by omega) (by omega) h2
        · obtain ⟨i, hi, hsp, hov⟩ := h
          have hik := hs i k hi hkn
          have hov2 : f k < e i := by omega
          refine ⟨k, hkn, ?_⟩
          rcases hsp with hsp | hsp
          · left
            rcases lastE_spec s e (s k) k with ⟨_, h2⟩ | ⟨j, h1, h2, h3, h4⟩
            · exact absurd hsp (h2 i hi)
            · rw [h3]
              by_cases e1 : j = i
              · subst e1; exact hov2
              · have hij : i < j := by
                  rcases Nat.lt_or_ge i j with h5 | h5
                  · exact h5
                  · exact absurd hsp (h4 i (by omega) hi)
                by_cases hji : f j < e i
                · exact absurd ⟨j, h1, i, hij, Or.inl (hsp.trans h2.symm), by have := h0 j (by omega); have := hs i j hij (by omega); omega⟩ hex
                · have := hs j k h1 hkn
                  omega
          · right
            rcases lastE_spec p e (p k) k with ⟨_, h2⟩ | ⟨j, h1, h2, h3, h4⟩
            · exact absurd hsp (h2 i hi)
            · rw [h3]
              by_cases e1 : j = i
              · subst e1; exact hov2
              · have hij : i < j := by
                  rcases Nat.lt_or_ge i j with h5 | h5
                  · exact h5
                  · exact absurd hsp (h4 i (by omega) hi)
                by_cases hji : f j < e i
                · exact absurd ⟨j, h1, i, hij, Or.inr (hsp.trans h2.symm), by have := h0 j (by omega); have := hs i j hij (by omega); omega⟩ hex
                · have := hs j k h1 hkn
                  omega
    rintro ⟨k, hk, h⟩
    exact key k k (Nat.le_refl _) hk h
end Gmt
end Go.Proofs.YthdmceeipmmhjaaGreatDoor

/- Gear: the pieces of a use in a slot, in plain lists: one pass over the mounts in order, and from boundary to boundary, give the same. -/
namespace Go.Proofs.YthdmceeipmmhjaaGreatDoor
namespace Pcs
structure Mnt where
  s : ByteArray
  p : ByteArray
  f : Int
  t : Int
def never : Int := 4611686018427387904
def en (m : Mnt) : Int := if m.t < 0 then never else m.t
abbrev Pc := ByteArray × Int
def em : ByteArray := ⟨#[]⟩
/-- a piece up to a moment, if there is one -/
def add (last : Int) (st : Int × List Pc) (part : ByteArray) (to : Int) : Int × List Pc :=
  if st.1 < min to last then (min to last, st.2 ++ [(part, min to last - st.1)]) else st
def step (last : Int) (st : Int × List Pc) (m : Mnt) : Int × List Pc :=
  if st.1 < en m then add last (add last st em m.f) m.p (en m) else st
def pieces (at' last : Int) (ms : List Mnt) : List Pc := (add last (ms.foldl (step last) (at', [])) em last).2
/-- the next boundary, and the part until then -/
def look (at' : Int) : List Mnt → ByteArray × Int → ByteArray × Int
  | [], st => st
  | m :: ms, st => look at' ms (if m.f ≤ at' ∧ at' < en m then (m.p, min st.2 (en m)) else if at' < m.f then (st.1, min st.2 m.f) else st)
def rpieces (last : Int) (ms : List Mnt) : Nat → Int → List Pc
  | 0, _ => []
  | n + 1, at' => if at' < last then ((look at' ms (em, last)).1, (look at' ms (em, last)).2 - at') :: rpieces last ms n (look at' ms (em, last)).2 else []
/-- right mounts of one slot, in order -/
inductive Ord : List Mnt → Prop
  | nil : Ord []
  | cons (m : Mnt) (ms : List Mnt) : m.f < en m → (∀ x, x ∈ ms → en m ≤ x.f) → Ord ms → Ord (m :: ms)

theorem look_mono (at' : Int) : ∀ (ms : List Mnt) (st : ByteArray × Int), (look at' ms st).2 ≤ st.2
  | [], st => Int.le_refl _
  | m :: ms, st => by
    unfold look
    refine Int.le_trans (look_mono at' ms _) ?_
    split
    · simp only; omega
    · split
      · simp only; omega
      · omega
theorem look_gt (at' : Int) : ∀ (ms : List Mnt) (st : ByteArray × Int), at' < st.2 → at' < (look at' ms st).2
  | [], st, h => h
  | m :: ms, st, h => by
    unfold look
    refine look_gt at' ms _ ?_
    split
    · simp only; omega
    · split
      · simp only; omega
      · omega
/-- mounts that begin later than the boundary say nothing -/
theorem look_far (at' : Int) : ∀ (ms : List Mnt) (st : ByteArray × Int), (∀ x, x ∈ ms → st.2 ≤ x.f) → at' < st.2 → look at' ms st = st
  | [], st, _, _ => rfl
  | m :: ms, st, h, hl => by
    have hm := h m (by simp)
    unfold look
    rw [if_neg (by omega), if_pos (by omega)]
    have : (st.1, min st.2 m.f) = st := by
      cases st
      simp at hm ⊢
      omega
    rw [this]
    exact look_far at' ms st (fun x hx => h x (by simp [hx])) hl
theorem look_skip {at' : Int} {m : Mnt} {ms : List Mnt} (st : ByteArray × Int) (h1 : m.f < en m) (h2 : en m ≤ at') : look at' (m :: ms) st = look at' ms st := by
  rw [look, if_neg (by omega), if_neg (by omega)]
theorem rp_skip {last : Int} {m : Mnt} {ms : List Mnt} (h1 : m.f < en m) : ∀ (n : Nat) (at' : Int), en m ≤ at' → rpieces last (m :: ms) n at' = rpieces last ms n at'
  | 0, _, _ => rfl
  | n + 1, at', h2 => by
    unfold rpieces
    rw [look_skip _ h1 h2]
    split
    · rename_i hl
      have := look_gt at' ms (em, last) hl
      rw [rp_skip h1 n _ (by omega)]
    · rfl
/-- enough fuel is enough -/
theorem rp_fuel {last : Int} {ms : List Mnt} : ∀ (n k : Nat) (at' : Int), last - at' ≤ n → n ≤ k → rpieces last ms k at' = rpieces last ms n at'
  | 0, 0, _, _, _ => rfl
  | 0, k + 1, at', h, _ => by
    unfold rpieces
    rw [if_neg (by omega)]
  | n + 1, 0, _, _, h => by omega
  | n + 1, k + 1, at', h, hk => by
    unfold rpieces
    split
    · rename_i hl
      have := look_gt at' ms (em, last) hl
      rw [rp_fuel n k _ (by omega) (by omega)]
    · rfl
theorem add_acc (last : Int) (a : Int) (l : List Pc) (p : ByteArray) (to : Int) : add last (a, l) p to = ((add last (a, []) p to).1, l ++ (add last (a, []) p to).2) := by
  unfold add
  simp only
  split <;> simp
theorem step_acc (last : Int) (a : Int) (l : List Pc) (m : Mnt) : step last (a, l) m = ((step last (a, []) m).1, l ++ (step last (a, []) m).2) := by
  unfold step
  simp only
  split
  · rw [add_acc last a l]
    generalize add last (a, []) em m.f = st
    obtain ⟨b, r⟩ := st
    simp only
    rw [add_acc last b (l ++ r), add_acc last b r]
    simp [List.append_assoc]
  · simp
theorem fold_acc (last : Int) : ∀ (ms : List Mnt) (a : Int) (l : List Pc), ms.foldl (step last) (a, l) = ((ms.foldl (step last) (a, [])).1, l ++ (ms.foldl (step last) (a, [])).2)
  | [], a, l => by simp
  | m :: ms, a, l => by
    rw [List.foldl_cons, List.foldl_cons, step_acc]
    generalize step last (a, []) m = st
    obtain ⟨b, r⟩ := st
    simp only
    rw [fold_acc last ms b (l ++ r), fold_acc last ms b r]
    simp [List.append_assoc]
/-- pieces, one mount after another -/
def walk (last : Int) : List Mnt → Int → List Pc
  | [], a => (add last (a, []) em last).2
  | m :: ms, a => (step last (a, []) m).2 ++ walk last ms (step last (a, []) m).1
theorem pieces_walk (last : Int) : ∀ (ms : List Mnt) (a : Int), pieces a last ms = walk last ms a
  | [], a => rfl
  | m :: ms, a => by
    unfold pieces walk
    rw [List.foldl_cons]
    generalize step last (a, []) m = st
    obtain ⟨b, r⟩ := st
    simp only
    rw [fold_acc, add_acc, ← pieces_walk last ms b]
    unfold pieces
    generalize ms.foldl (step last) (b, []) = s2
    obtain ⟨c, q⟩ := s2
    simp only
    rw [add_acc last c q]
    simp [List.append_assoc]
theorem add_none {last a to : Int} (p : ByteArray) (l : List Pc) (h : last ≤ a ∨ to ≤ a) : add last (a, l) p to = (a, l) := by
  unfold add
  simp only
  rw [if_neg (by omega)]
theorem add_some {last a to : Int} (p : ByteArray) (l : List Pc) (h : a < last) (h2 : a < to) : add last (a, l) p to = (min to last, l ++ [(p, min to last - a)]) := by
  unfold add
  simp only
  rw [if_pos (by omega)]
theorem step_past {last a : Int} (m : Mnt) (h : last ≤ a) : step last (a, []) m = (a, []) := by
  unfold step
  simp only
  split
  · rw [add_none _ _ (Or.inl h), add_none _ _ (Or.inl h)]
  · rfl
theorem walk_past {last a : Int} (h : last ≤ a) : ∀ ms, walk last ms a = []
  | [] => by unfold walk; rw [add_none _ _ (Or.inl h)]
  | m :: ms => by
    unfold walk
    rw [step_past m h]
    simp [walk_past h ms]
theorem rp_past {last a : Int} (h : last ≤ a) (ms : List Mnt) : ∀ n, rpieces last ms n a = []
  | 0 => rfl
  | n + 1 => by unfold rpieces; rw [if_neg (by omega)]
theorem ord_tail {m : Mnt} {ms : List Mnt} (h : Ord (m :: ms)) : m.f < en m ∧ (∀ x, x ∈ ms → en m ≤ x.f) ∧ Ord ms := by
  cases h with | cons _ _ a b c => exact ⟨a, b, c⟩
/-- the mount that stands first, from within it -/
theorem rp_in {last a : Int} {m : Mnt} {ms : List Mnt} (h : Ord (m :: ms)) (n : Nat) (hl : a < last) (h1 : m.f ≤ a) (h2 : a < en m) :
    rpieces last (m :: ms) (n + 1) a = (m.p, min (en m) last - a) :: rpieces last (m :: ms) n (min (en m) last) := by
  obtain ⟨g1, g2, g3⟩ := ord_tail h
  have hk : look a (m :: ms) (em, last) = (m.p, min (en m) last) := by
    rw [look, if_pos ⟨h1, h2⟩]
    rw [look_far _ _ _ (fun x hx => by have := g2 x hx; simp only; omega) (by simp only; omega)]
    simp only [Int.min_comm]
  rw [rpieces, if_pos hl, hk]
theorem rp_out {last a : Int} {m : Mnt} {ms : List Mnt} (h : Ord (m :: ms)) (n : Nat) (hl : a < last) (h1 : a < m.f) :
    rpieces last (m :: ms) (n + 1) a = (em, min m.f last - a) :: rpieces last (m :: ms) n (min m.f last) := by
  obtain ⟨g1, g2, g3⟩ := ord_tail h
  have hk : look a (m :: ms) (em, last) = (em, min m.f last) := by
    rw [look, if_neg (by omega), if_pos h1]
    rw [look_far _ _ _ (fun x hx => by have := g2 x hx; simp only; omega) (by simp only; omega)]
    simp only [Int.min_comm]
  rw [rpieces, if_pos hl, hk]
theorem main {last : Int} : ∀ (ms : List Mnt), Ord ms → ∀ (a : Int) (n : Nat), last - a ≤ n → rpieces last ms n a = walk last ms a
  | [], _, a, n, hn => by
    by_cases hl : a < last
    · cases n with
      | zero => omega
      | succ n =>
        unfold rpieces walk
        rw [if_pos hl, add_some _ _ hl hl]
        simp only [look, Int.min_self, List.nil_append]
        rw [rp_past (Int.le_refl _)]
    · rw [rp_past (by omega), walk_past (by omega)]
  | m :: ms, h, a, n, hn => by
    obtain ⟨g1, g2, g3⟩ := ord_tail h
    have ih := main (last := last) ms g3
    -- from within or behind m
    have inn : ∀ (a : Int) (n : Nat), m.f ≤ a → last - a ≤ n → rpieces last (m :: ms) n a = walk last (m :: ms) a := by
      intro a n h1 hn
      by_cases h2 : a < en m
      · by_cases hl : a < last
        · cases n with
          | zero => omega
          | succ n =>
            rw [rp_in h n hl h1 h2, walk]
            unfold step
            simp only
            rw [if_pos h2, add_none _ _ (Or.inr h1), add_some _ _ hl h2]
            simp only [List.nil_append, List.singleton_append, List.cons.injEq, true_and]
            by_cases h3 : last ≤ en m
            · rw [show min (en m) last = last by omega, rp_past (Int.le_refl _), walk_past (Int.le_refl _)]
            · rw [show min (en m) last = en m by omega, rp_skip g1 _ _ (Int.le_refl _)]
              exact ih _ _ (by omega)
        · rw [rp_past (by omega), walk_past (by omega)]
      · rw [rp_skip g1 _ _ (by omega), ih _ _ hn, walk]
        unfold step
        simp only
        rw [if_neg h2]
        simp
    by_cases h1 : a < m.f
    · by_cases hl : a < last
      · cases n with
        | zero => omega
        | succ n =>
          rw [rp_out h n hl h1]
          by_cases h3 : last ≤ m.f
          · rw [show min m.f last = last by omega, rp_past (Int.le_refl _), walk]
            unfold step
            simp only
            rw [if_pos (by omega), add_some _ _ hl h1, show min m.f last = last by omega, add_none _ _ (Or.inl (Int.le_refl _)), walk_past (Int.le_refl _)]
            simp
          · rw [show min m.f last = m.f by omega, inn m.f n (Int.le_refl _) (by omega), walk, walk]
            unfold step
            simp only
            rw [if_pos g1, if_pos (by omega), add_none _ _ (Or.inr (Int.le_refl _)), add_some _ _ hl h1, show min m.f last = m.f by omega]
            rw [add_acc last m.f ([] ++ [(em, m.f - a)])]
            simp
      · rw [rp_past (by omega), walk_past (by omega)]
    · exact inn a n (by omega) hn
theorem pieces_eq {last a : Int} {ms : List Mnt} (h : Ord ms) {n : Nat} (hn : last - a ≤ n) : rpieces last ms n a = pieces a last ms := by
  rw [main ms h a n hn, pieces_walk]
/-- the part at a moment -/
def partAt (ms : List Mnt) (x : Int) : ByteArray :=
  match ms with
  | [] => em
  | m :: ms => if m.f ≤ x ∧ x < en m then m.p else partAt ms x
theorem partAt_far {x : Int} : ∀ {ms : List Mnt}, (∀ m, m ∈ ms → x < m.f) → partAt ms x = em
  | [], _ => rfl
  | m :: ms, h => by
    have := h m (by simp)
    rw [partAt, if_neg (by omega)]
    exact partAt_far fun m hm => h m (by simp [hm])
theorem look_part {at' : Int} : ∀ {ms : List Mnt}, Ord ms → ∀ (nx : Int), at' < nx → ∀ x, at' ≤ x → x < (look at' ms (em, nx)).2 → partAt ms x = (look at' ms (em, nx)).1
  | [], _, _, _, _, _, _ => rfl
  | m :: ms, h, nx, hn, x, h1, h2 => by
    obtain ⟨g1, g2, g3⟩ := ord_tail h
    by_cases c : m.f ≤ at' ∧ at' < en m
    · rw [look, if_pos c] at h2 ⊢
      rw [look_far _ _ _ (fun y hy => by have := g2 y hy; simp only; omega) (by simp only; omega)] at h2 ⊢
      simp only at h2 ⊢
      rw [partAt, if_pos (by omega)]
    · by_cases d : at' < m.f
      · rw [look, if_neg c, if_pos d] at h2 ⊢
        rw [look_far _ _ _ (fun y hy => by have := g2 y hy; simp only; omega) (by simp only; omega)] at h2 ⊢
        simp only at h2 ⊢
        rw [partAt, if_neg (by omega)]
        exact partAt_far fun y hy => by have := g2 y hy; omega
      · rw [look_skip _ g1 (by omega)] at h2 ⊢
        rw [partAt, if_neg (by omega)]
        exact look_part g3 nx hn x h1 h2
/-- the piece in which a second lies -/
def pick (left : Int) : List Pc → Option ByteArray
  | [] => none
  | q :: l => if left < q.2 then some q.1 else pick (left - q.2) l
theorem rp_pick {last : Int} {ms : List Mnt} (h : Ord ms) : ∀ (n : Nat) (a x : Int), last - a ≤ n → a ≤ x → x < last → pick (x - a) (rpieces last ms n a) = some (partAt ms x)
  | 0, a, x, hn, h1, h2 => by omega
  | n + 1, a, x, hn, h1, h2 => by
    have hl : a < last := by omega
    have hgt := look_gt a ms (em, last) hl
    rw [rpieces, if_pos hl, pick]
    by_cases c : x < (look a ms (em, last)).2
    · rw [if_pos (by simp only; omega), look_part h last hl x h1 c]
    · rw [if_neg (by simp only; omega)]
      simp only
      rw [show x - a - ((look a ms (em, last)).2 - a) = x - (look a ms (em, last)).2 by omega]
      exact rp_pick h n _ x (by omega) (by omega) h2
/-- pieces are of one second at least, and fill the use -/
def secs (l : List Pc) : Int := (l.map (·.2)).sum
theorem rp_fill {last : Int} {ms : List Mnt} : ∀ (n : Nat) (a : Int), last - a ≤ n → a ≤ last → secs (rpieces last ms n a) = last - a ∧ ∀ q, q ∈ rpieces last ms n a → 0 < q.2
  | 0, a, hn, h => by
    have : last = a := by omega
    subst this
    exact ⟨by simp [rpieces, secs], by simp [rpieces]⟩
  | n + 1, a, hn, h => by
    rw [rpieces]
    by_cases hl : a < last
    · have hgt := look_gt a ms (em, last) hl
      have hle := look_mono a ms (em, last)
      simp only at hgt hle
      obtain ⟨i1, i2⟩ := rp_fill n (look a ms (em, last)).2 (by omega) hle
      rw [if_pos hl]
      refine ⟨?_, ?_⟩
      · unfold secs at i1 ⊢
        rw [List.map_cons, List.sum_cons, i1]
        simp only
        omega
      · intro q hq
        rcases List.mem_cons.1 hq with rfl | hq
        · simp only; omega
        · exact i2 q hq
    · rw [if_neg hl]
      exact ⟨by simp [secs]; omega, by simp⟩
theorem secs_ge : ∀ (l : List Pc), (∀ q, q ∈ l → 0 < q.2) → (l.length : Int) ≤ secs l
  | [], _ => by simp [secs]
  | q :: l, h => by
    have h1 := h q (by simp)
    have h2 := secs_ge l fun x hx => h x (by simp [hx])
    unfold secs at h2 ⊢
    simp only [List.map_cons, List.sum_cons, List.length_cons]
    omega
end Pcs
end Go.Proofs.YthdmceeipmmhjaaGreatDoor

/- One digit of a long division, in plain numbers. -/
namespace Knuth
/-- one digit: B the base, y = a*B+b the divisor, u < y the head, d < B the next digit. -/
theorem up {B u d a b q : Nat} (hd : d < B) (hq : q * (a * B + b) ≤ u * B + d) (ha : 0 < a) : q ≤ u / a := by
  rw [Nat.le_div_iff_mul_le ha]
  have h1 : q * a * B ≤ u * B + d := by
    have : q * (a * B + b) = q * a * B + q * b := by rw [Nat.mul_add, Nat.mul_assoc]
    omega
  have h2 : q * a * B < (u + 1) * B := by rw [Nat.add_mul]; omega
  have := Nat.lt_of_mul_lt_mul_right h2
  omega

/-- the test is exact -/
theorem test {B u d a b q r : Nat} (h : r + q * a = u) : (u * B + d < q * (a * B + b)) ↔ r * B + d < q * b := by
  subst h
  have e1 : (r + q * a) * B = r * B + q * a * B := Nat.add_mul _ _ _
  have e2 : q * (a * B + b) = q * a * B + q * b := by rw [Nat.mul_add, Nat.mul_assoc]
  omega

theorem first {B u a b : Nat} (hb : b < B) (ha : B ≤ 2 * a) (ha0 : 0 < a) (hu : u < a * B + b) : u / a ≤ B + 1 := by
  have : u / a < B + 2 := by
    rw [Nat.div_lt_iff_lt_mul ha0]
    have : (B + 2) * a = a * B + 2 * a := by rw [Nat.add_mul, Nat.mul_comm B a]
    omega
  omega

/-- where the rest has grown to the base, the digit is not too great -/
theorem small {B u d a b q r : Nat} (hb : b < B) (h : r + q * a = u) (hr : B ≤ r) (hq : q ≤ B) : q * (a * B + b) ≤ u * B + d := by
  have := (test (B := B) (d := d) (b := b) h)
  have h1 : q * b ≤ B * B := Nat.mul_le_mul hq (Nat.le_of_lt hb)
  have h2 : B * B ≤ r * B := Nat.mul_le_mul_right _ hr
  have h3 : ¬ (u * B + d < q * (a * B + b)) := by rw [this]; omega
  omega

theorem digit {n y q : Nat} (h1 : q * y ≤ n) (h2 : n < (q + 1) * y) : n / y = q := by
  have hy : 0 < y := by
    rcases Nat.eq_zero_or_pos y with h | h
    · subst h; simp at h2
    · exact h
  rw [Nat.div_eq_iff hy]
  rw [Nat.add_mul] at h2
  omega

/-- the quotient's digit is below the base -/
theorem below {B u d y : Nat} (hd : d < B) (hu : u < y) : (u * B + d) / y < B := by
  rw [Nat.div_lt_iff_lt_mul (by omega)]
  have : u * B + B ≤ y * B := by rw [← Nat.succ_mul]; exact Nat.mul_le_mul_right _ hu
  rw [Nat.mul_comm B y]; omega

/-- two digits: the quotient and the rest out of the digits. -/
theorem two {B u d1 d0 y : Nat} (hy : 0 < y) :
    ((u * B + d1) * B + d0) / y = (u * B + d1) / y * B + ((u * B + d1) % y * B + d0) / y ∧
    ((u * B + d1) * B + d0) % y = ((u * B + d1) % y * B + d0) % y := by
  have h := Nat.div_add_mod (u * B + d1) y
  have e : (u * B + d1) * B + d0 = ((u * B + d1) % y * B + d0) + y * ((u * B + d1) / y * B) := by
    have h' : (u * B + d1) * B = (y * ((u * B + d1) / y) + (u * B + d1) % y) * B := by rw [h]
    rw [h', Nat.add_mul, Nat.mul_assoc]; omega
  constructor
  · conv => lhs; rw [e]
    rw [Nat.add_mul_div_left _ _ hy]; omega
  · conv => lhs; rw [e]
    rw [Nat.add_mul_mod_self_left]

/-- shifting both by a power -/
theorem shifted {n y s : Nat} : (n * 2 ^ s) / (y * 2 ^ s) = n / y ∧ (n * 2 ^ s) % (y * 2 ^ s) / 2 ^ s = n % y := by
  have hp : 0 < 2 ^ s := Nat.two_pow_pos s
  refine ⟨Nat.mul_div_mul_right _ _ hp, ?_⟩
  rw [Nat.mul_mod_mul_right, Nat.mul_div_cancel _ hp]

/-! ### the base 2^32 -/
/-- q is not below the digit, r is the rest that goes with it. -/
def Dig (u d a b q r : Nat) : Prop := q ≤ 4294967297 ∧ r < 4294967296 ∧ r + q * a = u ∧ (u * 4294967296 + d) / (a * 4294967296 + b) ≤ q
structure Par (u d a b : Nat) : Prop where
  uY : u < a * 4294967296 + b
  dB : d < 4294967296
  a0 : 2147483648 ≤ a
  aB : a < 4294967296
  bB : b < 4294967296
theorem dig_start {u d a b : Nat} (h : Par u d a b) : Dig u d a b (u / a) (u % a) := by
  obtain ⟨hu, hd, ha, ha', hb⟩ := h
  have h1 := first (B := 4294967296) hb (by omega) (by omega) hu
  have h2 := up (B := 4294967296) (u := u) (d := d) (a := a) (b := b) (q := (u * 4294967296 + d) / (a * 4294967296 + b)) hd (Nat.div_mul_le_self _ _) (by omega)
  have h3 := Nat.div_add_mod u a
  have h4 := Nat.mod_lt u (show 0 < a by omega)
  rw [Nat.mul_comm] at h3
  exact ⟨by omega, by omega, by omega, h2⟩
theorem dig_lt {u d a b : Nat} (h : Par u d a b) : (u * 4294967296 + d) / (a * 4294967296 + b) < 4294967296 := below h.dB h.uY
theorem Dig.over {u d a b q r : Nat} (h : Par u d a b) (g : Dig u d a b q r) (ht : 4294967296 ≤ q ∨ r * 4294967296 + d < q * b) : (u * 4294967296 + d) / (a * 4294967296 + b) < q := by
  have h1 := h.a0
  rcases ht with ht | ht
  · exact Nat.lt_of_lt_of_le (dig_lt h) ht
  · rw [Nat.div_lt_iff_lt_mul (by omega)]
    exact (test g.2.2.1).2 ht
theorem Dig.rest {u d a b q r : Nat} (g : Dig u d a b q r) (hq : 0 < q) : (r + a) + (q - 1) * a = u := by
  obtain ⟨g1, g2, g3, g4⟩ := g
  obtain ⟨k, rfl⟩ : ∃ k, q = k + 1 := ⟨q - 1, by omega⟩
  rw [Nat.add_sub_cancel]; rw [Nat.add_mul] at g3; omega
/-- too great: one less -/
theorem Dig.less {u d a b q r : Nat} (h : Par u d a b) (g : Dig u d a b q r) (ht : 4294967296 ≤ q ∨ r * 4294967296 + d < q * b) (hr : r + a < 4294967296) : Dig u d a b (q - 1) (r + a) := by
  have h1 := g.over h ht
  have h2 := g.rest (Nat.zero_lt_of_lt h1)
  have h3 := g.1
  exact ⟨by omega, hr, h2, Nat.le_sub_one_of_lt h1⟩
/-- too great, and behind it the rest has grown to the base: one less is the digit. -/
theorem Dig.last {u d a b q r : Nat} (h : Par u d a b) (g : Dig u d a b q r) (ht : 4294967296 ≤ q ∨ r * 4294967296 + d < q * b) (hr : 4294967296 ≤ r + a) : q - 1 = (u * 4294967296 + d) / (a * 4294967296 + b) := by
  have h1 := g.over h ht
  have h2 := g.rest (Nat.zero_lt_of_lt h1)
  have h3 := g.1
  have h4 := h.a0
  have h7 := small (B := 4294967296) (d := d) h.bB h2 (by omega) (by omega)
  have h8 : q - 1 ≤ (u * 4294967296 + d) / (a * 4294967296 + b) := by rw [Nat.le_div_iff_mul_le (by omega)]; exact h7
  omega
/-- not too great: the digit. -/
theorem Dig.done {u d a b q r : Nat} (h : Par u d a b) (g : Dig u d a b q r) (ht : q * b ≤ r * 4294967296 + d) : q = (u * 4294967296 + d) / (a * 4294967296 + b) := by
  have h4 := h.a0
  have h5 := g.2.2.2
  have h8 : q ≤ (u * 4294967296 + d) / (a * 4294967296 + b) := by
    rw [Nat.le_div_iff_mul_le (by omega)]
    have := (test (B := 4294967296) (d := d) (b := b) g.2.2.1)
    omega
  omega
theorem Dig.pos {u d a b q r : Nat} (h : Par u d a b) (g : Dig u d a b q r) (ht : 4294967296 ≤ q ∨ r * 4294967296 + d < q * b) : 1 ≤ q := by
  exact Nat.zero_lt_of_lt (g.over h ht)
/-- a product of two half words -/
theorem mul_half {q b : Nat} (hq : q < 4294967296) (hb : b < 4294967296) : q * b < 18446744073709551616 := by
  have : q * b ≤ 4294967295 * 4294967295 := Nat.mul_le_mul (by omega) (by omega)
  omega
theorem digits {B N y s u d1 d0 Y : Nat} (hY : y * 2 ^ s = Y) (h0 : 0 < Y) (hN : N * 2 ^ s = (u * B + d1) * B + d0) :
    ∃ Q1 u2 Q0 r2, Q1 = (u * B + d1) / Y ∧ Q0 = (u2 * B + d0) / Y ∧ Y * Q1 + u2 = u * B + d1 ∧ Y * Q0 + r2 = u2 * B + d0 ∧ u2 < Y ∧ r2 < Y ∧ N / y = Q1 * B + Q0 ∧ N % y = r2 / 2 ^ s := by
  have htwo := two (B := B) (u := u) (d1 := d1) (d0 := d0) (y := Y) h0
  rw [← hN, ← hY] at htwo
  have hsh := shifted (n := N) (y := y) (s := s)
  rw [hsh.1] at htwo
  rw [htwo.2] at hsh
  rw [hY] at htwo hsh
  exact ⟨_, _, _, _, rfl, rfl, Nat.div_add_mod _ _, Nat.div_add_mod _ _, Nat.mod_lt _ h0, Nat.mod_lt _ h0, htwo.1, hsh.2.symm⟩
theorem start {u d a b : Nat} (h : Par u d a b) : ∃ qh rh, qh = u / a ∧ rh = u % a ∧ qh ≤ 4294967297 ∧ rh < a ∧ Dig u d a b qh rh := by
  have h1 := dig_start h
  have h2 := h.a0
  exact ⟨_, _, rfl, rfl, h1.1, Nat.mod_lt _ (by omega), h1⟩
end Knuth

/- Scale, as a plain function; the law that rounded quotients are near. -/
namespace Sc
/-- does a quotient with a rest go away from 0? -/
def away (how : Int) (below : Bool) (whole rest den : Nat) : Bool :=
  if how = 1 then below
  else if how = 2 then !below
  else if how = 3 then false
  else if how = 4 then decide (den < 2 * rest) || (decide (2 * rest = den) && !below)
  else decide (den < 2 * rest) || (decide (2 * rest = den) && decide (whole % 2 = 1))
def quo (how : Int) (below : Bool) (whole rest den : Nat) : Nat :=
  if 0 < rest ∧ away how below whole rest den = true then whole + 1 else whole
def sgn (below : Bool) (q : Nat) : Int := if below = true then -(q : Int) else (q : Int)
/-- Scale's results. -/
def sc (a num den how : Int) : Int × Int :=
  if how < 1 ∨ 5 < how then (0, 7)
  else if den ≤ 0 ∨ num < 0 then (0, 1)
  else
    let n := a.natAbs * num.toNat
    if den.toNat ≤ n / 18446744073709551616 then (0, 9)
    else
      let q := quo how (decide (a < 0)) (n / den.toNat) (n % den.toNat) den.toNat
      if 4611686018427387904 < q then (0, 9) else (sgn (decide (a < 0)) q, 0)

theorem away_mul {k : Nat} (hk : 0 < k) (how : Int) (below : Bool) (whole rest den : Nat) :
    away how below whole (k * rest) (k * den) = away how below whole rest den := by
  have h1 : (k * den < 2 * (k * rest)) ↔ den < 2 * rest := by
    rw [show 2 * (k * rest) = k * (2 * rest) by rw [Nat.mul_left_comm]]
    exact ⟨fun h => Nat.lt_of_mul_lt_mul_left h, fun h => Nat.mul_lt_mul_of_pos_left h hk⟩
  have h2 : (2 * (k * rest) = k * den) ↔ 2 * rest = den := by
    rw [show 2 * (k * rest) = k * (2 * rest) by rw [Nat.mul_left_comm]]
    exact ⟨fun h => Nat.eq_of_mul_eq_mul_left hk h, fun h => by rw [h]⟩
  simp only [away, h1, h2]

theorem quo_mul {k : Nat} (hk : 0 < k) (how : Int) (below : Bool) (whole rest den : Nat) :
    quo how below whole (k * rest) (k * den) = quo how below whole rest den := by
  have : 0 < k * rest ↔ 0 < rest := by
    constructor
    · intro h
      rcases Nat.eq_zero_or_pos rest with h0 | h0
      · subst h0; simp at h
      · exact h0
    · exact fun h => Nat.mul_pos hk h
  simp only [quo, away_mul hk, this]

/-- at moderate numbers: the value. -/
theorem sc_small (a num den how : Int) (h1 : 1 ≤ how) (h5 : how ≤ 5) (hd : 1 ≤ den) (hn : 0 ≤ num) (hs : a.natAbs * num.toNat < 4611686018427387904) :
    sc a num den how = (sgn (decide (a < 0)) (quo how (decide (a < 0)) (a.natAbs * num.toNat / den.toNat) (a.natAbs * num.toNat % den.toNat) den.toNat), 0) := by
  unfold sc
  rw [if_neg (by omega), if_neg (by omega)]
  have h0 : a.natAbs * num.toNat / 18446744073709551616 = 0 := Nat.div_eq_of_lt (by omega)
  simp only [h0]
  rw [if_neg (by omega), if_neg]
  have hle : a.natAbs * num.toNat / den.toNat ≤ a.natAbs * num.toNat := Nat.div_le_self _ _
  unfold quo
  split <;> omega

theorem sc_arg (a num den how : Int) (h1 : 1 ≤ how) (h5 : how ≤ 5) (h : den ≤ 0 ∨ num < 0) : sc a num den how = (0, 1) := by
  unfold sc; rw [if_neg (by omega), if_pos h]
/-- where the arguments are right: in terms of the two words of the product -/
theorem sc_high (a how : Int) (num den : Nat) (h1 : 1 ≤ how) (h5 : how ≤ 5) (hd : 1 ≤ den) (h : den ≤ a.natAbs * num / 18446744073709551616) : sc a num den how = (0, 9) := by
  unfold sc; rw [if_neg (by omega), if_neg (by omega)]
  simp only [Int.toNat_natCast]
  rw [if_pos h]
theorem sc_of (a how : Int) (num den : Nat) (h1 : 1 ≤ how) (h5 : how ≤ 5) (hd : 1 ≤ den) (h : a.natAbs * num / 18446744073709551616 < den) :
    sc a num den how = if 4611686018427387904 < quo how (decide (a < 0)) (a.natAbs * num / den) (a.natAbs * num % den) den then (0, 9)
      else (sgn (decide (a < 0)) (quo how (decide (a < 0)) (a.natAbs * num / den) (a.natAbs * num % den) den), 0) := by
  unfold sc; rw [if_neg (by omega), if_neg (by omega)]
  simp only [Int.toNat_natCast]
  rw [if_neg (by omega)]
theorem sc_kind (a num den how : Int) (h : how < 1 ∨ 5 < how) : sc a num den how = (0, 7) := by unfold sc; rw [if_pos h]

/-- THE LAW QuantRoundsAreNear, of the plain function. -/
theorem near (a b k how : Int) (ha : -1000000000 ≤ a) (ha' : a ≤ 1000000000) (hb : 1 ≤ b) (hb' : b ≤ 1000000000) (hk : 1 ≤ k) (hk' : k ≤ 1000) (h1 : 1 ≤ how) (h5 : how ≤ 5) :
    ∃ n : Int, sc a 1 b how = (n, 0) ∧ sc (k * a) 1 (k * b) how = (n, 0) ∧ sc a k (k * b) how = (n, 0) ∧
      -b < a - n * b ∧ a - n * b < b ∧ -1000000000 ≤ n ∧ n ≤ 1000000000 ∧
      (how = 1 → 0 ≤ a - n * b) ∧ (how = 2 → a - n * b ≤ 0) ∧ (how = 3 → a - n * b = 0 ∨ ((0 < a - n * b) ↔ 0 < a)) ∧
      (4 ≤ how → 2 * (a - n * b) ≤ b ∧ -b ≤ 2 * (a - n * b)) := by
  have hK : 0 < k.toNat := by omega
  have hB : 0 < b.toNat := by omega
  have hsz : a.natAbs * k.toNat ≤ 1000000000 * 1000 := Nat.mul_le_mul (by omega) (by omega)
  have e1 : (k * a).natAbs = k.toNat * a.natAbs := by rw [Int.natAbs_mul]; congr 1; omega
  have e2 : (k * b).toNat = k.toNat * b.toNat := Int.toNat_mul (by omega) (by omega)
  have hkb : 1 ≤ k * b := by
    have := Int.mul_pos (show 0 < k by omega) (show 0 < b by omega); omega
  have hneg : decide (k * a < 0) = decide (a < 0) := by
    rcases (show a < 0 ∨ 0 ≤ a by omega) with h | h
    · have : k * a < 0 := Int.mul_neg_of_pos_of_neg (by omega) h
      simp [h, this]
    · have : 0 ≤ k * a := Int.mul_nonneg (by omega) h
      simp only [decide_eq_decide]; omega
  have hdm := Nat.div_add_mod a.natAbs b.toNat
  have hr := Nat.mod_lt a.natAbs hB
  have hq0 : a.natAbs / b.toNat ≤ a.natAbs := Nat.div_le_self _ _
  refine ⟨sgn (decide (a < 0)) (quo how (decide (a < 0)) (a.natAbs / b.toNat) (a.natAbs % b.toNat) b.toNat), ?_, ?_, ?_, ?_⟩
  · rw [sc_small a 1 b how h1 h5 hb (by omega) (by simp; omega)]; simp
  · rw [sc_small (k * a) 1 (k * b) how h1 h5 hkb (by omega) (by rw [e1]; simp; rw [Nat.mul_comm]; omega)]
    rw [e1, e2, hneg]; simp only [Int.toNat_one, Nat.mul_one]
    rw [Nat.mul_div_mul_left _ _ hK, Nat.mul_mod_mul_left, quo_mul hK]
  · rw [sc_small a k (k * b) how h1 h5 hkb (by omega) (by omega)]
    rw [e2, Nat.mul_comm a.natAbs, Nat.mul_div_mul_left _ _ hK, Nat.mul_mod_mul_left, quo_mul hK]
  · generalize hq : a.natAbs / b.toNat = q at *
    generalize hrr : a.natAbs % b.toNat = r at *
    have hbb : (b.toNat : Int) = b := by omega
    have hq' : (b * q + r : Int) = (a.natAbs : Int) := by
      have := congrArg (fun n : Nat => (n : Int)) hdm
      simp only [Int.natCast_add, Int.natCast_mul, hbb] at this; exact this
    have hw : ∀ n : Int, n * b = b * n := fun n => Int.mul_comm _ _
    have hqb : (q : Int) ≤ b * q := by
      have := Int.mul_le_mul_of_nonneg_right (show (1 : Int) ≤ b from hb) (show (0 : Int) ≤ (q : Int) by omega); omega
    have h12 : how = 1 ∨ how = 2 ∨ how = 3 ∨ how = 4 ∨ how = 5 := by omega
    have hst : r = 0 ∨ 0 < r := by omega
    have hneg2 : b * (-(q : Int)) = -(b * q) := by rw [Int.mul_neg]
    have hsucc : b * ((q : Int) + 1) = b * q + b := by rw [Int.mul_add, Int.mul_one]
    have hneg3 : b * (-((q : Int) + 1)) = -(b * q) - b := by rw [Int.mul_neg, hsucc]; omega
    by_cases hn : a < 0
    · have hab : (a.natAbs : Int) = -a := by omega
      simp only [hn, decide_true]
      have key : ∀ m : Nat, (m = q ∨ (m = q + 1 ∧ 0 < r)) → (quo how true q r b.toNat = m) → 
        (-b < a - sgn true m * b ∧ a - sgn true m * b < b ∧ -1000000000 ≤ sgn true m ∧ sgn true m ≤ 1000000000) ∧ ((m = q → a - sgn true m * b = -r) ∧ (m = q + 1 → a - sgn true m * b = b - r)) := by
        intro m hm _
        simp only [sgn, if_true, hw]
        rcases hm with rfl | ⟨rfl, h0⟩
        · rw [hneg2]; omega
        · rw [show ((q + 1 : Nat) : Int) = (q : Int) + 1 by omega, hneg3]; omega
      by_cases hup : 0 < r ∧ away how true q r b.toNat = true
      · have hm : quo how true q r b.toNat = q + 1 := by unfold quo; rw [if_pos hup]
        have ⟨k1, k2, k3⟩ := key (q + 1) (.inr ⟨rfl, hup.1⟩) hm
        rw [hm]; have k3 := k3 rfl
        refine ⟨k1.1, k1.2.1, k1.2.2.1, k1.2.2.2, ?_⟩
        rw [k3]
        obtain ⟨hr0, hup⟩ := hup
        rcases h12 with rfl | rfl | rfl | rfl | rfl <;> simp [away] at hup <;> omega
      · have hm : quo how true q r b.toNat = q := by unfold quo; rw [if_neg hup]
        have ⟨k1, k2, k3⟩ := key q (.inl rfl) hm
        rw [hm]; have k2 := k2 rfl
        refine ⟨k1.1, k1.2.1, k1.2.2.1, k1.2.2.2, ?_⟩
        rw [k2]
        rcases hst with rfl | hst
        · omega
        · have hup : ¬ away how true q r b.toNat = true := fun h => hup ⟨hst, h⟩
          rcases h12 with rfl | rfl | rfl | rfl | rfl <;> simp [away] at hup <;> omega
    · have hab : (a.natAbs : Int) = a := by omega
      simp only [hn, decide_false]
      have key : ∀ m : Nat, (m = q ∨ (m = q + 1 ∧ 0 < r)) → (quo how false q r b.toNat = m) → 
        (-b < a - sgn false m * b ∧ a - sgn false m * b < b ∧ -1000000000 ≤ sgn false m ∧ sgn false m ≤ 1000000000) ∧ ((m = q → a - sgn false m * b = r) ∧ (m = q + 1 → a - sgn false m * b = r - b)) := by
        intro m hm _
        simp only [sgn, Bool.false_eq_true, if_false, hw]
        rcases hm with rfl | ⟨rfl, h0⟩
        · omega
        · rw [show ((q + 1 : Nat) : Int) = (q : Int) + 1 by omega, hsucc]; omega
      by_cases hup : 0 < r ∧ away how false q r b.toNat = true
      · have hm : quo how false q r b.toNat = q + 1 := by unfold quo; rw [if_pos hup]
        have ⟨k1, k2, k3⟩ := key (q + 1) (.inr ⟨rfl, hup.1⟩) hm
        rw [hm]; have k3 := k3 rfl
        refine ⟨k1.1, k1.2.1, k1.2.2.1, k1.2.2.2, ?_⟩
        rw [k3]
        obtain ⟨hr0, hup⟩ := hup
        rcases h12 with rfl | rfl | rfl | rfl | rfl <;> simp [away] at hup <;> omega
      · have hm : quo how false q r b.toNat = q := by unfold quo; rw [if_neg hup]
        have ⟨k1, k2, k3⟩ := key q (.inl rfl) hm
        rw [hm]; have k2 := k2 rfl
        refine ⟨k1.1, k1.2.1, k1.2.2.1, k1.2.2.2, ?_⟩
        rw [k2]
        rcases hst with rfl | hst
        · omega
        · have hup : ¬ away how false q r b.toNat = true := fun h => hup ⟨hst, h⟩
          rcases h12 with rfl | rfl | rfl | rfl | rfl <;> simp [away] at hup <;> omega
end Sc

/- A stable sort in plain numbers: insertion, exchange, rotation, merge. -/
namespace Go.Proofs.YthdmceeipmmhjaaGreatDoor
namespace Stb
/-- i stands before k (numbers of weights as integers) -/
def Bf (R : Int → Int) (x y : Int) : Prop := R y < R x ∨ R x = R y ∧ x < y
theorem Bf.trans {R : Int → Int} {x y z : Int} (h : Bf R x y) (g : Bf R y z) : Bf R x z := by unfold Bf at *; omega
theorem Bf.total {R : Int → Int} {x y : Int} (h : x ≠ y) : Bf R x y ∨ Bf R y x := by unfold Bf; omega
theorem Bf.of_lt {R : Int → Int} {x y : Int} (h : x < y) : Bf R y x ↔ R x < R y := by unfold Bf; omega
theorem Bf.not_of_lt {R : Int → Int} {x y : Int} (h : x < y) : Bf R x y ↔ ¬ R x < R y := by unfold Bf; omega

/-- an exchange in a list -/
def sw2 (M : List Int) (i j : Nat) : List Int := (M.set i (M.getD j 0)).set j (M.getD i 0)
theorem sw2_length (M : List Int) (i j : Nat) : (sw2 M i j).length = M.length := by simp [sw2]
theorem sw2_perm {M : List Int} {i j : Nat} (hi : i < M.length) (hj : j < M.length) : (sw2 M i j).Perm M := by
  have h := List.set_set_perm (as := M) (i := i) (j := j) hi hj
  unfold sw2
  have e1 : M.getD j 0 = M[j] := by simp [List.getD, List.getElem?_eq_getElem hj]
  have e2 : M.getD i 0 = M[i] := by simp [List.getD, List.getElem?_eq_getElem hi]
  rw [e1, e2]
  exact h
theorem sw2_get {M : List Int} {i j : Nat} (hij : i ≠ j) (hi : i < M.length) (hj : j < M.length) (p : Nat) : (sw2 M i j).getD p 0 = if p = i then M.getD j 0 else if p = j then M.getD i 0 else M.getD p 0 := by
  unfold sw2
  simp only [List.getD_eq_getElem?_getD, List.getElem?_set, List.length_set]
  by_cases h1 : p = i
  · subst h1
    rw [if_pos rfl, if_neg (fun h => hij h.symm), if_pos rfl, if_pos hi]; rfl
  · rw [if_neg h1]
    by_cases h2 : p = j
    · subst h2
      rw [if_pos rfl, if_pos rfl, if_pos hj]; rfl
    · rw [if_neg h2, if_neg (fun h => h2 h.symm), if_neg (fun h => h1 h.symm)]

/-- the elements of M, in place -/
def at' (M : List Int) (p : Nat) : Int := M.getD p 0
def Srt (R : Int → Int) (M : List Int) (a b : Nat) : Prop := ∀ p q, a ≤ p → p < q → q < b → Bf R (at' M p) (at' M q)
structure Res (M M' : List Int) (a b : Nat) : Prop where
  perm : M'.Perm M
  out : ∀ p, p < a ∨ b ≤ p → at' M' p = at' M p
  img : ∀ p, a ≤ p → p < b → ∃ q, a ≤ q ∧ q < b ∧ at' M' p = at' M q
theorem Res.length {M M' : List Int} {a b : Nat} (h : Res M M' a b) : M'.length = M.length := h.perm.length_eq
theorem Res.refl (M : List Int) (a b : Nat) : Res M M a b := ⟨List.Perm.refl _, fun _ _ => rfl, fun p h1 h2 => ⟨p, h1, h2, rfl⟩⟩
theorem Res.trans {M M' M'' : List Int} {a b : Nat} (h : Res M M' a b) (g : Res M' M'' a b) : Res M M'' a b :=
  ⟨g.perm.trans h.perm, fun p hp => (g.out p hp).trans (h.out p hp), fun p h1 h2 => by
    obtain ⟨q, q1, q2, e⟩ := g.img p h1 h2
    obtain ⟨r, r1, r2, e2⟩ := h.img q q1 q2
    exact ⟨r, r1, r2, e.trans e2⟩⟩
theorem Res.mono {M M' : List Int} {a b c d : Nat} (h : Res M M' a b) (hc : c ≤ a) (hd : b ≤ d) : Res M M' c d :=
  ⟨h.perm, fun p hp => h.out p (by omega), fun p h1 h2 => by
    by_cases hp : p < a ∨ b ≤ p
    · exact ⟨p, h1, h2, h.out p hp⟩
    · obtain ⟨q, q1, q2, e⟩ := h.img p (by omega) (by omega)
      exact ⟨q, by omega, by omega, e⟩⟩
theorem Res.sw2 {M : List Int} {a b i j : Nat} (hij : i ≠ j) (hi : a ≤ i) (hi2 : i < b) (hj : a ≤ j) (hj2 : j < b) (hb : b ≤ M.length) : Res M (sw2 M i j) a b :=
  ⟨sw2_perm (by omega) (by omega), fun p hp => by
    unfold at'
    rw [sw2_get hij (by omega) (by omega), if_neg (by omega), if_neg (by omega)], fun p h1 h2 => by
    unfold at'
    rw [sw2_get hij (by omega) (by omega)]
    split
    · exact ⟨j, hj, hj2, rfl⟩
    · split
      · exact ⟨i, hi, hi2, rfl⟩
      · exact ⟨p, h1, h2, rfl⟩⟩

/-! ### insertion -/
structure InsI (R : Int → Int) (M : List Int) (a i k : Nat) : Prop where
  rest : ∀ p q, a ≤ p → p < q → q ≤ i → p ≠ k → q ≠ k → Bf R (at' M p) (at' M q)
  up : ∀ q, k < q → q ≤ i → Bf R (at' M k) (at' M q)
  last : ∀ p, a ≤ p → p ≤ i → p ≠ k → at' M p < at' M k
theorem ins_start {R : Int → Int} {M : List Int} {a i : Nat} (h : Srt R M a i) (hl : ∀ p, a ≤ p → p < i → at' M p < at' M i) : InsI R M a i i :=
  ⟨fun p q h1 h2 h3 h4 h5 => h p q h1 h2 (by omega), fun q h1 h2 => by omega, fun p h1 h2 h3 => hl p h1 (by omega)⟩
theorem ins_step {R : Int → Int} {M : List Int} {a i k : Nat} (h : InsI R M a i k) (h0 : a < k) (hk : k ≤ i) (hi : i < M.length) (hl : R (at' M (k - 1)) < R (at' M k)) : InsI R (sw2 M k (k - 1)) a i (k - 1) := by
  have g : ∀ p, at' (sw2 M k (k - 1)) p = if p = k then at' M (k - 1) else if p = k - 1 then at' M k else at' M p := fun p => sw2_get (by omega) (by omega) (by omega) p
  have hb : Bf R (at' M k) (at' M (k - 1)) := Or.inl hl
  refine ⟨fun p q h1 h2 h3 h4 h5 => ?_, fun q h1 h2 => ?_, fun p h1 h2 h3 => ?_⟩
  · rw [g p, g q, if_neg h4, if_neg h5]
    by_cases e1 : p = k
    · rw [if_pos e1, if_neg (by omega)]; exact h.rest (k - 1) q (by omega) (by omega) h3 (by omega) (by omega)
    · rw [if_neg e1]
      by_cases e2 : q = k
      · rw [if_pos e2]; exact h.rest p (k - 1) h1 (by omega) (by omega) e1 (by omega)
      · rw [if_neg e2]; exact h.rest p q h1 h2 h3 e1 e2
  · rw [g (k - 1), g q, if_neg (by omega), if_pos rfl]
    by_cases e2 : q = k
    · rw [if_pos e2]; exact hb
    · rw [if_neg e2, if_neg (by omega)]; exact h.up q (by omega) h2
  · rw [g p, g (k - 1), if_neg h3, if_neg (show ¬ k - 1 = k by omega), if_pos rfl]
    by_cases e1 : p = k
    · rw [if_pos e1]; exact h.last (k - 1) (by omega) (by omega) (by omega)
    · rw [if_neg e1]; exact h.last p h1 h2 e1
theorem ins_end {R : Int → Int} {M : List Int} {a i k : Nat} (h : InsI R M a i k) (hak : a ≤ k) (hk : k ≤ i) (he : k = a ∨ ¬ R (at' M (k - 1)) < R (at' M k)) : Srt R M a (i + 1) := by
  intro p q h1 h2 h3
  by_cases e1 : p = k
  · subst e1; exact h.up q h2 (by omega)
  · by_cases e2 : q = k
    · subst e2
      rcases he with h0 | h0
      · omega
      · have h4 : Bf R (at' M (q - 1)) (at' M q) := (Bf.not_of_lt (h.last (q - 1) (by omega) (by omega) (by omega))).2 h0
        by_cases e3 : p = q - 1
        · rw [e3]; exact h4
        · exact (h.rest p (q - 1) h1 (by omega) (by omega) e1 (by omega)).trans h4
    · exact h.rest p q h1 h2 (by omega) e1 e2

/-! ### one element put among others -/
/-- the element of a goes to k, those between one place down -/
def upF (f : Nat → Int) (a k p : Nat) : Int := if p < a then f p else if p < k then f (p + 1) else if p = k then f a else f p
/-- the element of m goes to k, those between one place up -/
def dnF (f : Nat → Int) (m k p : Nat) : Int := if m < p then f p else if k < p then f (p - 1) else if p = k then f m else f p
theorem upF_start (f : Nat → Int) (a p : Nat) : upF f a a p = f p := by
  unfold upF
  by_cases h : p < a
  · rw [if_pos h]
  · rw [if_neg h, if_neg h]
    split
    · rename_i h2; rw [h2]
    · rfl
theorem dnF_start (f : Nat → Int) (m p : Nat) : dnF f m m p = f p := by
  unfold dnF
  by_cases h : m < p
  · rw [if_pos h]
  · rw [if_neg h, if_neg h]
    split
    · rename_i h2; rw [h2]
    · rfl
theorem upF_step {M : List Int} {f : Nat → Int} {a k : Nat} (hak : a ≤ k) (hk : k + 1 < M.length) (h : ∀ p, at' M p = upF f a k p) (p : Nat) : at' (sw2 M k (k + 1)) p = upF f a (k + 1) p := by
  have g : at' (sw2 M k (k + 1)) p = if p = k then at' M (k + 1) else if p = k + 1 then at' M k else at' M p := sw2_get (by omega) (by omega) (by omega) p
  rw [g, h, h, h]
  unfold upF
  (repeat' split) <;> first | rfl | (exfalso; omega) | (congr 1; omega)
theorem dnF_step {M : List Int} {f : Nat → Int} {m k : Nat} (hkm : k ≤ m) (h0 : 0 < k) (hm : m < M.length) (h : ∀ p, at' M p = dnF f m k p) (p : Nat) : at' (sw2 M k (k - 1)) p = dnF f m (k - 1) p := by
  have g : at' (sw2 M k (k - 1)) p = if p = k then at' M (k - 1) else if p = k - 1 then at' M k else at' M p := sw2_get (by omega) (by omega) (by omega) p
  rw [g, h, h, h]
  unfold dnF
  (repeat' split) <;> first | rfl | (exfalso; omega) | (congr 1; omega)
/-- what a merge finds -/
structure Mrg (R : Int → Int) (M : List Int) (a m b : Nat) : Prop where
  am : a < m
  mb : m < b
  bl : b ≤ M.length
  left : Srt R M a m
  right : Srt R M m b
  less : ∀ p q, a ≤ p → p < m → m ≤ q → q < b → at' M p < at' M q
theorem Mrg.lt_iff {R : Int → Int} {M : List Int} {a m b : Nat} (h : Mrg R M a m b) {p q : Nat} (h1 : a ≤ p) (h2 : p < m) (h3 : m ≤ q) (h4 : q < b) : R (at' M p) < R (at' M q) ↔ Bf R (at' M q) (at' M p) :=
  (Bf.of_lt (h.less p q h1 h2 h3 h4)).symm
theorem Mrg.nlt_iff {R : Int → Int} {M : List Int} {a m b : Nat} (h : Mrg R M a m b) {p q : Nat} (h1 : a ≤ p) (h2 : p < m) (h3 : m ≤ q) (h4 : q < b) : ¬ R (at' M p) < R (at' M q) ↔ Bf R (at' M p) (at' M q) :=
  (Bf.not_of_lt (h.less p q h1 h2 h3 h4)).symm
theorem up_sorted {R : Int → Int} {M M' : List Int} {a b i : Nat} (h : Mrg R M a (a + 1) b) (h1 : a + 1 ≤ i) (h2 : i ≤ b)
    (hlo : ∀ q, a + 1 ≤ q → q < i → R (at' M a) < R (at' M q)) (hhi : ∀ q, i ≤ q → q < b → ¬ R (at' M a) < R (at' M q))
    (hM : ∀ p, at' M' p = upF (at' M) a (i - 1) p) : Srt R M' a b := by
  intro p q hp hpq hq
  rw [hM p, hM q]
  unfold upF
  (repeat' split) <;> first
    | (exfalso; omega)
    | exact h.right _ _ (by omega) (by omega) (by omega)
    | exact (h.lt_iff (Nat.le_refl _) (by omega) (by omega) (by omega)).1 (hlo _ (by omega) (by omega))
    | exact (h.nlt_iff (Nat.le_refl _) (by omega) (by omega) hq).1 (hhi _ (by omega) hq)
theorem dn_sorted {R : Int → Int} {M M' : List Int} {a m i : Nat} (h : Mrg R M a m (m + 1)) (h1 : a ≤ i) (h2 : i ≤ m)
    (hlo : ∀ q, a ≤ q → q < i → ¬ R (at' M q) < R (at' M m)) (hhi : ∀ q, i ≤ q → q < m → R (at' M q) < R (at' M m))
    (hM : ∀ p, at' M' p = dnF (at' M) m i p) : Srt R M' a (m + 1) := by
  intro p q hp hpq hq
  rw [hM p, hM q]
  unfold dnF
  (repeat' split) <;> first
    | (exfalso; omega)
    | exact h.left _ _ (by omega) (by omega) (by omega)
    | exact (h.lt_iff (by omega) (by omega) (Nat.le_refl _) (by omega)).1 (hhi _ (by omega) (by omega))
    | exact (h.nlt_iff (by omega) (by omega) (Nat.le_refl _) (by omega)).1 (hlo _ (by omega) (by omega))

/-! ### two ranges exchanged, a rotation -/
def exF (f : Nat → Int) (x y n p : Nat) : Int := if x ≤ p ∧ p < x + n then f (p - x + y) else if y ≤ p ∧ p < y + n then f (p - y + x) else f p
def rotF (f : Nat → Int) (a m b p : Nat) : Int := if p < a then f p else if p < a + (b - m) then f (p + (m - a)) else if p < b then f (p - (b - m)) else f p
theorem exF_start (f : Nat → Int) (x y p : Nat) : exF f x y 0 p = f p := by
  unfold exF
  (repeat' split) <;> first | rfl | (exfalso; omega) | (congr 1; omega)
theorem exF_step {M : List Int} {f : Nat → Int} {x y n i : Nat} (hxy : x + n ≤ y) (hi : i < n) (hy : y + n ≤ M.length) (h : ∀ p, at' M p = exF f x y i p) (p : Nat) : at' (sw2 M (x + i) (y + i)) p = exF f x y (i + 1) p := by
  have g : at' (sw2 M (x + i) (y + i)) p = if p = x + i then at' M (y + i) else if p = y + i then at' M (x + i) else at' M p := sw2_get (by omega) (by omega) (by omega) p
  rw [g, h, h, h]
  unfold exF
  (repeat' split) <;> first | rfl | (exfalso; omega) | (congr 1; omega)
theorem rot_eq {f : Nat → Int} {m i : Nat} (hi : i ≤ m) (p : Nat) : exF f (m - i) m i p = rotF f (m - i) m (m + i) p := by
  unfold exF rotF
  (repeat' split) <;> first | rfl | (exfalso; omega) | (congr 1; omega)
theorem rot_more {f g : Nat → Int} {m i j : Nat} (hi : i ≤ m) (hij : j < i) (hg : ∀ p, g p = exF f (m - i) m j p) (p : Nat) : rotF g (m - (i - j)) m (m + j) p = rotF f (m - i) m (m + j) p := by
  unfold rotF
  simp only [hg]
  unfold exF
  (repeat' split) <;> first | rfl | (exfalso; omega) | (congr 1; omega)
theorem rot_less {f g : Nat → Int} {m i j : Nat} (hi : i ≤ m) (hij : i < j) (hg : ∀ p, g p = exF f (m - i) (m + j - i) i p) (p : Nat) : rotF g (m - i) m (m + (j - i)) p = rotF f (m - i) m (m + j) p := by
  unfold rotF
  simp only [hg]
  unfold exF
  (repeat' split) <;> first | rfl | (exfalso; omega) | (congr 1; omega)
/-- what is made of M by a rotation stays in its place -/
theorem rot_res {M M' : List Int} {a m b : Nat} (hp : M'.Perm M) (hm : a ≤ m) (hb : m ≤ b) (h : ∀ p, at' M' p = rotF (at' M) a m b p) : Res M M' a b := by
  refine ⟨hp, fun p hp => ?_, fun p h1 h2 => ?_⟩
  · rw [h]; unfold rotF; (repeat' split) <;> first | rfl | (exfalso; omega)
  · rw [h]; unfold rotF
    (repeat' split)
    · exact ⟨p, h1, h2, rfl⟩
    · exact ⟨_, by omega, by omega, rfl⟩
    · exact ⟨_, by omega, by omega, rfl⟩
theorem up_res {M M' : List Int} {a k b : Nat} (hp : M'.Perm M) (hk : a ≤ k) (hb : k < b) (h : ∀ p, at' M' p = upF (at' M) a k p) : Res M M' a b := by
  refine ⟨hp, fun p hp => ?_, fun p h1 h2 => ?_⟩
  · rw [h]; unfold upF; (repeat' split) <;> first | rfl | (exfalso; omega)
  · rw [h]; unfold upF
    (repeat' split)
    · exact ⟨p, h1, h2, rfl⟩
    · exact ⟨_, by omega, by omega, rfl⟩
    · exact ⟨_, by omega, by omega, rfl⟩
    · exact ⟨p, h1, h2, rfl⟩
theorem dn_res {M M' : List Int} {a k m : Nat} (hp : M'.Perm M) (hk : a ≤ k) (hm : k ≤ m) (h : ∀ p, at' M' p = dnF (at' M) m k p) : Res M M' a (m + 1) := by
  refine ⟨hp, fun p hp => ?_, fun p h1 h2 => ?_⟩
  · rw [h]; unfold dnF; (repeat' split) <;> first | rfl | (exfalso; omega)
  · rw [h]; unfold dnF
    (repeat' split)
    · exact ⟨p, h1, h2, rfl⟩
    · exact ⟨_, by omega, by omega, rfl⟩
    · exact ⟨_, by omega, by omega, rfl⟩
    · exact ⟨p, h1, h2, rfl⟩

/-! ### the merge -/
/-- what the search of a merge finds: s of the left, e of the right: s + e = mid + m -/
structure Cutp (R : Int → Int) (M : List Int) (a m b mid s e : Nat) : Prop where
  sum : s + e = mid + m
  as : a ≤ s
  sm : s ≤ m
  me : m ≤ e
  eb : e ≤ b
  smid : s ≤ mid
  mide : mid ≤ e
  lo : ∀ x y, a ≤ x → x < s → e ≤ y → y < b → Bf R (at' M x) (at' M y)
  hi : ∀ x y, s ≤ x → x < m → m ≤ y → y < e → Bf R (at' M y) (at' M x)
theorem cut_lo {R : Int → Int} {M : List Int} {a m b s e : Nat} (h : Mrg R M a m b) (h0 : ∀ x, x + 1 = s → a ≤ x → x < m → m ≤ e → e < b → Bf R (at' M x) (at' M e)) (hs : s ≤ m) (he : m ≤ e) :
    ∀ x y, a ≤ x → x < s → e ≤ y → y < b → Bf R (at' M x) (at' M y) := by
  intro x y h1 h2 h3 h4
  have g := h0 (s - 1) (by omega) (by omega) (by omega) he (by omega)
  have g1 : Bf R (at' M x) (at' M e) := by
    by_cases e1 : x = s - 1
    · rw [e1]; exact g
    · exact (h.left x (s - 1) h1 (by omega) (by omega)).trans g
  by_cases e2 : y = e
  · rw [e2]; exact g1
  · exact g1.trans (h.right e y he (by omega) h4)
theorem cut_hi {R : Int → Int} {M : List Int} {a m b s e : Nat} (h : Mrg R M a m b) (h0 : ∀ y, y + 1 = e → m ≤ y → y < b → a ≤ s → s < m → Bf R (at' M y) (at' M s)) (hs : a ≤ s) (he : e ≤ b) :
    ∀ x y, s ≤ x → x < m → m ≤ y → y < e → Bf R (at' M y) (at' M x) := by
  intro x y h1 h2 h3 h4
  have g := h0 (e - 1) (by omega) (by omega) (by omega) hs (by omega)
  have g1 : Bf R (at' M y) (at' M s) := by
    by_cases e1 : y = e - 1
    · rw [e1]; exact g
    · exact (h.right y (e - 1) h3 (by omega) (by omega)).trans g
  by_cases e2 : x = s
  · rw [e2]; exact g1
  · exact g1.trans (h.left s x hs (by omega) h2)
theorem cut_left {R : Int → Int} {M M1 : List Int} {a m b mid s e : Nat} (h : Mrg R M a m b) (c : Cutp R M a m b mid s e) (hr : Res M M1 s e) (hf : ∀ p, at' M1 p = rotF (at' M) s m e p) (h1 : a < s) (h2 : s < mid) : Mrg R M1 a s mid := by
  have := c.sum; have := c.me; have := c.sm; have := c.eb; have := h.bl; have := hr.length; have := c.mide
  refine ⟨h1, h2, by omega, ?_, ?_, ?_⟩
  · intro p q g1 g2 g3
    rw [hr.out p (Or.inl (by omega)), hr.out q (Or.inl g3)]
    exact h.left p q g1 g2 (by omega)
  · intro p q g1 g2 g3
    rw [hf, hf]; unfold rotF
    rw [if_neg (by omega), if_pos (by omega), if_neg (by omega), if_pos (by omega)]
    exact h.right _ _ (by omega) (by omega) (by omega)
  · intro p q g1 g2 g3 g4
    rw [hr.out p (Or.inl (by omega)), hf]; unfold rotF
    rw [if_neg (by omega), if_pos (by omega)]
    exact h.less _ _ g1 (by omega) (by omega) (by omega)
theorem cut_right {R : Int → Int} {M M1 : List Int} {a m b mid s e : Nat} (h : Mrg R M a m b) (c : Cutp R M a m b mid s e) (hr : Res M M1 s e) (hf : ∀ p, at' M1 p = rotF (at' M) s m e p) (h1 : mid < e) (h2 : e < b) : Mrg R M1 mid e b := by
  have := c.sum; have := c.me; have := c.sm; have := c.eb; have := h.bl; have := hr.length; have := c.smid; have := c.as
  refine ⟨h1, h2, by omega, ?_, ?_, ?_⟩
  · intro p q g1 g2 g3
    rw [hf, hf]; unfold rotF
    rw [if_neg (by omega), if_neg (by omega), if_pos (by omega), if_neg (by omega), if_neg (by omega), if_pos (by omega)]
    exact h.left _ _ (by omega) (by omega) (by omega)
  · intro p q g1 g2 g3
    rw [hr.out p (Or.inr (by omega)), hr.out q (Or.inr (by omega))]
    exact h.right p q (by omega) g2 g3
  · intro p q g1 g2 g3 g4
    rw [hr.out q (Or.inr (by omega)), hf]; unfold rotF
    rw [if_neg (by omega), if_neg (by omega), if_pos (by omega)]
    exact h.less _ _ (by omega) (by omega) (by omega) g4
/-- left of mid all stand before those right of it -/
theorem cut_mid {R : Int → Int} {M M1 : List Int} {a m b mid s e : Nat} (h : Mrg R M a m b) (c : Cutp R M a m b mid s e) (hf : ∀ p, at' M1 p = rotF (at' M) s m e p) : ∀ p q, a ≤ p → p < mid → mid ≤ q → q < b → Bf R (at' M1 p) (at' M1 q) := by
  intro p q g1 g2 g3 g4
  have := c.sum; have := c.me; have := c.sm; have := c.eb; have := c.smid; have := c.as; have := c.mide
  rw [hf, hf]; unfold rotF
  by_cases e1 : p < s
  · rw [if_pos e1, if_neg (by omega), if_neg (by omega)]
    by_cases e2 : q < e
    · rw [if_pos e2]; exact h.left _ _ g1 (by omega) (by omega)
    · rw [if_neg e2]; exact c.lo _ _ g1 e1 (by omega) g4
  · rw [if_neg e1, if_pos (by omega), if_neg (by omega), if_neg (by omega)]
    by_cases e2 : q < e
    · rw [if_pos e2]; exact c.hi _ _ (by omega) (by omega) (by omega) (by omega)
    · rw [if_neg e2]; exact h.right _ _ (by omega) (by omega) g4
/-- both halves sorted: all is -/
theorem halves {R : Int → Int} {M1 M2 M3 : List Int} {a mid b : Nat} (h : ∀ p q, a ≤ p → p < mid → mid ≤ q → q < b → Bf R (at' M1 p) (at' M1 q)) (r1 : Res M1 M2 a mid) (s1 : Srt R M2 a mid) (r2 : Res M2 M3 mid b) (s2 : Srt R M3 mid b) : Srt R M3 a b := by
  intro p q h1 h2 h3
  by_cases e1 : q < mid
  · rw [r2.out p (Or.inl (by omega)), r2.out q (Or.inl e1)]; exact s1 p q h1 h2 e1
  · by_cases e2 : mid ≤ p
    · exact s2 p q e2 h2 h3
    · rw [r2.out p (Or.inl (by omega))]
      obtain ⟨q', g1, g2, e⟩ := r2.img q (by omega) h3
      rw [e, r1.out q' (Or.inr (by omega))]
      obtain ⟨p', k1, k2, e'⟩ := r1.img p h1 (by omega)
      rw [e']
      exact h p' q' k1 k2 g1 g2
theorem Srt.mono {R : Int → Int} {M : List Int} {a b c d : Nat} (h : Srt R M a b) (h1 : a ≤ c) (h2 : d ≤ b) : Srt R M c d := fun p q g1 g2 g3 => h p q (by omega) g2 (by omega)
theorem Mrg.lo {R : Int → Int} {M : List Int} {a m b p h : Nat} (g : Mrg R M a m b) (hp : a ≤ p) (hpm : p < m) (hh : h < b) (hc : R (at' M p) < R (at' M h)) : ∀ q, m ≤ q → q ≤ h → R (at' M p) < R (at' M q) := by
  intro q h1 h2
  by_cases e : q = h
  · rw [e]; exact hc
  · exact (g.lt_iff hp hpm h1 (by omega)).2 ((g.right q h h1 (by omega) hh).trans ((g.lt_iff hp hpm (by omega) hh).1 hc))
theorem Mrg.hi {R : Int → Int} {M : List Int} {a m b p h : Nat} (g : Mrg R M a m b) (hp : a ≤ p) (hpm : p < m) (hh : m ≤ h) (hc : ¬ R (at' M p) < R (at' M h)) : ∀ q, h ≤ q → q < b → ¬ R (at' M p) < R (at' M q) := by
  intro q h1 h2
  by_cases e : q = h
  · rw [e]; exact hc
  · exact (g.nlt_iff hp hpm (by omega) h2).2 (((g.nlt_iff hp hpm hh (by omega)).1 hc).trans (g.right h q hh (by omega) h2))
theorem Mrg.lo' {R : Int → Int} {M : List Int} {a m b p h : Nat} (g : Mrg R M a m b) (hp : m ≤ p) (hpb : p < b) (hh : h < m) (hc : ¬ R (at' M h) < R (at' M p)) : ∀ q, a ≤ q → q ≤ h → ¬ R (at' M q) < R (at' M p) := by
  intro q h1 h2
  by_cases e : q = h
  · rw [e]; exact hc
  · exact (g.nlt_iff h1 (by omega) hp hpb).2 ((g.left q h h1 (by omega) hh).trans ((g.nlt_iff (by omega) hh hp hpb).1 hc))
theorem Mrg.hi' {R : Int → Int} {M : List Int} {a m b p h : Nat} (g : Mrg R M a m b) (hp : m ≤ p) (hpb : p < b) (hh : a ≤ h) (hc : R (at' M h) < R (at' M p)) : ∀ q, h ≤ q → q < m → R (at' M q) < R (at' M p) := by
  intro q h1 h2
  by_cases e : q = h
  · rw [e]; exact hc
  · exact (g.lt_iff (by omega) h2 hp hpb).2 (((g.lt_iff hh (by omega) hp hpb).1 hc).trans (g.left h q hh (by omega) h2))
theorem rotF_id {f : Nat → Int} {s m e : Nat} (h1 : s ≤ m) (h2 : m ≤ e) (h : s = m ∨ m = e) (p : Nat) : rotF f s m e p = f p := by
  unfold rotF
  (repeat' split) <;> first | rfl | (exfalso; omega) | (congr 1; omega)
theorem cut_of {R : Int → Int} {M : List Int} {a m b mid s : Nat} (h : Mrg R M a m b) (hmid : mid = (a + b) / 2) (hab : a + 4 ≤ b) (hs0 : (mid < m ∧ mid + m - b ≤ s ∧ s ≤ mid) ∨ (m ≤ mid ∧ a ≤ s ∧ s ≤ m))
    (hlo : (mid < m ∧ s = mid + m - b) ∨ (m ≤ mid ∧ s = a) ∨ ¬ R (at' M (s - 1)) < R (at' M (mid + m - 1 - (s - 1))))
    (hhi : (mid < m ∧ s = mid) ∨ (m ≤ mid ∧ s = m) ∨ R (at' M s) < R (at' M (mid + m - 1 - s))) : Cutp R M a m b mid s (mid + m - s) := by
  have := h.am; have := h.mb
  refine ⟨by omega, by omega, by omega, by omega, by omega, by omega, by omega, ?_, ?_⟩
  · refine cut_lo h (fun x h1 h2 h3 h4 h5 => ?_) (by omega) (by omega)
    rcases hlo with h6 | h6 | h6
    · omega
    · omega
    · have e1 : s - 1 = x := by omega
      have e2 : mid + m - 1 - (s - 1) = mid + m - s := by omega
      rw [e1] at h6
      rw [← e1, e2, e1] at h6
      exact (h.nlt_iff h2 h3 h4 h5).1 h6
  · refine cut_hi h (fun y h1 h2 h3 h4 h5 => ?_) (by omega) (by omega)
    rcases hhi with h6 | h6 | h6
    · omega
    · omega
    · have e1 : mid + m - 1 - s = y := by omega
      rw [e1] at h6
      exact (h.lt_iff h4 h5 h2 h3).1 h6
theorem cut_left_sorted {R : Int → Int} {M M1 : List Int} {a m b mid s e : Nat} (h : Mrg R M a m b) (c : Cutp R M a m b mid s e) (hf : ∀ p, at' M1 p = rotF (at' M) s m e p) (h1 : ¬ (a < s ∧ s < mid)) : Srt R M1 a mid := by
  have := c.sum; have := c.as; have := c.sm; have := c.me; have := c.eb; have := c.smid; have := c.mide
  intro p q g1 g2 g3
  rw [hf, hf]; unfold rotF
  (repeat' split) <;> first
    | (exfalso; omega)
    | exact h.left _ _ (by omega) (by omega) (by omega)
    | exact h.right _ _ (by omega) (by omega) (by omega)
theorem cut_right_sorted {R : Int → Int} {M M1 : List Int} {a m b mid s e : Nat} (h : Mrg R M a m b) (c : Cutp R M a m b mid s e) (hf : ∀ p, at' M1 p = rotF (at' M) s m e p) (h1 : ¬ (mid < e ∧ e < b)) : Srt R M1 mid b := by
  have := c.sum; have := c.as; have := c.sm; have := c.me; have := c.eb; have := c.smid; have := c.mide
  intro p q g1 g2 g3
  rw [hf, hf]; unfold rotF
  (repeat' split) <;> first
    | (exfalso; omega)
    | exact h.left _ _ (by omega) (by omega) (by omega)
    | exact h.right _ _ (by omega) (by omega) (by omega)
theorem Mrg.congr {R : Int → Int} {M M' : List Int} {a m b : Nat} (h : Mrg R M a m b) (hl : M'.length = M.length) (he : ∀ p, a ≤ p → p < b → at' M' p = at' M p) : Mrg R M' a m b := by
  have := h.am; have := h.mb
  exact ⟨h.am, h.mb, by rw [hl]; exact h.bl, fun p q g1 g2 g3 => by rw [he p g1 (by omega), he q (by omega) (by omega)]; exact h.left p q g1 g2 g3,
    fun p q g1 g2 g3 => by rw [he p (by omega) (by omega), he q (by omega) g3]; exact h.right p q g1 g2 g3,
    fun p q g1 g2 g3 g4 => by rw [he p g1 (by omega), he q (by omega) g4]; exact h.less p q g1 g2 g3 g4⟩
theorem Srt.congr {R : Int → Int} {M M' : List Int} {a b : Nat} (h : Srt R M a b) (he : ∀ p, a ≤ p → p < b → at' M' p = at' M p) : Srt R M' a b := fun p q g1 g2 g3 => by
  rw [he p g1 (by omega), he q (by omega) g3]; exact h p q g1 g2 g3
end Stb
end Go.Proofs.YthdmceeipmmhjaaGreatDoor

/- Shares in plain numbers: the order of the rests, the pick of a round, the sum of the parts. -/
namespace Go.Proofs.YthdmceeipmmhjaaGreatDoor
namespace Shr
def sumF (W : Nat → Int) : Nat → Int
  | 0 => 0
  | k + 1 => sumF W k + W k
/-- i stands before k -/
def Bef (R : Nat → Int) (i k : Nat) : Prop := R k < R i ∨ R k = R i ∧ i < k
structure IsOrd (R : Nat → Int) (n : Nat) (l : List Nat) : Prop where
  perm : l.Perm (List.range n)
  sorted : l.Pairwise (Bef R)
theorem IsOrd.length {R : Nat → Int} {n : Nat} {l : List Nat} (h : IsOrd R n l) : l.length = n := by
  have := h.perm.length_eq; simpa using this
theorem IsOrd.mem {R : Nat → Int} {n : Nat} {l : List Nat} (h : IsOrd R n l) {i : Nat} : i ∈ l ↔ i < n := by
  rw [h.perm.mem_iff, List.mem_range]
theorem IsOrd.nodup {R : Nat → Int} {n : Nat} {l : List Nat} (h : IsOrd R n l) : l.Nodup := h.perm.nodup_iff.2 List.nodup_range
theorem bef_asymm {R : Nat → Int} {i k : Nat} (h : Bef R i k) (g : Bef R k i) : False := by
  unfold Bef at h g; omega
theorem bef_total {R : Nat → Int} {i k : Nat} (h : i ≠ k) : Bef R i k ∨ Bef R k i := by
  unfold Bef; omega
theorem bef_trans {R : Nat → Int} {i j k : Nat} (h : Bef R i j) (g : Bef R j k) : Bef R i k := by
  unfold Bef at *; omega
theorem sorted_unique {R : Nat → Int} : ∀ {a b : List Nat}, a.Perm b → a.Pairwise (Bef R) → b.Pairwise (Bef R) → a = b
  | [], b, hp, _, _ => (List.Perm.nil_eq hp)
  | x :: a, [], hp, _, _ => absurd hp.length_eq (by simp)
  | x :: a, y :: b, hp, ha, hb => by
    rw [List.pairwise_cons] at ha hb
    have hxy : x = y := by
      rcases List.mem_cons.1 (hp.mem_iff.1 (List.mem_cons_self (a := x) (l := a))) with h1 | h1
      · exact h1
      · rcases List.mem_cons.1 (hp.mem_iff.2 (List.mem_cons_self (a := y) (l := b))) with h2 | h2
        · exact h2.symm
        · exact (bef_asymm (hb.1 x h1) (ha.1 y h2)).elim
    subst hxy
    rw [sorted_unique (List.Perm.cons_inv hp) ha.2 hb.2]
theorem IsOrd.unique {R : Nat → Int} {n : Nat} {a b : List Nat} (h : IsOrd R n a) (g : IsOrd R n b) : a = b :=
  sorted_unique (h.perm.trans g.perm.symm) h.sorted g.sorted

/-- the pick of a round: of those that are not among the first t the one before all others -/
theorem pick {R : Nat → Int} {n t b : Nat} {l : List Nat} (h : IsOrd R n l) (ht : t < n) (hb : b < n) (hg : b ∉ l.take t)
    (hm : ∀ j, j < n → j ∉ l.take t → j ≠ b → Bef R b j) : l.take (t + 1) = l.take t ++ [b] := by
  have hl := h.length
  have htl : t < l.length := by omega
  rw [List.take_succ_eq_append_getElem htl]
  have hn := h.nodup
  have h1 : l[t] ∉ l.take t := by
    intro hin
    obtain ⟨j, hj, he⟩ := List.getElem_of_mem hin
    rw [List.length_take] at hj
    rw [List.getElem_take] at he
    have := (List.nodup_iff_pairwise_ne.1 hn)
    rw [List.pairwise_iff_getElem] at this
    exact this j t (by omega) htl (by omega) he
  by_cases he : l[t] = b
  · rw [he]
  · exfalso
    have h2 := hm l[t] (h.mem.1 (List.getElem_mem _)) h1 he
    have h3 : b ∈ l.drop t := by
      have : b ∈ l.take t ++ l.drop t := by rw [List.take_append_drop]; exact h.mem.2 hb
      rcases List.mem_append.1 this with h4 | h4
      · exact absurd h4 hg
      · exact h4
    obtain ⟨j, hj, hbj⟩ := List.getElem_of_mem h3
    rw [List.getElem_drop] at hbj
    rw [List.length_drop] at hj
    have hj0 : j ≠ 0 := by
      intro h0; subst h0; exact he hbj
    have h4 := List.pairwise_iff_getElem.1 h.sorted t (t + j) htl (by omega) (by omega)
    rw [hbj] at h4
    exact bef_asymm h2 h4

/-- the parts -/
def quo (T S : Int) (W : Nat → Int) (i : Nat) : Int := T * W i / S
def rst (T S : Int) (W : Nat → Int) (i : Nat) : Int := T * W i % S
theorem sum_left (T S : Int) (W : Nat → Int) : ∀ k, T * sumF W k = S * sumF (quo T S W) k + sumF (rst T S W) k
  | 0 => by simp [sumF]
  | k + 1 => by
    have h := sum_left T S W k
    have e := Int.mul_ediv_add_emod (T * W k) S
    unfold sumF
    show T * (sumF W k + W k) = S * (sumF (quo T S W) k + T * W k / S) + (sumF (rst T S W) k + T * W k % S)
    rw [Int.mul_add, Int.mul_add, h]
    omega
theorem rst_sum_bounds {T S : Int} (W : Nat → Int) (hS : 0 < S) : ∀ k, 0 ≤ sumF (rst T S W) k ∧ sumF (rst T S W) k ≤ S * k
  | 0 => by simp [sumF]
  | k + 1 => by
    obtain ⟨h0, h1⟩ := rst_sum_bounds (T := T) W hS k
    have e0 := Int.emod_nonneg (T * W k) (by omega : S ≠ 0)
    have e1 := Int.emod_lt_of_pos (T * W k) hS
    unfold sumF
    show 0 ≤ sumF (rst T S W) k + T * W k % S ∧ sumF (rst T S W) k + T * W k % S ≤ S * ((k + 1 : Nat) : Int)
    have : S * ((k + 1 : Nat) : Int) = S * k + S := by push_cast; rw [Int.mul_add, Int.mul_one]
    rw [this]
    omega
theorem left_bounds {T S : Int} {W : Nat → Int} {n : Nat} (hS : 0 < S) (hs : sumF W n = S) : 0 ≤ T - sumF (quo T S W) n ∧ T - sumF (quo T S W) n ≤ n := by
  have h := sum_left T S W n
  obtain ⟨h0, h1⟩ := rst_sum_bounds (T := T) W hS n
  rw [hs] at h
  have e : S * (T - sumF (quo T S W) n) = sumF (rst T S W) n := by rw [Int.mul_sub, Int.mul_comm S T, h]; omega
  constructor
  · exact Int.not_lt.1 fun hlt => by
      have : S * (T - sumF (quo T S W) n) < 0 := Int.mul_neg_of_pos_of_neg hS hlt
      omega
  · rw [← e] at h1
    exact Int.le_of_mul_le_mul_left h1 hS
end Shr
end Go.Proofs.YthdmceeipmmhjaaGreatDoor
