/- Several texts of this claim in one. -/
import Derived.Test.YthdmceeipmmhjaaGreatDoorFt7
import Derived.Test.YthdmceeipmmhjaaGreatDoorFt5
import Derived.Test.YthdmceeipmmhjaaGreatDoorFt3
import Derived.Laws.StructEq
import Derived.Test.YthdmceeipmmhjaaGreatDoorRows
import Derived.ProofKit
import Derived.OpenShut
import Derived.Lib.SmallJoins
import Derived.Carry
import Derived.ChangeMaps5
/- Gear: the law's walk of the pieces, as a state (plain laws for GearPiecesFollowMounts). -/
namespace Go.Proofs.YthdmceeipmmhjaaGreatDoor
open Go.RowKit Go.BigFrame
open Gar (chk momG hasS)

/-- what is left, the part, was it found: one piece more -/
def stE (g : Gar) (u s : ByteArray) (st : Int × ByteArray × Bool) (e : Ev) : Int × ByteArray × Bool :=
  if g.un e.i = u ∧ e.s = s ∧ st.2.2 = false then (st.1 - e.sec, if st.1 < e.sec then e.p else st.2.1, decide (st.1 < e.sec)) else st
def ev0 : Ev := ⟨0, ⟨#[]⟩, ⟨#[]⟩, 0, 0⟩
def evA (g : Gar) (q : Nat) : Ev := (evG g g.nu).getD q ev0
def stN (g : Gar) (u s : ByteArray) (x : Int) (q : Nat) : Int × ByteArray × Bool := ((evG g g.nu).take q).foldl (stE g u s) (x, ⟨#[]⟩, false)
theorem stN_succ (g : Gar) (u s : ByteArray) (x : Int) {q : Nat} (h : q < (evG g g.nu).length) : stN g u s x (q + 1) = stE g u s (stN g u s x q) (evA g q) := by
  unfold stN evA
  rw [List.take_succ_eq_append_getElem h, List.foldl_append, List.getD_eq_getElem?_getD, List.getElem?_eq_getElem h]
  rfl
theorem fold_found (g : Gar) (u s : ByteArray) : ∀ (l : List Ev) (st : Int × ByteArray × Bool), st.2.2 = true → l.foldl (stE g u s) st = st
  | [], _, _ => rfl
  | e :: l, st, h => by
    rw [List.foldl_cons, show stE g u s st e = st by unfold stE; rw [if_neg (by rw [h]; simp)], fold_found g u s l st h]
theorem fold_scan (g : Gar) (u s : ByteArray) : ∀ (l : List Ev) (x : Int) (p : ByteArray), (l.foldl (stE g u s) (x, p, false)).2 = (match scanE g u s l x with
    | some q => (q, true)
    | none => (p, false))
  | [], _, _ => rfl
  | e :: l, x, p => by
    rw [List.foldl_cons, scanE]
    by_cases c : g.un e.i = u ∧ e.s = s
    · rw [if_pos c]
      by_cases d : x < e.sec
      · rw [if_pos d, fold_found g u s l _ (by unfold stE; rw [if_pos ⟨c.1, c.2, rfl⟩]; simpa using d)]
        unfold stE
        rw [if_pos ⟨c.1, c.2, rfl⟩]
        simp [d]
      · rw [if_neg d, show stE g u s (x, p, false) e = (x - e.sec, p, false) by unfold stE; rw [if_pos ⟨c.1, c.2, rfl⟩]; simp [d], fold_scan g u s l]
    · rw [if_neg c, show stE g u s (x, p, false) e = (x, p, false) by unfold stE; rw [if_neg (fun h => c ⟨h.1, h.2.1⟩)], fold_scan g u s l]
theorem fold_bound (g : Gar) (u s : ByteArray) : ∀ (l : List Ev) (st : Int × ByteArray × Bool), (∀ e, e ∈ l → 0 ≤ e.sec ∧ e.sec ≤ 1000000) → st.1 ≤ 1000000 → -1000000 ≤ st.1 → (st.2.2 = false → 0 ≤ st.1) →
    (l.foldl (stE g u s) st).1 ≤ 1000000 ∧ -1000000 ≤ (l.foldl (stE g u s) st).1 ∧ ((l.foldl (stE g u s) st).2.2 = false → 0 ≤ (l.foldl (stE g u s) st).1)
  | [], st, _, h1, h2, h3 => ⟨h1, h2, h3⟩
  | e :: l, st, hl, h1, h2, h3 => by
    rw [List.foldl_cons]
    have he := hl e (by simp)
    refine fold_bound g u s l _ (fun x hx => hl x (by simp [hx])) ?_ ?_ ?_
    all_goals (unfold stE; split)
    · rename_i c; show st.1 - e.sec ≤ _; omega
    · exact h1
    · rename_i c; have := h3 c.2.2; show -1000000 ≤ st.1 - e.sec; omega
    · exact h2
    · rename_i c
      intro hd
      have hd : decide (st.1 < e.sec) = false := hd
      rw [decide_eq_false_iff_not] at hd
      show 0 ≤ st.1 - e.sec
      omega
    · exact h3
theorem evQ_sec {g : Gar} {i j : Nat} (hg : Good (pcsOf g i j) (g.us i)) (hu : g.us i ≤ 1000000) {e : Ev} : ∀ {n : Nat}, n ≤ (pcsOf g i j).length → e ∈ evQ g i j n → 0 ≤ e.sec ∧ e.sec ≤ 1000000
  | 0, _, h => by simp [evQ] at h
  | n + 1, hn, h => by
    rw [evQ] at h
    rcases List.mem_append.1 h with h | h
    · exact evQ_sec hg hu (by omega) h
    · simp at h
      subst h
      have hm := pget_mem (show n < (pcsOf g i j).length by omega)
      have h1 := hg.pos _ hm
      have h2 := secs_le hg.pos hm
      have h3 := hg.sum
      show 0 ≤ (pget (pcsOf g i j) n).2 ∧ (pget (pcsOf g i j) n).2 ≤ 1000000
      omega
theorem evS_sec {g : Gar} (h : chk g = 0) {i : Nat} (hi : i < g.nu) {e : Ev} : ∀ {n : Nat}, e ∈ evS g i n → 0 ≤ e.sec ∧ e.sec ≤ 1000000
  | 0, h => by simp [evS] at h
  | n + 1, he => by
    rw [evS] at he
    rcases List.mem_append.1 he with he | he
    · exact evS_sec h hi he
    · split at he
      · have hp := Gar.chk_parts h
        have hur := Gar.use_right hp.2.2.2.2.2.2.2.2 hi
        exact evQ_sec (good_pieces (Gar.ord_mounts hp.2.2.2.2.2.2.1 hp.2.2.2.2.2.2.2.1 (g.sn n) g.nm (Nat.le_refl _)) (by omega)) (by omega) (Nat.le_refl _) he
      · simp at he
theorem evG_sec {g : Gar} (h : chk g = 0) {e : Ev} : ∀ {n : Nat}, n ≤ g.nu → e ∈ evG g n → 0 ≤ e.sec ∧ e.sec ≤ 1000000
  | 0, _, h => by simp [evG] at h
  | n + 1, hn, he => by
    rw [evG] at he
    rcases List.mem_append.1 he with he | he
    · exact evG_sec h (by omega) he
    · exact evS_sec h (by omega) he
theorem evA_sec {g : Gar} (h : chk g = 0) {q : Nat} (hq : q < (evG g g.nu).length) : 0 ≤ (evA g q).sec ∧ (evA g q).sec ≤ 1000000 := by
  refine evG_sec h (Nat.le_refl _) ?_
  unfold evA
  rw [List.getD_eq_getElem?_getD, List.getElem?_eq_getElem hq]
  exact List.getElem_mem hq
theorem stN_bound {g : Gar} (h : chk g = 0) (u s : ByteArray) {x : Int} (h0 : 0 ≤ x) (h1 : x ≤ 1000000) (q : Nat) : (stN g u s x q).1 ≤ 1000000 ∧ -1000000 ≤ (stN g u s x q).1 := by
  have := fold_bound g u s ((evG g g.nu).take q) (x, ⟨#[]⟩, false) (fun e he => evG_sec h (Nat.le_refl _) (List.mem_of_mem_take he)) h1 (by show -1000000 ≤ x; omega) (fun _ => h0)
  exact ⟨this.1, this.2.1⟩
theorem hasS_at {g : Gar} {j : Nat} (h : j < g.ns) : hasS g (g.sn j) = true := by
  unfold hasS
  rw [List.any_eq_true]
  exact ⟨j, List.mem_range.2 h, by simp⟩
/-- behind all pieces the part is the one that In tells -/
theorem stN_end {g : Gar} (h : chk g = 0) {k j : Nat} (hk : k < g.nu) (hj : j < g.ns) (hr : g.sr j = g.ur k) {x : Int} (h0 : 0 ≤ x) (h1 : x < g.us k) (h2 : g.uf k + x ≤ 86399999999) :
    ∃ p b, (stN g (g.un k) (g.sn j) x (evG g g.nu).length).2 = (p, true) ∧ InS g (g.sn j) (g.uf k + x) = (p, b, 0) := by
  have hur := Gar.use_right (Gar.chk_parts h).2.2.2.2.2.2.2.2 hk
  refine ⟨(inR (inF g (g.sn j) (g.uf k + x) g.nm 0)).1, (inR (inF g (g.sn j) (g.uf k + x) g.nm 0)).2, ?_, ?_⟩
  · unfold stN
    rw [List.take_length, fold_scan, scan_part h hk hj hr h0 h1, part_in]
  · unfold InS
    rw [if_neg (by rw [h]; simp), hasS_at hj, if_neg (by simp), show momG (g.uf k + x) = true by unfold momG; rw [Bool.and_eq_true, decide_eq_true_eq, decide_eq_true_eq]; omega, if_neg (by simp)]
/-- the row of the pieces, as it is read -/
theorem evRow {g : Gar} {W : World} {base : Nat} {T : TypeId} {v : Value} {l : List Ev} (hr : W.ownsRow base T 5 v l.length (evCs g l)) :
    ∃ (am : Option Addr) (cm : Nat), v = .slice am l.length cm ∧ RowK W am l.length 5 (fun i => evC g (l.getD i ev0)) := by
  rcases hr.2 with ⟨e, hn⟩ | ⟨q, cap, cur, e, _, h3, _⟩
  · exact ⟨none, 0, by rw [e, hn], ⟨fun h => by omega⟩⟩
  · refine ⟨some ⟨q, 0, none⟩, cap, e, ⟨fun hl => ⟨q, 0, rfl, lt_of_block h3, fun i hi j hj => ?_⟩⟩⟩
    have hc := flatN (f := evC g) (m := 5) ev0 (fun q => rfl) l i j hi hj
    have hv : ∃ v, (evC g (l.getD i ev0))[j]? = some v := ⟨_, List.getElem?_eq_getElem (by simpa [evC] using hj)⟩
    obtain ⟨v, hv⟩ := hv
    have h6 := hr.cells (g := q) (by rw [e]; rfl) (i * 5 + j) v (hc.trans hv)
    rw [addr_add0] at h6
    rw [Nat.zero_add, hv]
    exact h6
end Go.Proofs.YthdmceeipmmhjaaGreatDoor

/- Gear: how much a part was used, in plain lists. -/
namespace Go.Proofs.YthdmceeipmmhjaaGreatDoor
open Go.RowKit Go.BigFrame
open Gar (chk)
open Shr (sumF quo rst)

def waySum (l : List Ev) : Int := (l.map Ev.way).sum
def secSum (l : List Ev) : Int := (l.map Ev.sec).sum
theorem waySum_app (a b : List Ev) : waySum (a ++ b) = waySum a + waySum b := by unfold waySum; rw [List.map_append, List.sum_append]
theorem secSum_app (a b : List Ev) : secSum (a ++ b) = secSum a + secSum b := by unfold secSum; rw [List.map_append, List.sum_append]
theorem evQ_waySum (g : Gar) (i j : Nat) : ∀ n, waySum (evQ g i j n) = sumF (wayG (g.uw i) (g.us i) (secW (pcsOf g i j)) (pcsOf g i j).length) n
  | 0 => rfl
  | n + 1 => by
    rw [evQ, waySum_app, evQ_waySum g i j n, sumF]
    simp [waySum, evP]
theorem evQ_secSum (g : Gar) (i j : Nat) : ∀ n, secSum (evQ g i j n) = sumF (secW (pcsOf g i j)) n
  | 0 => rfl
  | n + 1 => by
    rw [evQ, secSum_app, evQ_secSum g i j n, sumF]
    simp [secSum, evP, secW]
theorem sumF_add (f g : Nat → Int) : ∀ n, sumF (fun i => f i + g i) n = sumF f n + sumF g n
  | 0 => rfl
  | n + 1 => by
    have := sumF_add f g n
    show sumF (fun i => f i + g i) n + (f n + g n) = sumF f n + f n + (sumF g n + g n)
    omega
theorem sumF_ind : ∀ (n : Nat) (l : List Nat), l.Nodup → sumF (fun i => if i ∈ l then 1 else 0) n ≤ (l.length : Int)
  | 0, l, _ => by show (0 : Int) ≤ _; omega
  | n + 1, l, hd => by
    show sumF (fun i => if i ∈ l then 1 else 0) n + (if n ∈ l then 1 else 0) ≤ (l.length : Int)
    by_cases hn : n ∈ l
    · rw [if_pos hn]
      have h1 := sumF_ind n (l.erase n) (hd.erase n)
      have e : ∀ k, k ≤ n → sumF (fun i => if i ∈ l then 1 else 0) k = sumF (fun i => if i ∈ l.erase n then 1 else 0) k := by
        intro k
        induction k with
        | zero => intro _; rfl
        | succ k ih =>
          intro hk
          show sumF (fun i => if i ∈ l then 1 else 0) k + (if k ∈ l then 1 else 0) = sumF (fun i => if i ∈ l.erase n then 1 else 0) k + (if k ∈ l.erase n then 1 else 0)
          rw [ih (by omega)]
          have : k ∈ l ↔ k ∈ l.erase n := by rw [List.mem_erase_of_ne (by omega)]
          by_cases hk2 : k ∈ l
          · rw [if_pos hk2, if_pos (this.1 hk2)]
          · rw [if_neg hk2, if_neg (fun h => hk2 (this.2 h))]
      have hl := List.length_erase_of_mem hn
      have hp := List.length_pos_of_mem hn
      have := e n (Nat.le_refl _)
      omega
    · rw [if_neg hn]
      have := sumF_ind n l hd
      omega
theorem way_nn {T S : Int} {W : Nat → Int} {n : Nat} (hf : Fine T W n S) {i : Nat} (hi : i < n) : 0 ≤ wayG T S W n i := by
  unfold wayG PartF
  have := hf.quo_nn hi
  split <;> omega
theorem way_sum {T S : Int} {W : Nat → Int} {n : Nat} (hf : Fine T W n S) : sumF (wayG T S W n) n ≤ T := by
  obtain ⟨b0, b1⟩ := Shr.left_bounds (T := T) (W := W) hf.s0 hf.sum
  have e : sumF (wayG T S W n) n = sumF (quo T S W) n + sumF (fun i => if i ∈ (ordL (rst T S W) n).take (T - sumF (quo T S W) n).toNat then 1 else 0) n := sumF_add _ _ n
  have h2 := sumF_ind n ((ordL (rst T S W) n).take (T - sumF (quo T S W) n).toNat) (List.Nodup.sublist (List.take_sublist _ _) (ordL_ord _ _).nodup)
  rw [List.length_take] at h2
  omega
theorem pcs_good {g : Gar} (h : chk g = 0) {i : Nat} (hi : i < g.nu) (j : Nat) : Good (pcsOf g i j) (g.us i) := by
  have hp := Gar.chk_parts h
  have hur := Gar.use_right hp.2.2.2.2.2.2.2.2 hi
  exact good_pieces (Gar.ord_mounts hp.2.2.2.2.2.2.1 hp.2.2.2.2.2.2.2.1 (g.sn j) g.nm (Nat.le_refl _)) (by omega)
theorem pcs_fine {g : Gar} (h : chk g = 0) {i : Nat} (hi : i < g.nu) (j : Nat) : Fine (g.uw i) (secW (pcsOf g i j)) (pcsOf g i j).length (g.us i) := by
  have hp := Gar.chk_parts h
  have hur := Gar.use_right hp.2.2.2.2.2.2.2.2 hi
  exact (pcs_good h hi j).fine (by omega) (by omega) (by omega) (by omega)
/-- what is told of one use in one slot -/
theorem evQ_all {g : Gar} (h : chk g = 0) {i : Nat} (hi : i < g.nu) (j : Nat) : (∀ n, n ≤ (pcsOf g i j).length → ∀ e, e ∈ evQ g i j n → 0 ≤ e.way ∧ 0 ≤ e.sec ∧ e.i = i) ∧ waySum (evQ g i j (pcsOf g i j).length) ≤ 1000000000 ∧ secSum (evQ g i j (pcsOf g i j).length) ≤ 1000000 := by
  have hf := pcs_fine h hi j
  have hur := Gar.use_right (Gar.chk_parts h).2.2.2.2.2.2.2.2 hi
  refine ⟨fun n => ?_, ?_, ?_⟩
  · induction n with
    | zero => intro _ e he; simp [evQ] at he
    | succ n ih =>
      intro hn e he
      rw [evQ] at he
      rcases List.mem_append.1 he with he | he
      · exact ih (by omega) e he
      · simp at he
        subst he
        exact ⟨way_nn hf (by omega), hf.w0 n (by omega), rfl⟩
  · rw [evQ_waySum]
    have := way_sum hf
    omega
  · rw [evQ_secSum, hf.sum]
    omega
theorem evS_all {g : Gar} (h : chk g = 0) {i : Nat} (hi : i < g.nu) : ∀ n, (∀ e, e ∈ evS g i n → 0 ≤ e.way ∧ 0 ≤ e.sec ∧ e.i = i) ∧ waySum (evS g i n) ≤ n * 1000000000 ∧ secSum (evS g i n) ≤ n * 1000000
  | 0 => ⟨fun e he => by simp [evS] at he, by simp [evS, waySum], by simp [evS, secSum]⟩
  | n + 1 => by
    obtain ⟨h1, h2, h3⟩ := evS_all h hi n
    obtain ⟨q1, q2, q3⟩ := evQ_all h hi n
    refine ⟨fun e he => ?_, ?_, ?_⟩
    · rw [evS] at he
      rcases List.mem_append.1 he with he | he
      · exact h1 e he
      · split at he
        · exact q1 _ (Nat.le_refl _) e he
        · simp at he
    · rw [evS, waySum_app]
      split
      · omega
      · have : waySum [] = 0 := rfl
        omega
    · rw [evS, secSum_app]
      split
      · omega
      · have : secSum [] = 0 := rfl
        omega
theorem evG_all {g : Gar} (h : chk g = 0) : ∀ n, n ≤ g.nu → (∀ e, e ∈ evG g n → 0 ≤ e.way ∧ 0 ≤ e.sec ∧ e.i < n) ∧ waySum (evG g n) ≤ n * 100000000000 ∧ secSum (evG g n) ≤ n * 100000000
  | 0, _ => ⟨fun e he => by simp [evG] at he, by simp [evG, waySum], by simp [evG, secSum]⟩
  | n + 1, hn => by
    obtain ⟨h1, h2, h3⟩ := evG_all h n (by omega)
    obtain ⟨q1, q2, q3⟩ := evS_all h (show n < g.nu by omega) g.ns
    have hs := (Gar.chk_parts h).2.1
    refine ⟨fun e he => ?_, ?_, ?_⟩
    · rw [evG] at he
      rcases List.mem_append.1 he with he | he
      · have := h1 e he; omega
      · have := q1 e he; omega
    · rw [evG, waySum_app]
      omega
    · rw [evG, secSum_app]
      omega
/-- how much a part was used: seconds, way, uses; the last use -/
structure WSt where
  sec : Int
  way : Int
  uses : Int
  last : ByteArray
def wearE (g : Gar) (part : ByteArray) (f t : Int) (st : WSt) (e : Ev) : WSt :=
  if e.p = part ∧ f ≤ g.uf e.i ∧ g.uf e.i < t then ⟨st.sec + e.sec, st.way + e.way, if g.un e.i = st.last then st.uses else st.uses + 1, g.un e.i⟩ else st
def wear0 : WSt := ⟨0, 0, 0, ⟨#[]⟩⟩
def wearL (g : Gar) (part : ByteArray) (f t : Int) (l : List Ev) : WSt := l.foldl (wearE g part f t) wear0
theorem wearL_snoc (g : Gar) (part : ByteArray) (f t : Int) (l : List Ev) (e : Ev) : wearL g part f t (l ++ [e]) = wearE g part f t (wearL g part f t l) e := by
  unfold wearL
  rw [List.foldl_append]
  rfl
theorem wearE_bound (g : Gar) (part : ByteArray) (f t : Int) : ∀ (l : List Ev) (st : WSt), (∀ e, e ∈ l → 0 ≤ e.way ∧ 0 ≤ e.sec) →
    st.sec ≤ (l.foldl (wearE g part f t) st).sec ∧ (l.foldl (wearE g part f t) st).sec ≤ st.sec + secSum l ∧ st.way ≤ (l.foldl (wearE g part f t) st).way ∧ (l.foldl (wearE g part f t) st).way ≤ st.way + waySum l ∧ st.uses ≤ (l.foldl (wearE g part f t) st).uses ∧ (l.foldl (wearE g part f t) st).uses ≤ st.uses + l.length
  | [], st, _ => by simp [secSum, waySum]
  | e :: l, st, h => by
    have he := h e (by simp)
    have ih := wearE_bound g part f t l (wearE g part f t st e) (fun x hx => h x (by simp [hx]))
    rw [List.foldl_cons]
    have h1 : secSum (e :: l) = e.sec + secSum l := by simp [secSum]
    have h2 : waySum (e :: l) = e.way + waySum l := by simp [waySum]
    have h3 : ((e :: l).length : Int) = l.length + 1 := by simp
    have h4 : st.sec ≤ (wearE g part f t st e).sec ∧ (wearE g part f t st e).sec ≤ st.sec + e.sec ∧ st.way ≤ (wearE g part f t st e).way ∧ (wearE g part f t st e).way ≤ st.way + e.way ∧ st.uses ≤ (wearE g part f t st e).uses ∧ (wearE g part f t st e).uses ≤ st.uses + 1 := by
      unfold wearE
      split
      · refine ⟨by show st.sec ≤ st.sec + e.sec; omega, Int.le_refl _, by show st.way ≤ st.way + e.way; omega, Int.le_refl _, ?_, ?_⟩
        · show st.uses ≤ if g.un e.i = st.last then st.uses else st.uses + 1
          split <;> omega
        · show (if g.un e.i = st.last then st.uses else st.uses + 1) ≤ st.uses + 1
          split <;> omega
      · omega
    omega
/-- bounds of what was told -/
theorem wear_small {g : Gar} (h : chk g = 0) (part : ByteArray) (f t : Int) {done rest : List Ev} (he : evG g g.nu = done ++ rest) :
    0 ≤ (wearL g part f t done).sec ∧ (wearL g part f t done).sec ≤ 500000000000 ∧ 0 ≤ (wearL g part f t done).way ∧ (wearL g part f t done).way ≤ 500000000000000 ∧ 0 ≤ (wearL g part f t done).uses ∧ (wearL g part f t done).uses ≤ 500000000000 := by
  obtain ⟨h1, h2, h3⟩ := evG_all h g.nu (Nat.le_refl _)
  have hl := evG_len h g.nu (Nat.le_refl _)
  have hnu := (Gar.chk_parts h).2.2.2.1
  rw [he] at h1 h2 h3 hl
  rw [waySum_app] at h2
  rw [secSum_app] at h3
  rw [List.length_append] at hl
  have hb := wearE_bound g part f t done wear0 (fun e hx => by have := h1 e (by simp [hx]); omega)
  have hr := wearE_bound g part f t rest wear0 (fun e hx => by have := h1 e (by simp [hx]); omega)
  unfold wearL
  have z1 : wear0.sec = 0 := rfl
  have z2 : wear0.way = 0 := rfl
  have z3 : wear0.uses = 0 := rfl
  omega
end Go.Proofs.YthdmceeipmmhjaaGreatDoor

/- Gear: how much a part was used (program). -/
namespace Go.Proofs.YthdmceeipmmhjaaGreatDoor
open Go.RowKit Go.BigFrame
open Gar (chk)

theorem cells_setCell {w : World} {b i : Nat} {cs : Array Value} {u : Value} {t : TypeId} (h : w.heap[b]? = some (.cells cs t (0, 0))) : (w.setCell ⟨b, i, none⟩ u).heap[b]? = some (.cells (cs.setIfInBounds i u) t (0, 0)) := by
  have hlt := lt_of_block h
  have h' : w.heap[b] = .cells cs t (0, 0) := by simpa [Array.getElem?_eq_getElem hlt] using h
  show (w.heap.modify b _)[b]? = _
  rw [Array.getElem?_eq_getElem (by simpa using hlt), Array.getElem_modify_self, h']
  rfl
theorem block_free {w : World} {b i : Nat} {cs : Array Value} {T : TypeId} (h : w.heap[b]? = some (.cells cs T (0, 0))) : w.frozen? ⟨b, i, none⟩ = false := by simp [World.frozen?, h]
def wearV (st : WSt) : Array Value := #[.int .i64 st.sec, .int .i64 st.way, .int .i64 st.uses]
theorem set_far (w : World) {b c : Nat} (i : Nat) (u : Value) (h : c ≠ b) : (w.setCell ⟨b, i, none⟩ u).heap[c]? = w.heap[c]? := Below.heap_setCell w ⟨b, i, none⟩ u c h
theorem set_size (w : World) (a : Addr) (u : Value) : (w.setCell a u).heap.size = w.heap.size := by simp [World.setCell]
end Go.Proofs.YthdmceeipmmhjaaGreatDoor

/- Gear: wearOf of the program. -/
namespace Go.Proofs.YthdmceeipmmhjaaGreatDoor
open Go.RowKit Go.BigFrame
open Gar (chk)

theorem Ext.rise {W V : World} (h : Below W.heap.size W V) (Y : Ext V) : ∃ X : Ext W, Y.1 = X.1 := ⟨⟨Y.1, h.trans (Y.2.mono h.size)⟩, rfl⟩
theorem allocs_below : ∀ (l : List Obj) (w : World), Below w.heap.size w (l.foldl World.alloc w) ∧ (l.foldl World.alloc w).heap.size = w.heap.size + l.length
  | [], w => ⟨Below.refl _ _, rfl⟩
  | o :: l, w => by
    obtain ⟨h1, h2⟩ := allocs_below l (w.alloc o)
    rw [List.foldl_cons]
    refine ⟨below_step (below_al w o) h1, ?_⟩
    rw [h2, World.size_alloc, List.length_cons]
    omega
theorem allocs_at : ∀ (l : List Obj) (w : World) (k : Nat) (o : Obj), l[k]? = some o → (l.foldl World.alloc w).heap[w.heap.size + k]? = some o
  | [], w, k, o, h => by simp at h
  | o' :: l, w, 0, o, h => by
    rw [List.foldl_cons]
    have : o' = o := by simpa using h
    subst this
    exact below_block (allocs_below l (w.alloc o')).1 (heap_alloc_new w o')
  | o' :: l, w, k + 1, o, h => by
    rw [List.foldl_cons]
    have := allocs_at l (w.alloc o') k o (by simpa using h)
    rw [World.size_alloc] at this
    rwa [show w.heap.size + (k + 1) = w.heap.size + 1 + k by omega]
/-- the world behind some allocations, under one name -/
theorem allocs (w : World) (l : List Obj) : ∃ V, l.foldl World.alloc w = V ∧ Below w.heap.size w V ∧ V.heap.size = w.heap.size + l.length ∧ ∀ k o, l[k]? = some o → V.heap[w.heap.size + k]? = some o :=
  ⟨_, rfl, (allocs_below l w).1, (allocs_below l w).2, fun k o h => allocs_at l w k o h⟩
theorem ev_small {g : Gar} (h : chk g = 0) {done rest : List Ev} {ev : Ev} (he : evG g g.nu = done ++ ev :: rest) : 0 ≤ ev.sec ∧ ev.sec ≤ 500000000000 ∧ 0 ≤ ev.way ∧ ev.way ≤ 500000000000000 := by
  obtain ⟨h1, h2, h3⟩ := evG_all h g.nu (Nat.le_refl _)
  have hnu := (Gar.chk_parts h).2.2.2.1
  rw [he] at h1 h2 h3
  rw [waySum_app] at h2
  rw [secSum_app] at h3
  have e1 : waySum (ev :: rest) = ev.way + waySum rest := by simp [waySum]
  have e2 : secSum (ev :: rest) = ev.sec + secSum rest := by simp [secSum]
  have hb := wearE_bound g ⟨#[]⟩ 0 0 done wear0 (fun e hx => by have := h1 e (by simp [hx]); omega)
  have hr := wearE_bound g ⟨#[]⟩ 0 0 rest wear0 (fun e hx => by have := h1 e (by simp [hx]); omega)
  have hv := h1 ev (by simp)
  have z1 : wear0.sec = 0 := rfl
  have z2 : wear0.way = 0 := rfl
  omega
def wearR (st : WSt) : Value := .agg #[.int .i64 st.sec, .int .i64 st.way, .int .i64 st.uses]
end Go.Proofs.YthdmceeipmmhjaaGreatDoor

/- Gear: two garages that read alike are the same. (Printed by gen_eq.py.) -/
namespace Go.Proofs.YthdmceeipmmhjaaGreatDoor
open Go.RowKit Go.BigFrame
open Gar (chk momG hasS hasP)

set_option maxHeartbeats 1000000 in
theorem eqGearPart (x0 : ByteArray) (x1 : Int) (w : World) : (Op.equalIn 10000 43 (.agg #[.string x0, .int .i64 x1]) (.agg #[.string x0, .int .i64 x1])).run Tryz.prog w = .ok true w := by
  have u3 := Tryz.underlying3
  have a3 := Tryz.isAgg3
  have z3 := Tryz.sizeOf3
  have u9 := Tryz.underlying9
  have a9 := Tryz.isAgg9
  have z9 := Tryz.sizeOf9
  have hS : Tryz.prog.underlying 43 = some (.struct (Tryz.prog.fieldsOf 43)) := by kernel_rfl
  have hp : Tryz.prog.stoodInHeld 43 = false := by kernel_rfl
  rw [show (10000 : Nat) = 9999 + 1 from rfl, run_equalIn_agg w 9999 43 _ _ hS hp]
  simp only [Program.fieldsOf, Tryz.underlying43]
  go_simp
set_option maxHeartbeats 2000000 in
set_option maxRecDepth 100000 in
theorem equalGearPart_any (n : Nat) (x0 : Nat → ByteArray) (x1 : Nat → Int) (a b : Option Addr) (c d : Nat) (w : World) (hr : RowK w a n 2 (fun i => [.string (x0 i), .int .i64 (x1 i)])) (hq : RowK w b n 2 (fun i => [.string (x0 i), .int .i64 (x1 i)])) (hl : (n : Int) ≤ 9223372036854775807) :
    Calls Tryz.prog 22 #[.slice a n c, .slice b n d] w fun e w' => e = .returned (.bool true) ∧ ∃ m, w' = w.drewN m := by
  have hneq : ((n : Int) != (n : Int)) = false := by simp
  have HR := Lib.hid hr
  have HQ := Lib.hid hq
  clear hr hq
  go_enter Tryz.func22, Tryz.ntmps22
  go_wp2_with fail
  go_loopw [13] (fun iv wr => ∃ (k : Nat), iv = .int .i64 k ∧ k ≤ n ∧ ∃ m, wr = w.drewN m) (fun iv _ => n - (intOf iv).toNat)
  case atStart => exact ⟨0, rfl, by omega, 0, rfl⟩
  case round =>
    obtain ⟨k, rfl, hk, m, rfl⟩ := hrel
    by_cases hlt : k < n
    · have t1 : decide ((k : Int) < (n : Int)) = true := by rw [decide_eq_true_eq]; omega
      have t1' : decide (k < n) = true := by simpa using hlt
      have t2 : (k : Int) < (n : Int) := by omega
      obtain ⟨b1, o1, rfl, hb1, hc1⟩ := HR.out.here (by omega)
      obtain ⟨b2, o2, rfl, hb2, hc2⟩ := HQ.out.here (by omega)
      have e0 : w.cell? ⟨b1, o1 + k * 2, none⟩ = some (.string (x0 k)) := hc1 k hlt 0 (by omega)
      have e1 : w.cell? ⟨b1, o1 + k * 2 + 1, none⟩ = some (.int .i64 (x1 k)) := hc1 k hlt 1 (by omega)
      have f0 : w.cell? ⟨b2, o2 + k * 2, none⟩ = some (.string (x0 k)) := hc2 k hlt 0 (by omega)
      have f1 : w.cell? ⟨b2, o2 + k * 2 + 1, none⟩ = some (.int .i64 (x1 k)) := hc2 k hlt 1 (by omega)
      clear hc1 hc2
      have hgd : Tryz.prog.eqGuardType Tryz.prog.depth 43 = false := by kernel_rfl
      generalize x0 k = y0 at *
      generalize x1 k = y1 at *
      have hq : ∀ W, (Op.equalIn 10000 43 (.agg #[.string y0, .int .i64 y1]) (.agg #[.string y0, .int .i64 y1])).run Tryz.prog W = .ok true W := fun W => eqGearPart _ _ W
      go_wp2_with fail
      go_quiet (fail)
      go_wp2_with fail
      go_roundw
      case rel => exact ⟨k + 1, by go_num, by omega, _, rfl⟩
      case measure => simp [intOf]; omega
    · have t1 : decide ((k : Int) < (n : Int)) = false := by rw [decide_eq_false_iff_not]; omega
      have t1' : decide (k < n) = false := by simpa using hlt
      clear hlt
      go_wp2_with fail
      go_ret
      exact ⟨rfl, _, rfl⟩
set_option maxHeartbeats 1000000 in
theorem eqSlot (x0 : ByteArray) (x1 : ByteArray) (w : World) : (Op.equalIn 10000 50 (.agg #[.string x0, .string x1]) (.agg #[.string x0, .string x1])).run Tryz.prog w = .ok true w := by
  have u3 := Tryz.underlying3
  have a3 := Tryz.isAgg3
  have z3 := Tryz.sizeOf3
  have u9 := Tryz.underlying9
  have a9 := Tryz.isAgg9
  have z9 := Tryz.sizeOf9
  have hS : Tryz.prog.underlying 50 = some (.struct (Tryz.prog.fieldsOf 50)) := by kernel_rfl
  have hp : Tryz.prog.stoodInHeld 50 = false := by kernel_rfl
  rw [show (10000 : Nat) = 9999 + 1 from rfl, run_equalIn_agg w 9999 50 _ _ hS hp]
  simp only [Program.fieldsOf, Tryz.underlying50]
  go_simp
set_option maxHeartbeats 2000000 in
set_option maxRecDepth 100000 in
theorem equalSlot_any (n : Nat) (x0 : Nat → ByteArray) (x1 : Nat → ByteArray) (a b : Option Addr) (c d : Nat) (w : World) (hr : RowK w a n 2 (fun i => [.string (x0 i), .string (x1 i)])) (hq : RowK w b n 2 (fun i => [.string (x0 i), .string (x1 i)])) (hl : (n : Int) ≤ 9223372036854775807) :
    Calls Tryz.prog 23 #[.slice a n c, .slice b n d] w fun e w' => e = .returned (.bool true) ∧ ∃ m, w' = w.drewN m := by
  have hneq : ((n : Int) != (n : Int)) = false := by simp
  have HR := Lib.hid hr
  have HQ := Lib.hid hq
  clear hr hq
  go_enter Tryz.func23, Tryz.ntmps23
  go_wp2_with fail
  go_loopw [13] (fun iv wr => ∃ (k : Nat), iv = .int .i64 k ∧ k ≤ n ∧ ∃ m, wr = w.drewN m) (fun iv _ => n - (intOf iv).toNat)
  case atStart => exact ⟨0, rfl, by omega, 0, rfl⟩
  case round =>
    obtain ⟨k, rfl, hk, m, rfl⟩ := hrel
    by_cases hlt : k < n
    · have t1 : decide ((k : Int) < (n : Int)) = true := by rw [decide_eq_true_eq]; omega
      have t1' : decide (k < n) = true := by simpa using hlt
      have t2 : (k : Int) < (n : Int) := by omega
      obtain ⟨b1, o1, rfl, hb1, hc1⟩ := HR.out.here (by omega)
      obtain ⟨b2, o2, rfl, hb2, hc2⟩ := HQ.out.here (by omega)
      have e0 : w.cell? ⟨b1, o1 + k * 2, none⟩ = some (.string (x0 k)) := hc1 k hlt 0 (by omega)
      have e1 : w.cell? ⟨b1, o1 + k * 2 + 1, none⟩ = some (.string (x1 k)) := hc1 k hlt 1 (by omega)
      have f0 : w.cell? ⟨b2, o2 + k * 2, none⟩ = some (.string (x0 k)) := hc2 k hlt 0 (by omega)
      have f1 : w.cell? ⟨b2, o2 + k * 2 + 1, none⟩ = some (.string (x1 k)) := hc2 k hlt 1 (by omega)
      clear hc1 hc2
      have hgd : Tryz.prog.eqGuardType Tryz.prog.depth 50 = false := by kernel_rfl
      generalize x0 k = y0 at *
      generalize x1 k = y1 at *
      have hq : ∀ W, (Op.equalIn 10000 50 (.agg #[.string y0, .string y1]) (.agg #[.string y0, .string y1])).run Tryz.prog W = .ok true W := fun W => eqSlot _ _ W
      go_wp2_with fail
      go_quiet (fail)
      go_wp2_with fail
      go_roundw
      case rel => exact ⟨k + 1, by go_num, by omega, _, rfl⟩
      case measure => simp [intOf]; omega
    · have t1 : decide ((k : Int) < (n : Int)) = false := by rw [decide_eq_false_iff_not]; omega
      have t1' : decide (k < n) = false := by simpa using hlt
      clear hlt
      go_wp2_with fail
      go_ret
      exact ⟨rfl, _, rfl⟩
set_option maxHeartbeats 1000000 in
theorem eqMount (x0 : ByteArray) (x1 : ByteArray) (x2 : Int) (x3 : Int) (w : World) : (Op.equalIn 10000 52 (.agg #[.string x0, .string x1, .int .i64 x2, .int .i64 x3]) (.agg #[.string x0, .string x1, .int .i64 x2, .int .i64 x3])).run Tryz.prog w = .ok true w := by
  have u3 := Tryz.underlying3
  have a3 := Tryz.isAgg3
  have z3 := Tryz.sizeOf3
  have u9 := Tryz.underlying9
  have a9 := Tryz.isAgg9
  have z9 := Tryz.sizeOf9
  have hS : Tryz.prog.underlying 52 = some (.struct (Tryz.prog.fieldsOf 52)) := by kernel_rfl
  have hp : Tryz.prog.stoodInHeld 52 = false := by kernel_rfl
  rw [show (10000 : Nat) = 9999 + 1 from rfl, run_equalIn_agg w 9999 52 _ _ hS hp]
  simp only [Program.fieldsOf, Tryz.underlying52]
  go_simp
set_option maxHeartbeats 2000000 in
set_option maxRecDepth 100000 in
theorem equalMount_any (n : Nat) (x0 : Nat → ByteArray) (x1 : Nat → ByteArray) (x2 : Nat → Int) (x3 : Nat → Int) (a b : Option Addr) (c d : Nat) (w : World) (hr : RowK w a n 4 (fun i => [.string (x0 i), .string (x1 i), .int .i64 (x2 i), .int .i64 (x3 i)])) (hq : RowK w b n 4 (fun i => [.string (x0 i), .string (x1 i), .int .i64 (x2 i), .int .i64 (x3 i)])) (hl : (n : Int) ≤ 9223372036854775807) :
    Calls Tryz.prog 24 #[.slice a n c, .slice b n d] w fun e w' => e = .returned (.bool true) ∧ ∃ m, w' = w.drewN m := by
  have hneq : ((n : Int) != (n : Int)) = false := by simp
  have HR := Lib.hid hr
  have HQ := Lib.hid hq
  clear hr hq
  go_enter Tryz.func24, Tryz.ntmps24
  go_wp2_with fail
  go_loopw [13] (fun iv wr => ∃ (k : Nat), iv = .int .i64 k ∧ k ≤ n ∧ ∃ m, wr = w.drewN m) (fun iv _ => n - (intOf iv).toNat)
  case atStart => exact ⟨0, rfl, by omega, 0, rfl⟩
  case round =>
    obtain ⟨k, rfl, hk, m, rfl⟩ := hrel
    by_cases hlt : k < n
    · have t1 : decide ((k : Int) < (n : Int)) = true := by rw [decide_eq_true_eq]; omega
      have t1' : decide (k < n) = true := by simpa using hlt
      have t2 : (k : Int) < (n : Int) := by omega
      obtain ⟨b1, o1, rfl, hb1, hc1⟩ := HR.out.here (by omega)
      obtain ⟨b2, o2, rfl, hb2, hc2⟩ := HQ.out.here (by omega)
      have e0 : w.cell? ⟨b1, o1 + k * 4, none⟩ = some (.string (x0 k)) := hc1 k hlt 0 (by omega)
      have e1 : w.cell? ⟨b1, o1 + k * 4 + 1, none⟩ = some (.string (x1 k)) := hc1 k hlt 1 (by omega)
      have e2 : w.cell? ⟨b1, o1 + k * 4 + 2, none⟩ = some (.int .i64 (x2 k)) := hc1 k hlt 2 (by omega)
      have e3 : w.cell? ⟨b1, o1 + k * 4 + 3, none⟩ = some (.int .i64 (x3 k)) := hc1 k hlt 3 (by omega)
      have f0 : w.cell? ⟨b2, o2 + k * 4, none⟩ = some (.string (x0 k)) := hc2 k hlt 0 (by omega)
      have f1 : w.cell? ⟨b2, o2 + k * 4 + 1, none⟩ = some (.string (x1 k)) := hc2 k hlt 1 (by omega)
      have f2 : w.cell? ⟨b2, o2 + k * 4 + 2, none⟩ = some (.int .i64 (x2 k)) := hc2 k hlt 2 (by omega)
      have f3 : w.cell? ⟨b2, o2 + k * 4 + 3, none⟩ = some (.int .i64 (x3 k)) := hc2 k hlt 3 (by omega)
      clear hc1 hc2
      have hgd : Tryz.prog.eqGuardType Tryz.prog.depth 52 = false := by kernel_rfl
      generalize x0 k = y0 at *
      generalize x1 k = y1 at *
      generalize x2 k = y2 at *
      generalize x3 k = y3 at *
      have hq : ∀ W, (Op.equalIn 10000 52 (.agg #[.string y0, .string y1, .int .i64 y2, .int .i64 y3]) (.agg #[.string y0, .string y1, .int .i64 y2, .int .i64 y3])).run Tryz.prog W = .ok true W := fun W => eqMount _ _ _ _ W
      go_wp2_with fail
      go_quiet (fail)
      go_wp2_with fail
      go_roundw
      case rel => exact ⟨k + 1, by go_num, by omega, _, rfl⟩
      case measure => simp [intOf]; omega
    · have t1 : decide ((k : Int) < (n : Int)) = false := by rw [decide_eq_false_iff_not]; omega
      have t1' : decide (k < n) = false := by simpa using hlt
      clear hlt
      go_wp2_with fail
      go_ret
      exact ⟨rfl, _, rfl⟩
set_option maxHeartbeats 1000000 in
theorem eqUse (x0 : ByteArray) (x1 : ByteArray) (x2 : Int) (x3 : Int) (x4 : Int) (w : World) : (Op.equalIn 10000 54 (.agg #[.string x0, .string x1, .int .i64 x2, .int .i64 x3, .int .i64 x4]) (.agg #[.string x0, .string x1, .int .i64 x2, .int .i64 x3, .int .i64 x4])).run Tryz.prog w = .ok true w := by
  have u3 := Tryz.underlying3
  have a3 := Tryz.isAgg3
  have z3 := Tryz.sizeOf3
  have u9 := Tryz.underlying9
  have a9 := Tryz.isAgg9
  have z9 := Tryz.sizeOf9
  have hS : Tryz.prog.underlying 54 = some (.struct (Tryz.prog.fieldsOf 54)) := by kernel_rfl
  have hp : Tryz.prog.stoodInHeld 54 = false := by kernel_rfl
  rw [show (10000 : Nat) = 9999 + 1 from rfl, run_equalIn_agg w 9999 54 _ _ hS hp]
  simp only [Program.fieldsOf, Tryz.underlying54]
  go_simp
set_option maxHeartbeats 2000000 in
set_option maxRecDepth 100000 in
theorem equalUse_any (n : Nat) (x0 : Nat → ByteArray) (x1 : Nat → ByteArray) (x2 : Nat → Int) (x3 : Nat → Int) (x4 : Nat → Int) (a b : Option Addr) (c d : Nat) (w : World) (hr : RowK w a n 5 (fun i => [.string (x0 i), .string (x1 i), .int .i64 (x2 i), .int .i64 (x3 i), .int .i64 (x4 i)])) (hq : RowK w b n 5 (fun i => [.string (x0 i), .string (x1 i), .int .i64 (x2 i), .int .i64 (x3 i), .int .i64 (x4 i)])) (hl : (n : Int) ≤ 9223372036854775807) :
    Calls Tryz.prog 25 #[.slice a n c, .slice b n d] w fun e w' => e = .returned (.bool true) ∧ ∃ m, w' = w.drewN m := by
  have hneq : ((n : Int) != (n : Int)) = false := by simp
  have HR := Lib.hid hr
  have HQ := Lib.hid hq
  clear hr hq
  go_enter Tryz.func25, Tryz.ntmps25
  go_wp2_with fail
  go_loopw [13] (fun iv wr => ∃ (k : Nat), iv = .int .i64 k ∧ k ≤ n ∧ ∃ m, wr = w.drewN m) (fun iv _ => n - (intOf iv).toNat)
  case atStart => exact ⟨0, rfl, by omega, 0, rfl⟩
  case round =>
    obtain ⟨k, rfl, hk, m, rfl⟩ := hrel
    by_cases hlt : k < n
    · have t1 : decide ((k : Int) < (n : Int)) = true := by rw [decide_eq_true_eq]; omega
      have t1' : decide (k < n) = true := by simpa using hlt
      have t2 : (k : Int) < (n : Int) := by omega
      obtain ⟨b1, o1, rfl, hb1, hc1⟩ := HR.out.here (by omega)
      obtain ⟨b2, o2, rfl, hb2, hc2⟩ := HQ.out.here (by omega)
      have e0 : w.cell? ⟨b1, o1 + k * 5, none⟩ = some (.string (x0 k)) := hc1 k hlt 0 (by omega)
      have e1 : w.cell? ⟨b1, o1 + k * 5 + 1, none⟩ = some (.string (x1 k)) := hc1 k hlt 1 (by omega)
      have e2 : w.cell? ⟨b1, o1 + k * 5 + 2, none⟩ = some (.int .i64 (x2 k)) := hc1 k hlt 2 (by omega)
      have e3 : w.cell? ⟨b1, o1 + k * 5 + 3, none⟩ = some (.int .i64 (x3 k)) := hc1 k hlt 3 (by omega)
      have e4 : w.cell? ⟨b1, o1 + k * 5 + 4, none⟩ = some (.int .i64 (x4 k)) := hc1 k hlt 4 (by omega)
      have f0 : w.cell? ⟨b2, o2 + k * 5, none⟩ = some (.string (x0 k)) := hc2 k hlt 0 (by omega)
      have f1 : w.cell? ⟨b2, o2 + k * 5 + 1, none⟩ = some (.string (x1 k)) := hc2 k hlt 1 (by omega)
      have f2 : w.cell? ⟨b2, o2 + k * 5 + 2, none⟩ = some (.int .i64 (x2 k)) := hc2 k hlt 2 (by omega)
      have f3 : w.cell? ⟨b2, o2 + k * 5 + 3, none⟩ = some (.int .i64 (x3 k)) := hc2 k hlt 3 (by omega)
      have f4 : w.cell? ⟨b2, o2 + k * 5 + 4, none⟩ = some (.int .i64 (x4 k)) := hc2 k hlt 4 (by omega)
      clear hc1 hc2
      have hgd : Tryz.prog.eqGuardType Tryz.prog.depth 54 = false := by kernel_rfl
      generalize x0 k = y0 at *
      generalize x1 k = y1 at *
      generalize x2 k = y2 at *
      generalize x3 k = y3 at *
      generalize x4 k = y4 at *
      have hq : ∀ W, (Op.equalIn 10000 54 (.agg #[.string y0, .string y1, .int .i64 y2, .int .i64 y3, .int .i64 y4]) (.agg #[.string y0, .string y1, .int .i64 y2, .int .i64 y3, .int .i64 y4])).run Tryz.prog W = .ok true W := fun W => eqUse _ _ _ _ _ W
      go_wp2_with fail
      go_quiet (fail)
      go_wp2_with fail
      go_roundw
      case rel => exact ⟨k + 1, by go_num, by omega, _, rfl⟩
      case measure => simp [intOf]; omega
    · have t1 : decide ((k : Int) < (n : Int)) = false := by rw [decide_eq_false_iff_not]; omega
      have t1' : decide (k < n) = false := by simpa using hlt
      clear hlt
      go_wp2_with fail
      go_ret
      exact ⟨rfl, _, rfl⟩
theorem Ext.draws {P : Program} {W : World} {f : FuncId} {args : Array Value} {v : Value} (X : Ext W) (h : Calls P f args X.1 fun e w' => e = .returned v ∧ ∃ m, w' = X.1.drewN m) : Calls P f args X.1 fun e w'' => e = .returned v ∧ ∃ Y : Ext W, w'' = Y.1 :=
  h.mono fun _ _ ⟨he, m, hb⟩ => ⟨he, ⟨X.1.drewN m, below_drewN X.2 m⟩, hb⟩
set_option maxHeartbeats 4000000 in
set_option maxRecDepth 100000 in
theorem same_any (g : Gar) (a0 a1 a2 a3 b0 b1 b2 b3 : Option Addr) (c0 c1 c2 c3 d0 d1 d2 d3 : Nat) (w : World) (h : GarIn w g a0 a1 a2 a3) (h' : GarIn w g b0 b1 b2 b3) :
    Calls Tryz.prog 8 #[garV g a0 a1 a2 a3 c0 c1 c2 c3, garV g b0 b1 b2 b3 d0 d1 d2 d3] w fun e w' => e = .returned (.bool true) ∧ Below w.heap.size w w' := by
  have HG := Lib.hid h
  have HH := Lib.hid h'
  obtain ⟨W0, hW0, hb0, hs0, hq0⟩ := allocs w [.cells #[.slice a0 g.np c0, .slice a1 g.ns c1, .slice a2 g.nm c2, .slice a3 g.nu c3] 27, .cells #[.slice b0 g.np d0, .slice b1 g.ns d1, .slice b2 g.nm d2, .slice b3 g.nu d3] 27]
  have hbs : w.heap.size ≤ W0.heap.size := hb0.size
  have G0 := Ext.ex (show W0.cell? ⟨w.heap.size, 0, none⟩ = some (.slice a0 g.np c0) from block_cell (hq0 0 _ rfl) rfl)
  have H0 := Ext.ex (show W0.cell? ⟨w.heap.size + 1, 0, none⟩ = some (.slice b0 g.np d0) from block_cell (hq0 1 _ rfl) rfl)
  have G1 := Ext.ex (show W0.cell? ⟨w.heap.size, 1, none⟩ = some (.slice a1 g.ns c1) from block_cell (hq0 0 _ rfl) rfl)
  have H1 := Ext.ex (show W0.cell? ⟨w.heap.size + 1, 1, none⟩ = some (.slice b1 g.ns d1) from block_cell (hq0 1 _ rfl) rfl)
  have G2 := Ext.ex (show W0.cell? ⟨w.heap.size, 2, none⟩ = some (.slice a2 g.nm c2) from block_cell (hq0 0 _ rfl) rfl)
  have H2 := Ext.ex (show W0.cell? ⟨w.heap.size + 1, 2, none⟩ = some (.slice b2 g.nm d2) from block_cell (hq0 1 _ rfl) rfl)
  have G3 := Ext.ex (show W0.cell? ⟨w.heap.size, 3, none⟩ = some (.slice a3 g.nu c3) from block_cell (hq0 0 _ rfl) rfl)
  have H3 := Ext.ex (show W0.cell? ⟨w.heap.size + 1, 3, none⟩ = some (.slice b3 g.nu d3) from block_cell (hq0 1 _ rfl) rfl)
  have HW0 := Lib.hid (show (w.alloc (.cells #[.slice a0 g.np c0, .slice a1 g.ns c1, .slice a2 g.nm c2, .slice a3 g.nu c3] 27)).alloc (.cells #[.slice b0 g.np d0, .slice b1 g.ns d1, .slice b2 g.nm d2, .slice b3 g.nu d3] 27) = W0 from hW0)
  have HB := Lib.hid hb0
  have D0 := Lib.hid (fun (Y : Ext W0) => equalGearPart_any g.np g.pn g.pc a0 b0 c0 d0 Y.1 (HG.out.below (Y.down HB.out hbs)).r0 (HH.out.below (Y.down HB.out hbs)).r0 h.l0)
  have D1 := Lib.hid (fun (Y : Ext W0) => equalSlot_any g.ns g.sn g.sr a1 b1 c1 d1 Y.1 (HG.out.below (Y.down HB.out hbs)).r1 (HH.out.below (Y.down HB.out hbs)).r1 h.l1)
  have D2 := Lib.hid (fun (Y : Ext W0) => equalMount_any g.nm g.ms g.mp g.mf g.mt a2 b2 c2 d2 Y.1 (HG.out.below (Y.down HB.out hbs)).r2 (HH.out.below (Y.down HB.out hbs)).r2 h.l2)
  have D3 := Lib.hid (fun (Y : Ext W0) => equalUse_any g.nu g.un g.ur g.uf g.us g.uw a3 b3 c3 d3 Y.1 (HG.out.below (Y.down HB.out hbs)).r3 (HH.out.below (Y.down HB.out hbs)).r3 h.l3)
  unfold garV
  clear h h' hW0 hb0 hq0 hs0
  go_enter Tryz.func8, Tryz.ntmps8
  go_upto_region 1 with (fail)
  rw [HW0.out]
  refine ext_wp fun X => ?_
  go_wp2_with fail
  refine (Ext.draws _ (D0.out _)).mono ?_
  rintro e w0 ⟨rfl, Y0, rfl⟩
  go_wp2_with fail
  refine (Ext.draws _ (D1.out _)).mono ?_
  rintro e w1 ⟨rfl, Y1, rfl⟩
  go_wp2_with fail
  refine (Ext.draws _ (D2.out _)).mono ?_
  rintro e w2 ⟨rfl, Y2, rfl⟩
  go_wp2_with fail
  refine (Ext.draws _ (D3.out _)).mono ?_
  rintro e w3 ⟨rfl, Y3, rfl⟩
  go_wp2_with fail
  go_ret
  exact ⟨rfl, Y3.down HB.out hbs⟩
end Go.Proofs.YthdmceeipmmhjaaGreatDoor

/- Gear: GearTextsMatchSpec: the law's walk. -/
namespace Go.Proofs.YthdmceeipmmhjaaGreatDoor
open Go.RowKit Go.BigFrame
open Txt
open Gar (chk hasS hasP momG befM befU)

/-- two garages that agree below their counts -/
structure SameG (g h : Gar) : Prop where
  np : g.np = h.np
  pn : ∀ i, i < h.np → g.pn i = h.pn i
  pc : ∀ i, i < h.np → g.pc i = h.pc i
  ns : g.ns = h.ns
  sn : ∀ i, i < h.ns → g.sn i = h.sn i
  sr : ∀ i, i < h.ns → g.sr i = h.sr i
  nm : g.nm = h.nm
  ms : ∀ i, i < h.nm → g.ms i = h.ms i
  mp : ∀ i, i < h.nm → g.mp i = h.mp i
  mf : ∀ i, i < h.nm → g.mf i = h.mf i
  mt : ∀ i, i < h.nm → g.mt i = h.mt i
  nu : g.nu = h.nu
  un : ∀ i, i < h.nu → g.un i = h.un i
  ur : ∀ i, i < h.nu → g.ur i = h.ur i
  uf : ∀ i, i < h.nu → g.uf i = h.uf i
  us : ∀ i, i < h.nu → g.us i = h.us i
  uw : ∀ i, i < h.nu → g.uw i = h.uw i
theorem sameG_back (g : Gar) : SameG (gOf (lnsG g)) g where
  np := by
    show ((lnsG g).filterMap Ln.part?).length = _
    rw [lns_parts]; simp
  pn i hi := by
    show (((lnsG g).filterMap Ln.part?).getD i (⟨#[]⟩, 0)).1 = _
    rw [lns_parts, List.getD_eq_getElem?_getD, List.getElem?_map, List.getElem?_range hi]; rfl
  pc i hi := by
    show (((lnsG g).filterMap Ln.part?).getD i (⟨#[]⟩, 0)).2 = _
    rw [lns_parts, List.getD_eq_getElem?_getD, List.getElem?_map, List.getElem?_range hi]; rfl
  ns := by
    show ((lnsG g).filterMap Ln.slot?).length = _
    rw [lns_slots]; simp
  sn i hi := by
    show (((lnsG g).filterMap Ln.slot?).getD i (⟨#[]⟩, ⟨#[]⟩)).1 = _
    rw [lns_slots, List.getD_eq_getElem?_getD, List.getElem?_map, List.getElem?_range hi]; rfl
  sr i hi := by
    show (((lnsG g).filterMap Ln.slot?).getD i (⟨#[]⟩, ⟨#[]⟩)).2 = _
    rw [lns_slots, List.getD_eq_getElem?_getD, List.getElem?_map, List.getElem?_range hi]; rfl
  nm := by
    show ((lnsG g).filterMap Ln.mnt?).length = _
    rw [lns_mnts]; simp
  ms i hi := by
    show (((lnsG g).filterMap Ln.mnt?).getD i (⟨#[]⟩, ⟨#[]⟩, 0, 0)).1 = _
    rw [lns_mnts, List.getD_eq_getElem?_getD, List.getElem?_map, List.getElem?_range hi]; rfl
  mp i hi := by
    show (((lnsG g).filterMap Ln.mnt?).getD i (⟨#[]⟩, ⟨#[]⟩, 0, 0)).2.1 = _
    rw [lns_mnts, List.getD_eq_getElem?_getD, List.getElem?_map, List.getElem?_range hi]; rfl
  mf i hi := by
    show (((lnsG g).filterMap Ln.mnt?).getD i (⟨#[]⟩, ⟨#[]⟩, 0, 0)).2.2.1 = _
    rw [lns_mnts, List.getD_eq_getElem?_getD, List.getElem?_map, List.getElem?_range hi]; rfl
  mt i hi := by
    show (((lnsG g).filterMap Ln.mnt?).getD i (⟨#[]⟩, ⟨#[]⟩, 0, 0)).2.2.2 = _
    rw [lns_mnts, List.getD_eq_getElem?_getD, List.getElem?_map, List.getElem?_range hi]; rfl
  nu := by
    show ((lnsG g).filterMap Ln.use?).length = _
    rw [lns_uses]; simp
  un i hi := by
    show (((lnsG g).filterMap Ln.use?).getD i (⟨#[]⟩, ⟨#[]⟩, 0, 0, 0)).1 = _
    rw [lns_uses, List.getD_eq_getElem?_getD, List.getElem?_map, List.getElem?_range hi]; rfl
  ur i hi := by
    show (((lnsG g).filterMap Ln.use?).getD i (⟨#[]⟩, ⟨#[]⟩, 0, 0, 0)).2.1 = _
    rw [lns_uses, List.getD_eq_getElem?_getD, List.getElem?_map, List.getElem?_range hi]; rfl
  uf i hi := by
    show (((lnsG g).filterMap Ln.use?).getD i (⟨#[]⟩, ⟨#[]⟩, 0, 0, 0)).2.2.1 = _
    rw [lns_uses, List.getD_eq_getElem?_getD, List.getElem?_map, List.getElem?_range hi]; rfl
  us i hi := by
    show (((lnsG g).filterMap Ln.use?).getD i (⟨#[]⟩, ⟨#[]⟩, 0, 0, 0)).2.2.2.1 = _
    rw [lns_uses, List.getD_eq_getElem?_getD, List.getElem?_map, List.getElem?_range hi]; rfl
  uw i hi := by
    show (((lnsG g).filterMap Ln.use?).getD i (⟨#[]⟩, ⟨#[]⟩, 0, 0, 0)).2.2.2.2 = _
    rw [lns_uses, List.getD_eq_getElem?_getD, List.getElem?_map, List.getElem?_range hi]; rfl
theorem any_same {p q : Nat → Bool} {n : Nat} (h : ∀ i, i < n → p i = q i) : (List.range n).any p = (List.range n).any q := by
  rw [Bool.eq_iff_iff, List.any_eq_true, List.any_eq_true]
  constructor
  · rintro ⟨x, h1, h2⟩
    exact ⟨x, h1, by rw [← h x (List.mem_range.1 h1)]; exact h2⟩
  · rintro ⟨x, h1, h2⟩
    exact ⟨x, h1, by rw [h x (List.mem_range.1 h1)]; exact h2⟩
theorem SameG.chkP {g h : Gar} (e : SameG g h) : ∀ (n k : Nat), k + n ≤ h.np → Gar.chkP g n k = Gar.chkP h n k := by
  intro n
  induction n with
  | zero => intro k _; rfl
  | succ n ih =>
    intro k hk
    unfold Gar.chkP
    rw [e.pn k (by omega), e.pc k (by omega), e.pn (k - 1) (by omega), ih (k + 1) (by omega)]
theorem SameG.chkS {g h : Gar} (e : SameG g h) : ∀ (n k : Nat), k + n ≤ h.ns → Gar.chkS g n k = Gar.chkS h n k := by
  intro n
  induction n with
  | zero => intro k _; rfl
  | succ n ih =>
    intro k hk
    unfold Gar.chkS
    rw [e.sn k (by omega), e.sr k (by omega), e.sn (k - 1) (by omega), ih (k + 1) (by omega)]
theorem SameG.hasS {g h : Gar} (e : SameG g h) (s : ByteArray) : Gar.hasS g s = Gar.hasS h s := by
  unfold Gar.hasS
  rw [e.ns]
  exact any_same fun i hi => by rw [e.sn i hi]
theorem SameG.hasP {g h : Gar} (e : SameG g h) (s : ByteArray) : Gar.hasP g s = Gar.hasP h s := by
  unfold Gar.hasP
  rw [e.np]
  exact any_same fun i hi => by rw [e.pn i hi]
theorem SameG.chkM {g h : Gar} (e : SameG g h) : ∀ (n k : Nat), k + n ≤ h.nm → Gar.chkM g n k = Gar.chkM h n k := by
  intro n
  induction n with
  | zero => intro k _; rfl
  | succ n ih =>
    intro k hk
    unfold Gar.chkM Gar.befM
    rw [e.hasS, e.hasP, e.ms k (by omega), e.mp k (by omega), e.mf k (by omega), e.mt k (by omega), e.ms (k - 1) (by omega), e.mf (k - 1) (by omega), ih (k + 1) (by omega)]
theorem SameG.chkU {g h : Gar} (e : SameG g h) : ∀ (n k : Nat), k + n ≤ h.nu → Gar.chkU g n k = Gar.chkU h n k := by
  intro n
  induction n with
  | zero => intro k _; rfl
  | succ n ih =>
    intro k hk
    unfold Gar.chkU Gar.befU
    rw [any_same (p := fun i => decide (g.un i = g.un k)) (q := fun i => decide (h.un i = h.un k)) (fun i hi => by rw [e.un i (by omega), e.un k (by omega)]), e.un k (by omega), e.ur k (by omega), e.uf k (by omega), e.us k (by omega), e.uw k (by omega), e.un (k - 1) (by omega), e.uf (k - 1) (by omega), ih (k + 1) (by omega)]
theorem SameG.over {g h : Gar} (e : SameG g h) : Gar.anyOver g = Gar.anyOver h := by
  unfold Gar.anyOver
  rw [e.nm]
  refine any_same fun k hk => any_same fun i hi => ?_
  unfold Gar.overB
  rw [e.ms k hk, e.ms i (by omega), e.mp k hk, e.mp i (by omega), e.mf k hk, e.mf i (by omega), e.mt k hk, e.mt i (by omega)]
theorem SameG.chk {g h : Gar} (e : SameG g h) : Gar.chk g = Gar.chk h := by
  unfold Gar.chk
  rw [e.np, e.ns, e.nm, e.nu, e.chkP h.np 0 (by omega), e.chkS h.ns 0 (by omega), e.chkM h.nm 0 (by omega), e.chkU h.nu 0 (by omega), e.over]
theorem SameG.row {w : World} {a : Option Addr} {n m k : Nat} {f f' : Nat → List Value} (h : RowK w a n k f) (e : n = m) (hf : ∀ i, i < m → f i = f' i) : RowK w a m k f' := by
  subst e
  refine ⟨fun hl => ?_⟩
  obtain ⟨b, off, rfl, hlt, hc⟩ := h.here hl
  exact ⟨b, off, rfl, hlt, fun i hi j hj => by rw [← hf i hi]; exact hc i hi j hj⟩
theorem SameG.gin {g h : Gar} (e : SameG g h) {w : World} {a0 a1 a2 a3 : Option Addr} (hg : GarIn w g a0 a1 a2 a3) : GarIn w h a0 a1 a2 a3 := by
  refine ⟨SameG.row hg.r0 e.np fun i hi => ?_, SameG.row hg.r1 e.ns fun i hi => ?_, SameG.row hg.r2 e.nm fun i hi => ?_, SameG.row hg.r3 e.nu fun i hi => ?_, fun i hi => ?_, fun i hi => ?_, fun i hi => ?_, fun i hi => ?_, ?_, ?_, ?_, ?_⟩
  · show [Value.string (g.pn i), .int .i64 (g.pc i)] = _
    rw [e.pn i hi, e.pc i hi]
  · show [Value.string (g.sn i), .string (g.sr i)] = _
    rw [e.sn i hi, e.sr i hi]
  · show [Value.string (g.ms i), .string (g.mp i), .int .i64 (g.mf i), .int .i64 (g.mt i)] = _
    rw [e.ms i hi, e.mp i hi, e.mf i hi, e.mt i hi]
  · show [Value.string (g.un i), .string (g.ur i), .int .i64 (g.uf i), .int .i64 (g.us i), .int .i64 (g.uw i)] = _
    rw [e.un i hi, e.ur i hi, e.uf i hi, e.us i hi, e.uw i hi]
  · rw [← e.pn i hi]; exact hg.z0 i (by rw [e.np]; exact hi)
  · rw [← e.sn i hi, ← e.sr i hi]; exact hg.z1 i (by rw [e.ns]; exact hi)
  · rw [← e.ms i hi, ← e.mp i hi]; exact hg.z2 i (by rw [e.nm]; exact hi)
  · rw [← e.un i hi, ← e.ur i hi]; exact hg.z3 i (by rw [e.nu]; exact hi)
  · rw [← e.np]; exact hg.l0
  · rw [← e.ns]; exact hg.l1
  · rw [← e.nm]; exact hg.l2
  · rw [← e.nu]; exact hg.l3
/-- what is written is read as it was -/
theorem print_back {g : Gar} (h : printE g = 0) : ∃ L, readE (printS g) = (L, 0, 0) ∧ SameG (gOf L) g ∧ (printS g).size ≤ 1000000 := by
  have hs : printS g = bt (textG g) := by unfold printS; rw [if_pos h]
  have hk : chk g = 0 ∧ ¬ 1000000 < (textG g).length := by
    unfold printE at h
    by_cases h1 : chk g = 0
    · rw [if_neg (by simpa using h1)] at h
      exact ⟨h1, fun h2 => by rw [if_pos h2] at h; cases h⟩
    · rw [if_pos h1] at h
      exact absurd h h1
  have hz : (bt (textG g)).size = (textG g).length := rfl
  refine ⟨lnsG g, ?_, sameG_back g, by rw [hs, hz]; omega⟩
  rw [hs]
  unfold readE
  rw [if_neg (by rw [hz]; exact hk.2), hz, show sB (bt (textG g)) = textG g from rfl, text_back hk.1]
  show (if chk (gOf (lnsG g)) ≠ 0 then _ else _) = _
  rw [if_neg (by rw [(sameG_back g).chk]; simpa using hk.1)]
/-- reading, unfolded -/
theorem RdR.open {s : ByteArray} {w w' : World} {e : Ending} {L : List Ln} {n er : Int} {g : Gar} (he : readE s = (L, n, er)) (hs : SameG (gOf L) g) (h : RdR s w e w') : ∃ a0 a1 a2 a3 c0 c1 c2 c3, e = .returned (.tuple #[.agg #[.slice a0 g.np c0, .slice a1 g.ns c1, .slice a2 g.nm c2, .slice a3 g.nu c3], .int .i64 n, .int .i64 er]) ∧ GarIn w' g a0 a1 a2 a3 ∧ Below w.heap.size w w' := by
  unfold RdR at h
  rw [he] at h
  obtain ⟨a0, a1, a2, a3, c0, c1, c2, c3, h1, h2, h3, h4, h5⟩ := h
  refine ⟨a0, a1, a2, a3, c0, c1, c2, c3, ?_, hs.gin h2, h5⟩
  rw [h1]
  unfold garV
  rw [hs.np, hs.ns, hs.nm, hs.nu]
theorem SameG.refl (g : Gar) : SameG g g := ⟨rfl, fun _ _ => rfl, fun _ _ => rfl, rfl, fun _ _ => rfl, fun _ _ => rfl, rfl, fun _ _ => rfl, fun _ _ => rfl, fun _ _ => rfl, fun _ _ => rfl, rfl, fun _ _ => rfl, fun _ _ => rfl, fun _ _ => rfl, fun _ _ => rfl, fun _ _ => rfl⟩
set_option maxHeartbeats 4000000 in
set_option maxRecDepth 100000 in
theorem textsMatch_law (g : Gar) (a0 a1 a2 a3 : Option Addr) (c0 c1 c2 c3 : Nat) (s : ByteArray) (w : World) (h : GarIn w g a0 a1 a2 a3) (hc2 : g.nm ≤ c2) (hc3 : g.nu ≤ c3) (hs : s.size ≤ maxLen) (hgl : Glo w) :
    Calls Tryz.prog 3 #[garV g a0 a1 a2 a3 c0 c1 c2 c3, .string s] w fun e w' => e = .returned (.bool true) ∧ Below w.heap.size w w' := by
  have hmx : maxLen = 9223372036854775807 := rfl
  obtain ⟨V0, hV0, hb0, hs0, hl0'⟩ := alloc_cells w #[.slice a0 g.np c0, .slice a1 g.ns c1, .slice a2 g.nm c2, .slice a3 g.nu c3] 27
  have G0 := Ext.ex (hl0' 0 _ rfl)
  have G1 := Ext.ex (hl0' 1 _ rfl)
  have G2 := Ext.ex (hl0' 2 _ rfl)
  have G3 := Ext.ex (hl0' 3 _ rfl)
  have HV0 := Lib.hid hV0
  have HDN0 := Lib.hid hb0
  have hs0' : w.heap.size ≤ V0.heap.size := by omega
  have HIA := Lib.hid (h.below hb0)
  have DPA := Lib.hid (fun (W : World) (hw : Below w.heap.size w W) => gPrint_any g a0 a1 a2 a3 c0 c1 c2 c3 W (h.below hw) (hgl.below hw))
  have DPB := Lib.hid (fun (W : World) (hw : Below w.heap.size w W) => rPrint_any g a0 a1 a2 a3 c0 c1 c2 c3 W (h.below hw) hc2 hc3 (hgl.below hw))
  have DRA := Lib.hid (fun (W : World) (t : ByteArray) (ht : t.size ≤ maxLen) (hw : Below w.heap.size w W) => gRead_any t W (hgl.below hw) ht)
  have DRB := Lib.hid (fun (W : World) (t : ByteArray) (ht : t.size ≤ maxLen) (hw : Below w.heap.size w W) => rRead_any t W (hgl.below hw) ht)
  have DS := Lib.hid (fun (W : World) (u : Gar) (x0 x1 x2 x3 y0 y1 y2 y3 : Option Addr) (e0 e1 e2 e3 f0 f1 f2 f3 : Nat) (hx : GarIn W u x0 x1 x2 x3) (hy : GarIn W u y0 y1 y2 y3) => same_any u x0 x1 x2 x3 y0 y1 y2 y3 e0 e1 e2 e3 f0 f1 f2 f3 W hx hy)
  have DT := Lib.hid (fun W => told_any W)
  unfold garV at DPA DPB DS ⊢
  have HBK := Lib.hid (fun (hz : printE g = 0) => print_back hz)
  obtain ⟨E, hE⟩ : ∃ E, printE g = E := ⟨_, rfl⟩
  obtain ⟨S, hS⟩ : ∃ S, printS g = S := ⟨_, rfl⟩
  rw [hE, hS] at DPA DPB HBK
  obtain ⟨⟨L, n, er⟩, hL⟩ : ∃ x, readE s = x := ⟨_, rfl⟩
  obtain ⟨u, hu⟩ : ∃ u, gOf L = u := ⟨_, rfl⟩
  have HRD := Lib.hid (fun (w1 w2 : World) (e : Ending) (hr : RdR s w1 e w2) => RdR.open (g := u) hL (by rw [hu]; exact SameG.refl u) hr)
  have hee : (E != E) = false := by simp
  have hnn : (n != n) = false := by simp
  have hrr : (er != er) = false := by simp
  have hss : (S.toList != S.toList) = false := by simp
  clear hl0' hV0 hb0 h hgl hE hS hL hu
  go_enter Tryz.func3, Tryz.ntmps3
  go_upto_region 1 with (fail)
  rw [HV0.out]
  refine ext_wp fun X0 => ?_
  go_upto_region 2 with (go_at_call 4; refine (DPA.out _ (X0.down HDN0.out hs0')).mono ?_; rintro e y1 ⟨rfl, hy1⟩)
  obtain ⟨Y1, rfl⟩ : ∃ Y : Ext V0, y1 = Y.1 := ⟨⟨y1, below_step X0.2 hy1⟩, rfl⟩
  clear hy1
  go_upto_region 3 with (go_at_call 5; refine (DPB.out _ (Y1.down HDN0.out hs0')).mono ?_; rintro e y2 ⟨rfl, hy2⟩)
  obtain ⟨Y2, rfl⟩ : ∃ Y : Ext V0, y2 = Y.1 := ⟨⟨y2, below_step Y1.2 hy2⟩, rfl⟩
  clear hy2
  go_upto_region 4 with (go_at_call 6; refine (DRA.out _ s hs (Y2.down HDN0.out hs0')).mono ?_; intro e y3 hr; obtain ⟨b30, b31, b32, b33, d30, d31, d32, d33, rfl, hin3, hy3⟩ := HRD.out _ _ _ hr; clear hr; refine Hid.out ?_)
  refine Lib.hid ?_
  obtain ⟨Y3, rfl⟩ : ∃ Y : Ext V0, y3 = Y.1 := ⟨⟨y3, below_step Y2.2 hy3⟩, rfl⟩
  clear hy3
  go_upto_region 4 with (fail)
  obtain ⟨V3, hV3, hvb3, hvs3, hvq3⟩ := alloc_block Y3.1 #[.slice b30 u.np d30, .slice b31 u.ns d31, .slice b32 u.nm d32, .slice b33 u.nu d33] 27
  rw [hV3]
  obtain ⟨p3, hp3⟩ : ∃ p, Y3.1.heap.size = p := ⟨_, rfl⟩
  rw [hp3] at hvq3 ⊢
  have hre3 := below_step Y3.2 hvb3
  replace G0 := Ext.re hre3 G0
  replace G1 := Ext.re hre3 G1
  replace G2 := Ext.re hre3 G2
  replace G3 := Ext.re hre3 G3
  have q30 := Ext.ex (show V3.cell? ⟨p3, 0, none⟩ = some (.slice b30 u.np d30) from block_cell hvq3 rfl)
  have q31 := Ext.ex (show V3.cell? ⟨p3, 1, none⟩ = some (.slice b31 u.ns d31) from block_cell hvq3 rfl)
  have q32 := Ext.ex (show V3.cell? ⟨p3, 2, none⟩ = some (.slice b32 u.nm d32) from block_cell hvq3 rfl)
  have q33 := Ext.ex (show V3.cell? ⟨p3, 3, none⟩ = some (.slice b33 u.nu d33) from block_cell hvq3 rfl)
  have HDN3 := Lib.hid (HDN0.out.trans (hre3.mono HDN0.out.size))
  have HI3 := Lib.hid (hin3.below hvb3)
  have HIA := Lib.hid (HIA.out.below hre3)
  clear hV3 hvb3 hvs3 hvq3 hre3 hp3 hin3
  refine ext_wp fun X3 => ?_
  have hs3' : w.heap.size ≤ V3.heap.size := HDN3.out.size
  go_upto_region 5 with (go_at_call 7; refine (DRB.out _ s hs (X3.down HDN3.out hs3')).mono ?_; intro e y4 hr; obtain ⟨b40, b41, b42, b43, d40, d41, d42, d43, rfl, hin4, hy4⟩ := HRD.out _ _ _ hr; clear hr; refine Hid.out ?_)
  refine Lib.hid ?_
  obtain ⟨Y4, rfl⟩ : ∃ Y : Ext V3, y4 = Y.1 := ⟨⟨y4, below_step X3.2 hy4⟩, rfl⟩
  clear hy4
  go_upto_region 5 with (fail)
  obtain ⟨V4, hV4, hvb4, hvs4, hvq4⟩ := alloc_block Y4.1 #[.slice b40 u.np d40, .slice b41 u.ns d41, .slice b42 u.nm d42, .slice b43 u.nu d43] 27
  rw [hV4]
  obtain ⟨p4, hp4⟩ : ∃ p, Y4.1.heap.size = p := ⟨_, rfl⟩
  rw [hp4] at hvq4 ⊢
  have hre4 := below_step Y4.2 hvb4
  replace G0 := Ext.re hre4 G0
  replace G1 := Ext.re hre4 G1
  replace G2 := Ext.re hre4 G2
  replace G3 := Ext.re hre4 G3
  replace q30 := Ext.re hre4 q30
  replace q31 := Ext.re hre4 q31
  replace q32 := Ext.re hre4 q32
  replace q33 := Ext.re hre4 q33
  have q40 := Ext.ex (show V4.cell? ⟨p4, 0, none⟩ = some (.slice b40 u.np d40) from block_cell hvq4 rfl)
  have q41 := Ext.ex (show V4.cell? ⟨p4, 1, none⟩ = some (.slice b41 u.ns d41) from block_cell hvq4 rfl)
  have q42 := Ext.ex (show V4.cell? ⟨p4, 2, none⟩ = some (.slice b42 u.nm d42) from block_cell hvq4 rfl)
  have q43 := Ext.ex (show V4.cell? ⟨p4, 3, none⟩ = some (.slice b43 u.nu d43) from block_cell hvq4 rfl)
  have HDN4 := Lib.hid (HDN3.out.trans (hre4.mono HDN3.out.size))
  have HI4 := Lib.hid (hin4.below hvb4)
  have HIA := Lib.hid (HIA.out.below hre4)
  have HI3 := Lib.hid (HI3.out.below hre4)
  clear hV4 hvb4 hvs4 hvq4 hre4 hp4 hin4
  refine ext_wp fun X4 => ?_
  have hs4' : w.heap.size ≤ V4.heap.size := HDN4.out.size
  go_upto_region 7 with (go_at_call 8; refine (DS.out _ u b30 b31 b32 b33 b40 b41 b42 b43 d30 d31 d32 d33 d40 d41 d42 d43 (HI3.out.below X4.2) (HI4.out.below X4.2)).mono ?_; rintro e y5 ⟨rfl, hy5⟩)
  obtain ⟨Y5, rfl⟩ : ∃ Y : Ext V4, y5 = Y.1 := ⟨⟨y5, below_step X4.2 hy5⟩, rfl⟩
  clear hy5
  by_cases hz : E = 0
  case neg =>
    have z1 : (E != 0) = true := by simpa using hz
    clear hz
    go_wp2_with (go_at_call 9; refine (DT.out _).mono ?_; rintro e yt ⟨rfl, hyt⟩)
    go_ret
    exact ⟨rfl, ((Y5.down HDN4.out hs4').trans (hyt.mono (Y5.down HDN4.out hs4').size))⟩
  case pos =>
    subst hz
    have z1 : ((0 : Int) != 0) = false := rfl
    obtain ⟨L2, hL2, hsg, hsz⟩ := HBK.out rfl
    have HRD2 := Lib.hid (fun (w1 w2 : World) (e : Ending) (hr : RdR S w1 e w2) => RdR.open hL2 hsg hr)
    clear hL2 hsg
    go_upto_region 9 with (fail)
    go_upto_region 10 with (go_at_call 6; refine (DRA.out _ S (by omega) (Y5.down HDN4.out hs4')).mono ?_; intro e y6 hr; obtain ⟨b60, b61, b62, b63, d60, d61, d62, d63, rfl, hin6, hy6⟩ := HRD2.out _ _ _ hr; clear hr; refine Hid.out ?_)
    refine Lib.hid ?_
    obtain ⟨Y6, rfl⟩ : ∃ Y : Ext V4, y6 = Y.1 := ⟨⟨y6, below_step Y5.2 hy6⟩, rfl⟩
    clear hy6
    go_upto_region 10 with (fail)
    obtain ⟨V6, hV6, hvb6, hvs6, hvq6⟩ := alloc_block Y6.1 #[.slice b60 g.np d60, .slice b61 g.ns d61, .slice b62 g.nm d62, .slice b63 g.nu d63] 27
    rw [hV6]
    obtain ⟨p6, hp6⟩ : ∃ p, Y6.1.heap.size = p := ⟨_, rfl⟩
    rw [hp6] at hvq6 ⊢
    have hre6 := below_step Y6.2 hvb6
    replace G0 := Ext.re hre6 G0
    replace G1 := Ext.re hre6 G1
    replace G2 := Ext.re hre6 G2
    replace G3 := Ext.re hre6 G3
    replace q30 := Ext.re hre6 q30
    replace q31 := Ext.re hre6 q31
    replace q32 := Ext.re hre6 q32
    replace q33 := Ext.re hre6 q33
    replace q40 := Ext.re hre6 q40
    replace q41 := Ext.re hre6 q41
    replace q42 := Ext.re hre6 q42
    replace q43 := Ext.re hre6 q43
    have q60 := Ext.ex (show V6.cell? ⟨p6, 0, none⟩ = some (.slice b60 g.np d60) from block_cell hvq6 rfl)
    have q61 := Ext.ex (show V6.cell? ⟨p6, 1, none⟩ = some (.slice b61 g.ns d61) from block_cell hvq6 rfl)
    have q62 := Ext.ex (show V6.cell? ⟨p6, 2, none⟩ = some (.slice b62 g.nm d62) from block_cell hvq6 rfl)
    have q63 := Ext.ex (show V6.cell? ⟨p6, 3, none⟩ = some (.slice b63 g.nu d63) from block_cell hvq6 rfl)
    have HDN6 := Lib.hid (HDN4.out.trans (hre6.mono HDN4.out.size))
    have HI6 := Lib.hid (hin6.below hvb6)
    have HIA := Lib.hid (HIA.out.below hre6)
    have HI3 := Lib.hid (HI3.out.below hre6)
    have HI4 := Lib.hid (HI4.out.below hre6)
    clear hV6 hvb6 hvs6 hvq6 hre6 hp6 hin6
    refine ext_wp fun X6 => ?_
    have hs6' : w.heap.size ≤ V6.heap.size := HDN6.out.size
    go_wp2_with (first | (go_at_call 8; refine (DS.out _ g b60 b61 b62 b63 a0 a1 a2 a3 d60 d61 d62 d63 c0 c1 c2 c3 (HI6.out.below X6.2) (HIA.out.below X6.2)).mono ?_; rintro e y7 ⟨rfl, hy7⟩) | (go_at_call 9; refine (DT.out _).mono ?_; rintro e yt ⟨rfl, hyt⟩))
    go_ret
    have hx := below_step X6.2 hy7
    have hd := HDN6.out.trans (hx.mono hs6')
    exact ⟨rfl, hd.trans (hyt.mono hd.size)⟩
end Go.Proofs.YthdmceeipmmhjaaGreatDoor

/- A garage that came in by value: how it reads. -/
namespace Go.Proofs.YthdmceeipmmhjaaGreatDoor
open Go.ChangeShapes Go.WideShapes Go.ChangeAt Go.RowKit Go.Deep

theorem laidOut : laidOutB Tryz.prog = true := by kernel_rfl
theorem readGarage : Tryz.prog.readableRec 27 = true := by kernel_rfl
theorem rowGarage : 27 < Tryz.prog.types.size := of_decide_eq_true (by kernel_rfl)
def intV : Value → Int
  | .int _ n => n
  | _ => 0
def strV : Value → ByteArray
  | .string s => s
  | _ => ByteArray.empty
theorem RowK.congr {w : World} {a : Option Addr} {len k : Nat} {V V' : Nat → List Value} (h : RowK w a len k V) (he : ∀ i, i < len → V i = V' i) : RowK w a len k V' :=
  ⟨fun h0 => by
    obtain ⟨b, off, e, hb, hc⟩ := h.here h0
    exact ⟨b, off, e, hb, fun i hi j hj => by rw [hc i hi j hj, he i hi]⟩⟩
section
variable {H : Type} {enc : TypeId × Value → H} {P : Program} {w : World} {base : Nat}
theorem field_str {V : List Value} {j : Nat} {t : TypeId} (ht : P.underlying t = some .string) (h : ∃ u n y, V[j]? = some u ∧ DataW.trod enc P w base (fun _ => true) true n t [u] = some y) :
    V[j]? = some (.string (strV (V.getD j (.bool false)))) ∧ (strV (V.getD j (.bool false))).size ≤ maxLen := by
  obtain ⟨u, n, y, hu, hd⟩ := h
  obtain ⟨s, e, _, hs⟩ := DataW.trod_string ht hd
  simp only [List.cons.injEq, and_true] at e
  subst e
  rw [List.getD_eq_getElem?_getD, hu]
  exact ⟨rfl, hs⟩
theorem field_int {V : List Value} {j : Nat} {t : TypeId} (ht : P.underlying t = some (.int .i64)) (h : ∃ u n y, V[j]? = some u ∧ DataW.trod enc P w base (fun _ => true) true n t [u] = some y) :
    V[j]? = some (.int .i64 (intV (V.getD j (.bool false)))) := by
  obtain ⟨u, n, y, hu, hd⟩ := h
  obtain ⟨s, e, _, hs⟩ := DataW.trod_int ht hd
  simp only [List.cons.injEq, and_true] at e
  subst e
  rw [List.getD_eq_getElem?_getD, hu]
  rfl
end
theorem list2 {V : List Value} {a b : Value} (hl : V.length = 2) (h0 : V[0]? = some a) (h1 : V[1]? = some b) : V = [a, b] := by
  match V, hl with
  | [x, y], _ => simp at h0 h1; rw [h0, h1]
theorem list4 {V : List Value} {a b c d : Value} (hl : V.length = 4) (h0 : V[0]? = some a) (h1 : V[1]? = some b) (h2 : V[2]? = some c) (h3 : V[3]? = some d) : V = [a, b, c, d] := by
  match V, hl with
  | [x, y, z, u], _ => simp at h0 h1 h2 h3; rw [h0, h1, h2, h3]
theorem list5 {V : List Value} {a b c d e : Value} (hl : V.length = 5) (h0 : V[0]? = some a) (h1 : V[1]? = some b) (h2 : V[2]? = some c) (h3 : V[3]? = some d) (h4 : V[4]? = some e) : V = [a, b, c, d, e] := by
  match V, hl with
  | [x, y, z, u, v], _ => simp at h0 h1 h2 h3 h4; rw [h0, h1, h2, h3, h4]

set_option maxRecDepth 100000 in
theorem open_garage {H : Type} {enc : TypeId × Value → H} {W : World} {r : Reach} {b0 base : Nat} {v : Value} {d : DataW H} {p : List MemPlace}
    (hv : Value.okWide Tryz.prog W r b0 27 v) (h : DataW.Trod enc Tryz.prog W base (fun _ => true) true 27 v d p) :
    ∃ (g : Gar) (a0 a1 a2 a3 : Option Addr) (c0 c1 c2 c3 : Nat), v = garV g a0 a1 a2 a3 c0 c1 c2 c3 ∧ GarIn W g a0 a1 a2 a3 ∧ g.nm ≤ c2 ∧ g.nu ≤ c3 := by
  obtain ⟨v0, v1, v2, v3, y0, y1, y2, y3, m, rfl, _, _, h0, h1, h2, h3⟩ := Go.Joins.open_agg4 Tryz.underlying27 (by kernel_rfl) (by kernel_rfl) hv h
  obtain ⟨a0, n0, c0, V0, rfl, l0, m0, R0, F0⟩ := open_rowK Tryz.underlying22 Tryz.underlying43 (by kernel_rfl) (by decide) (hone_of (by kernel_rfl)) h0
  obtain ⟨a1, n1, c1, V1, rfl, l1, m1, R1, F1⟩ := open_rowK Tryz.underlying23 Tryz.underlying50 (by kernel_rfl) (by decide) (hone_of (by kernel_rfl)) h1
  obtain ⟨a2, n2, c2, V2, rfl, l2, m2, R2, F2⟩ := open_rowK Tryz.underlying24 Tryz.underlying52 (by kernel_rfl) (by decide) (hone_of (by kernel_rfl)) h2
  obtain ⟨a3, n3, c3, V3, rfl, l3, m3, R3, F3⟩ := open_rowK Tryz.underlying25 Tryz.underlying54 (by kernel_rfl) (by decide) (hone_of (by kernel_rfl)) h3
  have hm : maxLen = 9223372036854775807 := rfl
  have S := Tryz.underlying9
  have I := Tryz.underlying3
  refine ⟨{ np := n0, ns := n1, nm := n2, nu := n3,
            pn := fun i => strV ((V0 i).getD 0 (.bool false)), pc := fun i => intV ((V0 i).getD 1 (.bool false)),
            sn := fun i => strV ((V1 i).getD 0 (.bool false)), sr := fun i => strV ((V1 i).getD 1 (.bool false)),
            ms := fun i => strV ((V2 i).getD 0 (.bool false)), mp := fun i => strV ((V2 i).getD 1 (.bool false)), mf := fun i => intV ((V2 i).getD 2 (.bool false)), mt := fun i => intV ((V2 i).getD 3 (.bool false)),
            un := fun i => strV ((V3 i).getD 0 (.bool false)), ur := fun i => strV ((V3 i).getD 1 (.bool false)), uf := fun i => intV ((V3 i).getD 2 (.bool false)), us := fun i => intV ((V3 i).getD 3 (.bool false)), uw := fun i => intV ((V3 i).getD 4 (.bool false)) },
    a0, a1, a2, a3, c0, c1, c2, c3, rfl, ⟨?_, ?_, ?_, ?_, ?_, ?_, ?_, ?_, ?_, ?_, ?_, ?_⟩, l2, l3⟩
  · exact R0.congr fun i hi => list2 (F0 i hi).1 (field_str S ((F0 i hi).2 0 _ rfl)).1 (field_int I ((F0 i hi).2 1 _ rfl))
  · exact R1.congr fun i hi => list2 (F1 i hi).1 (field_str S ((F1 i hi).2 0 _ rfl)).1 (field_str S ((F1 i hi).2 1 _ rfl)).1
  · exact R2.congr fun i hi => list4 (F2 i hi).1 (field_str S ((F2 i hi).2 0 _ rfl)).1 (field_str S ((F2 i hi).2 1 _ rfl)).1 (field_int I ((F2 i hi).2 2 _ rfl)) (field_int I ((F2 i hi).2 3 _ rfl))
  · exact R3.congr fun i hi => list5 (F3 i hi).1 (field_str S ((F3 i hi).2 0 _ rfl)).1 (field_str S ((F3 i hi).2 1 _ rfl)).1 (field_int I ((F3 i hi).2 2 _ rfl)) (field_int I ((F3 i hi).2 3 _ rfl)) (field_int I ((F3 i hi).2 4 _ rfl))
  · exact fun i hi => (field_str S ((F0 i hi).2 0 _ rfl)).2
  · exact fun i hi => ⟨(field_str S ((F1 i hi).2 0 _ rfl)).2, (field_str S ((F1 i hi).2 1 _ rfl)).2⟩
  · exact fun i hi => ⟨(field_str S ((F2 i hi).2 0 _ rfl)).2, (field_str S ((F2 i hi).2 1 _ rfl)).2⟩
  · exact fun i hi => ⟨(field_str S ((F3 i hi).2 0 _ rfl)).2, (field_str S ((F3 i hi).2 1 _ rfl)).2⟩
  · show ((n0 : Nat) : Int) ≤ _; omega
  · show ((n1 : Nat) : Int) ≤ _; omega
  · show ((n2 : Nat) : Int) ≤ _; omega
  · show ((n3 : Nat) : Int) ≤ _; omega
end Go.Proofs.YthdmceeipmmhjaaGreatDoor
