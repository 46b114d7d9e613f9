/- Gear: the ways of the pieces, in plain numbers. -/
import Derived.Test.YtbkpoepacjinlaaPd
import Derived.Test.YtbkpoepacjinlaaGx
namespace Go.Proofs.Ytbkpoepacjinlaa
open Go.RowKit
open Shr (sumF quo rst)

/-- the order of the rests -/
def ordL (R : Nat → Int) (n : Nat) : List Nat := (List.range n).mergeSort fun i k => decide (R k < R i ∨ R k = R i ∧ i ≤ k)
theorem ordL_ord (R : Nat → Int) (n : Nat) : Shr.IsOrd R n (ordL R n) := by
  refine ⟨List.mergeSort_perm _ _, ?_⟩
  have h1 := List.pairwise_mergeSort (le := fun i k => decide (R k < R i ∨ R k = R i ∧ i ≤ k)) (by intro a b c; simp only [decide_eq_true_eq]; omega) (by intro a b; simp only [Bool.or_eq_true, decide_eq_true_eq]; omega) (List.range n)
  have h2 : (ordL R n).Nodup := (List.mergeSort_perm _ _).nodup_iff.2 List.nodup_range
  exact (h1.and h2).imp (by intro a b h; simp only [decide_eq_true_eq] at h; unfold Shr.Bef; omega)
/-- the i-th part of T by the weights W -/
def wayG (T S : Int) (W : Nat → Int) (n i : Nat) : Int := PartF T S W (ordL (rst T S W) n) (T - sumF (quo T S W) n).toNat i
theorem wayG_of {T S : Int} {W : Nat → Int} {n : Nat} {l : List Nat} (h : Shr.IsOrd (rst T S W) n l) (i : Nat) : PartF T S W l (T - sumF (quo T S W) n).toNat i = wayG T S W n i := by
  rw [h.unique (ordL_ord _ _)]
  rfl
def pget (l : List Pcs.Pc) (i : Nat) : Pcs.Pc := l.getD i (⟨#[]⟩, 0)
def secW (l : List Pcs.Pc) (i : Nat) : Int := (pget l i).2
theorem sum_take (l : List Pcs.Pc) : ∀ k, k ≤ l.length → sumF (secW l) k = Pcs.secs (l.take k)
  | 0, _ => by simp [sumF, Pcs.secs]
  | k + 1, hk => by
    rw [sumF, sum_take l k (by omega), List.take_succ_eq_append_getElem (by omega)]
    unfold Pcs.secs secW pget
    rw [List.map_append, List.sum_append]
    simp [List.getD, List.getElem?_eq_getElem (show k < l.length by omega)]
theorem secs_le {l : List Pcs.Pc} (h : ∀ q, q ∈ l → 0 < q.2) {q : Pcs.Pc} (hq : q ∈ l) : q.2 ≤ Pcs.secs l := by
  induction l with
  | nil => simp at hq
  | cons a l ih =>
    have h0 := h a (by simp)
    have h1 : (l.length : Int) ≤ Pcs.secs l := Pcs.secs_ge l fun x hx => h x (by simp [hx])
    unfold Pcs.secs at *
    rw [List.map_cons, List.sum_cons]
    rcases List.mem_cons.1 hq with rfl | hq
    · omega
    · have := ih (fun x hx => h x (by simp [hx])) hq
      omega
theorem pget_mem {l : List Pcs.Pc} {i : Nat} (hi : i < l.length) : pget l i ∈ l := by
  unfold pget
  rw [List.getD, List.getElem?_eq_getElem hi]
  exact List.getElem_mem hi
/-- the pieces of a right use in a right slot -/
structure Good (l : List Pcs.Pc) (us : Int) : Prop where
  pos : ∀ q, q ∈ l → 0 < q.2
  sum : Pcs.secs l = us
theorem good_pieces {uf us : Int} {ms : List Pcs.Mnt} (h : Pcs.Ord ms) (h2 : 1 ≤ us) : Good (Pcs.pieces uf (uf + us) ms) us := by
  have h3 := Pcs.rp_fill (last := uf + us) (ms := ms) us.toNat uf (by omega) (by omega)
  rw [Pcs.pieces_eq h (n := us.toNat) (by omega)] at h3
  exact ⟨h3.2, by rw [h3.1]; omega⟩
theorem Good.len {l : List Pcs.Pc} {us : Int} (h : Good l us) : (l.length : Int) ≤ us := by
  rw [← h.sum]
  exact Pcs.secs_ge l h.pos
theorem Good.ne {l : List Pcs.Pc} {us : Int} (h : Good l us) (h2 : 1 ≤ us) : 0 < l.length := by
  cases l with
  | nil => have := h.sum; simp [Pcs.secs] at this; omega
  | cons a l => simp
theorem Good.fine {l : List Pcs.Pc} {us uw : Int} (h : Good l us) (h2 : 1 ≤ us) (h3 : us ≤ 1000000) (h4 : 0 ≤ uw) (h5 : uw ≤ 1000000000) : Fine uw (secW l) l.length us := by
  have hw : ∀ i, i < l.length → 0 ≤ secW l i ∧ secW l i ≤ 1000000 := fun i hi => by
    have h6 := h.pos _ (pget_mem hi)
    have h7 := secs_le h.pos (pget_mem hi)
    have h8 := h.sum
    unfold secW
    omega
  refine ⟨h4, by omega, by have := h.len; omega, fun i hi => (hw i hi).1, fun i hi => ?_, by omega, by omega, ?_⟩
  · have h9 : uw * secW l i ≤ 1000000000 * 1000000 := Int.mul_le_mul h5 (hw i hi).2 (hw i hi).1 (by omega)
    omega
  · rw [sum_take l _ (Nat.le_refl _), List.take_length, h.sum]
/-- rows of rows of five -/
theorem flat5 {f : Pcs.Pc → List Value} (hf : ∀ q, (f q).length = 5) : ∀ (l : List Pcs.Pc) (k j : Nat), k < l.length → j < 5 → (l.flatMap f)[k * 5 + j]? = (f (pget l k))[j]?
  | [], k, j, h, _ => by simp at h
  | q :: l, 0, j, _, hj => by
    rw [List.flatMap_cons, Nat.zero_mul, Nat.zero_add, List.getElem?_append_left (by rw [hf]; exact hj)]
    rfl
  | q :: l, k + 1, j, h, hj => by
    rw [List.flatMap_cons, List.getElem?_append_right (by rw [hf]; omega), hf, show (k + 1) * 5 + j - 5 = k * 5 + j by omega]
    exact flat5 hf l k j (by simpa using h) hj
end Go.Proofs.Ytbkpoepacjinlaa
