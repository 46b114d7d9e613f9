/- Several texts of this claim in one. -/
import Derived.Test.YtjnfccphodjfiaaGreatMs4
import Derived.Test.YtjnfccphodjfiaaGreatMs2
import Derived.Test.YtjnfccphodjfiaaGreatMs5
import Derived.Shelf.Spec.SearchS
import Derived.Test.YtjnfccphodjfiaaGreatShelfB
namespace Go.Proofs.YtjnfccphodjfiaaGreat
set_option maxHeartbeats 8000000
set_option maxRecDepth 100000
open Go.RowKit Go.BigFrame
open Tr (Ed)
theorem ERow.mk2 {W : World} {g : Nat} {l : List Ed} (hg : g < W.heap.size) (hc : ∀ i v, (l.flatMap edC)[i]? = some v → W.cell? ⟨g, i, none⟩ = some v) : ERow W (some ⟨g, 0, none⟩) l := by
 refine ⟨fun _ => ⟨g, 0, rfl, hg, fun i x hx j v hv => ?_⟩⟩; rw [Nat.zero_add]; exact hc _ v (flatEd_get l i x hx j v hv)
def sy1 : ByteArray := ⟨#[120]⟩
def toldM : List Ed := [⟨6, 5, 0, 0, noB⟩, ⟨3, 0, 0, 0, sy1⟩, ⟨5, 10, 0, 0, noB⟩, ⟨6, -5, 0, 0, noB⟩, ⟨4, 0, 0, 0, sy1⟩, ⟨5, 20, 0, 0, noB⟩]
theorem toldM_chk : chkEL toldM = 0 := by kernel_rfl
theorem toldM_tidy : tidyR toldM = [⟨5, 30, 0, 0, noB⟩] := by kernel_rfl
theorem toldM_text : ∀ x, x ∈ toldM → x.s.size ≤ maxLen := by
 intro x hx; unfold toldM at hx; simp only [List.mem_cons, List.not_mem_nil, or_false] at hx; unfold maxLen; rcases hx with rfl | rfl | rfl | rfl | rfl | rfl
 · show (0 : Nat) ≤ _; omega
 · show (1 : Nat) ≤ _; omega
 · show (0 : Nat) ≤ _; omega
 · show (0 : Nat) ≤ _; omega
 · show (1 : Nat) ≤ _; omega
 · show (0 : Nat) ≤ _; omega
theorem told2_any (w : World) : Calls Tryz.prog 12 #[] w fun e w' => e = .returned (.bool true) ∧ Below w.heap.size w w' := by
 obtain ⟨V1, hV1, hb1, hs1, hl1⟩ := alloc_cells w #[.int .i64 6, .int .i64 5, .int .i64 0, .int .i64 0, .string noB, .int .i64 3, .int .i64 0, .int .i64 0, .int .i64 0, .string sy1, .int .i64 5, .int .i64 10, .int .i64 0, .int .i64 0, .string noB, .int .i64 6, .int .i64 (-5), .int .i64 0, .int .i64 0, .string noB, .int .i64 4, .int .i64 0, .int .i64 0, .int .i64 0, .string sy1, .int .i64 5, .int .i64 20, .int .i64 0, .int .i64 0, .string noB] 28; have hrow : ERow V1 (some ⟨w.heap.size, 0, none⟩) toldM := .mk2 (by omega) (fun i v hv => hl1 i v (by
  rw [← hv]; show _ = (toldM.flatMap edC)[i]?; rw [show toldM.flatMap edC = (#[.int .i64 6, .int .i64 5, .int .i64 0, .int .i64 0, .string noB, .int .i64 3, .int .i64 0, .int .i64 0, .int .i64 0, .string sy1, .int .i64 5, .int .i64 10, .int .i64 0, .int .i64 0, .string noB, .int .i64 6, .int .i64 (-5), .int .i64 0, .int .i64 0, .string noB, .int .i64 4, .int .i64 0, .int .i64 0, .int .i64 0, .string sy1, .int .i64 5, .int .i64 20, .int .i64 0, .int .i64 0, .string noB] : Array Value).toList from rfl, Array.getElem?_toList]))
 have DT := qH (tidy_any (some ⟨w.heap.size, 0, none⟩) toldM 6 V1 hrow toldM_text); rw [toldM_tidy, toldM_chk, show toldM.length = 6 from rfl] at DT; have HV1 := qH hV1; have HB1 := qH hb1; clear hV1 hb1 hs1 hl1 hrow; unfold noB sy1 at *; go_enter Tryz.func12, Tryz.ntmps12; go_wp2_with fail; rw [HV1.out]; refine DT.out.mono ?_; rintro e w1 ⟨⟨v, rfl, ho⟩, hb⟩; obtain ⟨a1, c1, rfl, _, hr1, _⟩ := ho.row; obtain ⟨V2, hV2, hb2, hs2, hl2⟩ := alloc_cells w1 #[.int .i64 5, .int .i64 30, .int .i64 0, .int .i64 0, .string ⟨#[]⟩] 28; have hrow2 : ERow V2 (some ⟨w1.heap.size, 0, none⟩) [⟨5, 30, 0, 0, ⟨#[]⟩⟩] := .mk2 (by omega) (fun i v hv => hl2 i v (by
  rw [← hv]; show _ = ([⟨5, 30, 0, 0, ⟨#[]⟩⟩].flatMap edC)[i]?; rw [show [⟨5, 30, 0, 0, ⟨#[]⟩⟩].flatMap edC = (#[.int .i64 5, .int .i64 30, .int .i64 0, .int .i64 0, .string ⟨#[]⟩] : Array Value).toList from rfl, Array.getElem?_toList]))
 have DQ := qH (equalE_any [⟨5, 30, 0, 0, ⟨#[]⟩⟩] [⟨5, 30, 0, 0, ⟨#[]⟩⟩] a1 (some ⟨w1.heap.size, 0, none⟩) c1 1 V2 (hr1.below hb2) hrow2 (by simp)); rw [eqEs_self] at DQ; simp only [List.length_singleton] at DQ; have HB2 := qH (bStp (bStp HB1.out hb) hb2); have HV2 := qH hV2; clear ho hb hr1 hV2 hb2 hs2 hl2 hrow2 DT; simp only [List.length_singleton]; go_wp2_with fail; rw [HV2.out]; refine DQ.out.mono ?_; rintro e w3 ⟨rfl, q, rfl⟩; go_wp2_with fail; go_ret; exact ⟨rfl, below_drewN HB2.out q⟩
open Tr (inR)
def Az : Acv := ⟨⟨#[]⟩, 0, 0, [], [], []⟩
theorem actV_z : actV Az none none none 0 0 0 = ac0 := rfl
theorem Rw.nil_ {α : Type} {C : α → List Value} {k : Nat} {w : World} {a : Option Addr} : Rw C k w a [] := ⟨fun h => absurd h (by simp)⟩
theorem actIn_z (w : World) : ActIn w Az none none none := ⟨Rw.nil_, Rw.nil_, Rw.nil_, by show (0 : Nat) ≤ _; omega, fun p h => by (cases h), fun p h => by (cases h), by show ((0 : Nat) : Int) ≤ _; omega, by show ((0 : Nat) : Int) ≤ _; omega, by show ((0 : Nat) : Int) ≤ _; omega⟩
open Tr (inR Ed)
def delT (s : ByteArray) (T : List ByteArray) : List ByteArray := T.filter fun t => decide (t ≠ s)
def lowT (s : ByteArray) : List ByteArray → Nat
 | [] => 0
 | t :: T => if Op.bytesLess (bL t) (bL s) = true then lowT s T + 1 else 0
theorem lowT_le (s : ByteArray) : ∀ T, lowT s T ≤ T.length
 | [] => Nat.le_refl _
 | t :: T => by
  rw [lowT]
  split
  · have := lowT_le s T
    simp only [List.length_cons]; omega
  · exact Nat.zero_le _
theorem less_iff {a b : List UInt8} : Op.bytesLess a b = true ↔ a < b := by rw [bytesLess_eq, decide_eq_true_eq]
theorem lowT_before (s : ByteArray) : ∀ (T : List ByteArray) (i : Nat) (t : ByteArray), i < lowT s T → T[i]? = some t → bL t < bL s
 | [], i, t, h, _ => by simp [lowT] at h
 | u :: T, i, t, h, ht => by
  rw [lowT] at h
  split at h
  · rename_i hu
    match i, ht with
    | 0, ht => injection ht with ht; subst ht; exact less_iff.1 hu
    | i + 1, ht => exact lowT_before s T i t (by omega) ht
  · omega
theorem lowT_behind {s : ByteArray} : ∀ {T : List ByteArray}, T.Pairwise (fun x y => bL x < bL y) → ∀ (i : Nat) (t : ByteArray), lowT s T ≤ i → T[i]? = some t → ¬ bL t < bL s
 | [], _, i, t, _, ht => by simp at ht
 | u :: T, hs, i, t, h, ht => by
  have hs' := List.pairwise_cons.1 hs; rw [lowT] at h
  split at h
  · match i, ht with
    | 0, _ => omega
    | i + 1, ht => exact lowT_behind hs'.2 i t (by omega) ht
  · rename_i hu
    have hu' : ¬ bL u < bL s := fun e => hu (less_iff.2 e)
    match i, ht with
    | 0, ht => injection ht with ht; subst ht; exact hu'
    | i + 1, ht => exact fun e => hu' (List.lt_trans (hs'.1 t (List.mem_of_getElem? ht)) e)
theorem lowT_at {s : ByteArray} : ∀ {T : List ByteArray}, T.Pairwise (fun x y => bL x < bL y) → s ∈ T → T[lowT s T]? = some s
 | [], _, h => by cases h
 | u :: T, hs, h => by
  have hs' := List.pairwise_cons.1 hs; rw [lowT]; rcases List.mem_cons.1 h with rfl | h
  · rw [if_neg (fun e => bL_irr _ (less_iff.1 e))]
    rfl
  · rw [if_pos (less_iff.2 (hs'.1 s h)), List.getElem?_cons_succ]
    exact lowT_at hs'.2 h
theorem insT_is {s : ByteArray} : ∀ {T : List ByteArray}, T.Pairwise (fun x y => bL x < bL y) → s ∉ T → T.take (lowT s T) ++ [s] ++ T.drop (lowT s T) = mergeT T [s]
 | [], _, _ => by rw [mergeT, mergeT]; rfl
 | u :: T, hs, h => by
  have hs' := List.pairwise_cons.1 hs; rw [mergeT, lowT]; by_cases hu : Op.bytesLess (bL u) (bL s) = true
  · rw [if_pos hu, if_pos hu, ← insT_is hs'.2 (fun e => h (List.mem_cons_of_mem _ e))]
    rfl
  · rw [if_neg hu, if_neg hu, if_neg (fun e => h (by rw [e]; exact List.mem_cons_self)), mergeT_nil]
    rfl
where
 mergeT_nil : ∀ {l : List ByteArray}, mergeT l [] = l
  | [] => by rw [mergeT]
  | x :: l => by rw [mergeT, mergeT_nil]
theorem delT_none {s : ByteArray} {T : List ByteArray} (h : s ∉ T) : delT s T = T := List.filter_eq_self.2 (fun t ht => by simpa using fun e : t = s => h (e ▸ ht))
theorem delT_is {s : ByteArray} : ∀ {T : List ByteArray}, T.Pairwise (fun x y => bL x < bL y) → s ∈ T → T.take (lowT s T) ++ T.drop (lowT s T + 1) = delT s T
 | [], _, h => by cases h
 | u :: T, hs, h => by
  have hs' := List.pairwise_cons.1 hs; rw [lowT]; by_cases hu : u = s
  · subst hu
    rw [if_neg (fun e => bL_irr _ (less_iff.1 e))]; have : u ∉ T := fun e => bL_irr _ (hs'.1 u e)
    unfold delT; rw [List.filter_cons_of_neg (by simp)]; exact (delT_none this).symm
  · rcases List.mem_cons.1 h with e | h
    · exact absurd e.symm hu
    · rw [if_pos (less_iff.2 (hs'.1 s h))]
      unfold delT; rw [List.filter_cons_of_pos (by simpa using hu), List.take_succ_cons, List.drop_succ_cons, List.cons_append]
      congr 1
      exact delT_is hs'.2 h
def putL (x : Lp) : List Lp → List Lp
 | [] => [x]
 | p :: l => if p.f ≤ x.f then p :: putL x l else x :: p :: l
def lowL (f : Int) : List Lp → Nat
 | [] => 0
 | p :: l => if p.f < f then lowL f l + 1 else 0
def putP (x : Lp) (l : List Lp) : List Lp := l.take (lowL x.f l) ++ [x] ++ l.drop (lowL x.f l)
theorem lowL_le (f : Int) : ∀ l, lowL f l ≤ l.length
 | [] => Nat.le_refl _
 | p :: l => by
  rw [lowL]
  split
  · have := lowL_le f l
    simp only [List.length_cons]; omega
  · exact Nat.zero_le _
theorem putL_len (x : Lp) : ∀ l, (putL x l).length = l.length + 1
 | [] => rfl
 | p :: l => by
  rw [putL]
  split
  · rw [List.length_cons, putL_len x l, List.length_cons]
  · rfl
theorem putP_len (x : Lp) (l : List Lp) : (putP x l).length = l.length + 1 := by
 unfold putP; have := lowL_le x.f l; simp only [List.length_append, List.length_take, List.length_drop, List.length_singleton]; omega
theorem putL_mem {x y : Lp} : ∀ {l : List Lp}, y ∈ putL x l → y = x ∨ y ∈ l
 | [], h => by
  rcases List.mem_cons.1 h with h | h
  · exact Or.inl h
  · cases h
 | p :: l, h => by
  rw [putL] at h
  split at h
  · rcases List.mem_cons.1 h with h | h
    · exact Or.inr (by rw [h]; exact List.mem_cons_self)
    · rcases putL_mem h with h | h
      · exact Or.inl h
      · exact Or.inr (List.mem_cons_of_mem _ h)
  · rcases List.mem_cons.1 h with h | h
    · exact Or.inl h
    · exact Or.inr h
theorem firstE_at {f : Nat → Int} : ∀ {n i j : Nat}, i ≤ j → j < i + n → (∀ m, i ≤ m → m < j → f m = 0) → f j ≠ 0 → firstE f n i = f j
 | 0, i, j, h1, h2, _, _ => by omega
 | n + 1, i, j, h1, h2, h0, hj => by
  rw [firstE]; by_cases e : j = i
  · subst e
    rw [if_neg hj]
  · rw [if_pos (h0 i (Nat.le_refl _) (by omega))]
    exact firstE_at (by omega) (by omega) (fun m h3 h4 => h0 m (by omega) h4) hj
theorem put_ways (x : Lp) : ∀ (l : List Lp), l.Pairwise (fun p q => p.f < q.f) → putP x l = putL x l ∨ ∃ a p b, l = a ++ p :: b ∧ p.f = x.f ∧ putP x l = a ++ x :: p :: b ∧ putL x l = a ++ p :: x :: b
 | [], _ => Or.inl rfl
 | q :: l, hs => by
  have hs' := List.pairwise_cons.1 hs; by_cases h1 : q.f < x.f
  · have e1 : putP x (q :: l) = q :: putP x l := by
     unfold putP; rw [lowL, if_pos h1]
     rfl
    have e2 : putL x (q :: l) = q :: putL x l := by rw [putL, if_pos (by omega)]
    rcases put_ways x l hs'.2 with h | ⟨a, p, b, rfl, h2, h3, h4⟩
    · exact Or.inl (by rw [e1, e2, h])
    · exact Or.inr ⟨q :: a, p, b, rfl, h2, by rw [e1, h3]; rfl, by rw [e2, h4]; rfl⟩
  · have e1 : putP x (q :: l) = x :: q :: l := by
     unfold putP; rw [lowL, if_neg h1]
     rfl
    by_cases h2 : q.f = x.f
    · have e3 : putL x l = x :: l := by
       cases l with
       | nil => rfl
       | cons r l =>
        have := hs'.1 r List.mem_cons_self; rw [putL, if_neg (by omega)]
      refine Or.inr ⟨[], q, l, rfl, h2, e1, ?_⟩; rw [putL, if_pos (by omega), e3]
      rfl
    · exact Or.inl (by rw [e1, putL, if_neg (by omega)])
theorem lp_sorted {span : Int} {l : List Lp} (h : LpOk span l) : l.Pairwise (fun p q => p.f < q.f) := by
 rw [List.pairwise_iff_getElem]; intro i j hi hj hij; have key : ∀ (d i : Nat) (p q : Lp), l[i]? = some p → l[i + d + 1]? = some q → p.f < q.f := by
  intro d
  induction d with
  | zero =>
   intro i p q hp hq; have h1 := h.each i p hp; have h2 := h.next i p q hp hq; omega
  | succ d ih =>
   intro i p q hp hq; obtain ⟨r, hr⟩ : ∃ r, l[i + d + 1]? = some r := ⟨_, List.getElem?_eq_getElem (by have := (List.getElem?_eq_some_iff.1 hq).1; omega)⟩; have h1 := ih i p r hp hr; have h2 := h.each (i + d + 1) r hr; have h3 := h.next (i + d + 1) r q hr (by rw [show i + d + 1 + 1 = i + (d + 1) + 1 by omega]; exact hq); omega
 exact key (j - i - 1) i _ _ (List.getElem?_eq_getElem hi) (by rw [show i + (j - i - 1) + 1 = j by omega]; exact List.getElem?_eq_getElem hj)
theorem errL_take {span : Int} {l m : List Lp} {i : Nat} (h : ∀ j, j ≤ i → l[j]? = m[j]?) : errL span l i = errL span m i := by
 unfold errL ordL; rw [h i (Nat.le_refl _)]; by_cases h0 : i = 0
 · subst h0
   rfl
 · rw [h (i - 1) (by omega)]
theorem lap_same (A : Acv) (x : Lp) (hA : AcOk A) (h0 : 0 ≤ x.f) (h1 : x.f < x.t) (ht : titleB x.s = true) :
 chkA { A with lp := putP x A.lp } = chkA { A with lp := putL x A.lp } ∧ (chkA { A with lp := putL x A.lp } = 0 → putP x A.lp = putL x A.lp) := by
 rcases put_ways x A.lp (lp_sorted hA.lp) with e | ⟨a, p, b, hl, hp, e1, e2⟩
 · rw [e]
   exact ⟨rfl, fun _ => rfl⟩
 · have hO := hA.lp
   rw [hl] at hO; have hpa : (a ++ p :: b)[a.length]? = some p := by simp
   have hpo := hO.each _ p hpa
   -- the laps ahead are right in both
   have ha : ∀ (c : List Lp) (m : Nat), m < a.length → errL (spanS A.sm) (a ++ c) m = 0 := fun c m hm => by
    have h2 := firstE_zero.1 (errL_zero.2 hO) m (Nat.zero_le _) (by simp; omega); rw [← h2]; exact errL_take (fun j hj => by rw [List.getElem?_append_left (by omega), List.getElem?_append_left (by omega)])
   have hlen1 : (a ++ x :: p :: b).length = a.length + 1 + 1 + b.length := by simp; omega
   have hlen2 : (a ++ p :: x :: b).length = a.length + 1 + 1 + b.length := by simp; omega
   have x1 : (a ++ x :: p :: b)[a.length]? = some x := by simp
   have x2 : (a ++ x :: p :: b)[a.length + 1]? = some p := by simp
   have y1 : (a ++ p :: x :: b)[a.length]? = some p := by simp
   have y2 : (a ++ p :: x :: b)[a.length + 1]? = some x := by simp
   have hord : ordL (a ++ x :: p :: b) a.length x.f = false := by
    unfold ordL; by_cases hz : a.length = 0
    · rw [if_pos hz]
    · rw [if_neg hz]
      obtain ⟨r, hr⟩ : ∃ r, a[a.length - 1]? = some r := ⟨_, List.getElem?_eq_getElem (by omega)⟩; rw [List.getElem?_append_left (by omega), hr]; have h3 := hO.next (a.length - 1) r p (by rw [List.getElem?_append_left (by omega)]; exact hr) (by rw [show a.length - 1 + 1 = a.length by omega]; exact hpa); simp only [decide_eq_false_iff_not]; omega
   have hq0 : errL (spanS A.sm) (a ++ p :: x :: b) a.length = 0 := by
    have h2 := firstE_zero.1 (errL_zero.2 hO) a.length (Nat.zero_le _) (by simp); rw [← h2]; exact errL_take (fun j hj => by
     by_cases e : j < a.length
     · rw [List.getElem?_append_left e, List.getElem?_append_left e]
     · obtain rfl : j = a.length := by omega
       rw [y1, hpa])
   have hE : ∃ E, E ≠ 0 ∧ firstE (errL (spanS A.sm) (a ++ x :: p :: b)) (a ++ x :: p :: b).length 0 = E ∧ firstE (errL (spanS A.sm) (a ++ p :: x :: b)) (a ++ p :: x :: b).length 0 = E := by
    by_cases hsp : spanS A.sm < x.t
    · have z1 : errL (spanS A.sm) (a ++ x :: p :: b) a.length = 9 := errL_9 x1 (Or.inr (Or.inr hsp))
      have z2 : errL (spanS A.sm) (a ++ p :: x :: b) (a.length + 1) = 9 := errL_9 y2 (Or.inr (Or.inr hsp)); refine ⟨9, by omega, ?_, ?_⟩
      · rw [firstE_at (Nat.zero_le _) (by rw [hlen1]; omega) (fun m _ hm => ha _ m hm) (by rw [z1]; omega), z1]
      · rw [firstE_at (j := a.length + 1) (Nat.zero_le _) (by rw [hlen2]; omega) (fun m _ hm => by
         by_cases e : m = a.length
         · rw [e]; exact hq0
         · exact ha _ m (by omega)) (by rw [z2]; omega), z2]
    · have z0 : errL (spanS A.sm) (a ++ x :: p :: b) a.length = 0 := by rw [errL_title x1 (by omega) hord ht]; rfl
      have z1 : errL (spanS A.sm) (a ++ x :: p :: b) (a.length + 1) = 10 := errL_ord x2 (by omega) (by rw [ordL_succ x1, decide_eq_true_eq]; omega); have z2 : errL (spanS A.sm) (a ++ p :: x :: b) (a.length + 1) = 10 := errL_ord y2 (by omega) (by rw [ordL_succ y1, decide_eq_true_eq]; omega); refine ⟨10, by omega, ?_, ?_⟩
      · rw [firstE_at (j := a.length + 1) (Nat.zero_le _) (by rw [hlen1]; omega) (fun m _ hm => by
         by_cases e : m = a.length
         · rw [e]; exact z0
         · exact ha _ m (by omega)) (by rw [z1]; omega), z1]
      · rw [firstE_at (j := a.length + 1) (Nat.zero_le _) (by rw [hlen2]; omega) (fun m _ hm => by
         by_cases e : m = a.length
         · rw [e]; exact hq0
         · exact ha _ m (by omega)) (by rw [z2]; omega), z2]
   obtain ⟨E, hE0, h3, h4⟩ := hE; have hS := (errS_zero (start := A.start)).2 hA.sm; have k1 : ∀ L : List Lp, L.length = A.lp.length + 1 → firstE (errL (spanS A.sm) L) L.length 0 = E → chkA { A with lp := L } = if 200 < A.lp.length + 1 then 3 else E := fun L hL hLE => by
    unfold chkA; simp only; rw [if_neg (by rw [hA.name]; simp), if_neg (by rw [inR_iff.2 hA.sport]; simp), if_neg (by rw [inR_iff.2 hA.start]; simp)]; have hsz1 := hA.nsm; have hsz2 := hA.ntg; by_cases hb : 200 < A.lp.length + 1
    · rw [if_pos hb, if_pos (Or.inr (Or.inl (by rw [hL]; exact hb)))]
    · rw [if_neg hb, if_neg (by rw [hL]; omega)]
      unfold chkR; have e0 : chkSs { A with lp := L } = 0 := hS; have e1 : chkLs { A with lp := L } = E := hLE; rw [e0, e1, if_pos rfl, if_neg hE0]
   have hl1 : (putP x A.lp).length = A.lp.length + 1 := putP_len x A.lp; have hl2 : (putL x A.lp).length = A.lp.length + 1 := putL_len x A.lp; have c1 := k1 _ hl1 (by rw [e1]; exact h3); have c2 := k1 _ hl2 (by rw [e2]; exact h4); refine ⟨by rw [c1, c2], fun h => ?_⟩; rw [c2] at h
   split at h
   · omega
   · exact absurd h hE0
def raiseS (n : Int) (s : Sm) : Sm := { s with z := s.z + n }
def clearS (n : Int) (s : Sm) : Sm := if n = 1 then { s with pu := -1 } else if n = 2 then { s with po := -1 } else { s with st := -1 }
def midL (zs : List Int) : Int := (zs.mergeSort fun x y => decide (x ≤ y)).getD ((zs.length - 1) / 2) 0
def winZ (sm : List Sm) (w i : Nat) : List Int := ((sm.take (min (i + w + 1) sm.length)).drop (i - w)).map Sm.z
def levS (sm : List Sm) (w i : Nat) (s : Sm) : Sm := { s with z := midL (winZ sm w i) }
def levelS (sm : List Sm) (w : Nat) : List Sm := sm.mapIdx (levS sm w)
def getN (c : Nat) (s : Sm) : Int := if c = 0 then s.pu else if c = 1 then s.po else s.st
def setN (c : Nat) (v : Int) (s : Sm) : Sm := if c = 0 then { s with pu := v } else if c = 1 then { s with po := v } else { s with st := v }
def fillB (c : Nat) (p q s : Sm) : Sm := setN c (betw (getN c p) (getN c q) (s.tm - p.tm) (q.tm - p.tm)) s
def mapR (lo hi : Nat) (f : Sm → Sm) (l : List Sm) : List Sm := l.mapIdx fun k s => if lo ≤ k ∧ k < hi then f s else s
def passN (gap : Int) (c : Nat) (src out : List Sm) : Nat → List Sm × Option Nat
 | 0 => (out, none)
 | i + 1 => match src[i]? with
  | none => passN gap c src out i
  | some q => if getN c q < 0 then passN gap c src out i else
   match (passN gap c src out i).2 with
   | none => ((passN gap c src out i).1, some i)
   | some l => match src[l]? with
    | none => ((passN gap c src out i).1, some i)
    | some p => if q.tm - p.tm ≤ gap then (mapR (l + 1) i (fillB c p q) (passN gap c src out i).1, some i) else ((passN gap c src out i).1, some i)
def passF (gap : Int) (c : Nat) (src out : List Sm) : List Sm := (passN gap c src out src.length).1
def fillA (gap : Int) (sm : List Sm) : List Sm := passF gap 2 sm (passF gap 1 sm (passF gap 0 sm sm))
theorem mapR_len (lo hi : Nat) (f : Sm → Sm) (l : List Sm) : (mapR lo hi f l).length = l.length := by
 unfold mapR; rw [List.length_mapIdx]
theorem passN_len (gap : Int) (c : Nat) (src out : List Sm) : ∀ i, (passN gap c src out i).1.length = out.length
 | 0 => rfl
 | i + 1 => by
  have ih := passN_len gap c src out i; rw [passN]
  repeat' split
  all_goals first
   | exact ih
   | (rw [mapR_len]; exact ih)
theorem passF_len (gap : Int) (c : Nat) (src out : List Sm) : (passF gap c src out).length = out.length := passN_len _ _ _ _ _
theorem fillA_len (gap : Int) (sm : List Sm) : (fillA gap sm).length = sm.length := by
 unfold fillA; rw [passF_len, passF_len, passF_len]
def cutL (l : List Sm) (f t : Int) : List Sm := whereS l f :: (l.filter fun s => decide (f < s.tm) && decide (s.tm < t)) ++ [whereS l t]
def cutE (A : Acv) (f t : Int) : Int := if A.sm.length = 0 then 13 else if f < 0 ∨ t ≤ f ∨ spanS A.sm < t then 9 else chkA (partA A (cutL A.sm f t) f)
def hasT (s : ByteArray) (T : List ByteArray) : Bool := T.any fun t => decide (t = s)
theorem hasT_iff {s : ByteArray} {T : List ByteArray} : hasT s T = true ↔ s ∈ T := by
 unfold hasT; rw [List.any_eq_true]; exact ⟨fun ⟨t, ht, e⟩ => (of_decide_eq_true e) ▸ ht, fun h => ⟨s, h, decide_eq_true rfl⟩⟩
def appE (A : Acv) (x : Ed) : Int :=
 if x.k = 3 then (if hasT x.s A.tg = true then 5 else 0)
 else if x.k = 4 then (if hasT x.s A.tg = true then 0 else 4)
 else if x.k = 8 then cutE A x.f x.t
 else if x.k = 12 then (if (A.lp.length : Int) ≤ x.n then 4 else 0) else 0
def appZ (A : Acv) (x : Ed) : Acv :=
 if x.k = 1 then { A with name := x.s }
 else if x.k = 2 then { A with sport := x.n }
 else if x.k = 3 then { A with tg := mergeT A.tg [x.s] }
 else if x.k = 4 then { A with tg := delT x.s A.tg }
 else if x.k = 5 then { A with start := A.start + x.n }
 else if x.k = 6 then { A with sm := A.sm.map (raiseS x.n) }
 else if x.k = 7 then { A with sm := A.sm.map (clearS x.n) }
 else if x.k = 8 then partA A (cutL A.sm x.f x.t) x.f
 else if x.k = 9 then { A with sm := levelS A.sm x.n.toNat }
 else if x.k = 10 then { A with sm := fillA x.n A.sm }
 else if x.k = 11 then { A with lp := putL ⟨x.f, x.t, x.s⟩ A.lp }
 else { A with lp := A.lp.take x.n.toNat ++ A.lp.drop (x.n.toNat + 1) }
theorem appZ_1 {A : Acv} {x : Ed} (h : x.k = 1) : appZ A x = { A with name := x.s } := by
 unfold appZ; rw [if_pos h]
theorem appZ_2 {A : Acv} {x : Ed} (h : x.k = 2) : appZ A x = { A with sport := x.n } := by
 unfold appZ; rw [if_neg (by omega), if_pos h]
theorem appZ_3 {A : Acv} {x : Ed} (h : x.k = 3) : appZ A x = { A with tg := mergeT A.tg [x.s] } := by
 unfold appZ; rw [if_neg (by omega), if_neg (by omega), if_pos h]
theorem appZ_4 {A : Acv} {x : Ed} (h : x.k = 4) : appZ A x = { A with tg := delT x.s A.tg } := by
 unfold appZ; rw [if_neg (by omega), if_neg (by omega), if_neg (by omega), if_pos h]
theorem appZ_5 {A : Acv} {x : Ed} (h : x.k = 5) : appZ A x = { A with start := A.start + x.n } := by
 unfold appZ; rw [if_neg (by omega), if_neg (by omega), if_neg (by omega), if_neg (by omega), if_pos h]
theorem appZ_6 {A : Acv} {x : Ed} (h : x.k = 6) : appZ A x = { A with sm := A.sm.map (raiseS x.n) } := by
 unfold appZ; rw [if_neg (by omega), if_neg (by omega), if_neg (by omega), if_neg (by omega), if_neg (by omega), if_pos h]
theorem appZ_7 {A : Acv} {x : Ed} (h : x.k = 7) : appZ A x = { A with sm := A.sm.map (clearS x.n) } := by
 unfold appZ; rw [if_neg (by omega), if_neg (by omega), if_neg (by omega), if_neg (by omega), if_neg (by omega), if_neg (by omega), if_pos h]
theorem appZ_8 {A : Acv} {x : Ed} (h : x.k = 8) : appZ A x = partA A (cutL A.sm x.f x.t) x.f := by
 unfold appZ; rw [if_neg (by omega), if_neg (by omega), if_neg (by omega), if_neg (by omega), if_neg (by omega), if_neg (by omega), if_neg (by omega), if_pos h]
theorem appZ_9 {A : Acv} {x : Ed} (h : x.k = 9) : appZ A x = { A with sm := levelS A.sm x.n.toNat } := by
 unfold appZ; rw [if_neg (by omega), if_neg (by omega), if_neg (by omega), if_neg (by omega), if_neg (by omega), if_neg (by omega), if_neg (by omega), if_neg (by omega), if_pos h]
theorem appZ_10 {A : Acv} {x : Ed} (h : x.k = 10) : appZ A x = { A with sm := fillA x.n A.sm } := by
 unfold appZ; rw [if_neg (by omega), if_neg (by omega), if_neg (by omega), if_neg (by omega), if_neg (by omega), if_neg (by omega), if_neg (by omega), if_neg (by omega), if_neg (by omega), if_pos h]
theorem appZ_11 {A : Acv} {x : Ed} (h : x.k = 11) : appZ A x = { A with lp := putL ⟨x.f, x.t, x.s⟩ A.lp } := by
 unfold appZ; rw [if_neg (by omega), if_neg (by omega), if_neg (by omega), if_neg (by omega), if_neg (by omega), if_neg (by omega), if_neg (by omega), if_neg (by omega), if_neg (by omega), if_neg (by omega), if_pos h]
theorem appZ_12 {A : Acv} {x : Ed} (h : x.k = 12) : appZ A x = { A with lp := A.lp.take x.n.toNat ++ A.lp.drop (x.n.toNat + 1) } := by
 unfold appZ; rw [if_neg (by omega), if_neg (by omega), if_neg (by omega), if_neg (by omega), if_neg (by omega), if_neg (by omega), if_neg (by omega), if_neg (by omega), if_neg (by omega), if_neg (by omega), if_neg (by omega)]
theorem appE_1 {A : Acv} {x : Ed} (h : x.k = 1) : appE A x = 0 := by
 unfold appE; rw [if_neg (by omega), if_neg (by omega), if_neg (by omega), if_neg (by omega)]
theorem appE_2 {A : Acv} {x : Ed} (h : x.k = 2) : appE A x = 0 := by
 unfold appE; rw [if_neg (by omega), if_neg (by omega), if_neg (by omega), if_neg (by omega)]
theorem appE_3 {A : Acv} {x : Ed} (h : x.k = 3) : appE A x = if hasT x.s A.tg = true then 5 else 0 := by
 unfold appE; rw [if_pos h]
theorem appE_4 {A : Acv} {x : Ed} (h : x.k = 4) : appE A x = if hasT x.s A.tg = true then 0 else 4 := by
 unfold appE; rw [if_neg (by omega), if_pos h]
theorem appE_5 {A : Acv} {x : Ed} (h : x.k = 5) : appE A x = 0 := by
 unfold appE; rw [if_neg (by omega), if_neg (by omega), if_neg (by omega), if_neg (by omega)]
theorem appE_6 {A : Acv} {x : Ed} (h : x.k = 6) : appE A x = 0 := by
 unfold appE; rw [if_neg (by omega), if_neg (by omega), if_neg (by omega), if_neg (by omega)]
theorem appE_7 {A : Acv} {x : Ed} (h : x.k = 7) : appE A x = 0 := by
 unfold appE; rw [if_neg (by omega), if_neg (by omega), if_neg (by omega), if_neg (by omega)]
theorem appE_8 {A : Acv} {x : Ed} (h : x.k = 8) : appE A x = cutE A x.f x.t := by
 unfold appE; rw [if_neg (by omega), if_neg (by omega), if_pos h]
theorem appE_9 {A : Acv} {x : Ed} (h : x.k = 9) : appE A x = 0 := by
 unfold appE; rw [if_neg (by omega), if_neg (by omega), if_neg (by omega), if_neg (by omega)]
theorem appE_10 {A : Acv} {x : Ed} (h : x.k = 10) : appE A x = 0 := by
 unfold appE; rw [if_neg (by omega), if_neg (by omega), if_neg (by omega), if_neg (by omega)]
theorem appE_11 {A : Acv} {x : Ed} (h : x.k = 11) : appE A x = 0 := by
 unfold appE; rw [if_neg (by omega), if_neg (by omega), if_neg (by omega), if_neg (by omega)]
theorem appE_12 {A : Acv} {x : Ed} (h : x.k = 12) : appE A x = if (A.lp.length : Int) ≤ x.n then 4 else 0 := by
 unfold appE; rw [if_neg (by omega), if_neg (by omega), if_neg (by omega), if_pos h]
theorem kind_ways (x : Ed) (h : chkE x = 0) : x.k = 1 ∨ x.k = 2 ∨ x.k = 3 ∨ x.k = 4 ∨ x.k = 5 ∨ x.k = 6 ∨ x.k = 7 ∨ x.k = 8 ∨ x.k = 9 ∨ x.k = 10 ∨ x.k = 11 ∨ x.k = 12 := by
 unfold chkE at h
 split at h <;> omega
def apE (A : Acv) (x : Ed) : Int := if chkA A ≠ 0 then chkA A else if chkE x ≠ 0 then chkE x else if appE A x ≠ 0 then appE A x else chkA (appZ A x)
def apZ (A : Acv) (x : Ed) : Acv := if apE A x = 0 then appZ A x else Az
structure ActText (A : Acv) : Prop where
 name : A.name.size ≤ maxLen
 titles : ∀ p, p ∈ A.lp → p.s.size ≤ maxLen
 tags : ∀ s, s ∈ A.tg → s.size ≤ maxLen
theorem ActIn.text {w : World} {A : Acv} {a b c : Option Addr} (h : ActIn w A a b c) : ActText A := ⟨h.name, h.titles, h.tags⟩
theorem appZ_text {A : Acv} {x : Ed} (hk : chkE x = 0) (hA : ActText A) (hx : x.s.size ≤ maxLen) : ActText (appZ A x) := by
 obtain ⟨h1, h2, h3⟩ := hA; rcases kind_ways x hk with h | h | h | h | h | h | h | h | h | h | h | h
 · rw [appZ_1 h]; exact ⟨hx, h2, h3⟩
 · rw [appZ_2 h]; exact ⟨h1, h2, h3⟩
 · rw [appZ_3 h]
   refine ⟨h1, h2, fun s hs => ?_⟩; rcases (mergeT_mem _ A.tg [x.s] rfl s).1 hs with h | h
   · exact h3 s h
   · rw [List.mem_singleton.1 h]
     exact hx
 · rw [appZ_4 h]; exact ⟨h1, h2, fun s hs => h3 s ((List.mem_filter.1 hs).1)⟩
 · rw [appZ_5 h]; exact ⟨h1, h2, h3⟩
 · rw [appZ_6 h]; exact ⟨h1, h2, h3⟩
 · rw [appZ_7 h]; exact ⟨h1, h2, h3⟩
 · rw [appZ_8 h]
   refine ⟨h1, fun p hp => ?_, h3⟩; obtain ⟨y, hy, e⟩ := movedF_mem hp; rw [e]; exact h2 y hy
 · rw [appZ_9 h]; exact ⟨h1, h2, h3⟩
 · rw [appZ_10 h]; exact ⟨h1, h2, h3⟩
 · rw [appZ_11 h]
   refine ⟨h1, fun p hp => ?_, h3⟩; rcases putL_mem hp with h | h
   · rw [h]
     exact hx
   · exact h2 p h
 · rw [appZ_12 h]
   refine ⟨h1, fun p hp => ?_, h3⟩; rcases List.mem_append.1 hp with h | h
   · exact h2 p (List.mem_of_mem_take h)
   · exact h2 p (List.mem_of_mem_drop h)
theorem cutL_len (l : List Sm) (f t : Int) : (cutL l f t).length ≤ l.length + 2 := by
 have := List.length_filter_le (fun s : Sm => decide (f < s.tm) && decide (s.tm < t)) l; show (whereS l f :: ((l.filter fun s => decide (f < s.tm) && decide (s.tm < t)) ++ [whereS l t])).length ≤ _; rw [List.length_cons, List.length_append, List.length_singleton]; omega
theorem appZ_len {A : Acv} {x : Ed} (hk : chkE x = 0) (h : AcOk A) : (appZ A x).sm.length ≤ 20002 ∧ (appZ A x).lp.length ≤ 201 ∧ (appZ A x).tg.length ≤ 21 := by
 have h1 := h.nsm; have h2 := h.nlp; have h3 := h.ntg; rcases kind_ways x hk with h | h | h | h | h | h | h | h | h | h | h | h
 · rw [appZ_1 h]; exact ⟨by show A.sm.length ≤ _; omega, by show A.lp.length ≤ _; omega, by show A.tg.length ≤ _; omega⟩
 · rw [appZ_2 h]; exact ⟨by show A.sm.length ≤ _; omega, by show A.lp.length ≤ _; omega, by show A.tg.length ≤ _; omega⟩
 · rw [appZ_3 h]
   have := mergeT_len A.tg [x.s] _ rfl; simp only [List.length_singleton] at this; exact ⟨by show A.sm.length ≤ _; omega, by show A.lp.length ≤ _; omega, by show (mergeT A.tg [x.s]).length ≤ _; omega⟩
 · rw [appZ_4 h]
   have : (delT x.s A.tg).length ≤ A.tg.length := List.length_filter_le _ _; exact ⟨by show A.sm.length ≤ _; omega, by show A.lp.length ≤ _; omega, by show (delT x.s A.tg).length ≤ _; omega⟩
 · rw [appZ_5 h]; exact ⟨by show A.sm.length ≤ _; omega, by show A.lp.length ≤ _; omega, by show A.tg.length ≤ _; omega⟩
 · rw [appZ_6 h]; exact ⟨by show (A.sm.map _).length ≤ _; rw [List.length_map]; omega, by show A.lp.length ≤ _; omega, by show A.tg.length ≤ _; omega⟩
 · rw [appZ_7 h]; exact ⟨by show (A.sm.map _).length ≤ _; rw [List.length_map]; omega, by show A.lp.length ≤ _; omega, by show A.tg.length ≤ _; omega⟩
 · rw [appZ_8 h]
   have h4 := cutL_len A.sm x.f x.t; have h5 := movedF_len A.lp x.f (spanS ((cutL A.sm x.f x.t).map (backS x.f))); exact ⟨by show ((cutL A.sm x.f x.t).map _).length ≤ _; rw [List.length_map]; omega, by show (movedF A.lp x.f _).length ≤ _; omega, by show A.tg.length ≤ _; omega⟩
 · rw [appZ_9 h]; exact ⟨by show (levelS A.sm _).length ≤ _; unfold levelS; rw [List.length_mapIdx]; omega, by show A.lp.length ≤ _; omega, by show A.tg.length ≤ _; omega⟩
 · rw [appZ_10 h]; exact ⟨by show (fillA _ A.sm).length ≤ _; rw [fillA_len]; omega, by show A.lp.length ≤ _; omega, by show A.tg.length ≤ _; omega⟩
 · rw [appZ_11 h]; exact ⟨by show A.sm.length ≤ _; omega, by show (putL _ A.lp).length ≤ _; rw [putL_len]; omega, by show A.tg.length ≤ _; omega⟩
 · rw [appZ_12 h]; exact ⟨by show A.sm.length ≤ _; omega, by show (A.lp.take _ ++ A.lp.drop _).length ≤ _; rw [List.length_append, List.length_take, List.length_drop]; omega, by show A.tg.length ≤ _; omega⟩
structure Mine (w : World) (base g : Nat) (A : Acv) : Prop where
 ex : ∃ a b c ca cb cc, AcB w g A.name A.sport A.start (.slice a A.sm.length ca) (.slice b A.lp.length cb) (.slice c A.tg.length cc) ∧ Own smC 7 72 w base (.slice a A.sm.length ca) A.sm ∧ Own lpC 3 75 w base (.slice b A.lp.length cb) A.lp ∧ Own tgC 1 9 w base (.slice c A.tg.length cc) A.tg
 hg : base ≤ g
theorem Mine.below {w w' : World} {base g : Nat} {A : Acv} (h : Mine w base g A) (hb : Below w.heap.size w w') : Mine w' base g A := by
 obtain ⟨⟨a, b, c, ca, cb, cc, h0, h1, h2, h3⟩, hg⟩ := h; exact ⟨⟨a, b, c, ca, cb, cc, h0.below hb, h1.below hb, h2.below hb, h3.below hb⟩, hg⟩
theorem Mine.actIn {w : World} {base g : Nat} {A : Acv} (h : Mine w base g A) (ht : ActText A) (l1 : A.sm.length ≤ 1000000) (l2 : A.lp.length ≤ 1000000) (l3 : A.tg.length ≤ 1000000) :
 ∃ a b c ca cb cc, AcB w g A.name A.sport A.start (.slice a A.sm.length ca) (.slice b A.lp.length cb) (.slice c A.tg.length cc) ∧ ActIn w A a b c ∧ A.sm.length ≤ ca ∧ (∀ q, a = some q ∨ b = some q ∨ c = some q → base ≤ q.block ∧ q.block ≠ g) := by
 obtain ⟨⟨a, b, c, ca, cb, cc, h0, h1, h2, h3⟩, hg⟩ := h; obtain ⟨a', c', e1, k1, r1, b1⟩ := h1.row smEl; injection e1 with f1 f2 f3; subst f1 f3; have d1 := fun (q : Addr) (hq : a = some q) => (h1.rw_ smEl).2.2 q hq
 have d2 := fun (q : Addr) (hq : b = some q) => (h2.rw_ lpEl).2.2 q hq
 have d3 := fun (q : Addr) (hq : c = some q) => (h3.rw_ tgEl).2.2 q hq
 refine ⟨a, b, c, ca, cb, cc, h0, ⟨r1, (h2.rw_ lpEl).1, (h3.rw_ tgEl).1, ht.name, ht.titles, ht.tags, by omega, by omega, by omega⟩, k1, fun q hq => ?_⟩; rcases hq with e | e | e
 · subst e
   exact ⟨(d1 q rfl).1, h0.ne' h1 (by decide) _ rfl⟩
 · subst e
   exact ⟨(d2 q rfl).1, h0.ne' h2 (by decide) _ rfl⟩
 · subst e
   exact ⟨(d3 q rfl).1, h0.ne' h3 (by decide) _ rfl⟩
def ApR (A : Acv) (x : Ed) (base g : Nat) (w : World) (e : Ending) (w' : World) : Prop :=
 Below base w w' ∧ e = .returned (.int .i64 (appE A x)) ∧ (appE A x = 0 → Mine w' base g (appZ A x))
section
variable {w w' : World} {g : Nat} {nm : ByteArray} {sp st : Int} {vs vl vt : Value}
theorem AcB.set0 (h : AcB w g nm sp st vs vl vt) (x : ByteArray) : AcB (w.setCell ⟨g, 0, none⟩ (.string x)) g x sp st vs vl vt := set_cells h
theorem AcB.set1 (h : AcB w g nm sp st vs vl vt) (x : Int) : AcB (w.setCell ⟨g, 1, none⟩ (.int .i64 x)) g nm x st vs vl vt := set_cells h
end
theorem below_at {base : Nat} {w a b : World} (h1 : Below w.heap.size w a) (hb : base ≤ w.heap.size) (hk : Kept (fun q => base ≤ q) a b) : Below base w b :=
 Kept.below (h1.mono hb) hk (Nat.le_trans hb h1.size) (fun k hk e => by omega)
theorem kept_ge {base g : Nat} {a b : World} (hg : base ≤ g) (h : Kept (fun q => q = g) a b) : Kept (fun q => base ≤ q) a b := ⟨h.os, h.tape, h.output, h.size, fun k hk ho => h.block k hk (fun e => ho (by rw [e]; exact hg))⟩
theorem Own.apart {α β : Type} {C : α → List Value} {D : β → List Value} {k j : Nat} {e d : TypeId} {w : World} {b1 b2 : Nat} {u v : Value} {l : List α} {m : List β} (h : Own C k e w b1 u l) (h' : Own D j d w b2 v m) (hne : e ≠ d) : ∀ q, u.ownBlock = some q → v.ownBlock = some q → False := fun q hq hq' => by
 obtain ⟨c1, f1, e1⟩ := h.typed hq; obtain ⟨c2, f2, e2⟩ := h'.typed hq'; rw [e1] at e2; injection e2 with e2; injection e2 with _ e2 _; exact hne e2
theorem searchT_any (T : List ByteArray) (a : Option Addr) (c : Nat) (s : ByteArray) (w : World) (hr : Rw tgC 1 w a T) (hs : T.Pairwise (fun x y => bL x < bL y)) (hl : T.length ≤ 1000) :
 Calls Tryz.prog 169 #[.slice a T.length c, .string s] w fun e w' => e = .returned (.tuple #[.int .i64 (lowT s T), .bool (hasT s T)]) ∧ Below w.heap.size w w' := by
 by_cases h0 : T.length = 0
 · have hT : T = [] := List.length_eq_zero_iff.1 h0
   subst hT; have h := Any2.slices_BinarySearch_string_empty Tryz.laysNm226 a c s w; change Calls Tryz.prog 169 #[.slice a 0 c, .string s] w _ at h; refine h.mono fun e w' ⟨he, hw⟩ => ?_
   subst hw; exact ⟨he, Below.refl _ _⟩
 · obtain ⟨b, off, rfl, _, hc⟩ := hr.here (by omega)
   have hlt := lowT_le s T; have hb : Lib.bsGo (fun t => Op.bytesLess (T.getD t s).toList s.toList) T.length 0 T.length = lowT s T := by
    refine Lib.bsGo_spec _ _ (fun t ht => ?_) (fun t ht => ?_) _ _ _ (by omega) (Nat.zero_le _) hlt
    · have hx : T[t]? = some (T.getD t s) := by rw [List.getD_eq_getElem?_getD, List.getElem?_eq_getElem (by omega)]; rfl
      rw [ByteArray.toList_eq, ByteArray.toList_eq]; exact less_iff.2 (lowT_before s T t _ ht hx)
    · rw [ByteArray.toList_eq, ByteArray.toList_eq]
      cases h : Op.bytesLess (T.getD t s).data.toList s.data.toList with
      | false => rfl
      | true =>
       have h := less_iff.1 h; by_cases hn : t < T.length
       · have hx : T[t]? = some (T.getD t s) := by rw [List.getD_eq_getElem?_getD, List.getElem?_eq_getElem hn]; rfl
         exact absurd h (lowT_behind hs t _ ht hx)
       · rw [List.getD_eq_getElem?_getD, List.getElem?_eq_none (by omega)] at h
         exact absurd h (bL_irr s)
   have hf : decide (lowT s T < T.length ∧ T.getD (lowT s T) s = s) = hasT s T := by
    rw [Bool.eq_iff_iff, decide_eq_true_eq, hasT_iff]
    constructor
    · rintro ⟨h1, h2⟩
      rw [List.getD_eq_getElem?_getD, List.getElem?_eq_getElem h1, Option.getD_some] at h2; exact h2 ▸ List.getElem_mem h1
    · intro h
      have h1 := lowT_at hs h; refine ⟨(List.getElem?_eq_some_iff.1 h1).1, ?_⟩; rw [List.getD_eq_getElem?_getD, h1]
      rfl
   have h := Any2.slices_BinarySearch_string Tryz.laysNm226 b off T.length c (fun t => T.getD t s) s w (by omega) (fun j hj => by
    have hx : T[j]? = some (T.getD j s) := by rw [List.getD_eq_getElem?_getD, List.getElem?_eq_getElem hj]; rfl
    have := hc j _ hx 0 _ rfl
    simpa using this)
   change Calls Tryz.prog 169 _ w _ at h; rw [hb, hf] at h; refine h.mono fun e w' ⟨he, q, hw⟩ => ?_
   subst hw; exact ⟨he, (Below.refl _ _).trans ⟨rfl, rfl, rfl, Nat.le_refl _, fun _ _ => rfl⟩⟩
theorem ap_1 (n f t : Int) (s : ByteArray) (A : Acv) (base g : Nat) (w : World) (hM : Mine w base g A) (oA : AcOk A) (hb : base ≤ w.heap.size) :
 Calls Tryz.prog 166 #[edV ⟨1, n, f, t, s⟩, .pointer (some ⟨g, 0, none⟩)] w fun e w' => ApR A ⟨1, n, f, t, s⟩ base g w e w' := by
 unfold ApR; rw [appE_1 rfl, appZ_1 rfl]; obtain ⟨⟨a, b, c, ca, cb, cc, h0, h1, h2, h3⟩, hg⟩ := hM; obtain ⟨V0, hV0, hb0, hs0, hl0⟩ := alloc_cells w #[.int .i64 1, .int .i64 n, .int .i64 f, .int .i64 t, .string s] 98; have hgl := h0.lt; have HB := qH hb0; have HBS := qH hb; have HG := qH hg; have HGL := qH hgl; have H0 := qH (h0.below hb0); have H1 := qH (h1.below hb0); have H2 := qH (h2.below hb0); have H3 := qH (h3.below hb0); have H3W := qH h3; have HOA := qH oA; have HTS := qH (tg_sorted oA.tg); have hnt := oA.ntg; have G0 := Ext.ex (hl0 0 _ rfl); have G4 := Ext.ex (hl0 4 _ rfl); have A5 := Ext.ex H0.out.cell.2.2.2.2.2; have DB := qH (fun X : Ext V0 => X.calls (searchT_any A.tg c cc s X.1 ((h3.rw_ tgEl).1.below (bStp HB.out X.2)) (tg_sorted oA.tg) (by omega))); have hlow := lowT_le s A.tg; obtain ⟨k, hk⟩ : ∃ k, lowT s A.tg = k := ⟨_, rfl⟩; obtain ⟨fd, hfd⟩ : ∃ k, hasT s A.tg = k := ⟨_, rfl⟩; rw [hk, hfd] at DB; rw [hk] at hlow; have HK := qH (And.intro hk hfd); obtain ⟨nt, hn⟩ : ∃ n, A.tg.length = n := ⟨_, rfl⟩; have HN := qH hn; rw [hn] at DB A5 hlow hnt; clear hb hg h0 h1 h2 h3 oA hb0 hl0 hk hn hgl; unfold edV; go_enter Tryz.func166, Tryz.ntmps166; go_upto_region 1 with (fail); clear hV0; refine wp_region_ext (W := V0) ⟨V0, Below.refl _ _⟩ (by kernel_rfl) (by kernel_rfl) ?_
 repeat go_big_quiet_step (exact DB.out _)
 refine wpQuiet_nil ?_; rintro _ ⟨Y, rfl⟩; have HAY := qH (H0.out.below Y.2); have HWY := qH (bStp HB.out Y.2); have c0 := HAY.out.cell.1; have f0 := HAY.out.free 0; have hA1 := HAY.out.set0 s; obtain ⟨W1, hW1⟩ : ∃ z, Y.1.setCell ⟨g, 0, none⟩ (.string s) = z := ⟨_, rfl⟩; rw [hW1] at hA1; have hk1 : Kept (fun q => q = g) Y.1 W1 := by rw [← hW1]; exact keep_set (O := fun q => q = g) rfl
 have HA1 := qH hA1; have HK1 := qH hk1; clear hA1 hk1 hfd DB; go_wp2_with fail; go_ret; refine ⟨below_at HWY.out HBS.out (kept_ge HG.out HK1.out), rfl, fun _ => ⟨⟨a, b, c, ca, cb, cc, HA1.out, ?_, ?_, ?_⟩, HG.out⟩⟩
 · exact (H1.out.below Y.2).keepO HK1.out (fun q hq e => (HAY.out.ne' (H1.out.below Y.2) (by decide) q hq) e)
 · exact (H2.out.below Y.2).keepO HK1.out (fun q hq e => (HAY.out.ne' (H2.out.below Y.2) (by decide) q hq) e)
 · exact (H3.out.below Y.2).keepO HK1.out (fun q hq e => (HAY.out.ne' (H3.out.below Y.2) (by decide) q hq) e)
theorem ap_3 (n f t : Int) (s : ByteArray) (A : Acv) (base g : Nat) (w : World) (hM : Mine w base g A) (oA : AcOk A) (hb : base ≤ w.heap.size) :
 Calls Tryz.prog 166 #[edV ⟨3, n, f, t, s⟩, .pointer (some ⟨g, 0, none⟩)] w fun e w' => ApR A ⟨3, n, f, t, s⟩ base g w e w' := by
 unfold ApR; rw [appE_3 rfl, appZ_3 rfl]; obtain ⟨⟨a, b, c, ca, cb, cc, h0, h1, h2, h3⟩, hg⟩ := hM; obtain ⟨V0, hV0, hb0, hs0, hl0⟩ := alloc_cells w #[.int .i64 3, .int .i64 n, .int .i64 f, .int .i64 t, .string s] 98; have hgl := h0.lt; have HB := qH hb0; have HBS := qH hb; have HG := qH hg; have HGL := qH hgl; have H0 := qH (h0.below hb0); have H1 := qH (h1.below hb0); have H2 := qH (h2.below hb0); have H3 := qH (h3.below hb0); have H3W := qH h3; have HOA := qH oA; have HTS := qH (tg_sorted oA.tg); have hnt := oA.ntg; have G0 := Ext.ex (hl0 0 _ rfl); have G4 := Ext.ex (hl0 4 _ rfl); have A5 := Ext.ex H0.out.cell.2.2.2.2.2; have DB := qH (fun X : Ext V0 => X.calls (searchT_any A.tg c cc s X.1 ((h3.rw_ tgEl).1.below (bStp HB.out X.2)) (tg_sorted oA.tg) (by omega))); have hlow := lowT_le s A.tg; obtain ⟨k, hk⟩ : ∃ k, lowT s A.tg = k := ⟨_, rfl⟩; obtain ⟨fd, hfd⟩ : ∃ k, hasT s A.tg = k := ⟨_, rfl⟩; rw [hk, hfd] at DB; rw [hk] at hlow; rw [hfd]; have HK := qH (And.intro hk hfd); obtain ⟨nt, hn⟩ : ∃ n, A.tg.length = n := ⟨_, rfl⟩; have HN := qH hn; rw [hn] at DB A5 hlow hnt; clear hb hg h0 h1 h2 h3 oA hb0 hl0 hk hn hgl; unfold edV; go_enter Tryz.func166, Tryz.ntmps166; go_upto_region 1 with (fail); clear hV0; refine wp_region_ext (W := V0) ⟨V0, Below.refl _ _⟩ (by kernel_rfl) (by kernel_rfl) ?_
 repeat go_big_quiet_step (exact DB.out _)
 refine wpQuiet_nil ?_; rintro _ ⟨Y, rfl⟩; have HAY := qH (H0.out.below Y.2); have HWY := qH (bStp HB.out Y.2)
 cases fd with
 | true =>
  clear hfd DB; go_wp2_with fail; go_ret; exact ⟨below_at HWY.out HBS.out (Kept.refl _ _), rfl⟩
 | false =>
  have hnot : s ∉ A.tg := fun h => by
   have := hasT_iff.2 h; rw [hfd] at this
   cases this
  have HIN := qH (insT_is HTS.out hnot); have HNO := qH (fun (Z : ExtO (fun q => (Value.slice c nt cc).ownBlock = some q) Y.1) => show Z.1.cell? ⟨g, 5, none⟩ = some (.slice c nt cc) from Z.2.cell (p := ⟨g, 5, none⟩) (fun e => (HAY.out.ne' (H3.out.below Y.2) (by decide) g (by rw [HN.out]; exact e)) rfl) (A5 Y)); have HXO := qH (fun (Z : ExtO (fun q => (Value.slice c nt cc).ownBlock = some q) Y.1) => show Z.1.cell? ⟨w.heap.size, 4, none⟩ = some (.string s) from Z.2.cell (p := ⟨w.heap.size, 4, none⟩) (fun e => by
   have := (H3W.out.lt w.heap.size (by rw [HN.out]; exact e)).2; omega) (G4 Y))
  clear hnot hfd DB; go_upto_region 8 with (fail); have A5' := HNO.out; have G4' := HXO.out; clear A5 G4 G0; refine late_start (s := 12) (C := fun w' => ∃ Z : ExtO (fun q => (Value.slice c nt cc).ownBlock = some q) Y.1, w' = Z.1) (by kernel_rfl) ?_; obtain ⟨Q0, hQ0⟩ : ∃ Z : Ext Y.1, ({ Y.1 with drawn := Y.1.drawn + 1 } : World) = Z.1 := ⟨⟨{ Y.1 with drawn := Y.1.drawn + 1 }, ⟨rfl, rfl, rfl, Nat.le_refl _, fun _ _ => rfl⟩⟩, rfl⟩; rw [hQ0]; clear hQ0; refine late_quiet (by kernel_rfl) (fun _ _ d _ _ h => by cases d <;> exact h) ⟨⟨Q0.1, Kept.of_below Q0.2⟩, rfl⟩ [0, 1, 2, 3, 4, 5, 6, 7] 5 _ _ (by kernel_rfl) (by kernel_rfl) ?_; change wpQuiet _ _ _ _ (_ :: _ :: _ :: _ :: _ :: _ :: _ :: _ :: []) _
  repeat go_big_quiet_step (fail)
  refine wpQuiet_nil ?_; refine late_do (i := 8) _ rfl (by kernel_rfl) rfl (fun K hK => ?_); go_simp; obtain ⟨V7, hV7⟩ : ∃ V, Q0.1.alloc (.cells #[.string s] 9) = V := ⟨_, rfl⟩; rw [hV7]; have hb7 : Below Q0.1.heap.size Q0.1 V7 := hV7 ▸ below_al _ _; have h7 : V7.heap[Q0.1.heap.size]? = some (.cells (tgC s).toArray 9 (0, 0)) := hV7 ▸ heap_alloc_new Q0.1 _; have hB7 : Below Y.1.heap.size Y.1 V7 := bStp Q0.2 hb7; have h37 := (H3.out.below Y.2).below hB7; rw [HN.out] at h37; have DI := qH (insertTg_any A.tg base c nt cc k s Q0.1.heap.size V7 h37 (by omega) hlow h7 (fun e => by have := ((H3.out.below Y.2).lt _ (by rw [HN.out]; exact e)).2; have := Q0.2.size; omega) (by have := HBS.out; have := HWY.out.size; have := hB7.size; omega)); have HB7 := qH hB7; have H37 := qH h37; refine hK _ _ (fun _ => ⟨⟨V7, Kept.of_below hB7⟩, rfl⟩) ?_; clear hK K hV7 hb7 h7 hB7 h37
  try simp only [pS]
  refine late_do (i := 9) _ rfl (by kernel_rfl) rfl (fun K hK => ?_); go_simp; refine (DI.out).mono ?_; rintro e w8 ⟨v8, rfl, ho8, hg8⟩; obtain ⟨a7, c7, rfl, -, -, -⟩ := ho8.row tgEl; have hk8 : Kept (fun q => (Value.slice c nt cc).ownBlock = some q) V7 w8 := Kept.of_grown hg8 (fun q e _ => e); have HK8 := qH ((Kept.of_below HB7.out).trans hk8); have HO8 := qH ho8; refine hK _ _ (fun _ => ⟨⟨w8, HK8.out⟩, rfl⟩) ?_; clear hK K hg8 ho8 hk8
  try simp only [pS]
  refine late_quiet (by kernel_rfl) (fun _ _ d _ _ h => by cases d <;> exact h) ⟨⟨w8, HK8.out⟩, rfl⟩ [10, 11] 1 _ _ (by kernel_rfl) (by kernel_rfl) ?_; change wpQuiet _ _ _ _ (_ :: _ :: []) _
  repeat go_big_quiet_step (fail)
  refine wpQuiet_nil ?_; have hlen : (A.tg.take k ++ [s] ++ A.tg.drop k).length = nt + 1 := by rw [List.length_append, List.length_append, List.length_take, List.length_drop, List.length_singleton, HN.out]; omega
  rw [hlen]; have hA8 := HAY.out.kept HK8.out (fun e => (HAY.out.ne' (H3.out.below Y.2) (by decide) g (by rw [HN.out]; exact e)) rfl); have c5 := hA8.cell.2.2.2.2.2; have f5 := hA8.free 5; have hA9 := hA8.set5 (.slice a7 (nt + 1) c7); obtain ⟨W9, hW9⟩ : ∃ z, w8.setCell ⟨g, 5, none⟩ (.slice a7 (nt + 1) c7) = z := ⟨_, rfl⟩; rw [hW9] at hA9; have hk9 : Kept (fun q => q = g) w8 W9 := by rw [← hW9]; exact keep_set (O := fun q => q = g) rfl
  have hs8 := (H1.out.below Y.2).keepO HK8.out (fun q hq e => (H1.out.below Y.2).apart (H3.out.below Y.2) (by decide) q hq (by rw [HN.out]; exact e)); have hl8 := (H2.out.below Y.2).keepO HK8.out (fun q hq e => (H2.out.below Y.2).apart (H3.out.below Y.2) (by decide) q hq (by rw [HN.out]; exact e)); have HS9 := qH (hs8.keepO hk9 (fun q hq e => (hA8.ne' hs8 (by decide) q hq) e)); have HL9 := qH (hl8.keepO hk9 (fun q hq e => (hA8.ne' hl8 (by decide) q hq) e)); have HMT := qH (show mergeT A.tg [s] = A.tg.take k ++ [s] ++ A.tg.drop k from by rw [← HIN.out, HK.out.1]); have HT9 := qH (show Own tgC 1 9 W9 base (.slice a7 (mergeT A.tg [s]).length c7) (mergeT A.tg [s]) from by
   have h := HO8.out.keepO hk9 (fun q hq e => (hA8.ne' HO8.out (by decide) q hq) e); rw [HMT.out]; exact h)
  have HA9 := qH (show AcB W9 g A.name A.sport A.start (.slice a A.sm.length ca) (.slice b A.lp.length cb) (.slice a7 (mergeT A.tg [s]).length c7) from by rw [HMT.out, hlen]; exact hA9); have HKF := qH (show Kept (fun q => base ≤ q) Y.1 W9 from by
   have h1 : Kept (fun q => base ≤ q) Y.1 w8 := ⟨HK8.out.os, HK8.out.tape, HK8.out.output, HK8.out.size, fun q hq ho => HK8.out.block q hq (fun e => ho ((H3.out.lt q (by rw [HN.out]; exact e)).1))⟩; exact h1.trans (kept_ge HG.out hk9))
  clear hA8 hA9 hk9 hs8 hl8 hlen; refine late_do (i := 12) _ rfl (by kernel_rfl) rfl (fun K hK => ?_); go_simp; refine hK _ _ (nOo rfl) ?_; clear hK K
  try simp only [pS]
  refine late_done (by kernel_rfl) ?_ _; clear c5 f5 hW9; go_wp2_with fail; go_ret; refine ⟨below_at HWY.out HBS.out HKF.out, rfl, ⟨⟨a, b, a7, ca, cb, c7, HA9.out, ?_, ?_, ?_⟩, HG.out⟩⟩
  · exact HS9.out
  · exact HL9.out
  · exact HT9.out
theorem ap_4 (n f t : Int) (s : ByteArray) (A : Acv) (base g : Nat) (w : World) (hM : Mine w base g A) (oA : AcOk A) (hb : base ≤ w.heap.size) :
 Calls Tryz.prog 166 #[edV ⟨4, n, f, t, s⟩, .pointer (some ⟨g, 0, none⟩)] w fun e w' => ApR A ⟨4, n, f, t, s⟩ base g w e w' := by
 unfold ApR; rw [appE_4 rfl, appZ_4 rfl]; obtain ⟨⟨a, b, c, ca, cb, cc, h0, h1, h2, h3⟩, hg⟩ := hM; obtain ⟨V0, hV0, hb0, hs0, hl0⟩ := alloc_cells w #[.int .i64 4, .int .i64 n, .int .i64 f, .int .i64 t, .string s] 98; have hgl := h0.lt; have HB := qH hb0; have HBS := qH hb; have HG := qH hg; have HGL := qH hgl; have H0 := qH (h0.below hb0); have H1 := qH (h1.below hb0); have H2 := qH (h2.below hb0); have H3 := qH (h3.below hb0); have H3W := qH h3; have HOA := qH oA; have HTS := qH (tg_sorted oA.tg); have hnt := oA.ntg; have G0 := Ext.ex (hl0 0 _ rfl); have G4 := Ext.ex (hl0 4 _ rfl); have A5 := Ext.ex H0.out.cell.2.2.2.2.2; have DB := qH (fun X : Ext V0 => X.calls (searchT_any A.tg c cc s X.1 ((h3.rw_ tgEl).1.below (bStp HB.out X.2)) (tg_sorted oA.tg) (by omega))); have hlow := lowT_le s A.tg; obtain ⟨k, hk⟩ : ∃ k, lowT s A.tg = k := ⟨_, rfl⟩; obtain ⟨fd, hfd⟩ : ∃ k, hasT s A.tg = k := ⟨_, rfl⟩; rw [hk, hfd] at DB; rw [hk] at hlow; rw [hfd]; have HK := qH (And.intro hk hfd); obtain ⟨nt, hn⟩ : ∃ n, A.tg.length = n := ⟨_, rfl⟩; have HN := qH hn; rw [hn] at DB A5 hlow hnt; clear hb hg h0 h1 h2 h3 oA hb0 hl0 hk hn hgl; unfold edV; go_enter Tryz.func166, Tryz.ntmps166; go_upto_region 1 with (fail); clear hV0; refine wp_region_ext (W := V0) ⟨V0, Below.refl _ _⟩ (by kernel_rfl) (by kernel_rfl) ?_
 repeat go_big_quiet_step (exact DB.out _)
 refine wpQuiet_nil ?_; rintro _ ⟨Y, rfl⟩; have HAY := qH (H0.out.below Y.2); have HWY := qH (bStp HB.out Y.2)
 cases fd with
 | false =>
  clear hfd DB; go_wp2_with fail; go_ret; exact ⟨below_at HWY.out HBS.out (Kept.refl _ _), rfl⟩
 | true =>
  have hin : s ∈ A.tg := hasT_iff.1 hfd; have hat := lowT_at HTS.out hin; rw [HK.out.1] at hat; have hkn : k < nt := by have := (List.getElem?_eq_some_iff.1 hat).1; have := HN.out; omega
  have HDT := qH (show delT s A.tg = A.tg.take k ++ A.tg.drop (k + 1) from by rw [← delT_is HTS.out hin, HK.out.1]); obtain ⟨q, c', he, hq1, hq2⟩ := (H3.out.below Y.2).open (by rw [HN.out]; omega); rw [HN.out] at he; injection he with e1 e2 e3; subst e1; have h3Y := H3.out.below Y.2; rw [HN.out] at h3Y; have DD := deleteTg_any A.tg base q cc k (k + 1) nt (nt - 1) Y.1 h3Y (by rw [HN.out]; omega) hkn rfl (by omega); rw [show ((k + 1 : Nat) : Int) = (k : Int) + 1 by omega] at DD; have DD := qH DD; have H3Y := qH h3Y; have hgq : g ≠ q := fun e => (HAY.out.ne' h3Y (by decide) q rfl) e.symm
  have HGQ := qH hgq; clear hfd DB hin hat hq1 hq2 e2 e3 h3Y hgq; go_wp2_with fail; refine (DD.out).mono ?_; rintro e w8 ⟨rfl, ho8, hk8⟩; have HO8 := qH ho8; have HK8 := qH hk8; have hA8 := HAY.out.kept HK8.out HGQ.out; have c5 := hA8.cell.2.2.2.2.2; have f5 := hA8.free 5; have hA9 := hA8.set5 (.slice (some ⟨q, 0, none⟩) (nt - 1) cc); obtain ⟨W9, hW9⟩ : ∃ z, w8.setCell ⟨g, 5, none⟩ (.slice (some ⟨q, 0, none⟩) (nt - 1) cc) = z := ⟨_, rfl⟩; rw [hW9] at hA9; have hk9 : Kept (fun q => q = g) w8 W9 := by rw [← hW9]; exact keep_set (O := fun q => q = g) rfl
  have hs8 := (H1.out.below Y.2).keepO HK8.out (fun x hx e => (H1.out.below Y.2).apart H3Y.out (by decide) x hx (by rw [e]; rfl)); have hl8 := (H2.out.below Y.2).keepO HK8.out (fun x hx e => (H2.out.below Y.2).apart H3Y.out (by decide) x hx (by rw [e]; rfl)); have HS9 := qH (hs8.keepO hk9 (fun x hx e => (hA8.ne' hs8 (by decide) x hx) e)); have HL9 := qH (hl8.keepO hk9 (fun x hx e => (hA8.ne' hl8 (by decide) x hx) e)); have hlen : (A.tg.take k ++ A.tg.drop (k + 1)).length = nt - 1 := by rw [List.length_append, List.length_take, List.length_drop, HN.out]; omega
  obtain ⟨a7, ha7⟩ : ∃ z, some (⟨q, 0, none⟩ : Addr) = z := ⟨_, rfl⟩; obtain ⟨c7, hc7⟩ : ∃ z, cc = z := ⟨_, rfl⟩; have HT9 := qH (show Own tgC 1 9 W9 base (.slice a7 (delT s A.tg).length c7) (delT s A.tg) from by
   have h := HO8.out.keepO hk9 (fun x hx e => (hA8.ne' HO8.out (by decide) x hx) e); rw [HDT.out, hlen, ← ha7, ← hc7]; exact h)
  have HA9 := qH (show AcB W9 g A.name A.sport A.start (.slice a A.sm.length ca) (.slice b A.lp.length cb) (.slice a7 (delT s A.tg).length c7) from by rw [HDT.out, hlen, ← ha7, ← hc7]; exact hA9); have HKF := qH (show Kept (fun x => base ≤ x) Y.1 W9 from by
   have h1 : Kept (fun x => base ≤ x) Y.1 w8 := kept_ge (H3Y.out.lt q rfl).1 HK8.out; exact h1.trans (kept_ge HG.out hk9))
  clear hA8 hA9 hk9 hs8 hl8 hlen ho8 hk8 ha7 hc7; go_wp2_with fail; go_ret; refine ⟨below_at HWY.out HBS.out HKF.out, rfl, ⟨⟨a, b, a7, ca, cb, c7, HA9.out, ?_, ?_, ?_⟩, HG.out⟩⟩
  · exact HS9.out
  · exact HL9.out
  · exact HT9.out
theorem chk_rng {x : Ed} {lo hi : Int} (hk : ¬ (x.k < 1 ∨ 12 < x.k)) (hf : fieldE x = rngE x.n lo hi) (h : chkE x = 0) : lo ≤ x.n ∧ x.n ≤ hi := by
 unfold chkE at h; rw [if_neg hk] at h
 split at h
 · omega
 · rw [hf] at h
   unfold rngE at h
   split at h
   · rename_i e
     exact inR_iff.1 e
   · omega
theorem ap_2 (n : Int) (f t : Int) (s : ByteArray) (A : Acv) (base g : Nat) (w : World) (hM : Mine w base g A) (oA : AcOk A) (hb : base ≤ w.heap.size) :
 Calls Tryz.prog 177 #[edV ⟨2, n, f, t, s⟩, .pointer (some ⟨g, 0, none⟩)] w fun e w' => ApR A ⟨2, n, f, t, s⟩ base g w e w' := by
 unfold ApR; rw [appE_2 rfl, appZ_2 rfl]; obtain ⟨⟨a, b, c, ca, cb, cc, h0, h1, h2, h3⟩, hg⟩ := hM; obtain ⟨V0, hV0, hb0, hs0, hl0⟩ := alloc_cells w #[.int .i64 2, .int .i64 n, .int .i64 f, .int .i64 t, .string s] 99; have HB := qH hb0; have HBS := qH hb; have HG := qH hg; have H1W := qH h1; have H0 := qH (h0.below hb0); have H1 := qH (h1.below hb0); have H2 := qH (h2.below hb0); have H3 := qH (h3.below hb0); have HOA := qH oA; have x0 := hl0 0 _ rfl; have x1 := hl0 1 _ rfl; obtain ⟨c0, c1, c2, c3, c4, c5⟩ := H0.out.cell; have fr := H0.out.free; clear hb hg h0 h1 h2 h3 oA hb0 hl0; unfold edV; go_enter Tryz.func177, Tryz.ntmps177; go_upto_region 3 with (fail); clear hV0; have hA1 := H0.out.set1 n; obtain ⟨W1, hW1⟩ : ∃ z, V0.setCell ⟨g, 1, none⟩ (.int .i64 n) = z := ⟨_, rfl⟩; rw [hW1] at hA1; have hk1 : Kept (fun q => q = g) V0 W1 := by rw [← hW1]; exact keep_set (O := fun q => q = g) rfl
 have HA1 := qH hA1; have HK1 := qH hk1; clear hA1 hk1; go_wp2_with fail; go_ret; refine ⟨below_at HB.out HBS.out (kept_ge HG.out HK1.out), rfl, fun _ => ⟨⟨a, b, c, ca, cb, cc, HA1.out, ?_, ?_, ?_⟩, HG.out⟩⟩
 · exact H1.out.keepO HK1.out (fun q hq e => (H0.out.ne' H1.out (by decide) q hq) e)
 · exact H2.out.keepO HK1.out (fun q hq e => (H0.out.ne' H2.out (by decide) q hq) e)
 · exact H3.out.keepO HK1.out (fun q hq e => (H0.out.ne' H3.out (by decide) q hq) e)
theorem ap_5 (n : Int) (f t : Int) (s : ByteArray) (A : Acv) (base g : Nat) (w : World) (hM : Mine w base g A) (oA : AcOk A) (hb : base ≤ w.heap.size) (hn : -86399999999 ≤ n ∧ n ≤ 86399999999) :
 Calls Tryz.prog 177 #[edV ⟨5, n, f, t, s⟩, .pointer (some ⟨g, 0, none⟩)] w fun e w' => ApR A ⟨5, n, f, t, s⟩ base g w e w' := by
 unfold ApR; rw [appE_5 rfl, appZ_5 rfl]; obtain ⟨⟨a, b, c, ca, cb, cc, h0, h1, h2, h3⟩, hg⟩ := hM; obtain ⟨V0, hV0, hb0, hs0, hl0⟩ := alloc_cells w #[.int .i64 5, .int .i64 n, .int .i64 f, .int .i64 t, .string s] 99; have HB := qH hb0; have HBS := qH hb; have HG := qH hg; have H1W := qH h1; have H0 := qH (h0.below hb0); have H1 := qH (h1.below hb0); have H2 := qH (h2.below hb0); have H3 := qH (h3.below hb0); have HOA := qH oA; have x0 := hl0 0 _ rfl; have x1 := hl0 1 _ rfl; obtain ⟨c0, c1, c2, c3, c4, c5⟩ := H0.out.cell; have fr := H0.out.free; clear hb hg h0 h1 h2 h3 oA hb0 hl0; unfold edV; go_enter Tryz.func177, Tryz.ntmps177; go_upto_region 6 with (fail); clear hV0; obtain ⟨s0, s1⟩ := HOA.out.start; have wr : IntKind.i64.wrap (A.start + n) = A.start + n := tm_wrap (by omega) (by omega); have C2 := Ext.ex c2; have X1 := Ext.ex x1; clear c0 c1 c2 c3 c4 c5 x0 x1 fr; refine late_start (s := 9) (C := fun w' => ∃ Y : Ext V0, w' = Y.1) (by kernel_rfl) ?_; obtain ⟨Q0, hQ0⟩ : ∃ Y : Ext V0, ({ V0 with drawn := V0.drawn + 1 } : World) = Y.1 := ⟨⟨{ V0 with drawn := V0.drawn + 1 }, ⟨rfl, rfl, rfl, Nat.le_refl _, fun _ _ => rfl⟩⟩, rfl⟩; rw [hQ0]; clear hQ0; refine late_quiet (by kernel_rfl) (fun _ _ d _ _ h => by cases d <;> exact h) ⟨Q0, rfl⟩ [0, 1, 2, 3, 4, 5, 6] 3 _ _ (by kernel_rfl) (by kernel_rfl) ?_; change wpQuiet _ _ _ _ (_ :: _ :: _ :: _ :: _ :: _ :: _ :: []) _
 repeat go_big_quiet_step (fail)
 refine wpQuiet_nil ?_; refine late_quiet (by kernel_rfl) (fun _ _ d _ _ h => by cases d <;> exact h) ⟨Q0, rfl⟩ [7, 8] 1 _ _ (by kernel_rfl) (by kernel_rfl) ?_; change wpQuiet _ _ _ _ (_ :: _ :: []) _
 repeat go_big_quiet_step (fail)
 refine wpQuiet_nil ?_; have c2 := C2 Q0; have f2 := (H0.out.below Q0.2).free 2; have hA1 := (H0.out.below Q0.2).set2 (A.start + n); obtain ⟨W1, hW1⟩ : ∃ z, Q0.1.setCell ⟨g, 2, none⟩ (.int .i64 (A.start + n)) = z := ⟨_, rfl⟩; rw [hW1] at hA1; have hk1 : Kept (fun q => q = g) V0 W1 := by rw [← hW1]; exact (Kept.of_below Q0.2).trans (keep_set (O := fun q => q = g) rfl)
 have HA1 := qH hA1; have HK1 := qH hk1; clear hA1 hk1; refine late_do (i := 9) _ rfl (by kernel_rfl) rfl (fun K hK => ?_); go_simp; refine hK _ _ (nOo rfl) ?_; clear hK K
 try simp only [pS]
 refine late_done (by kernel_rfl) ?_ _; clear c2 f2 hW1 C2 X1; go_wp2_with fail; go_ret; refine ⟨below_at HB.out HBS.out (kept_ge HG.out HK1.out), rfl, fun _ => ⟨⟨a, b, c, ca, cb, cc, HA1.out, ?_, ?_, ?_⟩, HG.out⟩⟩
 · exact H1.out.keepO HK1.out (fun q hq e => (H0.out.ne' H1.out (by decide) q hq) e)
 · exact H2.out.keepO HK1.out (fun q hq e => (H0.out.ne' H2.out (by decide) q hq) e)
 · exact H3.out.keepO HK1.out (fun q hq e => (H0.out.ne' H3.out (by decide) q hq) e)
theorem ap_6 (n : Int) (f t : Int) (s : ByteArray) (A : Acv) (base g : Nat) (w : World) (hM : Mine w base g A) (oA : AcOk A) (hb : base ≤ w.heap.size) (hn : -200000 ≤ n ∧ n ≤ 200000) :
 Calls Tryz.prog 177 #[edV ⟨6, n, f, t, s⟩, .pointer (some ⟨g, 0, none⟩)] w fun e w' => ApR A ⟨6, n, f, t, s⟩ base g w e w' := by
 unfold ApR; rw [appE_6 rfl, appZ_6 rfl]; obtain ⟨⟨a, b, c, ca, cb, cc, h0, h1, h2, h3⟩, hg⟩ := hM; obtain ⟨V0, hV0, hb0, hs0, hl0⟩ := alloc_cells w #[.int .i64 6, .int .i64 n, .int .i64 f, .int .i64 t, .string s] 99; have HB := qH hb0; have HBS := qH hb; have HG := qH hg; have H1W := qH h1; have H0 := qH (h0.below hb0); have H1 := qH (h1.below hb0); have H2 := qH (h2.below hb0); have H3 := qH (h3.below hb0); have HOA := qH oA; have x0 := hl0 0 _ rfl; have x1 := hl0 1 _ rfl; obtain ⟨c0, c1, c2, c3, c4, c5⟩ := H0.out.cell; have fr := H0.out.free; clear hb hg h0 h1 h2 h3 oA hb0 hl0; unfold edV; go_enter Tryz.func177, Tryz.ntmps177; obtain ⟨ns, hn⟩ : ∃ n, A.sm.length = n := ⟨_, rfl⟩; have HN := qH hn; have H1N := qH (show Own smC 7 72 V0 base (.slice a ns ca) A.sm from hn ▸ H1.out); have H0N := qH (show AcB V0 g A.name A.sport A.start (.slice a ns ca) (.slice b A.lp.length cb) (.slice c A.tg.length cc) from hn ▸ H0.out); have hns : ns ≤ 20000 := by have := HOA.out.nsm; omega
 rw [hn] at c3; have HLT := qH (fun q (hq : (Value.slice a ns ca).ownBlock = some q) => show q < w.heap.size ∧ base ≤ q ∧ q ≠ g from by
  have h := H1W.out.lt q (by rw [HN.out]; exact hq); exact ⟨h.2, h.1, fun e => (H0N.out.ne' H1N.out (by decide) q hq) e⟩)
 clear hn fr; go_wp2_with fail; clear hV0 c0 c1 c2 c3 c4 c5
 go_loopw [32] (fun iv wr => ∃ k : Nat, iv = .int .i64 k ∧ k ≤ ns ∧ Hid (Own smC 7 72 wr base (.slice a ns ca) ((A.sm.take k).map (raiseS n) ++ A.sm.drop k)) ∧ ∃ Z : ExtO (fun q => (Value.slice a ns ca).ownBlock = some q) V0, wr = Z.1) (fun iv _ => ns - (intOf iv).toNat)
 case atStart => exact ⟨0, rfl, by omega, qH H1N.out, ⟨V0, Kept.refl _ _⟩, rfl⟩
 case round =>
  obtain ⟨k, rfl, hk, HO, Z, rfl⟩ := hrel; have hac := H0N.out.kept Z.2 (fun e => (HLT.out g e).2.2 rfl); by_cases hlt : k < ns
  · have t5 : decide ((k : Int) < (ns : Int)) = true := dTt (by omega)
    have t5' : decide (k < ns) = true := by simpa using hlt
    obtain ⟨x, hx⟩ : ∃ x, A.sm[k]? = some x := ⟨_, List.getElem?_eq_getElem (by rw [HN.out]; exact hlt)⟩; obtain ⟨-, -, hxr⟩ := HOA.out.sm.upto k x hx; obtain ⟨-, -, hz0, hz1⟩ := range_xyz hxr; have hat := at_upto (raiseS n) A.sm k x hx; have HUP := qH (map_upto (raiseS n) A.sm k x hx); have hlen := len_upto (raiseS n) A.sm k (by rw [HN.out]; exact hk); obtain ⟨q, c', he, hq1, hq2⟩ := HO.out.open (by rw [hlen, HN.out]; omega); injection he with he1 he2 he3; subst he1; have hcell : Z.1.cell? ⟨q, k * 7 + 3, none⟩ = some (.int .i64 x.z) := by
     have := (HO.out.rw_ smEl).1.on hat 3 _ rfl
     simpa using this
    have hbx0 := Z.2.cell (p := ⟨w.heap.size, 0, none⟩) (fun e => by have := (HLT.out _ e).1; simp only at this; omega) x0; have hbx1 := Z.2.cell (p := ⟨w.heap.size, 1, none⟩) (fun e => by have := (HLT.out _ e).1; simp only at this; omega) x1; have j3 := hac.cell.2.2.2.1; have HAT := qH hat; have HQ := qH hq1; clear hx hxr hat hlen he2 he3 hq1 hq2; have wr : IntKind.i64.wrap (x.z + n) = x.z + n := tm_wrap (by omega) (by omega); go_upto_region 13 with (fail); have C3 := Ext.ex hcell; have X1 := Ext.ex hbx1; clear hbx0 hbx1 j3; refine late_start (s := 9) (C := fun w' => ∃ Y : Ext Z.1, w' = Y.1) (by kernel_rfl) ?_; obtain ⟨Q0, hQ0⟩ : ∃ Y : Ext Z.1, ({ Z.1 with drawn := Z.1.drawn + 1 } : World) = Y.1 := ⟨⟨{ Z.1 with drawn := Z.1.drawn + 1 }, ⟨rfl, rfl, rfl, Nat.le_refl _, fun _ _ => rfl⟩⟩, rfl⟩; rw [hQ0]; clear hQ0; refine late_quiet (by kernel_rfl) (fun _ _ d _ _ h => by cases d <;> exact h) ⟨Q0, rfl⟩ [0, 1, 2, 3, 4, 5, 6] 3 _ _ (by kernel_rfl) (by kernel_rfl) ?_; change wpQuiet _ _ _ _ (_ :: _ :: _ :: _ :: _ :: _ :: _ :: []) _
    repeat go_big_quiet_step (fail)
    refine wpQuiet_nil ?_; refine late_quiet (by kernel_rfl) (fun _ _ d _ _ h => by cases d <;> exact h) ⟨Q0, rfl⟩ [7, 8] 1 _ _ (by kernel_rfl) (by kernel_rfl) ?_; change wpQuiet _ _ _ _ (_ :: _ :: []) _
    repeat go_big_quiet_step (fail)
    refine wpQuiet_nil ?_; have hoq := HO.out.below Q0.2; have fq := hoq.free (k * 7 + 3); have cq := bCel Q0.2 hcell; obtain ⟨hos, hks⟩ := hoq.set smEl (j := 3) HAT.out (by decide) (y := raiseS n x) (u := .int .i64 (x.z + n)) rfl; obtain ⟨W9, hW9⟩ : ∃ z, Q0.1.setCell ⟨q, k * 7 + 3, none⟩ (.int .i64 (x.z + n)) = z := ⟨_, rfl⟩; rw [hW9] at hos hks; rw [HUP.out] at hos; have HOS := qH hos; have HKS := qH ((Z.2.trans (Kept.of_below Q0.2)).trans (show Kept (fun x => (Value.slice (some ⟨q, 0, none⟩) ns ca).ownBlock = some x) Q0.1 W9 from ⟨hks.os, hks.tape, hks.output, hks.size, fun x hx ho => hks.block x hx (fun e => ho (by rw [e]; rfl))⟩)); clear hoq hos hks; refine late_do (i := 9) _ rfl (by kernel_rfl) rfl (fun K hK => ?_); go_simp; refine hK _ _ (nOo rfl) ?_; clear hK K
    try simp only [pS]
    refine late_done (by kernel_rfl) ?_ _; clear cq fq hW9 C3 X1 hcell; have hlt := hlt; go_wp2_with fail
    go_roundw
    case rel => exact ⟨k + 1, by go_num, by omega, HOS, ⟨W9, HKS.out⟩, rfl⟩
    case measure => simp [intOf]; omega
  · have t5 : decide ((k : Int) < (ns : Int)) = false := dFf (by omega)
    have t5' : decide (k < ns) = false := by simpa using hlt
    obtain rfl : ns = k := by omega
    have HOF := qH (show Own smC 7 72 Z.1 base (.slice a (A.sm.map (raiseS n)).length ca) (A.sm.map (raiseS n)) from by
     have h := HO.out; have e : (A.sm.take ns).map (raiseS n) ++ A.sm.drop ns = A.sm.map (raiseS n) := by rw [← HN.out, List.take_length, List.drop_length, List.append_nil]
     rw [e] at h; have e2 : (A.sm.map (raiseS n)).length = ns := by rw [List.length_map, HN.out]
     rw [e2]; exact h)
    have HAC := qH (show AcB Z.1 g A.name A.sport A.start (.slice a (A.sm.map (raiseS n)).length ca) (.slice b A.lp.length cb) (.slice c A.tg.length cc) from by rw [List.length_map, HN.out]; exact hac); have HLZ := qH (H2.out.keepO Z.2 (fun q hq e => H2.out.apart H1N.out (by decide) q hq e)); have HTZ := qH (H3.out.keepO Z.2 (fun q hq e => H3.out.apart H1N.out (by decide) q hq e)); have HKZ := qH (show Kept (fun q => base ≤ q) V0 Z.1 from ⟨Z.2.os, Z.2.tape, Z.2.output, Z.2.size, fun q hq ho => Z.2.block q hq (fun e => ho ((HLT.out q e).2.1))⟩); clear hlt hk hac HO; go_wp2_with fail; go_ret; exact ⟨below_at HB.out HBS.out HKZ.out, rfl, fun _ => ⟨⟨a, b, c, ca, cb, cc, HAC.out, HOF.out, HLZ.out, HTZ.out⟩, HG.out⟩⟩
theorem ap_7_1 (f t : Int) (s : ByteArray) (A : Acv) (base g : Nat) (w : World) (hM : Mine w base g A) (oA : AcOk A) (hb : base ≤ w.heap.size) :
 Calls Tryz.prog 177 #[edV ⟨7, 1, f, t, s⟩, .pointer (some ⟨g, 0, none⟩)] w fun e w' => ApR A ⟨7, 1, f, t, s⟩ base g w e w' := by
 unfold ApR; rw [appE_7 rfl, appZ_7 rfl]; obtain ⟨⟨a, b, c, ca, cb, cc, h0, h1, h2, h3⟩, hg⟩ := hM; obtain ⟨V0, hV0, hb0, hs0, hl0⟩ := alloc_cells w #[.int .i64 7, .int .i64 1, .int .i64 f, .int .i64 t, .string s] 99; have HB := qH hb0; have HBS := qH hb; have HG := qH hg; have H1W := qH h1; have H0 := qH (h0.below hb0); have H1 := qH (h1.below hb0); have H2 := qH (h2.below hb0); have H3 := qH (h3.below hb0); have HOA := qH oA; have x0 := hl0 0 _ rfl; have x1 := hl0 1 _ rfl; obtain ⟨c0, c1, c2, c3, c4, c5⟩ := H0.out.cell; have fr := H0.out.free; clear hb hg h0 h1 h2 h3 oA hb0 hl0; unfold edV; go_enter Tryz.func177, Tryz.ntmps177; obtain ⟨ns, hn⟩ : ∃ n, A.sm.length = n := ⟨_, rfl⟩; have HN := qH hn; have H1N := qH (show Own smC 7 72 V0 base (.slice a ns ca) A.sm from hn ▸ H1.out); have H0N := qH (show AcB V0 g A.name A.sport A.start (.slice a ns ca) (.slice b A.lp.length cb) (.slice c A.tg.length cc) from hn ▸ H0.out); have hns : ns ≤ 20000 := by have := HOA.out.nsm; omega
 rw [hn] at c3; have HLT := qH (fun q (hq : (Value.slice a ns ca).ownBlock = some q) => show q < w.heap.size ∧ base ≤ q ∧ q ≠ g from by
  have h := H1W.out.lt q (by rw [HN.out]; exact hq); exact ⟨h.2, h.1, fun e => (H0N.out.ne' H1N.out (by decide) q hq) e⟩)
 clear hn fr; go_wp2_with fail; clear hV0 c0 c1 c2 c3 c4 c5
 go_loopw [32] (fun iv wr => ∃ k : Nat, iv = .int .i64 k ∧ k ≤ ns ∧ Hid (Own smC 7 72 wr base (.slice a ns ca) ((A.sm.take k).map (clearS 1) ++ A.sm.drop k)) ∧ ∃ Z : ExtO (fun q => (Value.slice a ns ca).ownBlock = some q) V0, wr = Z.1) (fun iv _ => ns - (intOf iv).toNat)
 case atStart => exact ⟨0, rfl, by omega, qH H1N.out, ⟨V0, Kept.refl _ _⟩, rfl⟩
 case round =>
  obtain ⟨k, rfl, hk, HO, Z, rfl⟩ := hrel; have hac := H0N.out.kept Z.2 (fun e => (HLT.out g e).2.2 rfl); by_cases hlt : k < ns
  · have t5 : decide ((k : Int) < (ns : Int)) = true := dTt (by omega)
    have t5' : decide (k < ns) = true := by simpa using hlt
    obtain ⟨x, hx⟩ : ∃ x, A.sm[k]? = some x := ⟨_, List.getElem?_eq_getElem (by rw [HN.out]; exact hlt)⟩; obtain ⟨-, -, hxr⟩ := HOA.out.sm.upto k x hx; obtain ⟨-, -, hz0, hz1⟩ := range_xyz hxr; have hat := at_upto (clearS 1) A.sm k x hx; have HUP := qH (map_upto (clearS 1) A.sm k x hx); have hlen := len_upto (clearS 1) A.sm k (by rw [HN.out]; exact hk); obtain ⟨q, c', he, hq1, hq2⟩ := HO.out.open (by rw [hlen, HN.out]; omega); injection he with he1 he2 he3; subst he1; have hcell : Z.1.cell? ⟨q, k * 7 + 4, none⟩ = some (.int .i64 x.pu) := by
     have := (HO.out.rw_ smEl).1.on hat 4 _ rfl
     simpa using this
    have hbx0 := Z.2.cell (p := ⟨w.heap.size, 0, none⟩) (fun e => by have := (HLT.out _ e).1; simp only at this; omega) x0; have hbx1 := Z.2.cell (p := ⟨w.heap.size, 1, none⟩) (fun e => by have := (HLT.out _ e).1; simp only at this; omega) x1; have j3 := hac.cell.2.2.2.1; have HAT := qH hat; have HQ := qH hq1; clear hx hxr hat hlen he2 he3 hq1 hq2; go_upto_region 14 with (fail); have X1 := Ext.ex hbx1; clear hbx0 hbx1 j3; refine late_start (s := 16) (C := fun w' => ∃ Y : Ext Z.1, w' = Y.1) (by kernel_rfl) ?_; obtain ⟨Q9, hQ9⟩ : ∃ Y : Ext Z.1, ({ Z.1 with drawn := Z.1.drawn + 1 } : World) = Y.1 := ⟨⟨{ Z.1 with drawn := Z.1.drawn + 1 }, ⟨rfl, rfl, rfl, Nat.le_refl _, fun _ _ => rfl⟩⟩, rfl⟩; rw [hQ9]; clear hQ9; refine late_quiet (by kernel_rfl) (fun _ _ d _ _ h => by cases d <;> exact h) ⟨Q9, rfl⟩ [0, 1, 2, 3, 4, 5, 6, 7, 8, 10, 11, 12] 5 _ _ (by kernel_rfl) (by kernel_rfl) ?_; change wpQuiet _ _ _ _ (_ :: _ :: _ :: _ :: _ :: _ :: _ :: _ :: _ :: _ :: _ :: _ :: []) _
    repeat go_big_quiet_step (fail)
    refine wpQuiet_nil ?_; refine late_do (i := 9) _ rfl (by kernel_rfl) rfl (fun K hK => ?_); go_simp; obtain ⟨V7, hV7, hb7, hs7, hl7⟩ := alloc_cells Q9.1 #[.pointer (some ⟨q, k * 7 + 4, none⟩), .pointer (some ⟨q, k * 7 + 5, none⟩), .pointer (some ⟨q, k * 7 + 6, none⟩)] 109; rw [hV7]; obtain ⟨Q0, hQ0⟩ : ∃ Y : Ext Z.1, V7 = Y.1 := ⟨⟨V7, bStp Q9.2 hb7⟩, rfl⟩; have hp7 := hl7 0 _ rfl; subst hQ0; refine hK _ _ (fun _ => ⟨Q0, rfl⟩) ?_; clear hK K hV7 hb7 hs7 hl7
    try simp only [pS]
    refine late_do (i := 13) _ rfl (by kernel_rfl) rfl (fun K hK => ?_); go_simp; refine hK _ _ (fun _ => ⟨Q0, rfl⟩) ?_; clear hK K
    try simp only [pS]
    refine late_do (i := 14) _ rfl (by kernel_rfl) rfl (fun K hK => ?_); go_simp; refine hK _ _ (fun _ => ⟨Q0, rfl⟩) ?_; clear hK K
    try simp only [pS]
    refine late_do (i := 15) _ rfl (by kernel_rfl) rfl (fun K hK => ?_); go_simp; refine hK _ _ (fun _ => ⟨Q0, rfl⟩) ?_; clear hK K hp7
    try simp only [pS]
    have hoq := HO.out.below Q0.2; have fq := hoq.free (k * 7 + 4); have cq := bCel Q0.2 hcell; obtain ⟨hos, hks⟩ := hoq.set smEl (j := 4) HAT.out (by decide) (y := clearS 1 x) (u := .int .i64 (-1)) rfl; obtain ⟨W9, hW9⟩ : ∃ z, Q0.1.setCell ⟨q, k * 7 + 4, none⟩ (.int .i64 (-1)) = z := ⟨_, rfl⟩; rw [hW9] at hos hks; rw [HUP.out] at hos; have HOS := qH hos; have HKS := qH ((Z.2.trans (Kept.of_below Q0.2)).trans (show Kept (fun x => (Value.slice (some ⟨q, 0, none⟩) ns ca).ownBlock = some x) Q0.1 W9 from ⟨hks.os, hks.tape, hks.output, hks.size, fun x hx ho => hks.block x hx (fun e => ho (by rw [e]; rfl))⟩)); clear hoq hos hks; refine late_do (i := 16) _ rfl (by kernel_rfl) rfl (fun K hK => ?_); go_simp; refine hK _ _ (nOo rfl) ?_; clear hK K
    try simp only [pS]
    refine late_done (by kernel_rfl) ?_ _; clear cq fq hW9 X1 hcell; have hlt := hlt; go_wp2_with fail
    go_roundw
    case rel => exact ⟨k + 1, by go_num, by omega, HOS, ⟨W9, HKS.out⟩, rfl⟩
    case measure => simp [intOf]; omega
  · have t5 : decide ((k : Int) < (ns : Int)) = false := dFf (by omega)
    have t5' : decide (k < ns) = false := by simpa using hlt
    obtain rfl : ns = k := by omega
    have HOF := qH (show Own smC 7 72 Z.1 base (.slice a (A.sm.map (clearS 1)).length ca) (A.sm.map (clearS 1)) from by
     have h := HO.out; have e : (A.sm.take ns).map (clearS 1) ++ A.sm.drop ns = A.sm.map (clearS 1) := by rw [← HN.out, List.take_length, List.drop_length, List.append_nil]
     rw [e] at h; have e2 : (A.sm.map (clearS 1)).length = ns := by rw [List.length_map, HN.out]
     rw [e2]; exact h)
    have HAC := qH (show AcB Z.1 g A.name A.sport A.start (.slice a (A.sm.map (clearS 1)).length ca) (.slice b A.lp.length cb) (.slice c A.tg.length cc) from by rw [List.length_map, HN.out]; exact hac); have HLZ := qH (H2.out.keepO Z.2 (fun q hq e => H2.out.apart H1N.out (by decide) q hq e)); have HTZ := qH (H3.out.keepO Z.2 (fun q hq e => H3.out.apart H1N.out (by decide) q hq e)); have HKZ := qH (show Kept (fun q => base ≤ q) V0 Z.1 from ⟨Z.2.os, Z.2.tape, Z.2.output, Z.2.size, fun q hq ho => Z.2.block q hq (fun e => ho ((HLT.out q e).2.1))⟩); clear hlt hk hac HO; go_wp2_with fail; go_ret; exact ⟨below_at HB.out HBS.out HKZ.out, rfl, fun _ => ⟨⟨a, b, c, ca, cb, cc, HAC.out, HOF.out, HLZ.out, HTZ.out⟩, HG.out⟩⟩
theorem ap_7_2 (f t : Int) (s : ByteArray) (A : Acv) (base g : Nat) (w : World) (hM : Mine w base g A) (oA : AcOk A) (hb : base ≤ w.heap.size) :
 Calls Tryz.prog 177 #[edV ⟨7, 2, f, t, s⟩, .pointer (some ⟨g, 0, none⟩)] w fun e w' => ApR A ⟨7, 2, f, t, s⟩ base g w e w' := by
 unfold ApR; rw [appE_7 rfl, appZ_7 rfl]; obtain ⟨⟨a, b, c, ca, cb, cc, h0, h1, h2, h3⟩, hg⟩ := hM; obtain ⟨V0, hV0, hb0, hs0, hl0⟩ := alloc_cells w #[.int .i64 7, .int .i64 2, .int .i64 f, .int .i64 t, .string s] 99; have HB := qH hb0; have HBS := qH hb; have HG := qH hg; have H1W := qH h1; have H0 := qH (h0.below hb0); have H1 := qH (h1.below hb0); have H2 := qH (h2.below hb0); have H3 := qH (h3.below hb0); have HOA := qH oA; have x0 := hl0 0 _ rfl; have x1 := hl0 1 _ rfl; obtain ⟨c0, c1, c2, c3, c4, c5⟩ := H0.out.cell; have fr := H0.out.free; clear hb hg h0 h1 h2 h3 oA hb0 hl0; unfold edV; go_enter Tryz.func177, Tryz.ntmps177; obtain ⟨ns, hn⟩ : ∃ n, A.sm.length = n := ⟨_, rfl⟩; have HN := qH hn; have H1N := qH (show Own smC 7 72 V0 base (.slice a ns ca) A.sm from hn ▸ H1.out); have H0N := qH (show AcB V0 g A.name A.sport A.start (.slice a ns ca) (.slice b A.lp.length cb) (.slice c A.tg.length cc) from hn ▸ H0.out); have hns : ns ≤ 20000 := by have := HOA.out.nsm; omega
 rw [hn] at c3; have HLT := qH (fun q (hq : (Value.slice a ns ca).ownBlock = some q) => show q < w.heap.size ∧ base ≤ q ∧ q ≠ g from by
  have h := H1W.out.lt q (by rw [HN.out]; exact hq); exact ⟨h.2, h.1, fun e => (H0N.out.ne' H1N.out (by decide) q hq) e⟩)
 clear hn fr; go_wp2_with fail; clear hV0 c0 c1 c2 c3 c4 c5
 go_loopw [32] (fun iv wr => ∃ k : Nat, iv = .int .i64 k ∧ k ≤ ns ∧ Hid (Own smC 7 72 wr base (.slice a ns ca) ((A.sm.take k).map (clearS 2) ++ A.sm.drop k)) ∧ ∃ Z : ExtO (fun q => (Value.slice a ns ca).ownBlock = some q) V0, wr = Z.1) (fun iv _ => ns - (intOf iv).toNat)
 case atStart => exact ⟨0, rfl, by omega, qH H1N.out, ⟨V0, Kept.refl _ _⟩, rfl⟩
 case round =>
  obtain ⟨k, rfl, hk, HO, Z, rfl⟩ := hrel; have hac := H0N.out.kept Z.2 (fun e => (HLT.out g e).2.2 rfl); by_cases hlt : k < ns
  · have t5 : decide ((k : Int) < (ns : Int)) = true := dTt (by omega)
    have t5' : decide (k < ns) = true := by simpa using hlt
    obtain ⟨x, hx⟩ : ∃ x, A.sm[k]? = some x := ⟨_, List.getElem?_eq_getElem (by rw [HN.out]; exact hlt)⟩; obtain ⟨-, -, hxr⟩ := HOA.out.sm.upto k x hx; obtain ⟨-, -, hz0, hz1⟩ := range_xyz hxr; have hat := at_upto (clearS 2) A.sm k x hx; have HUP := qH (map_upto (clearS 2) A.sm k x hx); have hlen := len_upto (clearS 2) A.sm k (by rw [HN.out]; exact hk); obtain ⟨q, c', he, hq1, hq2⟩ := HO.out.open (by rw [hlen, HN.out]; omega); injection he with he1 he2 he3; subst he1; have hcell : Z.1.cell? ⟨q, k * 7 + 5, none⟩ = some (.int .i64 x.po) := by
     have := (HO.out.rw_ smEl).1.on hat 5 _ rfl
     simpa using this
    have hbx0 := Z.2.cell (p := ⟨w.heap.size, 0, none⟩) (fun e => by have := (HLT.out _ e).1; simp only at this; omega) x0; have hbx1 := Z.2.cell (p := ⟨w.heap.size, 1, none⟩) (fun e => by have := (HLT.out _ e).1; simp only at this; omega) x1; have j3 := hac.cell.2.2.2.1; have HAT := qH hat; have HQ := qH hq1; clear hx hxr hat hlen he2 he3 hq1 hq2; go_upto_region 14 with (fail); have X1 := Ext.ex hbx1; clear hbx0 hbx1 j3; refine late_start (s := 16) (C := fun w' => ∃ Y : Ext Z.1, w' = Y.1) (by kernel_rfl) ?_; obtain ⟨Q9, hQ9⟩ : ∃ Y : Ext Z.1, ({ Z.1 with drawn := Z.1.drawn + 1 } : World) = Y.1 := ⟨⟨{ Z.1 with drawn := Z.1.drawn + 1 }, ⟨rfl, rfl, rfl, Nat.le_refl _, fun _ _ => rfl⟩⟩, rfl⟩; rw [hQ9]; clear hQ9; refine late_quiet (by kernel_rfl) (fun _ _ d _ _ h => by cases d <;> exact h) ⟨Q9, rfl⟩ [0, 1, 2, 3, 4, 5, 6, 7, 8, 10, 11, 12] 5 _ _ (by kernel_rfl) (by kernel_rfl) ?_; change wpQuiet _ _ _ _ (_ :: _ :: _ :: _ :: _ :: _ :: _ :: _ :: _ :: _ :: _ :: _ :: []) _
    repeat go_big_quiet_step (fail)
    refine wpQuiet_nil ?_; refine late_do (i := 9) _ rfl (by kernel_rfl) rfl (fun K hK => ?_); go_simp; obtain ⟨V7, hV7, hb7, hs7, hl7⟩ := alloc_cells Q9.1 #[.pointer (some ⟨q, k * 7 + 4, none⟩), .pointer (some ⟨q, k * 7 + 5, none⟩), .pointer (some ⟨q, k * 7 + 6, none⟩)] 109; rw [hV7]; obtain ⟨Q0, hQ0⟩ : ∃ Y : Ext Z.1, V7 = Y.1 := ⟨⟨V7, bStp Q9.2 hb7⟩, rfl⟩; have hp7 := hl7 1 _ rfl; subst hQ0; refine hK _ _ (fun _ => ⟨Q0, rfl⟩) ?_; clear hK K hV7 hb7 hs7 hl7
    try simp only [pS]
    refine late_do (i := 13) _ rfl (by kernel_rfl) rfl (fun K hK => ?_); go_simp; refine hK _ _ (fun _ => ⟨Q0, rfl⟩) ?_; clear hK K
    try simp only [pS]
    refine late_do (i := 14) _ rfl (by kernel_rfl) rfl (fun K hK => ?_); go_simp; refine hK _ _ (fun _ => ⟨Q0, rfl⟩) ?_; clear hK K
    try simp only [pS]
    refine late_do (i := 15) _ rfl (by kernel_rfl) rfl (fun K hK => ?_); go_simp; refine hK _ _ (fun _ => ⟨Q0, rfl⟩) ?_; clear hK K hp7
    try simp only [pS]
    have hoq := HO.out.below Q0.2; have fq := hoq.free (k * 7 + 5); have cq := bCel Q0.2 hcell; obtain ⟨hos, hks⟩ := hoq.set smEl (j := 5) HAT.out (by decide) (y := clearS 2 x) (u := .int .i64 (-1)) rfl; obtain ⟨W9, hW9⟩ : ∃ z, Q0.1.setCell ⟨q, k * 7 + 5, none⟩ (.int .i64 (-1)) = z := ⟨_, rfl⟩; rw [hW9] at hos hks; rw [HUP.out] at hos; have HOS := qH hos; have HKS := qH ((Z.2.trans (Kept.of_below Q0.2)).trans (show Kept (fun x => (Value.slice (some ⟨q, 0, none⟩) ns ca).ownBlock = some x) Q0.1 W9 from ⟨hks.os, hks.tape, hks.output, hks.size, fun x hx ho => hks.block x hx (fun e => ho (by rw [e]; rfl))⟩)); clear hoq hos hks; refine late_do (i := 16) _ rfl (by kernel_rfl) rfl (fun K hK => ?_); go_simp; refine hK _ _ (nOo rfl) ?_; clear hK K
    try simp only [pS]
    refine late_done (by kernel_rfl) ?_ _; clear cq fq hW9 X1 hcell; have hlt := hlt; go_wp2_with fail
    go_roundw
    case rel => exact ⟨k + 1, by go_num, by omega, HOS, ⟨W9, HKS.out⟩, rfl⟩
    case measure => simp [intOf]; omega
  · have t5 : decide ((k : Int) < (ns : Int)) = false := dFf (by omega)
    have t5' : decide (k < ns) = false := by simpa using hlt
    obtain rfl : ns = k := by omega
    have HOF := qH (show Own smC 7 72 Z.1 base (.slice a (A.sm.map (clearS 2)).length ca) (A.sm.map (clearS 2)) from by
     have h := HO.out; have e : (A.sm.take ns).map (clearS 2) ++ A.sm.drop ns = A.sm.map (clearS 2) := by rw [← HN.out, List.take_length, List.drop_length, List.append_nil]
     rw [e] at h; have e2 : (A.sm.map (clearS 2)).length = ns := by rw [List.length_map, HN.out]
     rw [e2]; exact h)
    have HAC := qH (show AcB Z.1 g A.name A.sport A.start (.slice a (A.sm.map (clearS 2)).length ca) (.slice b A.lp.length cb) (.slice c A.tg.length cc) from by rw [List.length_map, HN.out]; exact hac); have HLZ := qH (H2.out.keepO Z.2 (fun q hq e => H2.out.apart H1N.out (by decide) q hq e)); have HTZ := qH (H3.out.keepO Z.2 (fun q hq e => H3.out.apart H1N.out (by decide) q hq e)); have HKZ := qH (show Kept (fun q => base ≤ q) V0 Z.1 from ⟨Z.2.os, Z.2.tape, Z.2.output, Z.2.size, fun q hq ho => Z.2.block q hq (fun e => ho ((HLT.out q e).2.1))⟩); clear hlt hk hac HO; go_wp2_with fail; go_ret; exact ⟨below_at HB.out HBS.out HKZ.out, rfl, fun _ => ⟨⟨a, b, c, ca, cb, cc, HAC.out, HOF.out, HLZ.out, HTZ.out⟩, HG.out⟩⟩
theorem ap_7_3 (f t : Int) (s : ByteArray) (A : Acv) (base g : Nat) (w : World) (hM : Mine w base g A) (oA : AcOk A) (hb : base ≤ w.heap.size) :
 Calls Tryz.prog 177 #[edV ⟨7, 3, f, t, s⟩, .pointer (some ⟨g, 0, none⟩)] w fun e w' => ApR A ⟨7, 3, f, t, s⟩ base g w e w' := by
 unfold ApR; rw [appE_7 rfl, appZ_7 rfl]; obtain ⟨⟨a, b, c, ca, cb, cc, h0, h1, h2, h3⟩, hg⟩ := hM; obtain ⟨V0, hV0, hb0, hs0, hl0⟩ := alloc_cells w #[.int .i64 7, .int .i64 3, .int .i64 f, .int .i64 t, .string s] 99; have HB := qH hb0; have HBS := qH hb; have HG := qH hg; have H1W := qH h1; have H0 := qH (h0.below hb0); have H1 := qH (h1.below hb0); have H2 := qH (h2.below hb0); have H3 := qH (h3.below hb0); have HOA := qH oA; have x0 := hl0 0 _ rfl; have x1 := hl0 1 _ rfl; obtain ⟨c0, c1, c2, c3, c4, c5⟩ := H0.out.cell; have fr := H0.out.free; clear hb hg h0 h1 h2 h3 oA hb0 hl0; unfold edV; go_enter Tryz.func177, Tryz.ntmps177; obtain ⟨ns, hn⟩ : ∃ n, A.sm.length = n := ⟨_, rfl⟩; have HN := qH hn; have H1N := qH (show Own smC 7 72 V0 base (.slice a ns ca) A.sm from hn ▸ H1.out); have H0N := qH (show AcB V0 g A.name A.sport A.start (.slice a ns ca) (.slice b A.lp.length cb) (.slice c A.tg.length cc) from hn ▸ H0.out); have hns : ns ≤ 20000 := by have := HOA.out.nsm; omega
 rw [hn] at c3; have HLT := qH (fun q (hq : (Value.slice a ns ca).ownBlock = some q) => show q < w.heap.size ∧ base ≤ q ∧ q ≠ g from by
  have h := H1W.out.lt q (by rw [HN.out]; exact hq); exact ⟨h.2, h.1, fun e => (H0N.out.ne' H1N.out (by decide) q hq) e⟩)
 clear hn fr; go_wp2_with fail; clear hV0 c0 c1 c2 c3 c4 c5
 go_loopw [32] (fun iv wr => ∃ k : Nat, iv = .int .i64 k ∧ k ≤ ns ∧ Hid (Own smC 7 72 wr base (.slice a ns ca) ((A.sm.take k).map (clearS 3) ++ A.sm.drop k)) ∧ ∃ Z : ExtO (fun q => (Value.slice a ns ca).ownBlock = some q) V0, wr = Z.1) (fun iv _ => ns - (intOf iv).toNat)
 case atStart => exact ⟨0, rfl, by omega, qH H1N.out, ⟨V0, Kept.refl _ _⟩, rfl⟩
 case round =>
  obtain ⟨k, rfl, hk, HO, Z, rfl⟩ := hrel; have hac := H0N.out.kept Z.2 (fun e => (HLT.out g e).2.2 rfl); by_cases hlt : k < ns
  · have t5 : decide ((k : Int) < (ns : Int)) = true := dTt (by omega)
    have t5' : decide (k < ns) = true := by simpa using hlt
    obtain ⟨x, hx⟩ : ∃ x, A.sm[k]? = some x := ⟨_, List.getElem?_eq_getElem (by rw [HN.out]; exact hlt)⟩; obtain ⟨-, -, hxr⟩ := HOA.out.sm.upto k x hx; obtain ⟨-, -, hz0, hz1⟩ := range_xyz hxr; have hat := at_upto (clearS 3) A.sm k x hx; have HUP := qH (map_upto (clearS 3) A.sm k x hx); have hlen := len_upto (clearS 3) A.sm k (by rw [HN.out]; exact hk); obtain ⟨q, c', he, hq1, hq2⟩ := HO.out.open (by rw [hlen, HN.out]; omega); injection he with he1 he2 he3; subst he1; have hcell : Z.1.cell? ⟨q, k * 7 + 6, none⟩ = some (.int .i64 x.st) := by
     have := (HO.out.rw_ smEl).1.on hat 6 _ rfl
     simpa using this
    have hbx0 := Z.2.cell (p := ⟨w.heap.size, 0, none⟩) (fun e => by have := (HLT.out _ e).1; simp only at this; omega) x0; have hbx1 := Z.2.cell (p := ⟨w.heap.size, 1, none⟩) (fun e => by have := (HLT.out _ e).1; simp only at this; omega) x1; have j3 := hac.cell.2.2.2.1; have HAT := qH hat; have HQ := qH hq1; clear hx hxr hat hlen he2 he3 hq1 hq2; go_upto_region 14 with (fail); have X1 := Ext.ex hbx1; clear hbx0 hbx1 j3; refine late_start (s := 16) (C := fun w' => ∃ Y : Ext Z.1, w' = Y.1) (by kernel_rfl) ?_; obtain ⟨Q9, hQ9⟩ : ∃ Y : Ext Z.1, ({ Z.1 with drawn := Z.1.drawn + 1 } : World) = Y.1 := ⟨⟨{ Z.1 with drawn := Z.1.drawn + 1 }, ⟨rfl, rfl, rfl, Nat.le_refl _, fun _ _ => rfl⟩⟩, rfl⟩; rw [hQ9]; clear hQ9; refine late_quiet (by kernel_rfl) (fun _ _ d _ _ h => by cases d <;> exact h) ⟨Q9, rfl⟩ [0, 1, 2, 3, 4, 5, 6, 7, 8, 10, 11, 12] 5 _ _ (by kernel_rfl) (by kernel_rfl) ?_; change wpQuiet _ _ _ _ (_ :: _ :: _ :: _ :: _ :: _ :: _ :: _ :: _ :: _ :: _ :: _ :: []) _
    repeat go_big_quiet_step (fail)
    refine wpQuiet_nil ?_; refine late_do (i := 9) _ rfl (by kernel_rfl) rfl (fun K hK => ?_); go_simp; obtain ⟨V7, hV7, hb7, hs7, hl7⟩ := alloc_cells Q9.1 #[.pointer (some ⟨q, k * 7 + 4, none⟩), .pointer (some ⟨q, k * 7 + 5, none⟩), .pointer (some ⟨q, k * 7 + 6, none⟩)] 109; rw [hV7]; obtain ⟨Q0, hQ0⟩ : ∃ Y : Ext Z.1, V7 = Y.1 := ⟨⟨V7, bStp Q9.2 hb7⟩, rfl⟩; have hp7 := hl7 2 _ rfl; subst hQ0; refine hK _ _ (fun _ => ⟨Q0, rfl⟩) ?_; clear hK K hV7 hb7 hs7 hl7
    try simp only [pS]
    refine late_do (i := 13) _ rfl (by kernel_rfl) rfl (fun K hK => ?_); go_simp; refine hK _ _ (fun _ => ⟨Q0, rfl⟩) ?_; clear hK K
    try simp only [pS]
    refine late_do (i := 14) _ rfl (by kernel_rfl) rfl (fun K hK => ?_); go_simp; refine hK _ _ (fun _ => ⟨Q0, rfl⟩) ?_; clear hK K
    try simp only [pS]
    refine late_do (i := 15) _ rfl (by kernel_rfl) rfl (fun K hK => ?_); go_simp; refine hK _ _ (fun _ => ⟨Q0, rfl⟩) ?_; clear hK K hp7
    try simp only [pS]
    have hoq := HO.out.below Q0.2; have fq := hoq.free (k * 7 + 6); have cq := bCel Q0.2 hcell; obtain ⟨hos, hks⟩ := hoq.set smEl (j := 6) HAT.out (by decide) (y := clearS 3 x) (u := .int .i64 (-1)) rfl; obtain ⟨W9, hW9⟩ : ∃ z, Q0.1.setCell ⟨q, k * 7 + 6, none⟩ (.int .i64 (-1)) = z := ⟨_, rfl⟩; rw [hW9] at hos hks; rw [HUP.out] at hos; have HOS := qH hos; have HKS := qH ((Z.2.trans (Kept.of_below Q0.2)).trans (show Kept (fun x => (Value.slice (some ⟨q, 0, none⟩) ns ca).ownBlock = some x) Q0.1 W9 from ⟨hks.os, hks.tape, hks.output, hks.size, fun x hx ho => hks.block x hx (fun e => ho (by rw [e]; rfl))⟩)); clear hoq hos hks; refine late_do (i := 16) _ rfl (by kernel_rfl) rfl (fun K hK => ?_); go_simp; refine hK _ _ (nOo rfl) ?_; clear hK K
    try simp only [pS]
    refine late_done (by kernel_rfl) ?_ _; clear cq fq hW9 X1 hcell; have hlt := hlt; go_wp2_with fail
    go_roundw
    case rel => exact ⟨k + 1, by go_num, by omega, HOS, ⟨W9, HKS.out⟩, rfl⟩
    case measure => simp [intOf]; omega
  · have t5 : decide ((k : Int) < (ns : Int)) = false := dFf (by omega)
    have t5' : decide (k < ns) = false := by simpa using hlt
    obtain rfl : ns = k := by omega
    have HOF := qH (show Own smC 7 72 Z.1 base (.slice a (A.sm.map (clearS 3)).length ca) (A.sm.map (clearS 3)) from by
     have h := HO.out; have e : (A.sm.take ns).map (clearS 3) ++ A.sm.drop ns = A.sm.map (clearS 3) := by rw [← HN.out, List.take_length, List.drop_length, List.append_nil]
     rw [e] at h; have e2 : (A.sm.map (clearS 3)).length = ns := by rw [List.length_map, HN.out]
     rw [e2]; exact h)
    have HAC := qH (show AcB Z.1 g A.name A.sport A.start (.slice a (A.sm.map (clearS 3)).length ca) (.slice b A.lp.length cb) (.slice c A.tg.length cc) from by rw [List.length_map, HN.out]; exact hac); have HLZ := qH (H2.out.keepO Z.2 (fun q hq e => H2.out.apart H1N.out (by decide) q hq e)); have HTZ := qH (H3.out.keepO Z.2 (fun q hq e => H3.out.apart H1N.out (by decide) q hq e)); have HKZ := qH (show Kept (fun q => base ≤ q) V0 Z.1 from ⟨Z.2.os, Z.2.tape, Z.2.output, Z.2.size, fun q hq ho => Z.2.block q hq (fun e => ho ((HLT.out q e).2.1))⟩); clear hlt hk hac HO; go_wp2_with fail; go_ret; exact ⟨below_at HB.out HBS.out HKZ.out, rfl, fun _ => ⟨⟨a, b, c, ca, cb, cc, HAC.out, HOF.out, HLZ.out, HTZ.out⟩, HG.out⟩⟩
theorem lowL_halved : ∀ {l : List Lp} {n : Int} {i : Nat}, l.Pairwise (fun p q => p.f < q.f) → i ≤ l.length → (∀ s : Lp, 0 < i → l[i - 1]? = some s → s.f < n) → (∀ s : Lp, l[i]? = some s → n ≤ s.f) → lowL n l = i
 | [], n, i, _, hi, _, _ => by
  simp only [List.length_nil] at hi; rw [lowL]; omega
 | p :: l, n, i, hs, hi, h1, h2 => by
  have hs' := List.pairwise_cons.1 hs; rw [lowL]
  match i, hi, h1, h2 with
  | 0, _, _, h2 =>
   rw [if_neg (by have := h2 p rfl; omega)]
  | i + 1, hi, h1, h2 =>
   have hp : p.f < n := by
    match i, h1 with
    | 0, h1 => exact h1 p (by omega) rfl
    | i + 1, h1 =>
     simp only [List.length_cons] at hi; have hlt : i < l.length := by omega
     have h3 := h1 l[i] (by omega) (by
      show (p :: l)[i + 1]? = _; rw [List.getElem?_cons_succ]; exact List.getElem?_eq_getElem hlt)
     have h4 := hs'.1 l[i] (List.getElem_mem hlt); omega
   have h := lowL_halved (i := i) (n := n) hs'.2 (by simp only [List.length_cons] at hi; omega) (fun s h0 hs => by
    match i, h0, hs with
    | i + 1, _, hs => exact h1 s (by omega) hs) (fun s hs => h2 s (by rw [List.getElem?_cons_succ]; exact hs))
   rw [if_pos hp, h]
theorem lapCmp_any (s : Lp) (n : Int) (w : World) : Calls Tryz.prog 224 #[lpV s, .int .i64 n] w fun e w' => e = .returned (.int .i64 (Lib.compareInt s.f n)) ∧ Below w.heap.size w w' := by
 have D := qH (fun W => Tryz.cmp_Compare_int s.f n W); unfold lpV; generalize Lib.compareInt s.f n = r at *; go_enter Tryz.func224, Tryz.ntmps224; go_wp2_with fail; refine (D.out _).mono ?_; rintro e w1 ⟨rfl, hw⟩; have HB := qH (show Below w.heap.size w w1 from hw ▸ below_al w _); clear hw; go_wp2_with fail; go_ret; exact ⟨rfl, HB.out⟩
def foundL (l : List Lp) (n : Int) : Bool := match l[lowL n l]? with
 | some s => decide (s.f = n)
 | none => false
theorem searchL_any (a : Option Addr) (l : List Lp) (c : Nat) (x : Int) (w : World) (hr : Rw lpC 3 w a l) (ho : l.Pairwise (fun p q => p.f < q.f)) (hl : l.length ≤ 20000) :
 Calls Tryz.prog 223 #[.slice a l.length c, .int .i64 x, .func (.func 224) #[] #[]] w fun e w' => e = .returned (.tuple #[.int .i64 (lowL x l), .bool (foundL l x)]) ∧ Below w.heap.size w w' := by
 have HR := qH hr; have HO := qH ho; have DZ := qH (fun (s : Lp) (W : World) => lapCmp_any s x W); have crun : ∀ (args : Array Value) (W : World), Sem.run Tryz.prog (callFunc 224 args) W = .ok (.enter 224 args) W := fun _ _ => by kernel_rfl
 obtain ⟨n, hn⟩ : ∃ n, l.length = n := ⟨_, rfl⟩; have HN := qH hn; rw [hn] at hl ⊢; clear hr ho hn; unfold lpV at DZ; go_enter Tryz.func223, Tryz.ntmps223; go_wp2_with fail
 go_loopw [9, 10] (fun iv jv wr => ∃ (i j : Nat), iv = .int .i64 i ∧ jv = .int .i64 j ∧ i ≤ j ∧ j ≤ n ∧ Hid ((∀ s : Lp, 0 < i → l[i - 1]? = some s → s.f < x) ∧ (∀ s : Lp, l[j]? = some s → x ≤ s.f)) ∧ ∃ X : Ext w, wr = X.1) (fun iv jv _ => (intOf jv).toNat - (intOf iv).toNat)
 case atStart => exact ⟨0, n, rfl, rfl, by omega, by omega, qH ⟨fun s h => by omega, fun s h => by rw [List.getElem?_eq_none (by rw [HN.out]; exact Nat.le_refl _)] at h; cases h⟩, ⟨w, Below.refl _ _⟩, rfl⟩
 case round =>
  obtain ⟨i, j, rfl, rfl, hij, hj, HE, X, rfl⟩ := hrel; by_cases hlt : i < j
  · have t1 : decide ((i : Int) < (j : Int)) = true := dTt (by omega)
    have t1' : decide (i < j) = true := by simpa using hlt
    obtain ⟨k, hk⟩ : ∃ k : Nat, (i + j) / 2 = k := ⟨_, rfl⟩; have ek : ((i : Int) + (j : Int)) / 2 = (k : Int) := by omega
    have hki : i ≤ k := by omega
    have hkj : k < j := by omega
    have hkn : k < n := by omega
    have hb1 : (i : Int) ≤ 20000 := by omega
    have hb2 : (j : Int) ≤ 20000 := by omega
    have hb3 : (k : Int) ≤ 20000 := by omega
    obtain ⟨s, hx⟩ : ∃ s, l[k]? = some s := ⟨_, List.getElem?_eq_getElem (by rw [HN.out]; exact hkn)⟩; have HX := qH (HR.out.below X.2); obtain ⟨ba, oa, rfl, hba, hc⟩ := HX.out.at hx; have c0 : X.1.cell? ⟨ba, oa + k * 3, none⟩ = some (.int .i64 s.f) := hc 0 _ rfl; have c1 := hc 1 _ rfl; have c2 := hc 2 _ rfl; have D := qH (DZ.out s); have t3 := cmpI_lt s.f x; have HHX := qH hx; generalize Lib.compareInt s.f x = cv at D t3; clear hk hc hx; by_cases hs : s.f < x
    · rw [decide_eq_true hs] at t3
      have HH := qH (show (∀ z : Lp, 0 < k + 1 → l[k + 1 - 1]? = some z → z.f < x) ∧ (∀ z : Lp, l[j]? = some z → x ≤ z.f) from ⟨fun z _ hz => by
       rw [Nat.add_sub_cancel, HHX.out] at hz; injection hz with hz; subst hz; exact hs, HE.out.2⟩)
      clear hs HE; go_wp2_with fail; refine (D.out _).mono ?_; rintro e w1 ⟨rfl, hb⟩; obtain ⟨Z, rfl⟩ : ∃ Z : Ext w, w1 = Z.1 := ⟨⟨w1, bStp X.2 hb⟩, rfl⟩; clear hb; go_wp2_with fail
      go_roundw
      case rel => exact ⟨k + 1, j, by go_num, rfl, by omega, hj, HH, Z, rfl⟩
      case measure => simp [intOf]; omega
    · rw [decide_eq_false hs] at t3
      have HH := qH (show (∀ z : Lp, 0 < i → l[i - 1]? = some z → z.f < x) ∧ (∀ z : Lp, l[k]? = some z → x ≤ z.f) from ⟨HE.out.1, fun z hz => by
       rw [HHX.out] at hz; injection hz with hz; subst hz; omega⟩)
      clear hs HE; go_wp2_with fail; refine (D.out _).mono ?_; rintro e w1 ⟨rfl, hb⟩; obtain ⟨Z, rfl⟩ : ∃ Z : Ext w, w1 = Z.1 := ⟨⟨w1, bStp X.2 hb⟩, rfl⟩; clear hb; go_wp2_with fail
      go_roundw
      case rel => exact ⟨i, k, rfl, rfl, hki, by omega, HH, Z, rfl⟩
      case measure => simp [intOf]; omega
  · have t1 : decide ((i : Int) < (j : Int)) = false := dFf (by omega)
    have t1' : decide (i < j) = false := by simpa using hlt
    obtain rfl : i = j := by omega
    have HL := qH (lowL_halved HO.out (by rw [HN.out]; exact hj) HE.out.1 HE.out.2); clear HE hlt hij; by_cases hin : i < n
    · have t2 : decide ((i : Int) < (n : Int)) = true := dTt (by omega)
      have t2' : decide (i < n) = true := by simpa using hin
      obtain ⟨s, hx⟩ : ∃ s, l[i]? = some s := ⟨_, List.getElem?_eq_getElem (by rw [HN.out]; exact hin)⟩; have HX := qH (HR.out.below X.2); obtain ⟨ba, oa, rfl, hba, hc⟩ := HX.out.at hx; have c0 : X.1.cell? ⟨ba, oa + i * 3, none⟩ = some (.int .i64 s.f) := hc 0 _ rfl; have c1 := hc 1 _ rfl; have c2 := hc 2 _ rfl; have D := qH (DZ.out s); have t3 := cmpI_eq s.f x; have HF := qH (show foundL l x = decide (s.f = x) by unfold foundL; rw [HL.out, hx]); generalize Lib.compareInt s.f x = cv at D t3; generalize decide (s.f = x) = bf at t3 HF; clear hc hx; go_wp2_with fail; refine (D.out _).mono ?_; rintro e w1 ⟨rfl, hb⟩; have HB := qH (bStp X.2 hb); clear hb; go_wp2_with fail; go_ret2; exact ⟨by rw [HL.out, HF.out]; rfl, HB.out⟩
    · have t2 : decide ((i : Int) < (n : Int)) = false := dFf (by omega)
      have t2' : decide (i < n) = false := by simpa using hin
      have HF := qH (show foundL l x = false by unfold foundL; rw [HL.out, List.getElem?_eq_none (by rw [HN.out]; omega)]); have HX := qH X.2; clear hin; go_wp2_with fail; go_ret2; exact ⟨by rw [HL.out, HF.out]; rfl, HX.out⟩
theorem ap_11 (f t : Int) (s : ByteArray) (A : Acv) (base g : Nat) (w : World) (hM : Mine w base g A) (oA : AcOk A) (hb : base ≤ w.heap.size) :
 Calls Tryz.prog 219 #[edV ⟨11, 0, f, t, s⟩, .pointer (some ⟨g, 0, none⟩)] w fun e w' => Below base w w' ∧ e = .returned (.int .i64 0) ∧ Mine w' base g { A with lp := putP ⟨f, t, s⟩ A.lp } := by
 obtain ⟨⟨a, b, c, ca, cb, cc, h0, h1, h2, h3⟩, hg⟩ := hM; obtain ⟨V0, hV0, hb0, hs0, hl0⟩ := alloc_cells w #[.int .i64 11, .int .i64 0, .int .i64 f, .int .i64 t, .string s] 101; have HB := qH hb0; have HBS := qH hb; have HG := qH hg; have H0 := qH (h0.below hb0); have H1 := qH (h1.below hb0); have H2 := qH (h2.below hb0); have H3 := qH (h3.below hb0); have H2W := qH h2; have HOA := qH oA; have HLS := qH (lp_sorted oA.lp); have hnt := oA.nlp; have x0 := hl0 0 _ rfl; have x1 := hl0 1 _ rfl; have x2 := hl0 2 _ rfl; have G0 := Ext.ex (hl0 0 _ rfl); have G1 := Ext.ex (hl0 1 _ rfl); have G2 := Ext.ex (hl0 2 _ rfl); have G3 := Ext.ex (hl0 3 _ rfl); have G4 := Ext.ex (hl0 4 _ rfl); have A5 := Ext.ex H0.out.cell.2.2.2.2.1; have DB := qH (fun X : Ext V0 => X.calls (searchL_any b A.lp cb f X.1 ((h2.rw_ lpEl).1.below (bStp HB.out X.2)) (lp_sorted oA.lp) (by omega))); have hlow := lowL_le f A.lp; obtain ⟨k, hk⟩ : ∃ k, lowL f A.lp = k := ⟨_, rfl⟩; obtain ⟨fd, hfd⟩ : ∃ k, foundL A.lp f = k := ⟨_, rfl⟩; rw [hk, hfd] at DB; rw [hk] at hlow; have HPP := qH (show putP ⟨f, t, s⟩ A.lp = A.lp.take k ++ [⟨f, t, s⟩] ++ A.lp.drop k from by unfold putP; rw [hk]); obtain ⟨nt, hn⟩ : ∃ n, A.lp.length = n := ⟨_, rfl⟩; have HN := qH hn; rw [hn] at DB A5 hlow hnt; clear hb hg h0 h1 h2 h3 oA hb0 hl0 hk hn hfd; unfold edV; go_enter Tryz.func219, Tryz.ntmps219; go_upto_region 6 with (fail); clear hV0; refine wp_region_ext (W := V0) ⟨V0, Below.refl _ _⟩ (by kernel_rfl) (by kernel_rfl) ?_
 repeat go_big_quiet_step (exact DB.out _)
 refine wpQuiet_nil ?_; rintro _ ⟨Y, rfl⟩; have HAY := qH (H0.out.below Y.2); have HWY := qH (bStp HB.out Y.2); have HNO := qH (fun (Z : ExtO (fun q => (Value.slice b nt cb).ownBlock = some q) Y.1) => show Z.1.cell? ⟨g, 4, none⟩ = some (.slice b nt cb) from Z.2.cell (p := ⟨g, 4, none⟩) (fun e => (HAY.out.ne' (H2.out.below Y.2) (by decide) g (by rw [HN.out]; exact e)) rfl) (A5 Y)); have hbx : ∀ (i : Nat) (v : Value), Y.1.cell? ⟨w.heap.size, i, none⟩ = some v → ∀ Z : ExtO (fun q => (Value.slice b nt cb).ownBlock = some q) Y.1, Z.1.cell? ⟨w.heap.size, i, none⟩ = some v := fun i v h Z => Z.2.cell (p := ⟨w.heap.size, i, none⟩) (fun e => by
  have := (H2W.out.lt w.heap.size (by rw [HN.out]; exact e)).2; omega) h
 have A5' := HNO.out; have G2' := hbx 2 _ (G2 Y); have G3' := hbx 3 _ (G3 Y); have G4' := hbx 4 _ (G4 Y); clear DB hbx x0 x1 x2; go_upto_region 7 with (fail); clear A5 G4 G0 G2 G3 G1; refine late_start (s := 17) (C := fun w' => ∃ Z : ExtO (fun q => (Value.slice b nt cb).ownBlock = some q) Y.1, w' = Z.1) (by kernel_rfl) ?_; obtain ⟨Q0, hQ0⟩ : ∃ Z : Ext Y.1, ({ Y.1 with drawn := Y.1.drawn + 1 } : World) = Z.1 := ⟨⟨{ Y.1 with drawn := Y.1.drawn + 1 }, ⟨rfl, rfl, rfl, Nat.le_refl _, fun _ _ => rfl⟩⟩, rfl⟩; rw [hQ0]; clear hQ0; refine late_quiet (by kernel_rfl) (fun _ _ d _ _ h => by cases d <;> exact h) ⟨⟨Q0.1, Kept.of_below Q0.2⟩, rfl⟩ [0, 1, 2, 3, 4, 5, 6, 7, 8, 9, 10, 11, 12] 5 _ _ (by kernel_rfl) (by kernel_rfl) ?_; change wpQuiet _ _ _ _ (_ :: _ :: _ :: _ :: _ :: _ :: _ :: _ :: _ :: _ :: _ :: _ :: _ :: []) _
 repeat go_big_quiet_step (fail)
 refine wpQuiet_nil ?_; refine late_do (i := 13) _ rfl (by kernel_rfl) rfl (fun K hK => ?_); go_simp; obtain ⟨V7, hV7⟩ : ∃ V, Q0.1.alloc (.cells #[.int .i64 f, .int .i64 t, .string s] 75) = V := ⟨_, rfl⟩; rw [hV7]; have hb7 : Below Q0.1.heap.size Q0.1 V7 := hV7 ▸ below_al _ _; have h7 : V7.heap[Q0.1.heap.size]? = some (.cells (lpC ⟨f, t, s⟩).toArray 75 (0, 0)) := hV7 ▸ heap_alloc_new Q0.1 _; have hB7 : Below Y.1.heap.size Y.1 V7 := bStp Q0.2 hb7; have h37 := (H2.out.below Y.2).below hB7; rw [HN.out] at h37; have DI := qH (insertLp_any A.lp base b nt cb k ⟨f, t, s⟩ Q0.1.heap.size V7 h37 (by omega) hlow h7 (fun e => by have := ((H2.out.below Y.2).lt _ (by rw [HN.out]; exact e)).2; have := Q0.2.size; omega) (by have := HBS.out; have := HWY.out.size; have := hB7.size; omega)); have HB7 := qH hB7; refine hK _ _ (fun _ => ⟨⟨V7, Kept.of_below hB7⟩, rfl⟩) ?_; clear hK K hV7 hb7 h7 hB7 h37
 try simp only [pS]
 refine late_do (i := 14) _ rfl (by kernel_rfl) rfl (fun K hK => ?_); go_simp; refine (DI.out).mono ?_; rintro e w8 ⟨v8, rfl, ho8, hg8⟩; obtain ⟨a7, c7, rfl, -, -, -⟩ := ho8.row lpEl; have hk8 : Kept (fun q => (Value.slice b nt cb).ownBlock = some q) V7 w8 := Kept.of_grown hg8 (fun q e _ => e); have HK8 := qH ((Kept.of_below HB7.out).trans hk8); have HO8 := qH ho8; refine hK _ _ (fun _ => ⟨⟨w8, HK8.out⟩, rfl⟩) ?_; clear hK K hg8 ho8 hk8
 try simp only [pS]
 refine late_quiet (by kernel_rfl) (fun _ _ d _ _ h => by cases d <;> exact h) ⟨⟨w8, HK8.out⟩, rfl⟩ [15, 16] 1 _ _ (by kernel_rfl) (by kernel_rfl) ?_; change wpQuiet _ _ _ _ (_ :: _ :: []) _
 repeat go_big_quiet_step (fail)
 refine wpQuiet_nil ?_; have hlen : (A.lp.take k ++ [(⟨f, t, s⟩ : Lp)] ++ A.lp.drop k).length = nt + 1 := by rw [List.length_append, List.length_append, List.length_take, List.length_drop, List.length_singleton, HN.out]; omega
 rw [hlen]; have hA8 := HAY.out.kept HK8.out (fun e => (HAY.out.ne' (H2.out.below Y.2) (by decide) g (by rw [HN.out]; exact e)) rfl); have c5 := hA8.cell.2.2.2.2.1; have f5 := hA8.free 4; have hA9 := hA8.set4 (.slice a7 (nt + 1) c7); obtain ⟨W9, hW9⟩ : ∃ z, w8.setCell ⟨g, 4, none⟩ (.slice a7 (nt + 1) c7) = z := ⟨_, rfl⟩; rw [hW9] at hA9; have hk9 : Kept (fun q => q = g) w8 W9 := by rw [← hW9]; exact keep_set (O := fun q => q = g) rfl
 have hs8 := (H1.out.below Y.2).keepO HK8.out (fun q hq e => (H1.out.below Y.2).apart (H2.out.below Y.2) (by decide) q hq (by rw [HN.out]; exact e)); have hl8 := (H3.out.below Y.2).keepO HK8.out (fun q hq e => (H3.out.below Y.2).apart (H2.out.below Y.2) (by decide) q hq (by rw [HN.out]; exact e)); have HS9 := qH (hs8.keepO hk9 (fun q hq e => (hA8.ne' hs8 (by decide) q hq) e)); have HT9 := qH (hl8.keepO hk9 (fun q hq e => (hA8.ne' hl8 (by decide) q hq) e)); have HL9 := qH (show Own lpC 3 75 W9 base (.slice a7 (putP ⟨f, t, s⟩ A.lp).length c7) (putP ⟨f, t, s⟩ A.lp) from by
  have h := HO8.out.keepO hk9 (fun q hq e => (hA8.ne' HO8.out (by decide) q hq) e); rw [HPP.out]; exact h)
 have HA9 := qH (show AcB W9 g A.name A.sport A.start (.slice a A.sm.length ca) (.slice a7 (putP ⟨f, t, s⟩ A.lp).length c7) (.slice c A.tg.length cc) from by rw [HPP.out, hlen]; exact hA9); have HKF := qH (show Kept (fun q => base ≤ q) Y.1 W9 from by
  have h1 : Kept (fun q => base ≤ q) Y.1 w8 := ⟨HK8.out.os, HK8.out.tape, HK8.out.output, HK8.out.size, fun q hq ho => HK8.out.block q hq (fun e => ho ((H2.out.lt q (by rw [HN.out]; exact e)).1))⟩; exact h1.trans (kept_ge HG.out hk9))
 clear hA8 hA9 hk9 hs8 hl8 hlen; refine late_do (i := 17) _ rfl (by kernel_rfl) rfl (fun K hK => ?_); go_simp; refine hK _ _ (nOo rfl) ?_; clear hK K
 try simp only [pS]
 refine late_done (by kernel_rfl) ?_ _; clear c5 f5 hW9; go_wp2_with fail; go_ret; exact ⟨below_at HWY.out HBS.out HKF.out, rfl, ⟨⟨a, a7, c, ca, c7, cc, HA9.out, HS9.out, HL9.out, HT9.out⟩, HG.out⟩⟩
theorem ap_12 (n f t : Int) (s : ByteArray) (A : Acv) (base g : Nat) (w : World) (hM : Mine w base g A) (oA : AcOk A) (hb : base ≤ w.heap.size) (hn : 0 ≤ n ∧ n ≤ 199) :
 Calls Tryz.prog 219 #[edV ⟨12, n, f, t, s⟩, .pointer (some ⟨g, 0, none⟩)] w fun e w' => ApR A ⟨12, n, f, t, s⟩ base g w e w' := by
 unfold ApR; rw [appE_12 rfl, appZ_12 rfl]; simp only; obtain ⟨⟨a, b, c, ca, cb, cc, h0, h1, h2, h3⟩, hg⟩ := hM; obtain ⟨V0, hV0, hb0, hs0, hl0⟩ := alloc_cells w #[.int .i64 12, .int .i64 n, .int .i64 f, .int .i64 t, .string s] 101; have HB := qH hb0; have HBS := qH hb; have HG := qH hg; have H0 := qH (h0.below hb0); have H1 := qH (h1.below hb0); have H2 := qH (h2.below hb0); have H3 := qH (h3.below hb0); have H2W := qH h2; have HOA := qH oA; have HLS := qH (lp_sorted oA.lp); have hnt := oA.nlp; have x0 := hl0 0 _ rfl; have x1 := hl0 1 _ rfl; have x2 := hl0 2 _ rfl; have G0 := Ext.ex (hl0 0 _ rfl); have G1 := Ext.ex (hl0 1 _ rfl); have G2 := Ext.ex (hl0 2 _ rfl); have G3 := Ext.ex (hl0 3 _ rfl); have G4 := Ext.ex (hl0 4 _ rfl); have A5 := Ext.ex H0.out.cell.2.2.2.2.1; obtain ⟨nt, hN⟩ : ∃ n, A.lp.length = n := ⟨_, rfl⟩; obtain ⟨k, hk⟩ : ∃ k : Nat, n = (k : Int) := ⟨n.toNat, by omega⟩; have HN := qH hN; rw [hN] at A5 hnt ⊢; have hkn : k ≤ 199 := by omega
 have htk : n.toNat = k := by omega
 rw [htk]; subst hk; have hgt : decide ((nt : Int) ≤ (k : Int)) = decide (nt ≤ k) := by rw [Bool.eq_iff_iff, decide_eq_true_eq, decide_eq_true_eq]; omega
 clear hb hg h0 h1 h2 h3 oA hb0 hl0 hN hn htk; unfold edV; by_cases hge : nt ≤ k
 · have t1 : decide ((nt : Int) ≤ (k : Int)) = true := dTt (by omega)
   have t1' : decide (nt ≤ k) = true := dTt (by omega); rw [if_pos (by omega)]; clear hgt; go_enter Tryz.func219, Tryz.ntmps219; go_upto_region 9 with (fail); clear hV0; refine wp_region_ext (W := V0) ⟨V0, Below.refl _ _⟩ (by kernel_rfl) (by kernel_rfl) ?_
   repeat go_big_quiet_step (fail)
   refine wpQuiet_nil ?_; rintro _ ⟨Y, rfl⟩; have HWY := qH (bStp HB.out Y.2); go_wp2_with fail; go_ret; exact ⟨below_at HWY.out HBS.out (Kept.refl _ _), rfl, fun h => absurd h (by simp)⟩
 · have t1 : decide ((nt : Int) ≤ (k : Int)) = false := dFf (by omega)
   have t1' : decide (nt ≤ k) = false := dFf (by omega); rw [if_neg (by omega)]; clear hgt; go_enter Tryz.func219, Tryz.ntmps219; go_upto_region 9 with (fail); clear hV0; refine wp_region_ext (W := V0) ⟨V0, Below.refl _ _⟩ (by kernel_rfl) (by kernel_rfl) ?_
   repeat go_big_quiet_step (fail)
   refine wpQuiet_nil ?_; rintro _ ⟨Y, rfl⟩; have HAY := qH (H0.out.below Y.2); have HWY := qH (bStp HB.out Y.2); obtain ⟨q, c', he, hq1, hq2⟩ := (H2.out.below Y.2).open (by rw [HN.out]; omega); rw [HN.out] at he; injection he with e1 e2 e3; subst e1; have h3Y := H2.out.below Y.2; rw [HN.out] at h3Y; have DD := deleteLp_any A.lp base q cb k (k + 1) nt (nt - 1); have H3Y := qH h3Y; have hgq : g ≠ q := fun e => (HAY.out.ne' h3Y (by decide) q rfl) e.symm
   have HGQ := qH hgq; have HWQ := qH (show q < w.heap.size from (H2W.out.lt q (by rw [HN.out]; rfl)).2); have HNO := qH (fun (Z : ExtO (fun x => x = q) Y.1) => show Z.1.cell? ⟨g, 4, none⟩ = some (.slice (some ⟨q, 0, none⟩) nt cb) from Z.2.cell (p := ⟨g, 4, none⟩) HGQ.out (A5 Y)); have HN1 := qH (fun (Z : ExtO (fun x => x = q) Y.1) => show Z.1.cell? ⟨w.heap.size, 1, none⟩ = some (.int .i64 (k : Int)) from Z.2.cell (p := ⟨w.heap.size, 1, none⟩) (fun e => by have := HWQ.out; simp only at e; omega) (G1 Y)); have G1' := HN1.out; have A5' := HNO.out; clear hge hq1 hq2 e2 e3 h3Y hgq A5 G0 G1 G2 G3 G4 x0 x1 x2; go_upto_region 11 with (fail); refine late_start (s := 13) (C := fun w' => ∃ Z : ExtO (fun x => x = q) Y.1, w' = Z.1) (by kernel_rfl) ?_; obtain ⟨Q0, hQ0⟩ : ∃ Z : Ext Y.1, ({ Y.1 with drawn := Y.1.drawn + 1 } : World) = Z.1 := ⟨⟨{ Y.1 with drawn := Y.1.drawn + 1 }, ⟨rfl, rfl, rfl, Nat.le_refl _, fun _ _ => rfl⟩⟩, rfl⟩; rw [hQ0]; clear hQ0; refine late_quiet (by kernel_rfl) (fun _ _ d _ _ h => by cases d <;> exact h) ⟨⟨Q0.1, Kept.of_below Q0.2⟩, rfl⟩ [0, 1, 2, 3, 4, 5, 6, 7, 8, 9] 4 _ _ (by kernel_rfl) (by kernel_rfl) ?_; change wpQuiet _ _ _ _ (_ :: _ :: _ :: _ :: _ :: _ :: _ :: _ :: _ :: _ :: []) _
   repeat go_big_quiet_step (fail)
   refine wpQuiet_nil ?_; have DD := DD Q0.1 (H3Y.out.below Q0.2) (by rw [HN.out]; omega) (by have := t1'; simp at this; omega) rfl (by have := t1'; simp at this; omega); rw [show ((k + 1 : Nat) : Int) = (k : Int) + 1 by omega] at DD; refine late_do (i := 10) _ rfl (by kernel_rfl) rfl (fun K hK => ?_); go_simp; refine DD.mono ?_; rintro e w8 ⟨rfl, ho8, hk8⟩; have HO8 := qH ho8; have HK8 := qH ((Kept.of_below Q0.2).trans hk8); refine hK _ _ (fun _ => ⟨⟨w8, HK8.out⟩, rfl⟩) ?_; clear hK K ho8 hk8 DD
   try simp only [pS]
   refine late_quiet (by kernel_rfl) (fun _ _ d _ _ h => by cases d <;> exact h) ⟨⟨w8, HK8.out⟩, rfl⟩ [11, 12] 1 _ _ (by kernel_rfl) (by kernel_rfl) ?_; change wpQuiet _ _ _ _ (_ :: _ :: []) _
   repeat go_big_quiet_step (fail)
   refine wpQuiet_nil ?_; have hA8 := HAY.out.kept HK8.out HGQ.out; have c5 := hA8.cell.2.2.2.2.1; have f5 := hA8.free 4; have hA9 := hA8.set4 (.slice (some ⟨q, 0, none⟩) (nt - 1) cb); obtain ⟨W9, hW9⟩ : ∃ z, w8.setCell ⟨g, 4, none⟩ (.slice (some ⟨q, 0, none⟩) (nt - 1) cb) = z := ⟨_, rfl⟩; rw [hW9] at hA9; have hk9 : Kept (fun q => q = g) w8 W9 := by rw [← hW9]; exact keep_set (O := fun q => q = g) rfl
   have hs8 := (H1.out.below Y.2).keepO HK8.out (fun x hx e => (H1.out.below Y.2).apart H3Y.out (by decide) x hx (by rw [e]; rfl)); have hl8 := (H3.out.below Y.2).keepO HK8.out (fun x hx e => (H3.out.below Y.2).apart H3Y.out (by decide) x hx (by rw [e]; rfl)); have HS9 := qH (hs8.keepO hk9 (fun x hx e => (hA8.ne' hs8 (by decide) x hx) e)); have HT9 := qH (hl8.keepO hk9 (fun x hx e => (hA8.ne' hl8 (by decide) x hx) e)); have hlen : (A.lp.take k ++ A.lp.drop (k + 1)).length = nt - 1 := by rw [List.length_append, List.length_take, List.length_drop, HN.out]; have := t1'; simp at this; omega
   obtain ⟨a7, ha7⟩ : ∃ z, some (⟨q, 0, none⟩ : Addr) = z := ⟨_, rfl⟩; obtain ⟨c7, hc7⟩ : ∃ z, cb = z := ⟨_, rfl⟩; have HL9 := qH (show Own lpC 3 75 W9 base (.slice a7 (A.lp.take k ++ A.lp.drop (k + 1)).length c7) (A.lp.take k ++ A.lp.drop (k + 1)) from by
    have h := HO8.out.keepO hk9 (fun x hx e => (hA8.ne' HO8.out (by decide) x hx) e); rw [hlen, ← ha7, ← hc7]; exact h)
   have HA9 := qH (show AcB W9 g A.name A.sport A.start (.slice a A.sm.length ca) (.slice a7 (A.lp.take k ++ A.lp.drop (k + 1)).length c7) (.slice c A.tg.length cc) from by rw [hlen, ← ha7, ← hc7]; exact hA9); have HKF := qH (show Kept (fun x => base ≤ x) Y.1 W9 from by
    have h1 : Kept (fun x => base ≤ x) Y.1 w8 := kept_ge (H3Y.out.lt q rfl).1 HK8.out; exact h1.trans (kept_ge HG.out hk9))
   clear hA8 hA9 hk9 hs8 hl8 hlen ha7 hc7; refine late_do (i := 13) _ rfl (by kernel_rfl) rfl (fun K hK => ?_); go_simp; refine hK _ _ (nOo rfl) ?_; clear hK K
   try simp only [pS]
   refine late_done (by kernel_rfl) ?_ _; clear c5 f5 hW9; go_wp2_with fail; go_ret; exact ⟨below_at HWY.out HBS.out HKF.out, rfl, ⟨⟨a, a7, c, ca, c7, cc, HA9.out, HS9.out, HL9.out, HT9.out⟩, HG.out⟩⟩
theorem own_one {α : Type} {C : α → List Value} {k : Nat} {e : TypeId} (E : El C k) (w : World) (x : α) {base : Nat} (hb : base ≤ w.heap.size) : Own C k e (w.alloc (.cells (C x).toArray e)) base (.slice (some ⟨w.heap.size, 0, none⟩) 1 1) [x] := by
 have h1 : ([x].flatMap C) = C x := List.append_nil _; have h2 := E.len x; exact ⟨by rw [h1, h2]; simp, Or.inr ⟨w.heap.size, 1, (C x).toArray, rfl, hb, heap_alloc_new w _, Nat.le_refl _, by unfold maxLen; omega, by simp [h2], by rw [h1, List.length_singleton, Nat.one_mul, ← h2]; simp⟩⟩
theorem ActRet.move {Z : Acv} {w w1 w' w'' : World} {e : Ending} {r : Nat} (h : ActRet Z w1 e w') (hb : Below w.heap.size w w'') (hw : w.heap.size ≤ w1.heap.size) (hk : Kept (fun q => q = r) w' w'') (hr : r < w1.heap.size) : ActRet Z w e w'' := by
 obtain ⟨_, er, he, h⟩ := h; refine ⟨hb, er, he, ?_⟩; rcases h with ⟨h1, h2⟩ | ⟨h1, a, b, c, ca, cb, cc, h2, h3, h4⟩
 · exact Or.inl ⟨h1, h2⟩
 · exact Or.inr ⟨h1, a, b, c, ca, cb, cc, h2, h3.kept hk (fun g hg e => by have := h4 g hg; omega), fun g hg => by have := h4 g hg; omega⟩
theorem ActRet.gen' {Z : Acv} {w w' : World} {e : Ending} (h : ActRet Z w e w') : Below w.heap.size w w' ∧ ∃ (nm : ByteArray) (sp st : Int) (a b c : Option Addr) (na nb nc ca cb cc : Nat), e = .returned (.tuple #[.agg #[.string nm, .int .i64 sp, .int .i64 st, .slice a na ca, .slice b nb cb, .slice c nc cc], .int .i64 (chkA Z)]) := by
 obtain ⟨hb, er, her, h⟩ := h; rw [her]; rcases h with ⟨_, rfl⟩ | ⟨rfl, a, b, c, ca, cb, cc, rfl, _⟩
 · exact ⟨hb, _, _, _, _, _, _, _, _, _, _, _, _, rfl⟩
 · exact ⟨hb, _, _, _, _, _, _, _, _, _, _, _, _, rfl⟩
def inP (f t : Int) (s : Sm) : Bool := decide (f < s.tm) && decide (s.tm < t)
theorem cutL_eq (l : List Sm) (f t : Int) : cutL l f t = whereS l f :: l.filter (inP f t) ++ [whereS l t] := rfl
theorem inP_snoc {l : List Sm} {k : Nat} {x : Sm} {f t : Int} (hx : l[k]? = some x) : (l.take (k + 1)).filter (inP f t) = (l.take k).filter (inP f t) ++ (if inP f t x = true then [x] else []) := by
 rw [List.take_add_one, hx, List.filter_append]
 congr 1
 simp only [Option.toList_some, List.filter_cons, List.filter_nil]
theorem where_tm {start n : Int} {l : List Sm} (ho : SmOk start l) (hne : 0 < l.length) (h0 : 0 ≤ n) (h1 : n ≤ spanS l) : (whereS l n).tm = n := by
 obtain ⟨q, hq, h | ⟨_, _, j, p, _, _, _, h⟩⟩ := where_cases ho hne h0 h1
 · rw [h.2.1]
   exact h.1
 · rw [h]
   rfl
structure CutOk (A : Acv) (f t : Int) : Prop where
 ne : 0 < A.sm.length
 f0 : 0 ≤ f
 ft : f < t
 ts : t ≤ spanS A.sm
theorem CutOk.len {A : Acv} {f t : Int} (h : CutOk A f t) (oA : AcOk A) : (cutL A.sm f t).length ≤ A.sm.length := by
 have hsm := oA.sm; obtain ⟨h1, h2, h3, h4⟩ := h; rw [cutL_eq]; obtain ⟨x, l, hl⟩ : ∃ x l, A.sm = x :: l := by
  cases e : A.sm with
  | nil => rw [e] at h1; simp at h1
  | cons x l => exact ⟨x, l, rfl⟩
 have hx : x.tm = 0 := hsm.first x (by rw [hl]; rfl); have hx2 : inP f t x = false := by unfold inP; rw [hx]; simp; omega
 rcases List.eq_nil_or_concat l with rfl | ⟨m, y, rfl⟩
 · have := spanS_last (l := A.sm) (s := x) (by rw [hl]; rfl)
   omega
 · have hy := spanS_last (l := A.sm) (s := y) (by rw [hl]; simp)
   have hy2 : inP f t y = false := by unfold inP; simp; omega
   rw [hl, List.filter_cons_of_neg (by rw [hx2]; simp), List.concat_eq_append, List.filter_append, List.filter_cons_of_neg (by rw [hy2]; simp), List.filter_nil, List.append_nil]; have := List.length_filter_le (inP f t) m; simp only [List.length_append, List.length_cons, List.length_nil]; omega
theorem CutOk.range {A : Acv} {f t : Int} (h : CutOk A f t) (oA : AcOk A) : ∀ s, s ∈ cutL A.sm f t → 0 ≤ s.tm ∧ s.tm ≤ 1000000 := fun s hs => by
 have hsp := spanS_range oA.sm; obtain ⟨h1, h2, h3, h4⟩ := h; rw [cutL_eq, List.cons_append] at hs; rcases List.mem_cons.1 hs with rfl | hs
 · rw [where_tm oA.sm h1 h2 (by omega)]
   omega
 · rcases List.mem_append.1 hs with hs | hs
   · exact ok_each oA.sm s (List.mem_filter.1 hs).1
   · rw [List.mem_singleton.1 hs, where_tm oA.sm h1 (by omega) h4]
     omega
theorem cutE_ok {A : Acv} {f t : Int} (h : CutOk A f t) : cutE A f t = chkA (partA A (cutL A.sm f t) f) := by
 unfold cutE; rw [if_neg (by have := h.ne; omega), if_neg (by have := h.f0; have := h.ft; have := h.ts; omega)]
def CutRet (A : Acv) (f t : Int) (w : World) (e : Ending) (w' : World) : Prop :=
 (CutOk A f t ∧ ActRet (partA A (cutL A.sm f t) f) w e w') ∨ (¬ CutOk A f t ∧ cutE A f t ≠ 0 ∧ e = .returned (.tuple #[ac0, .int .i64 (cutE A f t)]) ∧ Below w.heap.size w w')
theorem cut_any (A : Acv) (a b c : Option Addr) (ca cb cc : Nat) (f t : Int) (w : World) (h : ActIn w A a b c) (oA : AcOk A) :
 Calls Tryz.prog 222 #[actV A a b c ca cb cc, .int .i64 f, .int .i64 t] w fun e w' => CutRet A f t w e w' := by
 obtain ⟨V0, hV0, hb0, hs0, ha0⟩ := alloc_aA w A a b c ca cb cc; obtain ⟨V1, hV1, hb1, hs1, ha1⟩ := alloc_a0 V0; rw [hs0] at ha1; have hA0 := ha0.below hb1; have HB := qH (bStp hb0 hb1); have HSZ := qH (show V1.heap.size = w.heap.size + 2 from by omega); have HIN := qH (h.below HB.out); have HOA := qH oA; have HA1 := qH ha1; have DC := qH (fun X : Ext V1 => show Calls Tryz.prog 32 #[.agg #[.string A.name, .int .i64 A.sport, .int .i64 A.start, .slice a A.sm.length ca, .slice b A.lp.length cb, .slice c A.tg.length cc]] X.1 fun e w'' => e = .returned (.int .i64 0) ∧ ∃ Y : Ext V1, w'' = Y.1 from by
  have h := check_any A a b c ca cb cc X.1 (HIN.out.below X.2); unfold ChkG actV at h; rw [chkA_zero.2 HOA.out] at h; exact X.calls h)
 have DS := qH (fun X : Ext V1 => show Calls Tryz.prog 62 #[.agg #[.string A.name, .int .i64 A.sport, .int .i64 A.start, .slice a A.sm.length ca, .slice b A.lp.length cb, .slice c A.tg.length cc]] X.1 fun e w'' => e = .returned (.int .i64 (spanS A.sm)) ∧ ∃ Y : Ext V1, w'' = Y.1 from by
  have h := span_any A a b c ca cb cc X.1 (HIN.out.sm.below X.2) (by have := HOA.out.nsm; omega); unfold actV at h; exact X.calls h)
 obtain ⟨g0, g1, g2, g3, g4, g5⟩ := hA0.cell; have A0 := Ext.ex g0; have A1 := Ext.ex g1; have A2 := Ext.ex g2; have A3 := Ext.ex g3; have A4 := Ext.ex g4; have A5 := Ext.ex g5; obtain ⟨sp, hsp⟩ : ∃ z, spanS A.sm = z := ⟨_, rfl⟩; have HSP := qH hsp; rw [hsp] at DS; have hspr := spanS_range oA.sm; rw [hsp] at hspr; clear h oA hb0 hb1 ha0 ha1 hA0 hs1 g0 g1 g2 g3 g4 g5 hsp; unfold actV; by_cases hz : A.sm.length = 0
 case pos =>
  have t0 : ((A.sm.length : Int) == 0) = true := by rw [hz]; rfl
  have t0' : (A.sm.length == 0) = true := by rw [hz]; rfl
  have HE := qH (show ¬ CutOk A f t ∧ cutE A f t = 13 from ⟨fun h => by have := h.ne; omega, by unfold cutE; rw [if_pos hz]⟩); clear hz; go_enter Tryz.func222, Tryz.ntmps222; go_upto_region 1 with (fail); clear hV0 hV1 hs0; refine ext_wp (W := V1) fun X => ?_
  go_wp2_with fail; refine (DC.out X).mono ?_; rintro e w1 ⟨rfl, Y, rfl⟩; obtain ⟨WF, hWF, haF, hkF⟩ := (HA1.out.below Y.2).store0; have HAF := qH haF; have HBF := qH (show Below w.heap.size w WF from
   have h1 := bStp HB.out Y.2
   Kept.below h1 (hkF (fun b => b = w.heap.size + 1) rfl) h1.size (fun k hk e => by omega))
  obtain ⟨r0, r1, r2, r3, r4, r5⟩ := (HA1.out.below Y.2).cell; have fr := (HA1.out.below Y.2).free; clear haF hkF; go_wp2_with fail; have q := HAF.out.cell; exact bodyPost_ret (v := .tuple #[ac0, .int .i64 13]) (by simp [results, Tryz.results222, go_sem, q, ac0]) rfl (Or.inr ⟨HE.out.1, by rw [HE.out.2]; omega, by rw [HE.out.2], HBF.out⟩)
 have t0 : ((A.sm.length : Int) == 0) = false := bFf (by omega); have t0' : (A.sm.length == 0) = false := beq_eq_false_iff_ne.2 (by omega); by_cases hr : f < 0 ∨ t ≤ f ∨ sp < t
 case pos =>
  have HE := qH (show ¬ CutOk A f t ∧ cutE A f t = 9 from ⟨fun h => by have := h.f0; have := h.ft; have := h.ts; have := HSP.out; omega, by unfold cutE; rw [if_neg hz, HSP.out, if_pos hr]⟩); by_cases h1 : f < 0
  · have u1 : decide (f < 0) = true := by rw [decide_eq_true_eq]; exact h1
    clear hr; go_enter Tryz.func222, Tryz.ntmps222; go_upto_region 1 with (fail); clear hV0 hV1 hs0; refine ext_wp (W := V1) fun X => ?_
    go_wp2_with fail; refine (DC.out X).mono ?_; rintro e w1 ⟨rfl, Y, rfl⟩; obtain ⟨WF, hWF, haF, hkF⟩ := (HA1.out.below Y.2).store0; have HAF := qH haF; have HBF := qH (show Below w.heap.size w WF from
     have h1 := bStp HB.out Y.2
     Kept.below h1 (hkF (fun b => b = w.heap.size + 1) rfl) h1.size (fun k hk e => by omega))
    obtain ⟨r0, r1, r2, r3, r4, r5⟩ := (HA1.out.below Y.2).cell; have fr := (HA1.out.below Y.2).free; clear haF hkF; go_wp2_with fail; have q := HAF.out.cell; exact bodyPost_ret (v := .tuple #[ac0, .int .i64 9]) (by simp [results, Tryz.results222, go_sem, q, ac0]) rfl (Or.inr ⟨HE.out.1, by rw [HE.out.2]; omega, by rw [HE.out.2], HBF.out⟩)
  · have u1 : decide (f < 0) = false := by rw [decide_eq_false_iff_not]; exact h1
    by_cases h2 : t ≤ f
    · have u2 : decide (t ≤ f) = true := by rw [decide_eq_true_eq]; exact h2
      clear hr; go_enter Tryz.func222, Tryz.ntmps222; go_upto_region 1 with (fail); clear hV0 hV1 hs0; refine ext_wp (W := V1) fun X => ?_
      go_wp2_with fail; refine (DC.out X).mono ?_; rintro e w1 ⟨rfl, Y, rfl⟩; obtain ⟨WF, hWF, haF, hkF⟩ := (HA1.out.below Y.2).store0; have HAF := qH haF; have HBF := qH (show Below w.heap.size w WF from
       have h1 := bStp HB.out Y.2
       Kept.below h1 (hkF (fun b => b = w.heap.size + 1) rfl) h1.size (fun k hk e => by omega))
      obtain ⟨r0, r1, r2, r3, r4, r5⟩ := (HA1.out.below Y.2).cell; have fr := (HA1.out.below Y.2).free; clear haF hkF; go_wp2_with fail; have q := HAF.out.cell; exact bodyPost_ret (v := .tuple #[ac0, .int .i64 9]) (by simp [results, Tryz.results222, go_sem, q, ac0]) rfl (Or.inr ⟨HE.out.1, by rw [HE.out.2]; omega, by rw [HE.out.2], HBF.out⟩)
    · have u2 : decide (t ≤ f) = false := by rw [decide_eq_false_iff_not]; exact h2
      have u3 : decide (sp < t) = true := dTt (by omega); clear hr; go_enter Tryz.func222, Tryz.ntmps222; go_upto_region 1 with (fail); clear hV0 hV1 hs0; refine ext_wp (W := V1) fun X => ?_
      go_wp2_with fail; refine (DC.out X).mono ?_; rintro e w1 ⟨rfl, Y, rfl⟩; go_wp2_with fail; refine (DS.out Y).mono ?_; rintro e w1 ⟨rfl, Y2, rfl⟩; obtain ⟨WF, hWF, haF, hkF⟩ := (HA1.out.below Y2.2).store0; have HAF := qH haF; have HBF := qH (show Below w.heap.size w WF from
       have h1 := bStp HB.out Y2.2
       Kept.below h1 (hkF (fun b => b = w.heap.size + 1) rfl) h1.size (fun k hk e => by omega))
      obtain ⟨r0, r1, r2, r3, r4, r5⟩ := (HA1.out.below Y2.2).cell; have fr := (HA1.out.below Y2.2).free; clear haF hkF; go_wp2_with fail; have q := HAF.out.cell; exact bodyPost_ret (v := .tuple #[ac0, .int .i64 9]) (by simp [results, Tryz.results222, go_sem, q, ac0]) rfl (Or.inr ⟨HE.out.1, by rw [HE.out.2]; omega, by rw [HE.out.2], HBF.out⟩)
 have HCK := qH (show CutOk A f t from ⟨by omega, by omega, by omega, by have := HSP.out; omega⟩); have u1 : decide (f < 0) = false := dFf (by omega); have u2 : decide (t ≤ f) = false := dFf (by omega); have u3 : decide (sp < t) = false := dFf (by omega); have DW := qH (fun (X : Ext V1) (n : Int) (h0 : 0 ≤ n) (h1 : n ≤ sp) => show Calls Tryz.prog 227 #[.agg #[.string A.name, .int .i64 A.sport, .int .i64 A.start, .slice a A.sm.length ca, .slice b A.lp.length cb, .slice c A.tg.length cc], .int .i64 n] X.1 fun e w'' => e = .returned (smV (whereS A.sm n)) ∧ Below X.1.heap.size X.1 w'' from by
  have h := where_any A a b c ca cb cc n X.1 (HIN.out.sm.below X.2) HOA.out.sm HOA.out.nsm HCK.out.ne h0 (by rw [HSP.out]; exact h1); unfold actV at h; exact h)
 have hft : (0 ≤ f ∧ f < t) ∧ t ≤ sp := by omega
 clear hr; go_enter Tryz.func222, Tryz.ntmps222; go_upto_region 1 with (fail); clear hV0 hV1 hs0; refine ext_wp (W := V1) fun X => ?_
 go_wp2_with fail; refine (DC.out X).mono ?_; rintro e w1 ⟨rfl, Y, rfl⟩; go_wp2_with fail; refine (DS.out Y).mono ?_; rintro e w1 ⟨rfl, Y2, rfl⟩; obtain ⟨u, hu⟩ : ∃ z, whereS A.sm f = z := ⟨_, rfl⟩; have d1 := DW.out Y2 f (by omega) (by omega); rw [hu] at d1; have D1 := qH d1; clear d1; have HU := qH hu; clear hu; go_wp2_with fail; refine (D1.out).mono ?_; rintro e w3 ⟨rfl, hb3⟩; obtain ⟨Y3, rfl⟩ : ∃ Y3 : Ext V1, w3 = Y3.1 := ⟨⟨w3, bStp Y2.2 hb3⟩, rfl⟩; unfold smV; obtain ⟨V4, hV4⟩ : ∃ V, Y3.1.alloc (.cells #[.int .i64 u.tm, .int .i64 u.x, .int .i64 u.y, .int .i64 u.z, .int .i64 u.pu, .int .i64 u.po, .int .i64 u.st] 72) = V := ⟨_, rfl⟩; have ho4 : Own smC 7 72 V4 Y3.1.heap.size (.slice (some ⟨Y3.1.heap.size, 0, none⟩) 1 1) [u] := hV4 ▸ own_one smEl Y3.1 u (Nat.le_refl _); have hb4 : Below Y3.1.heap.size Y3.1 V4 := hV4 ▸ below_al _ _; obtain ⟨n, hn⟩ : ∃ n, A.sm.length = n := ⟨_, rfl⟩; have HN := qH hn; have hn2 : n ≤ 20000 := by have := HOA.out.nsm; omega
 have HO4 := qH ho4; have HB4 := qH hb4; have HC := qH (fun (X : Ext Y3.1) (p : Addr) (v : Value) (h : V1.cell? p = some v) => show X.1.cell? p = some v from bCel (bStp Y3.2 X.2) h); have a3 : V4.cell? ⟨w.heap.size, 3, none⟩ = some (.slice a A.sm.length ca) := A3 ⟨V4, bStp Y3.2 hb4⟩; obtain ⟨NB, hNB⟩ : ∃ q, Y3.1.heap.size = q := ⟨_, rfl⟩; have HNB := qH hNB; rw [hNB] at HO4; rw [hn] at A3 a3; clear hb3 ho4 hb4 t0 t0' u1 u2 u3 hz Y2 D1 DC DS hn; go_wp2_with fail; clear hV4 hNB a3
 go_loopw [9, 46] (fun vv iv wr => ∃ k : Nat, iv = .int .i64 k ∧ k ≤ n ∧ Hid (Own smC 7 72 wr NB vv (u :: (A.sm.take k).filter (inP f t))) ∧ ∃ X : Ext Y3.1, wr = X.1) (fun _ iv _ => n - (intOf iv).toNat)
 case atStart => exact ⟨0, rfl, by omega, qH HO4.out, ⟨V4, HB4.out⟩, rfl⟩
 case round =>
  clear HO4; obtain ⟨k, rfl, hk, HOW, X, rfl⟩ := hrel; have HLE := qH (show (u :: (A.sm.take k).filter (inP f t)).length ≤ 20001 from by
   have := List.length_filter_le (inP f t) (A.sm.take k); have h2 : (A.sm.take k).length ≤ k := by rw [List.length_take]; omega
   rw [List.length_cons]; omega)
  by_cases hlt : k < n
  · have t2 : decide ((k : Int) < (n : Int)) = true := dTt (by omega)
    have t2' : decide (k < n) = true := by simpa using hlt
    obtain ⟨x, hx⟩ : ∃ x, A.sm[k]? = some x := ⟨_, List.getElem?_eq_getElem (by rw [HN.out]; exact hlt)⟩; have HSN := qH (inP_snoc (f := f) (t := t) hx); obtain ⟨b3, o3, rfl, hb3, hd⟩ := HIN.out.sm.at hx; have e0 := HC.out X ⟨b3, o3 + k * 7, none⟩ (.int .i64 x.tm) (hd 0 _ rfl); have e1 := HC.out X ⟨b3, o3 + k * 7 + 1, none⟩ (.int .i64 x.x) (hd 1 _ rfl); have e2 := HC.out X ⟨b3, o3 + k * 7 + 2, none⟩ (.int .i64 x.y) (hd 2 _ rfl); have e3 := HC.out X ⟨b3, o3 + k * 7 + 3, none⟩ (.int .i64 x.z) (hd 3 _ rfl); have e4 := HC.out X ⟨b3, o3 + k * 7 + 4, none⟩ (.int .i64 x.pu) (hd 4 _ rfl); have e5 := HC.out X ⟨b3, o3 + k * 7 + 5, none⟩ (.int .i64 x.po) (hd 5 _ rfl); have e6 := HC.out X ⟨b3, o3 + k * 7 + 6, none⟩ (.int .i64 x.st) (hd 6 _ rfl); obtain ⟨V6, hV6, hb6, hs6, ha6⟩ := alloc_sm X.1 x; obtain ⟨q0, q1, q2, q3, q4, q5, q6⟩ := ha6.cell; have H6 := qH (bStp X.2 hb6); have HO6 := qH (HOW.out.below hb6); clear hx hb3 hd hb6 hs6 ha6; by_cases c1 : f < x.tm
    · have v1 : decide (f < x.tm) = true := by rw [decide_eq_true_eq]; exact c1
      by_cases c2 : x.tm < t
      · have v2 : decide (x.tm < t) = true := by rw [decide_eq_true_eq]; exact c2
        have HIP := qH (show inP f t x = true from by unfold inP; rw [v1, v2]; rfl); obtain ⟨V7, hV7, hb7, hs7, hl7⟩ := alloc_cells V6 #[.int .i64 x.tm, .int .i64 x.x, .int .i64 x.y, .int .i64 x.z, .int .i64 x.pu, .int .i64 x.po, .int .i64 x.st] 72; have HC7 := qH (fun j u (hj : (smC x)[j]? = some u) => show V7.cell? ⟨V6.heap.size, j, none⟩ = some u from hl7 j u (by rw [← hj]; simp [smC])); have HO7 := qH (HO6.out.below hb7); have H7 := qH (bStp H6.out hb7); clear c1 c2 hb7 hs7 hl7; go_wp2_with (at_builtin; refine append_Sm rfl _ _ rfl rfl HO7.out (p := x) rfl HC7.out (by have := HLE.out; omega) (by have := H7.out.size; have := HNB.out; omega) (fun g' c3 w8 ho8 hg8 hor => ?_)); have HO8 := qH ho8; have H8 := qH (show Below Y3.1.heap.size Y3.1 w8 from Kept.below (O := fun q => NB ≤ q) H7.out (Kept.of_grown hg8 (fun g e _ => (HO7.out.lt g e).1)) H7.out.size (fun q hq e => by have := HNB.out; omega)); clear ho8 hg8 hor hV6 hV7
        go_roundw
        case rel => exact ⟨k + 1, by go_num, by omega, qH (by rw [HSN.out, if_pos HIP.out]; exact HO8.out), ⟨w8, H8.out⟩, rfl⟩
        case measure => simp [intOf]; omega
      · have v2 : decide (x.tm < t) = false := by rw [decide_eq_false_iff_not]; exact c2
        have HIP := qH (show ¬ inP f t x = true from by unfold inP; rw [v1, v2]; simp); clear c1 c2; go_wp2_with fail
        go_roundw
        case rel => exact ⟨k + 1, by go_num, by omega, qH (by rw [HSN.out, if_neg HIP.out, List.append_nil]; exact HO6.out), ⟨V6, H6.out⟩, rfl⟩
        case measure => simp [intOf]; omega
    · have v1 : decide (f < x.tm) = false := by rw [decide_eq_false_iff_not]; exact c1
      have HIP := qH (show ¬ inP f t x = true from by unfold inP; rw [v1]; simp); clear c1; go_wp2_with fail
      go_roundw
      case rel => exact ⟨k + 1, by go_num, by omega, qH (by rw [HSN.out, if_neg HIP.out, List.append_nil]; exact HO6.out), ⟨V6, H6.out⟩, rfl⟩
      case measure => simp [intOf]; omega
  · have t2 : decide ((k : Int) < (n : Int)) = false := dFf (by omega)
    have t2' : decide (k < n) = false := by simpa using hlt
    obtain rfl : n = k := by omega
    obtain ⟨L1, hL1⟩ : ∃ z, u :: A.sm.filter (inP f t) = z := ⟨_, rfl⟩; have ho := HOW.out; rw [show A.sm.take n = A.sm from by rw [← HN.out]; exact List.take_length, hL1] at ho; have hle := HLE.out; rw [show A.sm.take n = A.sm from by rw [← HN.out]; exact List.take_length, hL1] at hle; obtain ⟨asl, cs', rfl, -, -, -⟩ := ho.row smEl; have HO := qH ho; have HLE := qH hle; obtain ⟨v, hv⟩ : ∃ z, whereS A.sm t = z := ⟨_, rfl⟩; have HCL := qH (show L1 ++ [v] = cutL A.sm f t from by rw [← hL1, ← hv, cutL_eq, HU.out]); have DV := qH (fun (Z : Ext Y3.1) => show Calls Tryz.prog 227 #[.agg #[.string A.name, .int .i64 A.sport, .int .i64 A.start, .slice a n ca, .slice b A.lp.length cb, .slice c A.tg.length cc], .int .i64 t] Z.1 fun e w'' => e = .returned (smV v) ∧ Below Z.1.heap.size Z.1 w'' from by
     have h := DW.out ⟨Z.1, bStp Y3.2 Z.2⟩ t (by omega) (by omega); rw [hv, HN.out] at h; exact h)
    have B0 := Ext.ex (A0 ⟨Y3.1, Y3.2⟩); have B1 := Ext.ex (A1 ⟨Y3.1, Y3.2⟩); have B2 := Ext.ex (A2 ⟨Y3.1, Y3.2⟩); have B3 := Ext.ex (A3 ⟨Y3.1, Y3.2⟩); have B4 := Ext.ex (A4 ⟨Y3.1, Y3.2⟩); have B5 := Ext.ex (A5 ⟨Y3.1, Y3.2⟩); clear hlt hk HOW ho hle hL1 hv A0 A1 A2 A3 A4 A5; unfold smV at DV; go_upto_region 15 with (fail); refine late_start (s := 11) (C := fun w' => ∃ Z : Ext Y3.1, w' = Z.1) (by kernel_rfl) ?_; obtain ⟨Q0, hQ0⟩ : ∃ Z : Ext Y3.1, ({ X.1 with drawn := X.1.drawn + 1 } : World) = Z.1 := ⟨⟨{ X.1 with drawn := X.1.drawn + 1 }, bStp X.2 ⟨rfl, rfl, rfl, Nat.le_refl _, fun _ _ => rfl⟩⟩, rfl⟩; have HOQ := qH (show Own smC 7 72 Q0.1 NB (.slice asl L1.length cs') L1 from hQ0 ▸ HO.out.below ⟨rfl, rfl, rfl, Nat.le_refl _, fun _ _ => rfl⟩); rw [hQ0]; clear hQ0; refine late_quiet (by kernel_rfl) (fun _ _ d _ _ h => by cases d <;> exact h) ⟨Q0, rfl⟩ [0, 1, 2, 3, 7] 8 _ _ (by kernel_rfl) (by kernel_rfl) ?_; change wpQuiet _ _ _ _ (_ :: _ :: _ :: _ :: _ :: []) _
    repeat go_big_quiet_step (fail)
    refine wpQuiet_nil ?_; refine late_do (i := 4) _ rfl (by kernel_rfl) rfl (fun K hK => ?_); go_simp; refine (DV.out Q0).mono ?_; rintro e w6 ⟨rfl, hb6⟩; obtain ⟨Q6, rfl⟩ : ∃ Z : Ext Y3.1, w6 = Z.1 := ⟨⟨w6, bStp Q0.2 hb6⟩, rfl⟩; have HO6 := qH (HOQ.out.below hb6); refine hK _ _ (fun _ => ⟨Q6, rfl⟩) ?_; clear hK K hb6
    try simp only [pS]
    refine late_do (i := 5) _ rfl (by kernel_rfl) rfl (fun K hK => ?_); go_simp; obtain ⟨V7, hV7, hb7, hs7, hl7⟩ := alloc_cells Q6.1 #[.int .i64 v.tm, .int .i64 v.x, .int .i64 v.y, .int .i64 v.z, .int .i64 v.pu, .int .i64 v.po, .int .i64 v.st] 72; rw [hV7]; have HC7 := qH (fun j u (hj : (smC v)[j]? = some u) => show V7.cell? ⟨Q6.1.heap.size, j, none⟩ = some u from hl7 j u (by rw [← hj]; simp [smC])); have HO7 := qH (HO6.out.below hb7); have H7 := qH (bStp Q6.2 hb7); refine hK _ _ (fun _ => ⟨⟨V7, H7.out⟩, rfl⟩) ?_; clear hK K hV7 hb7 hs7 hl7
    try simp only [pS]
    refine late_do (i := 6) _ rfl (by kernel_rfl) rfl (fun K hK => ?_); refine wp_append_Sm _ _ rfl rfl HO7.out (p := v) rfl HC7.out (by have := HLE.out; omega) (by have := H7.out.size; have := HNB.out; omega) (fun g' c3 w8 ho8 hg8 hor => ?_)
    try simp only [pS]
    have HO8 := qH ho8; have H8 := qH (show Below Y3.1.heap.size Y3.1 w8 from Kept.below (O := fun q => NB ≤ q) H7.out (Kept.of_grown hg8 (fun g e _ => (HO7.out.lt g e).1)) H7.out.size (fun q hq e => by have := HNB.out; omega)); refine hK _ _ (fun _ => ⟨⟨w8, H8.out⟩, rfl⟩) ?_; clear hK K ho8 hg8 hor
    try simp only [pS]
    have DP := qH (show Calls Tryz.prog 228 #[.agg #[.string A.name, .int .i64 A.sport, .int .i64 A.start, .slice a n ca, .slice b A.lp.length cb, .slice c A.tg.length cc], .slice (some ⟨g', 0, none⟩) (L1.length + 1) c3, .int .i64 f] w8 fun e w'' => ActRet (partA A (cutL A.sm f t) f) w8 e w'' from by
     have h := part_any A a b c ca cb cc (cutL A.sm f t) (some ⟨g', 0, none⟩) c3 f w8 (HIN.out.below (bStp Y3.2 H8.out)) HOA.out (by rw [← HCL.out]; exact (HO8.out.rw_ smEl).1) (by have := HCK.out.len HOA.out; have := HOA.out.nsm; omega) (HCK.out.range HOA.out) (by omega) (by omega); rw [← HCL.out, List.length_append, List.length_singleton, HCL.out] at h; unfold actV at h; rw [HN.out] at h; exact h)
    refine late_do (i := 8) _ rfl (by kernel_rfl) rfl (fun K hK => ?_); go_simp; refine (DP.out).mono ?_; rintro e w9 hret; have HRET := qH hret; obtain ⟨hb9, nm, sp', st', za, zb, zc, na, nb, nc, zca, zcb, zcc, rfl⟩ := hret.gen'; have H9 := qH (bStp H8.out hb9); refine hK _ _ (fun _ => ⟨⟨w9, H9.out⟩, rfl⟩) ?_; clear hK K hret hb9
    try simp only [pS]
    refine late_quiet (by kernel_rfl) (fun _ _ d _ _ h => by cases d <;> exact h) ⟨⟨w9, H9.out⟩, rfl⟩ [9, 10] 2 _ _ (by kernel_rfl) (by kernel_rfl) ?_; change wpQuiet _ _ _ _ (_ :: _ :: []) _
    repeat go_big_quiet_step (fail)
    refine wpQuiet_nil ?_; have hR9 := HA1.out.below (bStp Y3.2 H9.out); obtain ⟨er, her⟩ : ∃ z, chkA (partA A (cutL A.sm f t) f) = z := ⟨_, rfl⟩; rw [her]; have HER := qH her; obtain ⟨r0, r1, r2, r3, r4, r5⟩ := hR9.cell; have fr := hR9.free; obtain ⟨WF, hWF, haF, hkF⟩ := hR9.store nm sp' st' (.slice za na zca) (.slice zb nb zcb) (.slice zc nc zcc); have HAF := qH haF; have HKF := qH (hkF (fun q => q = w.heap.size + 1) rfl); clear haF hkF hR9 her; refine late_do (i := 11) _ rfl (by kernel_rfl) rfl (fun K hK => ?_); go_simp; refine hK _ _ (nOo rfl) ?_; clear hK K
    try simp only [pS]
    refine late_do (i := 12) _ rfl (by kernel_rfl) rfl (fun K hK => ?_); go_simp; refine hK _ _ (nOo rfl) ?_; clear hK K
    try simp only [pS]
    refine late_done (by kernel_rfl) ?_ _; have HBF := qH (show Below w.heap.size w WF from by
     have h1 := bStp HB.out (bStp Y3.2 H9.out); exact Kept.below h1 HKF.out h1.size (fun k hk e => by omega))
    clear hWF r0 r1 r2 r3 r4 r5 fr; go_wp2_with fail; have q := HAF.out.cell; refine bodyPost_ret (v := .tuple #[.agg #[.string nm, .int .i64 sp', .int .i64 st', .slice za na zca, .slice zb nb zcb, .slice zc nc zcc], .int .i64 er]) (by simp [results, Tryz.results222, go_sem, q]) rfl (Or.inl ⟨HCK.out, ?_⟩); have hh := HRET.out; rw [HER.out] at hh; have hs := HSZ.out; have h3 := Y3.2.size; have h8 := H8.out.size; exact hh.move HBF.out (by omega) HKF.out (by omega)
theorem rcopied3_any (A : Acv) (a b c : Option Addr) (ca cb cc : Nat) (w : World) (h : ActIn w A a b c) (h1 : A.sm.length ≤ 20000) (h2 : A.lp.length ≤ 1000) (h3 : A.tg.length ≤ 1000) :
 Calls Tryz.prog 88 #[actV A a b c ca cb cc] w fun e w' => CloneRet A w e w' := by
 unfold CloneRet actV; obtain ⟨V0, hV0, hb0, hs0, ha0⟩ := alloc_aA w A a b c ca cb cc; obtain ⟨V1, hV1, hb1, hs1, ha1⟩ := alloc_a0 V0; rw [hs0] at ha1; have HB := qH (bStp hb0 hb1); have HS := qH (show V1.heap.size = w.heap.size + 2 from by omega); have HA0 := qH (ha0.below hb1); have HA1 := qH ha1; have HIN := qH (h.below HB.out); obtain ⟨g0, g1, g2, g3, g4, g5⟩ := (ha0.below hb1).cell; have HIW := qH h; clear h hb0 hb1 ha0 ha1 hs1 g0 g1 g2; obtain ⟨ns, hns⟩ : ∃ n, A.sm.length = n := ⟨_, rfl⟩; obtain ⟨nl, hnl⟩ : ∃ n, A.lp.length = n := ⟨_, rfl⟩; obtain ⟨nt, hnt⟩ : ∃ n, A.tg.length = n := ⟨_, rfl⟩; have HNS := qH hns; have HNL := qH hnl; have HNT := qH hnt; rw [hns] at h1 hV0 g3 HA0 ⊢; rw [hnl] at h2 hV0 g4 HA0 ⊢; rw [hnt] at h3 hV0 g5 HA0 ⊢; clear hns hnl hnt; go_enter Tryz.func88, Tryz.ntmps88; go_upto_region 1 with (fail); clear hV0 hV1; go_upto_region 2 with (at_builtin; refine append_Sms (l := []) (base := V1.heap.size) rfl _ _ rfl rfl (Own.nil _ _ _ _ _) rfl HNS.out HIN.out.sm (by show 0 + ns ≤ _; omega) (Nat.le_refl _) (fun v1 w1 ho1 hg1 => ?_); have hb1 : Below V1.heap.size V1 w1 := Kept.below (O := fun _ => False) (Below.refl _ _) (Kept.of_grown hg1 (fun g e _ => by cases e)) (Nat.le_refl _) (fun k hk e => e.elim); rw [List.nil_append] at ho1; have HO1 := qH ho1; obtain ⟨a1, c1, rfl, _, _, _⟩ := ho1.row smEl; rw [HNS.out]; have hA1 := HA0.out.below hb1; have j1 := hA1.cell.2.2.2.1; have f1 := hA1.free 3; have hB1 := hA1.set3 (.slice a1 ns c1); obtain ⟨W1, hW1⟩ : ∃ W, w1.setCell ⟨w.heap.size, 3, none⟩ (.slice a1 ns c1) = W := ⟨_, rfl⟩; rw [hW1] at hB1; have HAC1 := qH hB1; have HBL1 := qH hb1; have HK1 := qH (show Kept (fun b => b = w.heap.size) w1 W1 from by rw [← hW1]; exact keep_set (O := fun b => b = w.heap.size) rfl); obtain ⟨x10, x11, x12, x13, x14, x15⟩ := hB1.cell; clear hA1 hB1 hg1 ho1 hb1); have HE1 := qH (show Below w.heap.size w W1 from Kept.below (O := fun b => b = w.heap.size) (bStp HB.out HBL1.out) HK1.out (bStp HB.out HBL1.out).size (fun k hk e => by omega)); have hbx := HAC1.out.lt; clear g3 g4 g5; go_upto_region 3 with (at_builtin; refine append_Lps (l := []) (base := W1.heap.size) rfl _ _ rfl rfl (Own.nil _ _ _ _ _) rfl HNL.out (HIW.out.lp.below HE1.out) (by show 0 + nl ≤ _; omega) (Nat.le_refl _) (fun v2 w2 ho2 hg2 => ?_); have hb2 : Below W1.heap.size W1 w2 := Kept.below (O := fun _ => False) (Below.refl _ _) (Kept.of_grown hg2 (fun g e _ => by cases e)) (Nat.le_refl _) (fun k hk e => e.elim); rw [List.nil_append] at ho2; have HO2 := qH ho2; obtain ⟨a2, c2, rfl, _, _, _⟩ := ho2.row lpEl; rw [HNL.out]; have hA2 := HAC1.out.below hb2; have j2 := hA2.cell.2.2.2.2.1; have f2 := hA2.free 4; have hB2 := hA2.set4 (.slice a2 nl c2); obtain ⟨W2, hW2⟩ : ∃ W, w2.setCell ⟨w.heap.size, 4, none⟩ (.slice a2 nl c2) = W := ⟨_, rfl⟩; rw [hW2] at hB2; have HAC2 := qH hB2; have HBL2 := qH hb2; have HK2 := qH (show Kept (fun b => b = w.heap.size) w2 W2 from by rw [← hW2]; exact keep_set (O := fun b => b = w.heap.size) rfl); obtain ⟨x20, x21, x22, x23, x24, x25⟩ := hB2.cell; clear hA2 hB2 hg2 ho2 hb2); have HE2 := qH (show Below w.heap.size w W2 from Kept.below (O := fun b => b = w.heap.size) (bStp HE1.out HBL2.out) HK2.out (bStp HE1.out HBL2.out).size (fun k hk e => by omega)); clear x10 x11 x12 x13 x15; go_upto_region 4 with (at_builtin; refine append_Tgs (l := []) (base := W2.heap.size) rfl _ _ rfl rfl (Own.nil _ _ _ _ _) rfl HNT.out (HIW.out.tg.below HE2.out) (by show 0 + nt ≤ _; omega) (Nat.le_refl _) (fun v3 w3 ho3 hg3 => ?_); have hb3 : Below W2.heap.size W2 w3 := Kept.below (O := fun _ => False) (Below.refl _ _) (Kept.of_grown hg3 (fun g e _ => by cases e)) (Nat.le_refl _) (fun k hk e => e.elim); rw [List.nil_append] at ho3; have HO3 := qH ho3; obtain ⟨a3, c3, rfl, _, _, _⟩ := ho3.row tgEl; rw [HNT.out]; have hA3 := HAC2.out.below hb3; have j3 := hA3.cell.2.2.2.2.2; have f3 := hA3.free 5; have hB3 := hA3.set5 (.slice a3 nt c3); obtain ⟨W3, hW3⟩ : ∃ W, w3.setCell ⟨w.heap.size, 5, none⟩ (.slice a3 nt c3) = W := ⟨_, rfl⟩; rw [hW3] at hB3; have HAC3 := qH hB3; have HBL3 := qH hb3; have HK3 := qH (show Kept (fun b => b = w.heap.size) w3 W3 from by rw [← hW3]; exact keep_set (O := fun b => b = w.heap.size) rfl); obtain ⟨x30, x31, x32, x33, x34, x35⟩ := hB3.cell; clear hA3 hB3 hg3 ho3 hb3)
 have HE3 := qH (show Below w.heap.size w W3 from Kept.below (O := fun b => b = w.heap.size) (bStp HE2.out HBL3.out) HK3.out (bStp HE2.out HBL3.out).size (fun k hk e => by omega)); have HR3 := qH (((((((HA1.out.below HBL1.out).kept HK1.out (by omega)).below HBL2.out).kept HK2.out (by omega)).below HBL3.out).kept HK3.out (by omega))); obtain ⟨r0, r1, r2, r3, r4, r5⟩ := HR3.out.cell; have fr := HR3.out.free; obtain ⟨WF, hWF, haF, hkF⟩ := HR3.out.store A.name A.sport A.start (.slice a1 ns c1) (.slice a2 nl c2) (.slice a3 nt c3); have HAF := qH haF; have hlt3 := HR3.out.lt; have HBF := qH (show Below w.heap.size w WF from Kept.below HE3.out (hkF (fun b => b = w.heap.size + 1) rfl) HE3.out.size (fun k hk e => by omega)); have hkWF : Kept (fun b => b = w.heap.size + 1) W3 WF := hkF (fun b => b = w.heap.size + 1) rfl; have HOF := qH (show Own3 WF w.heap.size A (.slice a1 ns c1) (.slice a2 nl c2) (.slice a3 nt c3) from by
  have h1 := HO1.out; have h2 := HO2.out; have h3 := HO3.out; rw [HNS.out] at h1; rw [HNL.out] at h2; rw [HNT.out] at h3; have s1 := HB.out.size; have s2 := HS.out; have s3 := HBL1.out.size; have s4 := HK1.out.size; have s5 := HBL2.out.size; have s6 := HK2.out.size; have s7 := HBL3.out.size; refine ⟨W1.heap.size, W2.heap.size, by omega, by omega, ?_, fun b e => ?_, ?_, fun b e => ?_, ?_⟩
  · have hb : ∀ g, (Value.slice a1 ns c1).ownBlock = some g → g ≠ w.heap.size ∧ g ≠ w.heap.size + 1 := fun g e => by
     have := (h1.lt g e).1; omega
    have k1 := h1.keepO HK1.out (fun g e h => (hb g e).1 h); have k2 := (k1.below HBL2.out).keepO HK2.out (fun g e h => (hb g e).1 h); have k3 := (k2.below HBL3.out).keepO HK3.out (fun g e h => (hb g e).1 h); exact (k3.keepO hkWF (fun g e h => (hb g e).2 h)).weaken (by omega)
  · have := (h1.lt b e).2
    omega
  · have hb : ∀ g, (Value.slice a2 nl c2).ownBlock = some g → g ≠ w.heap.size ∧ g ≠ w.heap.size + 1 := fun g e => by
     have := (h2.lt g e).1; omega
    have k2 := h2.keepO HK2.out (fun g e h => (hb g e).1 h); have k3 := (k2.below HBL3.out).keepO HK3.out (fun g e h => (hb g e).1 h); exact k3.keepO hkWF (fun g e h => (hb g e).2 h)
  · have := (h2.lt b e).2
    omega
  · have hb : ∀ g, (Value.slice a3 nt c3).ownBlock = some g → g ≠ w.heap.size ∧ g ≠ w.heap.size + 1 := fun g e => by
     have := (h3.lt g e).1; omega
    have k3 := h3.keepO HK3.out (fun g e h => (hb g e).1 h); exact k3.keepO hkWF (fun g e h => (hb g e).2 h))
 clear haF hkF hkWF; go_wp2_with fail; have q := HAF.out.cell; exact bodyPost_ret (v := .agg #[.string A.name, .int .i64 A.sport, .int .i64 A.start, .slice a1 ns c1, .slice a2 nl c2, .slice a3 nt c3]) (by simp [results, Tryz.results88, go_sem, q]) rfl (by exact ⟨⟨a1, a2, a3, c1, c2, c3, rfl, HOF.out⟩, HBF.out⟩)
def MovRet (Z : Acv) (w : World) (e : Ending) (w' : World) : Prop :=
 Below w.heap.size w w' ∧ ∃ a b c ca cb cc, e = .returned (actV Z a b c ca cb cc) ∧ ActIn w' Z a b c ∧ ∀ g, (a = some g ∨ b = some g ∨ c = some g) → w.heap.size ≤ g.block
theorem rmoved_any (A : Acv) (a b c : Option Addr) (ca cb cc : Nat) (l : List Sm) (al : Option Addr) (cl : Nat) (d : Int) (w : World) (h : ActIn w A a b c) (hok : AcOk A) (hr : Rw smC 7 w al l) (hl : l.length ≤ 20000) (hx : ∀ s, s ∈ l → 0 ≤ s.tm ∧ s.tm ≤ 1000000) (h0 : 0 ≤ d) (h1 : d ≤ 1000000) :
 Calls Tryz.prog 86 #[actV A a b c ca cb cc, .slice al l.length cl, .int .i64 d] w fun e w' => MovRet (partA A l d) w e w' := by
 obtain ⟨n, hn⟩ : ∃ n, l.length = n := ⟨_, rfl⟩; have HLN := qH hn; rw [hn] at hl ⊢; obtain ⟨V0, hV0, hb0, hs0, ha0⟩ := alloc_aA w A a b c ca cb cc; obtain ⟨V1, hV1, hb1, hs1, ha1⟩ := alloc_a0 V0; rw [hs0] at ha1; have ha0 := ha0.below hb1; have HB := qH (bStp hb0 hb1); have HIN := qH (h.below HB.out); have HOK := qH hok; have HRL := qH hr; have HXL := qH (fun (i : Nat) (hi : i < n) => show ∃ x, l[i]? = some x ∧ 0 ≤ x.tm ∧ x.tm ≤ 1000000 from by
  have hg : i < l.length := by rw [hn]; exact hi
  exact ⟨_, List.getElem?_eq_getElem hg, hx _ (List.getElem_mem hg)⟩)
 have HT := qH (show V1.heap.size = w.heap.size + 2 from by omega); have HA0 := qH ha0; have HA1 := qH ha1; have DC := qH (rcopied3_any A a b c ca cb cc V1 HIN.out (by have := hok.nsm; omega) (by have := hok.nlp; omega) (by have := hok.ntg; omega)); obtain ⟨g0, g1, g2, g3, g4, g5⟩ := ha0.cell; clear h hok hr hx hb0 hb1 ha0 ha1 hn hs1; unfold actV at DC ⊢; go_enter Tryz.func86, Tryz.ntmps86; go_upto_region 1 with (fail); clear hV0 hV1 hs0; go_wp2_with fail; refine (DC.out).mono ?_; unfold CloneRet; rintro e w1 ⟨⟨a1, b1, c1, ca1, cb1, cc1, rfl, ho3⟩, hb1⟩; obtain ⟨B, hB⟩ : ∃ B, w.heap.size = B := ⟨_, rfl⟩; have HBB := qH hB; have ha3 := HA0.out.below hb1; rw [hB] at ha3; obtain ⟨q0, q1, q2, q3, q4, q5⟩ := ha3.cell; have f3 := ha3.free; obtain ⟨W3, hW3, haW, hkW⟩ := ha3.store A.name A.sport A.start (.slice a1 A.sm.length ca1) (.slice b1 A.lp.length cb1) (.slice c1 A.tg.length cc1); have f2' := haW.free 2; have j2 := haW.cell.2.2.1; obtain ⟨u1, u2⟩ := HOK.out.start; have hws : IntKind.i64.wrap (A.start + d) = A.start + d := tm_wrap (by omega) (by omega); have haX := haW.set2 (A.start + d); obtain ⟨W4, hW4⟩ : ∃ W, W3.setCell ⟨B, 2, none⟩ (.int .i64 (A.start + d)) = W := ⟨_, rfl⟩; rw [hW4] at haX; have f4' := haX.free 3; have j4 := haX.cell.2.2.2.1; have haY := haX.set3 (.slice none 0 0); obtain ⟨W, hW⟩ : ∃ W, W4.setCell ⟨B, 3, none⟩ (.slice none 0 0) = W := ⟨_, rfl⟩; rw [hW] at haY; have hk34 : Kept (fun q => q = B) W3 W4 := by rw [← hW4]; exact keep_set (O := fun q => q = B) rfl
 have hk4 : Kept (fun q => q = B) W4 W := by rw [← hW]; exact keep_set (O := fun q => q = B) rfl
 have HKW := qH (((hkW (fun q => q = B) rfl).trans hk34).trans hk4); have HA4 := qH haY; have HB1 := qH hb1; have HO3 := qH ho3; rw [hB] at g0 g1 g2 g3 g4 g5 ⊢; clear hb1 ho3 ha3 haW hkW haX haY hB hk34 hk4; unfold actV; go_upto_region 4 with (fail); clear q0 q1 q2 q3 q4 q5 f3 hW3 f2' j2 hws hW4 f4' j4 hW g0 g1 g2 g3 g4 g5; have HVB := qH (show V1.heap.size = B + 2 ∧ B + 2 ≤ W.heap.size from by
  have := HB1.out.size; have := HT.out; have := HBB.out; have := HKW.out.size; omega)
 have HC := qH (fun (X : ExtO (fun b => b = B) W) (p : Addr) (v : Value) (hp : p.block < B) (h : w.cell? p = some v) => show X.1.cell? p = some v from X.2.cell (by omega) (HKW.out.cell (by omega) (bCel HB1.out (bCel HB.out h)))); go_wp2_with fail
 go_loopw [23] (fun iv wr => ∃ k : Nat, iv = .int .i64 k ∧ k ≤ n ∧ Hid (∃ vs, AcB wr B A.name A.sport (A.start + d) vs (.slice b1 A.lp.length cb1) (.slice c1 A.tg.length cc1) ∧ Own smC 7 72 wr W.heap.size vs ((l.take k).map (backS d))) ∧ ∃ X : ExtO (fun b => b = B) W, wr = X.1) (fun iv _ => n - (intOf iv).toNat)
 case atStart => exact ⟨0, rfl, by omega, qH ⟨_, HA4.out, Own.nil _ _ _ _ _⟩, ⟨W, Kept.refl _ _⟩, rfl⟩
 case round =>
  obtain ⟨k, rfl, hk, HST, X, rfl⟩ := hrel; obtain ⟨vs, hac, hown⟩ := HST.out; obtain ⟨a', c', rfl, -, -, -⟩ := hown.row smEl; rw [List.length_map, List.length_take, Nat.min_eq_left (by rw [HLN.out]; exact hk)] at hac hown; by_cases hlt : k < n
  · have t2 : decide ((k : Int) < (n : Int)) = true := dTt (by omega)
    have t2' : decide (k < n) = true := by simpa using hlt
    obtain ⟨x, hx, hx0, hx1⟩ := HXL.out k hlt; have HTK := qH (show (l.take (k + 1)).map (backS d) = (l.take k).map (backS d) ++ [backS d x] by rw [List.take_add_one, hx, List.map_append]; rfl); have HLK := qH (show ((l.take k).map (backS d)).length = k by rw [List.length_map, List.length_take, Nat.min_eq_left (by rw [HLN.out]; exact hk)]); obtain ⟨b3, o3, rfl, hb3, hd⟩ := HRL.out.at hx; have hb3' : b3 < B := by have := HBB.out; omega
    have e0 := HC.out X ⟨b3, o3 + k * 7, none⟩ (.int .i64 x.tm) hb3' (hd 0 _ rfl); have e1 := HC.out X ⟨b3, o3 + k * 7 + 1, none⟩ (.int .i64 x.x) hb3' (hd 1 _ rfl); have e2 := HC.out X ⟨b3, o3 + k * 7 + 2, none⟩ (.int .i64 x.y) hb3' (hd 2 _ rfl); have e3 := HC.out X ⟨b3, o3 + k * 7 + 3, none⟩ (.int .i64 x.z) hb3' (hd 3 _ rfl); have e4 := HC.out X ⟨b3, o3 + k * 7 + 4, none⟩ (.int .i64 x.pu) hb3' (hd 4 _ rfl); have e5 := HC.out X ⟨b3, o3 + k * 7 + 5, none⟩ (.int .i64 x.po) hb3' (hd 5 _ rfl); have e6 := HC.out X ⟨b3, o3 + k * 7 + 6, none⟩ (.int .i64 x.st) hb3' (hd 6 _ rfl); have hy : smC (backS d x) = [.int .i64 (x.tm - d), .int .i64 x.x, .int .i64 x.y, .int .i64 x.z, .int .i64 x.pu, .int .i64 x.po, .int .i64 x.st] := rfl; have hw : IntKind.i64.wrap (x.tm - d) = x.tm - d := tm_wrap (by omega) (by omega); obtain ⟨V6, hV6, hb6, hs6, hl6⟩ := alloc_cells X.1 #[.int .i64 x.tm, .int .i64 x.x, .int .i64 x.y, .int .i64 x.z, .int .i64 x.pu, .int .i64 x.po, .int .i64 x.st] 72; have hk0 : V6.heap[X.1.heap.size]? = some (.cells #[.int .i64 x.tm, .int .i64 x.x, .int .i64 x.y, .int .i64 x.z, .int .i64 x.pu, .int .i64 x.po, .int .i64 x.st] 72 (0, 0)) := by rw [← hV6]; exact heap_alloc_new X.1 _
    have hk1 := set_cells (i := 0) (v := .int .i64 (x.tm - d)) hk0; obtain ⟨W6, hW6⟩ : ∃ W, V6.setCell ⟨X.1.heap.size, 0, none⟩ (.int .i64 (x.tm - d)) = W := ⟨_, rfl⟩; rw [hW6] at hk1; have hB6 : Below X.1.heap.size X.1 W6 := Kept.below hb6 (by rw [← hW6]; exact keep_set (O := fun b => b = X.1.heap.size) rfl) hb6.size (fun k hk e => by omega); have r0 : V6.cell? ⟨X.1.heap.size, 0, none⟩ = some (.int .i64 x.tm) := by simp [World.cell?, hk0]
    have f0 : V6.frozen? ⟨X.1.heap.size, 0, none⟩ = false := by simp [World.frozen?, hk0]
    have p0 : W6.cell? ⟨X.1.heap.size, 0, none⟩ = some (.int .i64 (x.tm - d)) := by simp [World.cell?, hk1]
    have p1 : W6.cell? ⟨X.1.heap.size, 1, none⟩ = some (.int .i64 x.x) := by simp [World.cell?, hk1]
    have p2 : W6.cell? ⟨X.1.heap.size, 2, none⟩ = some (.int .i64 x.y) := by simp [World.cell?, hk1]
    have p3 : W6.cell? ⟨X.1.heap.size, 3, none⟩ = some (.int .i64 x.z) := by simp [World.cell?, hk1]
    have p4 : W6.cell? ⟨X.1.heap.size, 4, none⟩ = some (.int .i64 x.pu) := by simp [World.cell?, hk1]
    have p5 : W6.cell? ⟨X.1.heap.size, 5, none⟩ = some (.int .i64 x.po) := by simp [World.cell?, hk1]
    have p6 : W6.cell? ⟨X.1.heap.size, 6, none⟩ = some (.int .i64 x.st) := by simp [World.cell?, hk1]
    have q3 : W6.cell? ⟨B, 3, none⟩ = some (.slice a' k c') := (hac.below hB6).cell.2.2.2.1; obtain ⟨V7, hV7, hb7, hs7, hl7⟩ := alloc_cells W6 #[.int .i64 (x.tm - d), .int .i64 x.x, .int .i64 x.y, .int .i64 x.z, .int .i64 x.pu, .int .i64 x.po, .int .i64 x.st] 72; have HC7 := qH (fun j u (hj : (smC (backS d x))[j]? = some u) => show V7.cell? ⟨W6.heap.size, j, none⟩ = some u from hl7 j u (by rw [← hj, hy]; simp)); have hB7 := bStp hB6 hb7; have HO7 := qH (hown.below hB7); have HA7 := qH (hac.below hB7); have HK7 := qH (X.2.trans (Kept.of_below hB7)); clear hac hown hb6 hs6 hl6 hk0 hk1 hB6 hb7 hs7 hl7 hB7 hx hd hb3 hb3' hy HST hx0 hx1; go_wp2_with (at_builtin; refine append_Sm rfl _ _ rfl rfl HO7.out (p := backS d x) rfl HC7.out (by rw [HLK.out]; omega) HK7.out.size (fun g' c2 w8 ho8 hg8 hor => ?_); rw [HLK.out] at ho8 ⊢; have HA8 := qH (HA7.out.kept (O := fun b => W.heap.size ≤ b) (Kept.of_grown hg8 (fun g e _ => (HO7.out.lt g e).1)) (by have := HVB.out; omega)); have j8 := HA8.out.cell.2.2.2.1; have f8 := HA8.out.free 3; obtain ⟨W9, hW9⟩ : ∃ z, w8.setCell ⟨B, 3, none⟩ (.slice (some ⟨g', 0, none⟩) (k + 1) c2) = z := ⟨_, rfl⟩); have ha9 := HA8.out.set3 (.slice (some ⟨g', 0, none⟩) (k + 1) c2); rw [hW9] at ha9; have hk9 : Kept (fun b => b = B) w8 W9 := by rw [← hW9]; exact keep_set (O := fun b => b = B) rfl
    have HO9 := qH (ho8.keepO hk9 (fun b hb e => by have := (ho8.lt b hb).1; have := HVB.out; omega)); have HA9 := qH ha9; have HK9 := qH ((HK7.out.grown hg8 (fun g e hlt => by have := (HO7.out.lt g e).1; omega)).trans hk9); clear ho8 hg8 hor ha9 hk9 hW9 j8 f8
    go_roundw
    case rel => exact ⟨k + 1, by go_num, by omega, qH ⟨_, HA9.out, by rw [HTK.out]; exact HO9.out⟩, ⟨W9, HK9.out⟩, rfl⟩
    case measure => simp [intOf]; omega
  · have t2 : decide ((k : Int) < (n : Int)) = false := dFf (by omega)
    have t2' : decide (k < n) = false := by simpa using hlt
    obtain rfl : n = k := by omega
    have hmap : l.take n = l := by rw [← HLN.out]; exact List.take_length
    rw [hmap] at hown; obtain ⟨L, hL⟩ : ∃ L, l.map (backS d) = L := ⟨_, rfl⟩; rw [hL] at hown; have HL := qH hL; have HLL := qH (show L.length = n by rw [← hL, List.length_map]; exact HLN.out); have HO9 := qH hown; have HA9 := qH hac; obtain ⟨y0, y1, y2, y3, y4, y5⟩ := hac.cell; have DSP := qH (show Calls Tryz.prog 83 #[.agg #[.string A.name, .int .i64 A.sport, .int .i64 (A.start + d), .slice a' n c', .slice b1 A.lp.length cb1, .slice c1 A.tg.length cc1]] X.1 fun e w' => e = .returned (.int .i64 (spanS L)) ∧ Below X.1.heap.size X.1 w' from by
     have h := rspan2_any ⟨A.name, A.sport, A.start + d, L, A.lp, A.tg⟩ a' b1 c1 c' cb1 cc1 X.1 ((HO9.out.rw_ smEl).1) (by show (L.length : Int) ≤ _; rw [HLL.out]; omega); unfold actV at h; simp only [HLL.out] at h; exact h)
    clear hmap hL hac hown HST hlt hk HC; go_upto_region 10 with (fail); go_wp2_with fail; refine (DSP.out).mono ?_; rintro e Y1 ⟨rfl, hk1⟩; have hacY := HA9.out.below hk1; have HOY := qH (HO9.out.below hk1); have HKY := qH (X.2.trans (Kept.of_below hk1)); clear y0 y1 y2 y3 y4 y5; obtain ⟨y0, y1, y2, y3, y4, y5⟩ := hacY.cell; have f4 := hacY.free 4; have hac2 := hacY.set4 (.slice none 0 0); obtain ⟨W2, hW2⟩ : ∃ z, Y1.setCell ⟨B, 4, none⟩ (.slice none 0 0) = z := ⟨_, rfl⟩; rw [hW2] at hac2; have hk2 : Kept (fun b => b = B) Y1 W2 := by rw [← hW2]; exact keep_set (O := fun b => b = B) rfl
    have HO2 := qH (HOY.out.keepO hk2 (fun q hq e => by have := (HOY.out.lt q hq).1; have := HVB.out; omega)); have HK2 := qH (HKY.out.trans hk2); have HA2 := qH hac2; obtain ⟨sp, hsp⟩ : ∃ z, spanS L = z := ⟨_, rfl⟩; have HSP := qH hsp; rw [hsp]; obtain ⟨m, hm⟩ : ∃ m, A.lp.length = m := ⟨_, rfl⟩; have HM := qH hm; have hm2 : m ≤ 1000 := by have := HOK.out.nlp; omega
    -- the laps of the copy lie apart
    have HRB := qH (show Rw lpC 3 W2 b1 A.lp ∧ (∀ b off, b1 = some ⟨b, off, none⟩ → b ≠ B) from by
     obtain ⟨B1, B2, hB1, hB2, _, _, hol, _, _⟩ := HO3.out.ex; obtain ⟨t1, _, t3⟩ := hol.rw_ lpEl; have hne : ∀ b off, b1 = some ⟨b, off, none⟩ → ¬ b = B := fun b off e => by have hh : B1 ≤ b := (t3 _ e).1; have := HVB.out; omega
     exact ⟨(t1.kept HKW.out hne).kept HK2.out hne, hne⟩)
    have HXB := qH (fun (i : Nat) (hi : i < m) => show ∃ x, A.lp[i]? = some x ∧ (0 ≤ x.f ∧ x.f ≤ 1000000) ∧ 0 ≤ x.t ∧ x.t ≤ 1000000 from by
     have hg : i < A.lp.length := by rw [hm]; exact hi
     obtain ⟨m1, m2, m3, _⟩ := HOK.out.lp.each i _ (List.getElem?_eq_getElem hg); have hspr := spanS_range HOK.out.sm; exact ⟨_, List.getElem?_eq_getElem hg, by omega⟩)
    have HB2 := qH hk2; rw [hm] at y4; clear hacY hac2 hk1 hk2 hsp hm; go_upto_region 13 with (fail); clear y0 y1 y2 y3 y4 y5 f4 hW2 DSP; go_wp2_with fail
    go_loopw [46] (fun iv wr => ∃ k : Nat, iv = .int .i64 k ∧ k ≤ m ∧ Hid (∃ vs, AcB wr B A.name A.sport (A.start + d) (.slice a' n c') vs (.slice c1 A.tg.length cc1) ∧ Own lpC 3 75 wr W2.heap.size vs (movedF (A.lp.take k) d sp)) ∧ ∃ X : ExtO (fun b => b = B) W2, wr = X.1) (fun iv _ => m - (intOf iv).toNat)
    case atStart => exact ⟨0, rfl, by omega, qH ⟨_, HA2.out, Own.nil _ _ _ _ _⟩, ⟨W2, Kept.refl _ _⟩, rfl⟩
    case round =>
     clear X HA9 HO9; obtain ⟨k, rfl, hk, HST, X, rfl⟩ := hrel; obtain ⟨vs, hac, hown⟩ := HST.out; obtain ⟨b', d', rfl, -, -, -⟩ := hown.row lpEl; have hml : (movedF (A.lp.take k) d sp).length ≤ 1000 := by have := movedF_len (A.lp.take k) d sp; rw [List.length_take] at this; omega
     have HML := qH hml; by_cases hlt : k < m
     · have t2 : decide ((k : Int) < (m : Int)) = true := dTt (by omega)
       have t2' : decide (k < m) = true := by simpa using hlt
       obtain ⟨x, hx, ⟨x0, x1⟩, x2, x3⟩ := HXB.out k hlt; have hne := HRB.out.2; obtain ⟨b3, o3, rfl, hb3, hd⟩ := (HRB.out.1.kept X.2 (fun b off e => hne b off e)).at hx; have e0 : X.1.cell? ⟨b3, o3 + k * 3, none⟩ = some (.int .i64 x.f) := hd 0 _ rfl; have e1 : X.1.cell? ⟨b3, o3 + k * 3 + 1, none⟩ = some (.int .i64 x.t) := hd 1 _ rfl; have e2 : X.1.cell? ⟨b3, o3 + k * 3 + 2, none⟩ = some (.string x.s) := hd 2 _ rfl; have HST2 := qH (movedF_snoc (by_ := d) (span := sp) hx); obtain ⟨T, hT⟩ : ∃ T, X.1.heap.size = T := ⟨_, rfl⟩; obtain ⟨V0, hV0, hb0, hs0, hl0⟩ := alloc_cells X.1 #[.int .i64 x.f, .int .i64 x.t, .string x.s] 75; have hk0 : V0.heap[T]? = some (.cells #[.int .i64 x.f, .int .i64 x.t, .string x.s] 75 (0, 0)) := by rw [← hV0, ← hT]; exact heap_alloc_new X.1 _
       have hmv : mvL d sp x = ⟨min (max (x.f - d) 0) sp, min (max (x.t - d) 0) sp, x.s⟩ := rfl; have w1 : IntKind.i64.wrap (x.f - d) = x.f - d := tm_wrap (by omega) (by omega); have w2 : IntKind.i64.wrap (x.t - d) = x.t - d := tm_wrap (by omega) (by omega); obtain ⟨f', hf'⟩ : ∃ z, min (max (x.f - d) 0) sp = z := ⟨_, rfl⟩; obtain ⟨t', ht'⟩ : ∃ z, min (max (x.t - d) 0) sp = z := ⟨_, rfl⟩; rw [hf', ht'] at hmv; have hk1 := set_cells (i := 0) (v := .int .i64 f') hk0; obtain ⟨W1', hW1'⟩ : ∃ W, V0.setCell ⟨T, 0, none⟩ (.int .i64 f') = W := ⟨_, rfl⟩; rw [hW1'] at hk1; have hk2 := set_cells (i := 1) (v := .int .i64 t') hk1; obtain ⟨W2', hW2'⟩ : ∃ W, W1'.setCell ⟨T, 1, none⟩ (.int .i64 t') = W := ⟨_, rfl⟩; rw [hW2'] at hk2; have hkk : Kept (fun b => b = T) V0 W2' := by rw [← hW2', ← hW1']; exact (keep_set (O := fun b => b = T) rfl).trans (keep_set (O := fun b => b = T) rfl)
       have r0 : V0.cell? ⟨T, 0, none⟩ = some (.int .i64 x.f) := by simp [World.cell?, hk0]
       have r1 : V0.cell? ⟨T, 1, none⟩ = some (.int .i64 x.t) := by simp [World.cell?, hk0]
       have r2 : W1'.cell? ⟨T, 1, none⟩ = some (.int .i64 x.t) := by simp [World.cell?, hk1]
       have f0 : V0.frozen? ⟨T, 0, none⟩ = false := by simp [World.frozen?, hk0]
       have f1 : W1'.frozen? ⟨T, 1, none⟩ = false := by simp [World.frozen?, hk1]
       have p0 : W2'.cell? ⟨T, 0, none⟩ = some (.int .i64 f') := by simp [World.cell?, hk2]
       have p1 : W2'.cell? ⟨T, 1, none⟩ = some (.int .i64 t') := by simp [World.cell?, hk2]
       have p2 : W2'.cell? ⟨T, 2, none⟩ = some (.string x.s) := by simp [World.cell?, hk2]
       have HBX := qH (show Below X.1.heap.size X.1 W2' from Kept.below hb0 hkk hb0.size (fun k hk e => by omega)); rw [hmv] at HST2; have HOX := qH (hown.below HBX.out); have HAX := qH (hac.below HBX.out); have q4 := HAX.out.cell.2.2.2.2.1; clear hx hd hb3 hmv hb0 hs0 hl0 hk0 hk1 hk2 hkk hml hown hac HST x0 x1 x2 x3 hne; generalize x.s = xs at *; by_cases hft : f' < t'
       · have t3 : decide (f' < t') = true := by rw [decide_eq_true_eq]; exact hft
         have HS2 := qH (show movedF (A.lp.take (k + 1)) d sp = movedF (A.lp.take k) d sp ++ [⟨f', t', xs⟩] by rw [HST2.out, if_pos hft]); obtain ⟨V6, hV6, hb6, hs6, hl6⟩ := alloc_cells W2' #[.int .i64 f', .int .i64 t', .string xs] 75; have HC6 := qH (fun j u (hj : (lpC ⟨f', t', xs⟩)[j]? = some u) => show V6.cell? ⟨W2'.heap.size, j, none⟩ = some u from hl6 j u (by rw [← hj]; simp [lpC])); have HO6 := qH (HOX.out.below hb6); have HA6 := qH (HAX.out.below hb6); have HK6 := qH (X.2.trans (Kept.of_below (bStp HBX.out hb6))); obtain ⟨ml, hml⟩ : ∃ ml, (movedF (A.lp.take k) d sp).length = ml := ⟨_, rfl⟩; have HML2 := qH hml; rw [hml] at HO6 q4; have hml2 : ml ≤ 1000 := by have := HML.out; omega
         clear HST2 hb6 hs6 hl6 hft hml; go_wp2_with (at_builtin; refine append_Lp rfl _ _ rfl rfl HO6.out (p := ⟨f', t', xs⟩) rfl HC6.out (by rw [HML2.out]; omega) HK6.out.size (fun g' c2 w8 ho8 hg8 hor => ?_); rw [HML2.out] at ho8 ⊢; have HA8 := qH (HA6.out.kept (O := fun b => W2.heap.size ≤ b) (Kept.of_grown hg8 (fun g e _ => (HO6.out.lt g e).1)) (by have := HVB.out; have := HK2.out.size; omega)); have j8 := HA8.out.cell.2.2.2.2.1; have f8 := HA8.out.free 4; obtain ⟨W9, hW9⟩ : ∃ z, w8.setCell ⟨B, 4, none⟩ (.slice (some ⟨g', 0, none⟩) (ml + 1) c2) = z := ⟨_, rfl⟩); have ha9 := HA8.out.set4 (.slice (some ⟨g', 0, none⟩) (ml + 1) c2); rw [hW9] at ha9; have hk9 : Kept (fun b => b = B) w8 W9 := by rw [← hW9]; exact keep_set (O := fun b => b = B) rfl
         have HO9 := qH (ho8.keepO hk9 (fun b hb e => by have := (ho8.lt b hb).1; have := HVB.out; have := HK2.out.size; omega)); have HA9 := qH ha9; have HK9 := qH ((HK6.out.grown hg8 (fun g e hlt => by have := (HO6.out.lt g e).1; omega)).trans hk9); clear ho8 hg8 hor ha9 hk9 hW9 j8 f8 hV6 p0 p1 p2 q4; go_wp2_with fail
         go_roundw
         case rel => exact ⟨k + 1, by go_num, by omega, qH ⟨_, HA9.out, by rw [HS2.out]; exact HO9.out⟩, ⟨W9, HK9.out⟩, rfl⟩
         case measure => simp [intOf]; omega
       · have t3 : decide (f' < t') = false := by rw [decide_eq_false_iff_not]; exact hft
         have HS2 := qH (show movedF (A.lp.take (k + 1)) d sp = movedF (A.lp.take k) d sp by rw [HST2.out, if_neg hft]); clear HST2 hft q4; go_wp2_with fail
         go_roundw
         case rel => exact ⟨k + 1, by go_num, by omega, qH ⟨_, HAX.out, by rw [HS2.out]; exact HOX.out⟩, ⟨W2', X.2.trans (Kept.of_below HBX.out)⟩, rfl⟩
         case measure => simp [intOf]; omega
     · have t2 : decide ((k : Int) < (m : Int)) = false := dFf (by omega)
       have t2' : decide (k < m) = false := by simpa using hlt
       obtain rfl : m = k := by omega
       have hmap : A.lp.take m = A.lp := by rw [← HM.out]; exact List.take_length
       rw [hmap] at hown hac; obtain ⟨ML, hML⟩ : ∃ q, movedF A.lp d sp = q := ⟨_, rfl⟩; rw [hML] at hown hac; have HPA := qH (show partA A l d = ⟨A.name, A.sport, A.start + d, L, ML, A.tg⟩ by unfold partA; rw [HL.out, HSP.out, hML]); have HMLE := qH hML; obtain ⟨z0, z1, z2, z3, z4, z5⟩ := hac.cell; have hwl : Below B w X.1 := by
        have h0 := HBB.out; have h1 : Below w.heap.size w w1 := bStp HB.out HB1.out; have h2 : Below w.heap.size w W := Kept.below h1 HKW.out h1.size (fun k hk e => by omega); have h3 : Below w.heap.size w W2 := Kept.below h2 HK2.out h2.size (fun k hk e => by omega); have h4 : Below w.heap.size w X.1 := Kept.below h3 X.2 h3.size (fun k hk e => by omega); rw [h0] at h4; exact h4
       have hne : ¬ (B + 1 = B) := by omega
       have hR := (((by have := HA1.out; rw [HBB.out] at this; exact this : AcB V1 (B + 1) ⟨#[]⟩ 0 0 (.slice none 0 0) (.slice none 0 0) (.slice none 0 0)).below HB1.out).kept HKW.out hne).kept HK2.out hne |>.kept X.2 hne; obtain ⟨r0, r1, r2, r3, r4, r5⟩ := hR.cell; have fr := hR.free; obtain ⟨WF, hWF, haF, hkF⟩ := hR.store A.name A.sport (A.start + d) (.slice a' n c') (.slice b' ML.length d') (.slice c1 A.tg.length cc1); have HAF := qH haF; have HKF := qH (hkF (fun q => q = B + 1) rfl); have HBF := qH (show Below B w WF from Kept.below hwl HKF.out (by have := hwl.size; have := HBB.out; omega) (fun k hk e => by omega)); have HOL := qH hown; clear haF hkF hac hown HST hML hmap hlt hk; go_wp2_with fail; have q := HAF.out.cell; refine bodyPost_ret (v := .agg #[.string A.name, .int .i64 A.sport, .int .i64 (A.start + d), .slice a' n c', .slice b' ML.length d', .slice c1 A.tg.length cc1]) (by simp [results, Tryz.results86, go_sem, q]) rfl ⟨by rw [HBB.out]; exact HBF.out, a', b', c1, c', d', cc1, ?_, ?_, ?_⟩
       · rw [HPA.out]
         unfold actV; simp only [HLL.out]
       · rw [HPA.out]
         obtain ⟨r1, _, r3⟩ := HO2.out.rw_ smEl; obtain ⟨l1, _, l3⟩ := HOL.out.rw_ lpEl; obtain ⟨B1, B2, hB1, hB2, _, _, _, _, hot⟩ := HO3.out.ex; obtain ⟨t1, _, t3⟩ := hot.rw_ tgEl; have hv := HVB.out; have hs2 := HK2.out.size; refine ⟨(r1.kept X.2 (fun b off e => by have hh : W.heap.size ≤ b := (r3 _ e).1; omega)).kept HKF.out (fun b off e => by have hh : W.heap.size ≤ b := (r3 _ e).1; omega), l1.kept HKF.out (fun b off e => by have hh : W2.heap.size ≤ b := (l3 _ e).1; omega), ?_, HIN.out.name, fun x hx => ?_, HIN.out.tags, ?_, ?_, HIN.out.ntg⟩
         · have hg : ∀ b off, c1 = some ⟨b, off, none⟩ → B + 2 ≤ b := fun b off e => by have hh : B2 ≤ b := (t3 _ e).1; omega
           exact (((t1.kept HKW.out (fun b off e h => by have := hg b off e; omega)).kept HK2.out (fun b off e h => by have := hg b off e; omega)).kept X.2 (fun b off e h => by have := hg b off e; omega)).kept HKF.out (fun b off e h => by have := hg b off e; omega)
         · rw [← HMLE.out] at hx
           obtain ⟨y, hy, e⟩ := movedF_mem hx; rw [e]; exact HIN.out.titles y hy
         · show (L.length : Int) ≤ _
           rw [HLL.out]; omega
         · have hm := movedF_len A.lp d sp
           have := HOK.out.nlp; rw [HMLE.out] at hm; show (ML.length : Int) ≤ _; omega
       · obtain ⟨B1, B2, hB1, hB2, _, _, _, _, hot⟩ := HO3.out.ex
         have hlt := HVB.out; have hsz := HBB.out; rintro g (e | e | e)
         · have := ((HO2.out.rw_ smEl).2.2 _ e).1
           omega
         · have := ((HOL.out.rw_ lpEl).2.2 _ e).1
           have := HK2.out.size; omega
         · have := ((hot.rw_ tgEl).2.2 _ e).1
           omega
end Go.Proofs.YtjnfccphodjfiaaGreat
