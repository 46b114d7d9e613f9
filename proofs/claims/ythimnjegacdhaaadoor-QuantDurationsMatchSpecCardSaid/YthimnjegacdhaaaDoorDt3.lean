/- Several texts of this claim in one. -/
import Derived.Test.YthimnjegacdhaaaDoorDt2
import Derived.Laws.AppendOwn
import Derived.Deep.Onto
import Derived.Lib.OwnKind
import Derived.Deep.AppendLies
import Derived.WalkSmall
import Derived.Laws.EntriesVeiled
import Derived.Handy
import Derived.StillTailTactics
/- Going along a form; the first form that a text has (reference). -/
namespace Go.Proofs.YthimnjegacdhaaaDoor
open Go.RowKit Go.BigFrame
open Rd (sB bt itoaB Tok TokOk matchT firstT tok0 MatchAt FirstAt)

/-- a form as it lies in memory -/
def FormIn (w : World) (a : Option Addr) (f : List Tok) : Prop := RowK w a f.length 5 (fun i => tokCells (f.getD i tok0))
/-- what match hands back -/
def MatchRet (s : ByteArray) (f : List Tok) (w : World) (e : Ending) (w' : World) : Prop :=
  ∃ lv, e = .returned (.tuple #[.int .i64 (matchT s f 0).1, lv, .bool (matchT s f 0).2.2]) ∧ Below w.heap.size w w' ∧ ((matchT s f 0).2.2 = true → w'.ownsRow w.heap.size 3 1 lv (matchT s f 0).2.1.length ((matchT s f 0).2.1.map (.int .i64)))
theorem MatchRet.mk {s : ByteArray} {f : List Tok} {w w' : World} {e : Ending} {q : Nat} {L : List Int} {b : Bool} (lv : Value) (he : e = .returned (.tuple #[.int .i64 q, lv, .bool b])) (h : matchT s f 0 = (q, L, b)) (hb : Below w.heap.size w w') (ho : b = true → w'.ownsRow w.heap.size 3 1 lv L.length (L.map (.int .i64))) : MatchRet s f w e w' := by
  refine ⟨lv, ?_, hb, ?_⟩
  · rw [h]; exact he
  · rw [h]; exact ho
set_option maxHeartbeats 4000000 in
set_option maxRecDepth 100000 in
theorem match_any (s : ByteArray) (f : List Tok) (a : Option Addr) (c : Nat) (w : World) (hs : s.size ≤ 1000000) (hr : FormIn w a f) (hok : ∀ t, t ∈ f → TokOk t) (hfl : f.length ≤ 1000) (hg : Glo w) :
    Calls Tryd.prog 27 #[.string s, .slice a f.length c] w fun e w' => MatchRet s f w e w' := by
  have HR := Lib.hid hr
  have HG := Lib.hid hg
  have D := Lib.hid (fun (t : Tok) (ht : TokOk t) (q : Nat) (hq : q ≤ s.size) (W : World) (hW : Below w.heap.size w W) => run_any t ht s q hs hq W (hg.below hW))
  have HOK := Lib.hid (fun (k : Nat) (hk : k < f.length) => hok (f.getD k tok0) (by rw [List.getD_eq_getElem?_getD, List.getElem?_eq_getElem hk]; exact List.getElem_mem hk))
  have HGT := Lib.hid (fun (k : Nat) (hk : k < f.length) => (show f[k]? = some (f.getD k tok0) by rw [List.getD_eq_getElem?_getD, List.getElem?_eq_getElem hk]; rfl))
  clear hg hok hr
  obtain ⟨i0, hi0, hz0, hz1, hz2⟩ := info_parts (show (Tryd.prog.info? 3).map (fun i => (i.zero, i.size, i.bytes)) = some (some (.int .i64 0), 1, 8) by kernel_rfl)
  go_enter Tryd.func27, Tryd.ntmps27
  go_wp2_with fail
  go_loopw [7, 8, 16] (fun av lv iv wr => ∃ (q k : Nat) (L : List Int), av = .int .i64 q ∧ iv = .int .i64 k ∧ k ≤ f.length ∧ q ≤ s.size ∧ L.length ≤ k ∧ Hid (Below w.heap.size w wr) ∧ Hid (wr.ownsRow w.heap.size 3 1 lv L.length (L.map (.int .i64))) ∧ Hid (MatchAt s f k q L)) (fun _ _ iv _ => f.length - (intOf iv).toNat)
  case atStart => exact ⟨0, 0, [], rfl, rfl, by omega, by omega, by simp, Lib.hid (Below.refl _ _), Lib.hid (World.ownsRow_nil _ _ _ _), Lib.hid (MatchAt.start s f)⟩
  case round =>
    obtain ⟨q, k, L, rfl, rfl, hk, hq, hL, HB, HO, HM⟩ := hrel
    have hq1 : q ≤ 1000000 := by omega
    by_cases hlt : k < f.length
    case neg =>
      have t1 : decide ((k : Int) < (f.length : Int)) = false := by rw [lt_b]; simpa using hlt
      have t1' : decide (k < f.length) = false := by simpa using hlt
      have HX := Lib.hid (HM.out.done (by omega))
      obtain ⟨be, hbe⟩ : ∃ x, decide (q = s.size) = x := ⟨_, rfl⟩
      have hbe' : ((q : Int) == (s.size : Int)) = be := by rw [eq_b, hbe]
      rw [hbe] at HX
      clear HM hbe
      go_wp2_with fail
      go_ret3
      exact MatchRet.mk u8 rfl HX.out HB.out (fun _ => HO.out)
    case pos =>
      have t1 : decide ((k : Int) < (f.length : Int)) = true := by rw [lt_b]; simpa using hlt
      have t1' : decide (k < f.length) = true := by simpa using hlt
      have hsz := HB.out.size
      obtain ⟨b, off, rfl, hbl, hcc⟩ := (HR.out.below HB.out (Nat.le_refl _)).here (by omega)
      have ht := HGT.out k hlt
      have hto := HOK.out k hlt
      have e0 := hcc k hlt 0 (by omega)
      have e1 := hcc k hlt 1 (by omega)
      have e2 := hcc k hlt 2 (by omega)
      have e3 := hcc k hlt 3 (by omega)
      have e4 := hcc k hlt 4 (by omega)
      clear hcc
      obtain ⟨t, htt⟩ : ∃ t, f.getD k tok0 = t := ⟨_, rfl⟩
      rw [htt] at ht hto e0 e1 e2 e3 e4
      have HT := Lib.hid ht
      have HTO := Lib.hid hto
      clear ht hto htt
      replace e0 : wr.cell? ⟨b, off + k * 5, none⟩ = some (.int .i64 t.kind) := e0
      replace e1 : wr.cell? ⟨b, off + k * 5 + 1, none⟩ = some (.string t.text) := e1
      replace e2 : wr.cell? ⟨b, off + k * 5 + 2, none⟩ = some (.int .i64 t.low) := e2
      replace e3 : wr.cell? ⟨b, off + k * 5 + 3, none⟩ = some (.int .i64 t.high) := e3
      replace e4 : wr.cell? ⟨b, off + k * 5 + 4, none⟩ = some (.int .i64 t.digits) := e4
      obtain ⟨V, hV, hvb, hvs, hvl⟩ := alloc_cells wr #[.int .i64 t.kind, .string t.text, .int .i64 t.low, .int .i64 t.high, .int .i64 t.digits] 45
      have M0 := Ext.ex (hvl 0 _ rfl)
      have M1 := Ext.ex (hvl 1 _ rfl)
      have M2 := Ext.ex (hvl 2 _ rfl)
      have M3 := Ext.ex (hvl 3 _ rfl)
      have M4 := Ext.ex (hvl 4 _ rfl)
      have HV := Lib.hid hV
      have HBV := Lib.hid (HB.out.trans (hvb.mono hsz))
      have HOV := Lib.hid (ownsRow_below HO.out hvb)
      have HSV := Lib.hid (show w.heap.size ≤ V.heap.size by omega)
      have DR := Lib.hid (fun (X : Ext V) => D.out t HTO.out q hq X.1 (X.down HBV.out HSV.out))
      have HNX := Lib.hid (fun h => HM.out.next HT.out h)
      have HFA := Lib.hid (fun h => HM.out.fail HT.out h)
      have hrl := Rd.runT_le (t := t) hq
      unfold tokV at DR
      clear hvl hV hvb hvs HO HM
      obtain ⟨p6, hp6⟩ : ∃ p6, wr.heap.size = p6 := ⟨_, rfl⟩
      rw [hp6] at M0 M1 M2 M3 M4
      have HP6 := Lib.hid hp6
      clear hp6
      go_upto_region 6 with fail
      rw [HV.out, HP6.out]
      refine ext_wp fun X => ?_
      have m0 := M0 X
      have m1 := M1 X
      have m2 := M2 X
      have m3 := M3 X
      have m4 := M4 X
      clear e0 e1 e2 e3 e4
      go_upto_region 7 with (go_at_call 50; refine (DR.out X).mono ?_; rintro e w2 ⟨v, rfl, hv, hb2⟩)
      obtain ⟨Y, rfl⟩ : ∃ Y : Ext V, w2 = Y.1 := ⟨⟨w2, below_step X.2 hb2⟩, rfl⟩
      have n0 := M0 Y
      have HV2 := Lib.hid hv
      clear hb2 m0 m1 m2 m3 m4 M0 M1 M2 M3 M4 hv HV
      obtain ⟨ret, hret⟩ : ∃ x, Rd.runT s t q = x := ⟨_, rfl⟩
      rw [hret] at HNX HFA hrl HV2 ⊢
      obtain ⟨q2, u, ok⟩ := ret
      simp only at HNX HFA hrl HV2 ⊢
      clear hret
      cases ok
      case false =>
        have HX := Lib.hid (HFA.out rfl)
        clear HNX HFA
        go_wp2_with fail
        go_ret3
        exact MatchRet.mk (.slice none 0 0) rfl HX.out (Y.down HBV.out HSV.out) (fun h => by cases h)
      case true =>
      obtain rfl := HV2.out rfl
      have HN := Lib.hid (HNX.out rfl)
      clear HNX HFA HV2
      have HBY := Lib.hid (Y.down HBV.out HSV.out)
      have HOY := Lib.hid (ownsRow_below HOV.out Y.2)
      have hys := HBY.out.size
      by_cases hkd : t.kind = 1
      case pos =>
        have k1 : ((t.kind : Int) != 1) = false := by simp; omega
        have k2 : ((t.kind : Int) == 1) = true := by simp; omega
        rw [if_pos hkd] at HN
        go_wp2_with fail
        go_roundw
        case rel => exact ⟨q2, k + 1, L, rfl, by go_num, by omega, hrl, by omega, HBY, HOY, HN⟩
        case measure => simp [intOf]; omega
      case neg =>
        have k1 : ((t.kind : Int) != 1) = true := by simp; omega
        have k2 : ((t.kind : Int) == 1) = false := by simp; omega
        rw [if_neg hkd] at HN
        have O2 := HOY.out
        go_wp2_with (first
          | (at_builtin; go_loud (
             refine wpList_append_own _ rfl _ _ 52 rfl w.heap.size 3 i0 (.int .i64 0) 1 8 Tryd.underlying52 hi0 hz0 hz1 hz2 rfl (by decide) u8 L.length (L.map (.int .i64)) rfl (O2.alloc _) ⟨Y.1.heap.size, 0, none⟩ 1 1 [.int .i64 v] rfl rfl (fun j u hj => by match j, hj with | 0, hj => (simp at hj; subst hj; simp [Addr.add])) (fun u hu => by simp at hu; subst hu; rfl) (by unfold maxLen; omega) (by omega) (by simp; omega) ?_
             intro v' w3 hown' hgrow _
             have HW3 := Lib.hid hown'
             have HG3 := Lib.hid hgrow
             clear hown' hgrow))
          | fail)
        go_roundw
        case rel => exact ⟨q2, k + 1, L ++ [v], rfl, by go_num, by omega, hrl, by simp; omega, Lib.hid ((HBY.out.alloc (by omega) _).grown HG3.out (by simp; omega) (fun b hb => by have := O2.lt b hb; omega)), Lib.hid (by simpa using HW3.out), HN⟩
        case measure => simp [intOf]; omega
/-- forms as they lie in memory -/
def FormsIn (w : World) (a : Option Addr) (l : List (List Tok)) : Prop :=
  ∀ j f, l[j]? = some f → ∃ b off aj cj, a = some ⟨b, off, none⟩ ∧ b < w.heap.size ∧ w.cell? ⟨b, off + j, none⟩ = some (.slice aj f.length cj) ∧ FormIn w aj f ∧ (∀ t, t ∈ f → TokOk t) ∧ f.length ≤ 1000
theorem FormsIn.below {w w' : World} {a : Option Addr} {l : List (List Tok)} (h : FormsIn w a l) (hb : Below w.heap.size w w') : FormsIn w' a l := by
  intro j f hf
  obtain ⟨b, off, aj, cj, h1, h2, h3, h4, h5, h6⟩ := h j f hf
  exact ⟨b, off, aj, cj, h1, Nat.lt_of_lt_of_le h2 hb.size, below_cell hb h3, RowK.below h4 hb (Nat.le_refl _), h5, h6⟩
/-- what first hands back -/
def FirstRet (s : ByteArray) (l : List (List Tok)) (w : World) (e : Ending) (w' : World) : Prop :=
  ∃ lv, e = .returned (.tuple #[.int .i64 (firstT s l 0 0).1, lv, .int .i64 ((firstT s l 0 0).2.2 : Nat)]) ∧ Below w.heap.size w w' ∧ (0 ≤ (firstT s l 0 0).1 → w'.ownsRow w.heap.size 3 1 lv (firstT s l 0 0).2.1.length ((firstT s l 0 0).2.1.map (.int .i64)))
theorem FirstRet.mk {s : ByteArray} {l : List (List Tok)} {w w' : World} {e : Ending} {n : Int} {far : Nat} {L : List Int} (lv : Value) (he : e = .returned (.tuple #[.int .i64 n, lv, .int .i64 (far : Nat)])) (h : firstT s l 0 0 = (n, L, far)) (hb : Below w.heap.size w w') (ho : 0 ≤ n → w'.ownsRow w.heap.size 3 1 lv L.length (L.map (.int .i64))) : FirstRet s l w e w' := by
  refine ⟨lv, ?_, hb, ?_⟩
  · rw [h]; exact he
  · rw [h]; exact ho
set_option maxHeartbeats 4000000 in
set_option maxRecDepth 100000 in
theorem first_any (s : ByteArray) (l : List (List Tok)) (a : Option Addr) (c : Nat) (w : World) (hs : s.size ≤ 1000000) (hr : FormsIn w a l) (hl : l.length ≤ 1000) (hg : Glo w) :
    Calls Tryd.prog 22 #[.string s, .slice a l.length c] w fun e w' => FirstRet s l w e w' := by
  have HR := Lib.hid hr
  have D := Lib.hid (fun (f : List Tok) (hfo : ∀ t, t ∈ f → TokOk t) (hfl : f.length ≤ 1000) (a : Option Addr) (c : Nat) (W : World) (hW : Below w.heap.size w W) (hf : FormIn W a f) => match_any s f a c W hs hf hfo hfl (hg.below hW))
  have HGT := Lib.hid (fun (k : Nat) (hk : k < l.length) => (show l[k]? = some (l[k]) from List.getElem?_eq_getElem hk))
  clear hg hr
  go_enter Tryd.func22, Tryd.ntmps22
  go_wp2_with fail
  go_loopw [7, 15] (fun fv iv wr => ∃ (far k : Nat), fv = .int .i64 far ∧ iv = .int .i64 k ∧ k ≤ l.length ∧ far ≤ s.size ∧ Hid (Below w.heap.size w wr) ∧ Hid (FirstAt s l k far)) (fun _ iv _ => l.length - (intOf iv).toNat)
  case atStart => exact ⟨0, 0, rfl, rfl, by omega, by omega, Lib.hid (Below.refl _ _), Lib.hid (FirstAt.start s l)⟩
  case round =>
    obtain ⟨far, k, rfl, rfl, hk, hfar, HB, HF⟩ := hrel
    by_cases hlt : k < l.length
    case neg =>
      have t1 : decide ((k : Int) < (l.length : Int)) = false := by rw [lt_b]; simpa using hlt
      have t1' : decide (k < l.length) = false := by simpa using hlt
      have HX := Lib.hid (HF.out.done (by omega))
      clear HF
      go_wp2_with fail
      go_ret3
      exact FirstRet.mk (.slice none 0 0) rfl HX.out HB.out (fun h => absurd h (by omega))
    case pos =>
      have t1 : decide ((k : Int) < (l.length : Int)) = true := by rw [lt_b]; simpa using hlt
      have t1' : decide (k < l.length) = true := by simpa using hlt
      have hsz := HB.out.size
      have ht := HGT.out k hlt
      obtain ⟨f, hff⟩ : ∃ f, l[k] = f := ⟨_, rfl⟩
      rw [hff] at ht
      obtain ⟨b, off, aj, cj, rfl, hbl, hc, hin, hto, hfl⟩ := (HR.out.below HB.out) k f ht
      have HT := Lib.hid ht
      have DM := Lib.hid (D.out f hto hfl aj cj wr HB.out hin)
      have hml := Rd.matchT_le (s := s) f 0 (Nat.zero_le _)
      clear ht hto hin hff
      obtain ⟨m, hm⟩ : ∃ x, matchT s f 0 = x := ⟨_, rfl⟩
      have HNX := Lib.hid (fun h => HF.out.next HT.out h)
      have HHI := Lib.hid (fun h => HF.out.hit HT.out h)
      unfold MatchRet at DM
      rw [hm] at DM HNX HHI hml
      obtain ⟨q2, L, ok⟩ := m
      simp only at DM HNX HHI hml
      clear hm HF
      go_upto_region 6 with (go_at_call 27; refine DM.out.mono ?_; rintro e w2 ⟨lv, rfl, hb2, hown⟩)
      have HB2 := Lib.hid (HB.out.trans (hb2.mono hsz))
      cases ok
      case true =>
        have HX := Lib.hid (HHI.out rfl)
        have HO := Lib.hid ((hown rfl).mono hsz)
        clear HNX HHI hown hb2
        go_wp2_with fail
        go_ret3
        exact FirstRet.mk lv rfl HX.out HB2.out (fun _ => HO.out)
      case false =>
        have HN := Lib.hid (HNX.out rfl)
        clear HNX HHI hown hb2
        go_wp2_with fail
        go_roundw
        case rel => exact ⟨max far q2, k + 1, by go_num, by go_num, by omega, by omega, HB2, HN⟩
        case measure => simp [intOf]; omega
end Go.Proofs.YthimnjegacdhaaaDoor

/- What the values of a form are at most; the letters of a form (plain). -/
namespace Rd
/-- values of tokens that are no fractions -/
theorem runT_val {s : ByteArray} {t : Tok} {p : Nat} {M : Int} (hk : t.kind = 2 ∨ t.kind = 3) (h0 : 0 ≤ t.high) (hM : t.high ≤ M) : 0 ≤ (runT s t p).2.1 ∧ (runT s t p).2.1 ≤ M := by
  unfold runT
  rcases hk with hk | hk
  · rw [if_neg (by omega), if_neg (by omega), if_pos hk]
    have := numAt_val s t.digits t.low t.high true p h0
    exact ⟨this.1, Int.le_trans this.2 hM⟩
  · rw [if_neg (by omega), if_pos hk]
    have := pairAt_val s (most := t.high) p true h0
    exact ⟨this.1, Int.le_trans this.2 hM⟩
def Small (M : Int) (t : Tok) : Prop := t.kind = 1 ∨ ((t.kind = 2 ∨ t.kind = 3) ∧ 0 ≤ t.high ∧ t.high ≤ M)
theorem matchT_vals {s : ByteArray} {M : Int} : ∀ (f : List Tok) (p : Nat), (∀ t, t ∈ f → Small M t) → ∀ v, v ∈ (matchT s f p).2.1 → 0 ≤ v ∧ v ≤ M
  | [], p, _, v, hv => by simp [matchT] at hv
  | t :: f, p, h, v, hv => by
    have ih := matchT_vals (s := s) f (runT s t p).1 (fun t ht => h t (List.mem_cons_of_mem _ ht)) v
    rw [matchT] at hv
    split at hv
    · by_cases hk : t.kind = 1
      · simp only [if_pos hk] at hv
        exact ih hv
      · simp only [if_neg hk] at hv
        rcases List.mem_cons.1 hv with rfl | hv
        · rcases h t (List.mem_cons_self ..) with h1 | ⟨h1, h2, h3⟩
          · exact absurd h1 hk
          · exact runT_val h1 h2 h3
        · exact ih hv
    · simp at hv
def nVals : List Tok → Nat
  | [] => 0
  | t :: f => (if t.kind = 1 then 0 else 1) + nVals f
theorem matchT_len {s : ByteArray} : ∀ (f : List Tok) (p : Nat), (matchT s f p).2.2 = true → (matchT s f p).2.1.length = nVals f
  | [], p, _ => rfl
  | t :: f, p, h => by
    rw [matchT] at h ⊢
    by_cases hr : (runT s t p).2.2 = true
    · rw [if_pos hr] at h ⊢
      have ih := matchT_len (s := s) f (runT s t p).1 h
      unfold nVals
      by_cases hk : t.kind = 1
      · simp only [if_pos hk]
        rw [ih]; omega
      · simp only [if_neg hk, List.length_cons]
        rw [ih]; omega
    · rw [if_neg hr] at h
      cases h
theorem firstT_len {s : ByteArray} (l : List (List Tok)) (h : 0 ≤ (firstT s l 0 0).1) : ∃ (k : Nat) (f : List Tok), l[k]? = some f ∧ (firstT s l 0 0).1 = (k : Int) ∧ (matchT s f 0).2.2 = true ∧ (firstT s l 0 0).2.1 = (matchT s f 0).2.1 := by
  by_cases hex : ∃ f, f ∈ l ∧ (matchT s f 0).2.2 = true
  · obtain ⟨k, f, h1, h2, _, h4⟩ := firstT_some l 0 0 hex
    rw [h4]
    exact ⟨k, f, h1, by simp, h2, rfl⟩
  · rw [firstT_none l 0 0 (fun f hf => by
      cases hm : (matchT s f 0).2.2 with
      | false => rfl
      | true => exact absurd ⟨f, hf, hm⟩ hex)] at h
    exact absurd h (by show ¬ (0 : Int) ≤ -1; omega)
/-! ### the forms of durations -/
theorem dot_step : ∀ (k : Nat) (L us : List Int), k < L.length → k < us.length → dotU (L.take (k + 1)) (us.take (k + 1)) = dotU (L.take k) (us.take k) + L.getD k 0 * us.getD k 0
  | _, [], _, h, _ => by simp at h
  | _, _ :: _, [], _, h => by simp at h
  | 0, v :: L, u :: us, _, _ => by simp [dotU]
  | k + 1, v :: L, u :: us, h1, h2 => by
    have := dot_step k L us (by simpa using h1) (by simpa using h2)
    rw [List.take_succ_cons, List.take_succ_cons, dotU, this, List.take_succ_cons, List.take_succ_cons, dotU]
    simp only [List.getD_cons_succ]
    omega
theorem dot_small {M : Int} : ∀ (k : Nat) (L us : List Int), (∀ v, v ∈ L → 0 ≤ v ∧ v ≤ M) → (∀ u, u ∈ us → 0 ≤ u ∧ u ≤ 3600) → 0 ≤ M → 0 ≤ dotU (L.take k) (us.take k) ∧ dotU (L.take k) (us.take k) ≤ k * (M * 3600)
  | 0, L, us, _, _, _ => by simp [dotU]
  | k + 1, [], us, _, _, hM => by
    rw [List.take_nil, show dotU [] (List.take (k + 1) us) = 0 from rfl]
    exact ⟨Int.le_refl _, Int.mul_nonneg (by omega) (by omega)⟩
  | k + 1, v :: L, [], _, _, hM => by
    rw [List.take_nil, show dotU (List.take (k + 1) (v :: L)) [] = 0 from rfl]
    exact ⟨Int.le_refl _, Int.mul_nonneg (by omega) (by omega)⟩
  | k + 1, v :: L, u :: us, h1, h2, hM => by
    have ih := dot_small k L us (fun v hv => h1 v (List.mem_cons_of_mem _ hv)) (fun u hu => h2 u (List.mem_cons_of_mem _ hu)) hM
    have hv := h1 v (List.mem_cons_self ..)
    have hu := h2 u (List.mem_cons_self ..)
    rw [List.take_succ_cons, List.take_succ_cons, dotU]
    have a1 : 0 ≤ v * u := Int.mul_nonneg hv.1 hu.1
    have a2 : v * u ≤ M * 3600 := Int.le_trans (Int.mul_le_mul_of_nonneg_right hv.2 hu.1) (Int.mul_le_mul_of_nonneg_left hu.2 hM)
    refine ⟨by omega, ?_⟩
    rw [show ((k + 1 : Nat) : Int) * (M * 3600) = (k : Int) * (M * 3600) + M * 3600 by rw [Int.natCast_add, Int.add_mul]; simp]
    omega
def letL (i : Nat) : Nat := [104, 109, 115].getD i 0
def bitOn (k i : Nat) : Bool := k / 2 ^ i % 2 == 1
/-- the letters of form k below i -/
def sel (k : Nat) : Nat → List Nat
  | 0 => []
  | i + 1 => if bitOn k i = true then sel k i ++ [letL i] else sel k i
theorem lform_snoc (c : Nat) : ∀ S : List Nat, lform (S ++ [c]) = lform S ++ [numT 0 9999999 7, litT (byteT c)]
  | [] => rfl
  | d :: S => by
    show _ :: _ :: lform (S ++ [c]) = _ :: _ :: (lform S ++ _)
    rw [lform_snoc c S]
theorem sel_dur {k : Nat} (h1 : 1 ≤ k) (h7 : k ≤ 7) : durT[k + 1]? = some (lform (sel k 3)) ∧ durU[k + 1]? = some ((sel k 3).map unitL) ∧ sel k 3 ≠ [] := by
  rcases (show k = 1 ∨ k = 2 ∨ k = 3 ∨ k = 4 ∨ k = 5 ∨ k = 6 ∨ k = 7 by omega) with rfl | rfl | rfl | rfl | rfl | rfl | rfl
  all_goals exact ⟨rfl, rfl, by decide⟩
theorem sel_len (k : Nat) : ∀ i, (sel k i).length ≤ i
  | 0 => Nat.le_refl _
  | i + 1 => by
    have := sel_len k i
    unfold sel
    split
    · simp; omega
    · omega
theorem lform_len : ∀ S : List Nat, (lform S).length = 2 * S.length
  | [] => rfl
  | c :: S => by
    show (lform S).length + 1 + 1 = _
    rw [lform_len S]
    simp only [List.length_cons]; omega
theorem lform_ok : ∀ S : List Nat, ∀ t, t ∈ lform S → TokOk t ∧ Small 9999999 t
  | [], t, h => by cases h
  | c :: S, t, h => by
    rcases List.mem_cons.1 h with rfl | h
    · exact ⟨Or.inr (Or.inl ⟨rfl, Or.inl rfl, by decide, by decide, by decide⟩), Or.inr ⟨Or.inl rfl, by decide, by decide⟩⟩
    · rcases List.mem_cons.1 h with rfl | h
      · exact ⟨Or.inl ⟨rfl, by show 1 ≤ 100; decide⟩, Or.inl rfl⟩
      · exact lform_ok S t h
theorem num_ok {lo hi : Int} {d : Nat} (h0 : lo = 0 ∨ lo = 1) (h1 : 0 ≤ hi) (h2 : hi ≤ 9999999) (h3 : d ≤ 13) : TokOk (numT lo hi d) ∧ Small 9999999 (numT lo hi d) := ⟨Or.inr (Or.inl ⟨rfl, h0, h1, by show hi ≤ _; omega, h3⟩), Or.inr ⟨Or.inl rfl, h1, h2⟩⟩
theorem pair_ok {hi : Int} (h1 : 0 ≤ hi) (h2 : hi ≤ 99) : TokOk (pairT hi) ∧ Small 9999999 (pairT hi) := ⟨Or.inr (Or.inr (Or.inl ⟨rfl, h1, h2⟩)), Or.inr ⟨Or.inr rfl, h1, by show hi ≤ _; omega⟩⟩
theorem colon_ok : TokOk (litT colon) ∧ Small 9999999 (litT colon) := ⟨Or.inl ⟨rfl, by decide⟩, Or.inl rfl⟩
theorem dur_ok {f : List Tok} (hf : f ∈ durT) : (∀ t, t ∈ f → TokOk t ∧ Small 9999999 t) ∧ f.length ≤ 6 := by
  simp only [durT, List.mem_cons, List.not_mem_nil, or_false] at hf
  rcases hf with rfl | rfl | h
  · refine ⟨fun t ht => ?_, by decide⟩
    simp only [shortT, List.mem_cons, List.not_mem_nil, or_false] at ht
    rcases ht with rfl | rfl | rfl
    · exact num_ok (Or.inl rfl) (by decide) (by decide) (by decide)
    · exact colon_ok
    · exact pair_ok (by decide) (by decide)
  · refine ⟨fun t ht => ?_, by decide⟩
    simp only [longT, List.mem_cons, List.not_mem_nil, or_false] at ht
    rcases ht with rfl | rfl | rfl | rfl | rfl
    · exact num_ok (Or.inr rfl) (by decide) (by decide) (by decide)
    · exact colon_ok
    · exact pair_ok (by decide) (by decide)
    · exact colon_ok
    · exact pair_ok (by decide) (by decide)
  · have : ∃ S : List Nat, f = lform S ∧ S.length ≤ 3 := by
      rcases h with rfl | rfl | rfl | rfl | rfl | rfl | rfl
      · exact ⟨_, rfl, by decide⟩
      · exact ⟨_, rfl, by decide⟩
      · exact ⟨_, rfl, by decide⟩
      · exact ⟨_, rfl, by decide⟩
      · exact ⟨_, rfl, by decide⟩
      · exact ⟨_, rfl, by decide⟩
      · exact ⟨_, rfl, by decide⟩
    obtain ⟨S, rfl, hS⟩ := this
    exact ⟨lform_ok S, by rw [lform_len]; omega⟩
/-- what a duration's values are like -/
theorem dur_vals {s : ByteArray} (h : 0 ≤ (firstT s durT 0 0).1) : ∃ k : Nat, (firstT s durT 0 0).1 = (k : Int) ∧ k < 9 ∧ (firstT s durT 0 0).2.1.length = (durU.getD k []).length ∧ (∀ v, v ∈ (firstT s durT 0 0).2.1 → 0 ≤ v ∧ v ≤ 9999999) := by
  obtain ⟨k, f, h1, h2, h3, h4⟩ := firstT_len durT h
  have hk : k < 9 := (List.getElem?_eq_some_iff.1 h1).1
  refine ⟨k, h2, hk, ?_, ?_⟩
  · rw [h4, matchT_len f 0 h3]
    have : durT[k]? = some f := h1
    rcases (show k = 0 ∨ k = 1 ∨ k = 2 ∨ k = 3 ∨ k = 4 ∨ k = 5 ∨ k = 6 ∨ k = 7 ∨ k = 8 by omega) with rfl | rfl | rfl | rfl | rfl | rfl | rfl | rfl | rfl
    all_goals
      injection h1 with h1
      subst h1
      rfl
  · rw [h4]
    exact matchT_vals f 0 (fun t ht => ((dur_ok (List.mem_of_getElem? h1)).1 t ht).2)
theorem durU_small {k : Nat} (hk : k < 9) : (∀ u, u ∈ durU.getD k [] → 0 ≤ u ∧ u ≤ 3600) ∧ (durU.getD k []).length ≤ 3 ∧ 0 < (durU.getD k []).length := by
  rcases (show k = 0 ∨ k = 1 ∨ k = 2 ∨ k = 3 ∨ k = 4 ∨ k = 5 ∨ k = 6 ∨ k = 7 ∨ k = 8 by omega) with rfl | rfl | rfl | rfl | rfl | rfl | rfl | rfl | rfl
  all_goals exact ⟨by decide, by decide, by decide⟩
end Rd

/- ReadDuration of the reference. -/
namespace Go.Proofs.YthimnjegacdhaaaDoor
open Go.RowKit Go.BigFrame
open Rd (sB bt itoaB Tok TokOk matchT firstT tok0 durT durU refDur dotU shortT longT lform litT numT pairT byteT unitL sel letL bitOn)

theorem lt_of_block {w : World} {b : Nat} {o : Obj} (h : w.heap[b]? = some o) : b < w.heap.size := (Array.getElem?_eq_some_iff.1 h).1
theorem block_cell {w : World} {b i : Nat} {cs : Array Value} {T : TypeId} {v : Value} (h : w.heap[b]? = some (.cells cs T (0, 0))) (hv : cs[i]? = some v) : w.cell? ⟨b, i, none⟩ = some v := by simp [World.cell?, h, hv]
theorem alloc_block (w : World) (cs : Array Value) (T : TypeId) : ∃ W, w.alloc (.cells cs T) = W ∧ Below w.heap.size w W ∧ W.heap.size = w.heap.size + 1 ∧ W.heap[w.heap.size]? = some (.cells cs T (0, 0)) :=
  ⟨_, rfl, below_al _ _, by simp, heap_alloc_new w _⟩
theorem below_block {w w' : World} {b : Nat} {o : Obj} (hb : Below w.heap.size w w') (h : w.heap[b]? = some o) : w'.heap[b]? = some o := (hb.block b (lt_of_block h)).trans h
theorem addr_add0 (b j : Nat) : (⟨b, 0, none⟩ : Addr).add j = ⟨b, j, none⟩ := by
  unfold Addr.add
  split <;> simp_all
theorem flatN {β : Type} {f : β → List Value} {m : Nat} (d : β) (hf : ∀ q, (f q).length = m) : ∀ (l : List β) (k j : Nat), k < l.length → j < m → (l.flatMap f)[k * m + j]? = (f (l.getD k d))[j]?
  | [], k, j, h, _ => by simp at h
  | q :: l, 0, j, _, hj => by
    rw [List.flatMap_cons, Nat.zero_mul, Nat.zero_add, List.getElem?_append_left (by rw [hf]; exact hj)]
    rfl
  | q :: l, k + 1, j, h, hj => by
    rw [List.flatMap_cons, List.getElem?_append_right (by rw [hf, Nat.succ_mul]; omega), hf, show (k + 1) * m + j - m = k * m + j by rw [Nat.succ_mul]; omega]
    exact flatN d hf l k j (by simpa using h) hj
/-- a form in a block of its own -/
def FormBlk (w : World) (v : Value) (f : List Tok) : Prop := ∃ (b c : Nat) (cs : Array Value), v = .slice (some ⟨b, 0, none⟩) f.length c ∧ w.heap[b]? = some (.cells cs 45 (0, 0)) ∧ ∀ i j, i < f.length → j < 5 → cs[i * 5 + j]? = (tokCells (f.getD i tok0))[j]?
def UnitBlk (w : World) (v : Value) (us : List Int) : Prop := ∃ (b c : Nat) (cs : Array Value), v = .slice (some ⟨b, 0, none⟩) us.length c ∧ w.heap[b]? = some (.cells cs 3 (0, 0)) ∧ ∀ i, i < us.length → cs[i]? = some (.int .i64 (us.getD i 0))
/-- what lies in blocks of other types than e is as it was -/
def Still (e : TypeId) (w w' : World) : Prop := ∀ (b : Nat) (cs : Array Value) (T : TypeId) (fr : Nat × Nat), T ≠ e → w.heap[b]? = some (Obj.cells cs T fr) → w'.heap[b]? = some (Obj.cells cs T fr)
theorem Still.of_below {e : TypeId} {w w' : World} (h : Below w.heap.size w w') : Still e w w' := fun _ _ _ _ _ hb => below_block h hb
theorem Still.of_grown {e : TypeId} {w w' : World} {base size n : Nat} {v : Value} {xs : List Value} (ho : w.ownsRow base e size v n xs) (hg : w.grownBy w' v.ownBlock) : Still e w w' := fun b cs T fr hT hb => by
  have hk : Kept (fun k => v.ownBlock = some k) w w' := Kept.of_grown hg (fun g hg _ => hg)
  refine (hk.block b (lt_of_block hb) (fun hv => ?_)).trans hb
  obtain ⟨c, fz, hc⟩ := Lib.ownsRow_kind ho b hv
  rw [hb] at hc
  injection hc with hc
  injection hc with _ h2 _
  exact hT h2
theorem Still.trans {e : TypeId} {a b c : World} (h : Still e a b) (k : Still e b c) : Still e a c := fun x cs T fr hT hb => k x cs T fr hT (h x cs T fr hT hb)
theorem FormBlk.still {e : TypeId} {w w' : World} {v : Value} {f : List Tok} (h : FormBlk w v f) (hs : Still e w w') (he : 45 ≠ e) : FormBlk w' v f := by
  obtain ⟨b, c, cs, h1, h2, h3⟩ := h
  exact ⟨b, c, cs, h1, hs _ _ _ _ he h2, h3⟩
theorem UnitBlk.still {e : TypeId} {w w' : World} {v : Value} {us : List Int} (h : UnitBlk w v us) (hs : Still e w w') (he : 3 ≠ e) : UnitBlk w' v us := by
  obtain ⟨b, c, cs, h1, h2, h3⟩ := h
  exact ⟨b, c, cs, h1, hs _ _ _ _ he h2, h3⟩
theorem FormBlk.below {w w' : World} {v : Value} {f : List Tok} (h : FormBlk w v f) (hb : Below w.heap.size w w') : FormBlk w' v f := by
  obtain ⟨b, c, cs, h1, h2, h3⟩ := h
  exact ⟨b, c, cs, h1, below_block hb h2, h3⟩
theorem UnitBlk.below {w w' : World} {v : Value} {us : List Int} (h : UnitBlk w v us) (hb : Below w.heap.size w w') : UnitBlk w' v us := by
  obtain ⟨b, c, cs, h1, h2, h3⟩ := h
  exact ⟨b, c, cs, h1, below_block hb h2, h3⟩
theorem FormBlk.form {w : World} {v : Value} {f : List Tok} (h : FormBlk w v f) : ∃ a c, v = .slice a f.length c ∧ FormIn w a f := by
  obtain ⟨b, c, cs, h1, h2, h3⟩ := h
  refine ⟨_, c, h1, ⟨fun hl => ⟨b, 0, rfl, lt_of_block h2, fun i hi j hj => ?_⟩⟩⟩
  rw [Nat.zero_add]
  have hv : ∃ v, (tokCells (f.getD i tok0))[j]? = some v := ⟨_, List.getElem?_eq_getElem (by show j < 5; omega)⟩
  obtain ⟨v, hv⟩ := hv
  show w.cell? _ = (tokCells (f.getD i tok0))[j]?
  rw [hv]
  exact block_cell h2 (by rw [h3 i j hi hj, hv])
/-- the forms and the units, as they lie in memory -/
structure Durs (base : Nat) (w : World) (k : Nat) (v6 v7 : Value) : Prop where
  f : ∃ vf : List Value, w.ownsRow base 47 1 v6 k vf ∧ ∀ j, j < k → ∃ v f, vf[j]? = some v ∧ durT[j]? = some f ∧ FormBlk w v f
  u : ∃ vu : List Value, w.ownsRow base 52 1 v7 k vu ∧ ∀ j, j < k → ∃ v us, vu[j]? = some v ∧ durU[j]? = some us ∧ UnitBlk w v us
theorem Durs.below {base k : Nat} {w w' : World} {v6 v7 : Value} (h : Durs base w k v6 v7) (hb : Below w.heap.size w w') : Durs base w' k v6 v7 := by
  obtain ⟨⟨vf, h1, h2⟩, ⟨vu, h3, h4⟩⟩ := h
  refine ⟨⟨vf, ownsRow_below h1 hb, fun j hj => ?_⟩, ⟨vu, ownsRow_below h3 hb, fun j hj => ?_⟩⟩
  · obtain ⟨v, f, a, b, c⟩ := h2 j hj
    exact ⟨v, f, a, b, c.below hb⟩
  · obtain ⟨v, f, a, b, c⟩ := h4 j hj
    exact ⟨v, f, a, b, c.below hb⟩
theorem own_open {w : World} {b e k n : Nat} {v : Value} {xs : List Value} (h : w.ownsRow b e k v n xs) (hn : 0 < n) : ∃ g c, v = .slice (some ⟨g, 0, none⟩) n c := by
  rcases h.2 with ⟨_, h0⟩ | ⟨g, cap, cur, e, _⟩
  · omega
  · exact ⟨g, cap, e⟩
theorem own_cur {w : World} {b e k n : Nat} {v : Value} {xs : List Value} (h : w.ownsRow b e k v n xs) (hn : 0 < n) : ∃ (g c : Nat) (cs : Array Value), v = .slice (some ⟨g, 0, none⟩) n c ∧ w.heap[g]? = some (.cells cs e (0, 0)) ∧ ∀ j, j < n * k → cs[j]? = xs[j]? := by
  rcases h.2 with ⟨_, h0⟩ | ⟨g, cap, cur, e, _, h3, _, _, _, h7⟩
  · omega
  · refine ⟨g, cap, cur, e, h3, fun j hj => ?_⟩
    rw [← h7, List.getElem?_take_of_lt hj]
    simp
theorem form_of_own {w : World} {b : Nat} {v : Value} {f : List Tok} (h : w.ownsRow b 45 5 v f.length (f.flatMap tokCells)) (hn : 0 < f.length) : FormBlk w v f := by
  obtain ⟨g, c, cs, h1, h2, h3⟩ := own_cur h hn
  refine ⟨g, c, cs, h1, h2, fun i j hi hj => ?_⟩
  rw [h3 (i * 5 + j) (by omega)]
  exact flatN (f := tokCells) (m := 5) tok0 (fun _ => rfl) f i j hi hj
theorem unit_of_own {w : World} {b : Nat} {v : Value} {us : List Int} (h : w.ownsRow b 3 1 v us.length (us.map (.int .i64))) (hn : 0 < us.length) : UnitBlk w v us := by
  obtain ⟨g, c, cs, h1, h2, h3⟩ := own_cur h hn
  refine ⟨g, c, cs, h1, h2, fun i hi => ?_⟩
  rw [h3 i (by omega)]
  simp [List.getD_eq_getElem?_getD, List.getElem?_eq_getElem hi]
theorem own_ne {w : World} {b b' e e' k k' n n' : Nat} {v v' : Value} {xs xs' : List Value} (h : w.ownsRow b e k v n xs) (h' : w.ownsRow b' e' k' v' n' xs') (hne : e ≠ e') : v'.ownBlock = none ∨ v'.ownBlock ≠ v.ownBlock := by
  cases hv : v'.ownBlock with
  | none => exact Or.inl rfl
  | some g =>
    refine Or.inr fun hx => ?_
    obtain ⟨c, fz, h1⟩ := Lib.ownsRow_kind h g hx.symm
    obtain ⟨c', fz', h2⟩ := Lib.ownsRow_kind h' g hv
    rw [h1] at h2
    injection h2 with h2
    injection h2 with _ h2 _
    exact hne h2
set_option maxHeartbeats 4000000 in
set_option maxRecDepth 100000 in
theorem rReadDuration_any (s : ByteArray) (w : World) (hg : Glo w) (hs : s.size ≤ 9223372036854775807) :
    Calls Tryd.prog 7 #[.string s] w fun e w' => e = .returned (.tuple #[.int .i64 (refDur s).1, .int .i64 (refDur s).2.1, .int .i64 (refDur s).2.2]) ∧ Below w.heap.size w w' := by
  by_cases hz : 1000 < s.size
  · have t1 : decide ((1000 : Int) < (s.size : Int)) = true := by rw [decide_eq_true_eq]; omega
    have t2 : decide (1000 < s.size) = true := by simpa using hz
    have HX := Lib.hid (show refDur s = (0, 0, 3) by unfold refDur; rw [if_pos hz])
    clear hz
    go_enter Tryd.func7, Tryd.ntmps7
    go_wp2_with fail
    go_ret3
    exact ⟨by rw [HX.out]; rfl, Below.refl _ _⟩
  have t1 : decide ((1000 : Int) < (s.size : Int)) = false := by rw [decide_eq_false_iff_not]; omega
  have t2 : decide (1000 < s.size) = false := by simpa using hz
  have DN : Hid (∀ W : World, Calls Tryd.prog 18 #[.int .i64 0, .int .i64 9999999, .int .i64 7] W fun e w' => e = .returned (.agg #[.int .i64 2, .string ⟨#[]⟩, .int .i64 0, .int .i64 9999999, .int .i64 7]) ∧ Below W.heap.size W w') := Lib.hid (fun W => num_any 0 9999999 7 W)
  have DA : Hid (∀ W : World, Calls Tryd.prog 18 #[.int .i64 0, .int .i64 59, .int .i64 2] W fun e w' => e = .returned (.agg #[.int .i64 2, .string ⟨#[]⟩, .int .i64 0, .int .i64 59, .int .i64 2]) ∧ Below W.heap.size W w') := Lib.hid (fun W => num_any 0 59 2 W)
  have DB : Hid (∀ W : World, Calls Tryd.prog 18 #[.int .i64 1, .int .i64 999, .int .i64 3] W fun e w' => e = .returned (.agg #[.int .i64 2, .string ⟨#[]⟩, .int .i64 1, .int .i64 999, .int .i64 3]) ∧ Below W.heap.size W w') := Lib.hid (fun W => num_any 1 999 3 W)
  have DL : Hid (∀ W : World, Calls Tryd.prog 20 #[.string ⟨#[58]⟩] W fun e w' => e = .returned (.agg #[.int .i64 1, .string ⟨#[58]⟩, .int .i64 0, .int .i64 0, .int .i64 0]) ∧ Below W.heap.size W w') := Lib.hid (fun W => lit_any ⟨#[58]⟩ W)
  have DP : Hid (∀ W : World, Calls Tryd.prog 21 #[.int .i64 59] W fun e w' => e = .returned (.agg #[.int .i64 3, .string ⟨#[]⟩, .int .i64 0, .int .i64 59, .int .i64 0]) ∧ Below W.heap.size W w') := Lib.hid (fun W => rpair_any 59 W)
  have DF := Lib.hid (fun (v : Value) (W : World) => form_any v W)
  have DI : Hid (∀ (tx : ByteArray) (W : World), Calls Tryd.prog 20 #[.string tx] W fun e w' => e = .returned (.agg #[.int .i64 1, .string tx, .int .i64 0, .int .i64 0, .int .i64 0]) ∧ Below W.heap.size W w') := Lib.hid (fun tx W => lit_any tx W)
  obtain ⟨i0, hi0, hz0, hz1, hz2⟩ := info_parts (show (Tryd.prog.info? 3).map (fun i => (i.zero, i.size, i.bytes)) = some (some (.int .i64 0), 1, 8) by kernel_rfl)
  obtain ⟨j0, hj0, hy0, hy1, hy2⟩ := info_parts (show (Tryd.prog.info? 45).map (fun i => (i.zero, i.size, i.bytes)) = some (some (.agg #[.int .i64 0, .string ⟨#[]⟩, .int .i64 0, .int .i64 0, .int .i64 0]), 5, 48) by kernel_rfl)
  obtain ⟨l0, hl0, hx0, hx1, hx2⟩ := info_parts (show (Tryd.prog.info? 47).map (fun i => (i.zero, i.size, i.bytes)) = some (some (.slice none 0 0), 1, 24) by kernel_rfl)
  obtain ⟨m0, hm0, hw0, hw1, hw2⟩ := info_parts (show (Tryd.prog.info? 52).map (fun i => (i.zero, i.size, i.bytes)) = some (some (.slice none 0 0), 1, 24) by kernel_rfl)
  have HI := Lib.hid (And.intro hi0 (And.intro hz0 (And.intro hz1 hz2)))
  have HJ := Lib.hid (And.intro hj0 (And.intro hy0 (And.intro hy1 hy2)))
  have HLs := Lib.hid (And.intro hl0 (And.intro hx0 (And.intro hx1 hx2)))
  have HMs := Lib.hid (And.intro hm0 (And.intro hw0 (And.intro hw1 hw2)))
  clear hi0 hz0 hz1 hz2 hj0 hy0 hy1 hy2 hl0 hx0 hx1 hx2 hm0 hw0 hw1 hw2
  go_enter Tryd.func7, Tryd.ntmps7
  go_wp2_with fail
  refine (DN.out _).mono ?_
  rintro e w1 ⟨rfl, hb1⟩
  go_upto_region 4 with fail
  obtain ⟨V, hV, hvb, hvs, hvq⟩ := alloc_block w1 #[.int .i64 2, .string ⟨#[]⟩, .int .i64 0, .int .i64 9999999, .int .i64 7] 45
  rw [hV]
  have HBV := Lib.hid (hb1.trans (hvb.mono hb1.size))
  have HVQ := Lib.hid hvq
  obtain ⟨p5, hp5⟩ : ∃ p, w1.heap.size = p := ⟨_, rfl⟩
  rw [hp5] at HVQ ⊢
  clear hb1 hV hvb hvs hvq hp5
  go_wp2_with fail
  refine (DA.out _).mono ?_
  rintro e w2 ⟨rfl, hb2⟩
  go_wp2_with fail
  refine (DL.out _).mono ?_
  rintro e w3 ⟨rfl, hb3⟩
  go_wp2_with fail
  refine (DP.out _).mono ?_
  rintro e w4 ⟨rfl, hb4⟩
  go_wp2_with fail
  refine (DF.out _ _).mono ?_
  rintro e _ ⟨rfl, rfl⟩
  obtain ⟨V1, hV1, hv1b, hv1s, hv1q⟩ := alloc_block w4 #[.int .i64 2, .string ⟨#[]⟩, .int .i64 0, .int .i64 59, .int .i64 2, .int .i64 1, .string ⟨#[58]⟩, .int .i64 0, .int .i64 0, .int .i64 0, .int .i64 3, .string ⟨#[]⟩, .int .i64 0, .int .i64 59, .int .i64 0] 45
  rw [hV1]
  obtain ⟨q1, hq1⟩ : ∃ p, w4.heap.size = p := ⟨_, rfl⟩
  rw [hq1] at hv1q ⊢
  have hb14 := below_step hb2 (below_step hb3 (below_step hb4 hv1b))
  have HBV1 := Lib.hid (HBV.out.trans (hb14.mono HBV.out.size))
  have HQ5 := Lib.hid (below_block hb14 HVQ.out)
  have HQ1 := Lib.hid hv1q
  clear hb2 hb3 hb4 hV1 hv1b hv1s hv1q hq1 hb14 HBV HVQ
  go_wp2_with fail
  refine (DB.out _).mono ?_
  rintro e w5 ⟨rfl, hb5⟩
  go_wp2_with fail
  refine (DL.out _).mono ?_
  rintro e w6 ⟨rfl, hb6⟩
  go_wp2_with fail
  refine (DP.out _).mono ?_
  rintro e w7 ⟨rfl, hb7⟩
  go_wp2_with fail
  refine (DL.out _).mono ?_
  rintro e w8 ⟨rfl, hb8⟩
  go_wp2_with fail
  refine (DP.out _).mono ?_
  rintro e w9 ⟨rfl, hb9⟩
  go_wp2_with fail
  refine (DF.out _ _).mono ?_
  rintro e _ ⟨rfl, rfl⟩
  obtain ⟨V2, hV2, hv2b, hv2s, hv2q⟩ := alloc_block w9 #[.int .i64 2, .string ⟨#[]⟩, .int .i64 1, .int .i64 999, .int .i64 3, .int .i64 1, .string ⟨#[58]⟩, .int .i64 0, .int .i64 0, .int .i64 0, .int .i64 3, .string ⟨#[]⟩, .int .i64 0, .int .i64 59, .int .i64 0, .int .i64 1, .string ⟨#[58]⟩, .int .i64 0, .int .i64 0, .int .i64 0, .int .i64 3, .string ⟨#[]⟩, .int .i64 0, .int .i64 59, .int .i64 0] 45
  rw [hV2]
  obtain ⟨q2, hq2⟩ : ∃ p, w9.heap.size = p := ⟨_, rfl⟩
  rw [hq2] at hv2q ⊢
  have hb59 := below_step hb5 (below_step hb6 (below_step hb7 (below_step hb8 (below_step hb9 hv2b))))
  have HBV2 := Lib.hid (HBV1.out.trans (hb59.mono HBV1.out.size))
  have HQ51 := Lib.hid (below_block hb59 HQ5.out)
  have HQ11 := Lib.hid (below_block hb59 HQ1.out)
  have HQ2 := Lib.hid hv2q
  clear hb5 hb6 hb7 hb8 hb9 hV2 hv2b hv2s hv2q hq2 hb59 HBV1 HQ5 HQ1 DA DB DP DF
  obtain ⟨V3, hV3, hv3b, hv3s, hv3q⟩ := alloc_block V2 #[.slice (some ⟨q1, 0, none⟩) 3 3, .slice (some ⟨q2, 0, none⟩) 5 5] 47
  obtain ⟨V4, hV4, hv4b, hv4s, hv4q⟩ := alloc_block V3 #[.int .i64 60, .int .i64 1] 3
  obtain ⟨V5, hV5, hv5b, hv5s, hv5q⟩ := alloc_block V4 #[.int .i64 3600, .int .i64 60, .int .i64 1] 3
  obtain ⟨V6, hV6, hv6b, hv6s, hv6q⟩ := alloc_block V5 #[.slice (some ⟨V3.heap.size, 0, none⟩) 2 2, .slice (some ⟨V4.heap.size, 0, none⟩) 3 3] 52
  have hb26 := below_step hv3b (below_step hv4b (below_step hv5b hv6b))
  have HB6 := Lib.hid (HBV2.out.trans (hb26.mono HBV2.out.size))
  have HQ5' := Lib.hid (below_block hb26 HQ51.out)
  have HQ1' := Lib.hid (below_block hb26 HQ11.out)
  have HQ2' := Lib.hid (below_block hb26 HQ2.out)
  have HQ3 := Lib.hid (below_block (below_step hv4b (below_step hv5b hv6b)) hv3q)
  have HQ4 := Lib.hid (below_block (below_step hv5b hv6b) hv4q)
  have HQ6 := Lib.hid (below_block hv6b hv5q)
  have HQ7 := Lib.hid hv6q
  have hsz3 := Lib.hid (show w.heap.size ≤ V2.heap.size from HBV2.out.size)
  have hsz6 := Lib.hid (show w.heap.size ≤ V5.heap.size from Nat.le_trans hsz3.out (by omega))
  clear hb26 hv3b hv4b hv5b hv6b hv3s hv4s hv5s hv6s hv3q hv4q hv5q hv6q HQ51 HQ11 HQ2 HBV2
  go_upto_region 6 with fail
  obtain ⟨p3, hp3⟩ : ∃ p, V2.heap.size = p := ⟨_, rfl⟩
  obtain ⟨p4, hp4⟩ : ∃ p, V3.heap.size = p := ⟨_, rfl⟩
  obtain ⟨p6, hp6⟩ : ∃ p, V4.heap.size = p := ⟨_, rfl⟩
  obtain ⟨p7, hp7⟩ : ∃ p, V5.heap.size = p := ⟨_, rfl⟩
  rw [hp4, hp6] at HQ7
  rw [hp3] at HQ3 hsz3
  rw [hp4] at HQ4
  rw [hp6] at HQ6
  rw [hp7] at HQ7 hsz6
  rw [hp3, hp7]
  have HD0 : Hid (Durs w.heap.size V6 2 (.slice (some ⟨p3, 0, none⟩) 2 2) (.slice (some ⟨p7, 0, none⟩) 2 2)) := Lib.hid (by
    refine ⟨⟨[.slice (some ⟨q1, 0, none⟩) 3 3, .slice (some ⟨q2, 0, none⟩) 5 5], ?_, fun j hj => ?_⟩, ⟨[.slice (some ⟨p4, 0, none⟩) 2 2, .slice (some ⟨p6, 0, none⟩) 3 3], ?_, fun j hj => ?_⟩⟩
    · exact ⟨rfl, .inr ⟨p3, 2, _, rfl, hsz3.out, HQ3.out, Nat.le_refl _, by unfold maxLen; omega, rfl, rfl⟩⟩
    · rcases (show j = 0 ∨ j = 1 by omega) with rfl | rfl
      · exact ⟨_, _, rfl, rfl, q1, 3, _, rfl, HQ1'.out, fun i j hi hj => by
          have hi : i < 3 := hi
          match i, hi, j, hj with
          | 0, _, 0, _ | 0, _, 1, _ | 0, _, 2, _ | 0, _, 3, _ | 0, _, 4, _ | 1, _, 0, _ | 1, _, 1, _ | 1, _, 2, _ | 1, _, 3, _ | 1, _, 4, _ | 2, _, 0, _ | 2, _, 1, _ | 2, _, 2, _ | 2, _, 3, _ | 2, _, 4, _ => rfl⟩
      · exact ⟨_, _, rfl, rfl, q2, 5, _, rfl, HQ2'.out, fun i j hi hj => by
          have hi : i < 5 := hi
          match i, hi, j, hj with
          | 0, _, 0, _ | 0, _, 1, _ | 0, _, 2, _ | 0, _, 3, _ | 0, _, 4, _ | 1, _, 0, _ | 1, _, 1, _ | 1, _, 2, _ | 1, _, 3, _ | 1, _, 4, _ | 2, _, 0, _ | 2, _, 1, _ | 2, _, 2, _ | 2, _, 3, _ | 2, _, 4, _ | 3, _, 0, _ | 3, _, 1, _ | 3, _, 2, _ | 3, _, 3, _ | 3, _, 4, _ | 4, _, 0, _ | 4, _, 1, _ | 4, _, 2, _ | 4, _, 3, _ | 4, _, 4, _ => rfl⟩
    · exact ⟨rfl, .inr ⟨p7, 2, _, rfl, hsz6.out, HQ7.out, Nat.le_refl _, by unfold maxLen; omega, rfl, rfl⟩⟩
    · rcases (show j = 0 ∨ j = 1 by omega) with rfl | rfl
      · exact ⟨_, _, rfl, rfl, p4, 2, _, rfl, HQ4.out, fun i hi => by
          have hi : i < 2 := hi
          match i, hi with
          | 0, _ | 1, _ => rfl⟩
      · exact ⟨_, _, rfl, rfl, p6, 3, _, rfl, HQ6.out, fun i hi => by
          have hi : i < 3 := hi
          match i, hi with
          | 0, _ | 1, _ | 2, _ => rfl⟩)
  clear hV3 hV4 hV5 hV6 hp3 hp4 hp6 hp7 HQ1' HQ2' HQ3 HQ4 HQ6 HQ7 hsz3 hsz6
  go_wp2_with fail
  go_loopw [6, 7, 8] (fun v6 v7 kv wr => ∃ (k : Nat), kv = .int .i64 k ∧ 1 ≤ k ∧ k ≤ 8 ∧ Hid (Below w.heap.size w wr) ∧ Hid (Durs w.heap.size wr (k + 1) v6 v7) ∧ Hid (wr.heap[p5]? = some (.cells #[.int .i64 2, .string ⟨#[]⟩, .int .i64 0, .int .i64 9999999, .int .i64 7] 45 (0, 0)))) (fun _ _ kv _ => 8 - (intOf kv).toNat)
  case atStart => exact ⟨1, rfl, by omega, by omega, HB6, HD0, HQ5'⟩
  case round =>
    obtain ⟨k, rfl, hk1, hk8, HB, HD, H5⟩ := hrel
    by_cases hk : k = 8
    case pos =>
      subst hk
      obtain ⟨⟨vf, hvf, hff⟩, ⟨vu, hvu, huu⟩⟩ := HD.out
      obtain ⟨g6, c6, rfl⟩ := own_open hvf (by omega)
      obtain ⟨g7, c7, rfl⟩ := own_open hvu (by omega)
      have hlf : vf.length = 9 := by have := hvf.1; omega
      have hFI : FormsIn wr (some ⟨g6, 0, none⟩) durT := fun j f hf => by
        have hj : j < 9 := (List.getElem?_eq_some_iff.1 hf).1
        obtain ⟨v, f', h1, h2, h3⟩ := hff j (by omega)
        rw [hf] at h2
        injection h2 with h2
        subst h2
        obtain ⟨aj, cj, rfl, h4⟩ := h3.form
        have hok := Rd.dur_ok (List.mem_of_getElem? hf)
        refine ⟨g6, 0, aj, cj, rfl, (hvf.lt g6 rfl).2, ?_, h4, fun t ht => (hok.1 t ht).1, by have := hok.2; omega⟩
        have := hvf.cells (g := g6) rfl j _ h1
        rw [addr_add0] at this
        rw [Nat.zero_add]
        exact this
      have D1 := Lib.hid (first_any s durT (some ⟨g6, 0, none⟩) c6 wr (by omega) hFI (by decide) (hg.below HB.out))
      have HVU := Lib.hid hvu
      have HUU := Lib.hid huu
      have hv := Rd.dur_vals (s := s)
      have hrd : refDur s = if (firstT s durT 0 0).1 < 0 then (0, (firstT s durT 0 0).2.2, 6) else if 3599999 < dotU (firstT s durT 0 0).2.1 (durU.getD (firstT s durT 0 0).1.toNat []) then (0, 0, 9) else (dotU (firstT s durT 0 0).2.1 (durU.getD (firstT s durT 0 0).1.toNat []), 0, 0) := by
        unfold refDur
        rw [if_neg hz]
      unfold FirstRet at D1
      obtain ⟨F, hF⟩ : ∃ F, firstT s durT 0 0 = F := ⟨_, rfl⟩
      rw [hF] at D1 hv hrd
      obtain ⟨n, L, far⟩ := F
      simp only at D1 hv hrd
      have HRD := Lib.hid hrd
      have HV := Lib.hid hv
      clear hvf hff hvu huu hlf hFI hF hv hrd hz HD
      go_upto_region 19 with (go_at_call 22; refine D1.out.mono ?_; rintro e w5 ⟨lv, rfl, hb5, hown⟩)
      have HB5 := Lib.hid (HB.out.trans (hb5.mono HB.out.size))
      by_cases hneg : n < 0
      case pos =>
        have n1 : decide (n < 0) = true := by simpa using hneg
        have HX := Lib.hid (HRD.out.trans (if_pos hneg))
        clear HRD HV hown hb5 hneg
        go_wp2_with fail
        go_ret3
        exact ⟨by rw [HX.out]; rfl, HB5.out⟩
      case neg =>
      have n1 : decide (n < 0) = false := by simpa using hneg
      obtain ⟨kk, rfl, hk9, hlen, hvals⟩ := HV.out (by omega)
      have HO := Lib.hid (hown (by omega))
      obtain ⟨v, us, hu1, hu2, hu3⟩ := HUU.out kk (by omega)
      obtain ⟨ub, uc, cs, rfl, hub, hcs⟩ := hu3
      have hus : durU.getD kk [] = us := by rw [List.getD_eq_getElem?_getD, hu2]; rfl
      have hsm := Rd.durU_small hk9
      have hr2 := HRD.out
      rw [if_neg hneg, Int.toNat_natCast] at hr2
      rw [hus] at hlen hsm hr2
      have HR2 := Lib.hid hr2
      have hc7 : wr.cell? ⟨g7, kk, none⟩ = some (.slice (some ⟨ub, 0, none⟩) us.length uc) := by
        have := HVU.out.cells (g := g7) rfl kk _ hu1
        rwa [addr_add0] at this
      have C7 := below_cell hb5 hc7
      have hub5 := Lib.hid (below_block hb5 hub)
      have HCS := Lib.hid hcs
      have HVL := Lib.hid hvals
      have HSM := Lib.hid hsm.1
      have h3 := hsm.2.1
      obtain ⟨g13, c13, rfl⟩ := own_open HO.out (by have := hsm.2.2; omega)
      clear HRD HV hown hb5 hneg hu1 hu2 hub hcs hus hsm hr2 hc7 hvals n1 HUU HVU D1
      have hkk : decide ((kk : Int) < 0) = false := by rw [decide_eq_false_iff_not]; omega
      go_upto_region 22 with fail
      go_wp2_with fail
      go_loopw [15, 86] (fun sv iv wr2 => ∃ (i : Nat), sv = .int .i64 (dotU (L.take i) (us.take i)) ∧ iv = .int .i64 i ∧ i ≤ L.length ∧ wr2 = w5) (fun _ iv _ => L.length - (intOf iv).toNat)
      case atStart => exact ⟨0, by simp [dotU], rfl, by omega, rfl⟩
      case round =>
        obtain ⟨i, rfl, rfl, hi, rfl⟩ := hrel
        have hds := Rd.dot_small i L us HVL.out HSM.out (by omega)
        by_cases hil : i < L.length
        case pos =>
          have i1 : decide ((i : Int) < (L.length : Int)) = true := by rw [lt_b]; simpa using hil
          have i2 : decide (i < L.length) = true := by simpa using hil
          have hLi : (L.map (Value.int .i64))[i]? = some (.int .i64 (L.getD i 0)) := by simp [List.getD_eq_getElem?_getD, List.getElem?_eq_getElem hil]
          have e13 : wr.cell? ⟨g13, i, none⟩ = some (.int .i64 (L.getD i 0)) := by
            have := HO.out.cells (g := g13) rfl i _ hLi
            rwa [addr_add0] at this
          have eu : wr.cell? ⟨ub, i, none⟩ = some (.int .i64 (us.getD i 0)) := block_cell hub5.out (HCS.out i (by omega))
          have hstep := Rd.dot_step i L us hil (by omega)
          have hv1 := HVL.out (L.getD i 0) (by rw [List.getD_eq_getElem?_getD, List.getElem?_eq_getElem hil]; exact List.getElem_mem hil)
          have hu1 := HSM.out (us.getD i 0) (by rw [List.getD_eq_getElem?_getD, List.getElem?_eq_getElem (by omega)]; exact List.getElem_mem _)
          have HST := Lib.hid hstep
          obtain ⟨vi, hvi⟩ : ∃ x, L.getD i 0 = x := ⟨_, rfl⟩
          obtain ⟨ui, hui⟩ : ∃ x, us.getD i 0 = x := ⟨_, rfl⟩
          rw [hvi] at e13 hv1 HST
          rw [hui] at eu hu1 HST
          obtain ⟨ds, hdd⟩ : ∃ x, dotU (L.take i) (us.take i) = x := ⟨_, rfl⟩
          rw [hdd] at HST hds ⊢
          have hp0 : 0 ≤ vi * ui := Int.mul_nonneg hv1.1 hu1.1
          have hp1 : vi * ui ≤ 9999999 * 3600 := Int.le_trans (Int.mul_le_mul_of_nonneg_right hv1.2 hu1.1) (Int.mul_le_mul_of_nonneg_left hu1.2 (by omega))
          have hi3 : (i : Int) * (9999999 * 3600) ≤ 3 * (9999999 * 3600) := by omega
          clear hLi hstep hvi hui hdd
          go_wp2_with fail
          go_roundw
          case rel => exact ⟨i + 1, by rw [HST.out], by go_num, by omega, by trivial⟩
          case measure => simp [intOf]; omega
        case neg =>
          have i1 : decide ((i : Int) < (L.length : Int)) = false := by rw [lt_b]; simpa using hil
          have i2 : decide (i < L.length) = false := by simpa using hil
          have e1 : L.take i = L := List.take_of_length_le (by omega)
          have e2 : us.take i = us := List.take_of_length_le (by omega)
          have hr2 := HR2.out
          rw [e1, e2] at hds ⊢
          obtain ⟨ds, hdd⟩ : ∃ x, dotU L us = x := ⟨_, rfl⟩
          rw [hdd] at hds hr2 ⊢
          by_cases hbig : 3599999 < ds
          · have b1 : decide (3599999 < ds) = true := by simpa using hbig
            rw [if_pos hbig] at hr2
            have HX := Lib.hid hr2
            clear hr2 hbig hds e1 e2 hdd
            go_wp2_with fail
            go_ret3
            exact ⟨by rw [HX.out]; rfl, HB5.out⟩
          · have b1 : decide (3599999 < ds) = false := by simpa using hbig
            rw [if_neg hbig] at hr2
            have HX := Lib.hid hr2
            clear hr2 hbig hds e1 e2 hdd
            go_wp2_with fail
            go_ret3
            exact ⟨by rw [HX.out]; rfl, HB5.out⟩
    case neg =>
      have hlt : k < 8 := by omega
      have k1 : decide ((k : Int) < 8) = true := by rw [decide_eq_true_eq]; omega
      have k2 : decide (k < 8) = true := by simpa using hlt
      have h5 := H5.out
      have C5 := Ext.ex (block_cell (i := 0) h5 rfl)
      have C51 := Ext.ex (block_cell (i := 1) h5 rfl)
      have C52 := Ext.ex (block_cell (i := 2) h5 rfl)
      have C53 := Ext.ex (block_cell (i := 3) h5 rfl)
      have C54 := Ext.ex (block_cell (i := 4) h5 rfl)
      clear h5
      go_upto_region 12 with fail
      go_loopw [9, 10, 11] (fun v9 v10 iv wr2 => ∃ (i : Nat) (X : Ext wr), iv = .int .i64 i ∧ i ≤ 3 ∧ wr2 = X.1 ∧ Hid (X.1.ownsRow wr.heap.size 45 5 v9 (lform (sel k i)).length ((lform (sel k i)).flatMap tokCells)) ∧ Hid (X.1.ownsRow wr.heap.size 3 1 v10 (sel k i).length ((sel k i).map fun c => .int .i64 (unitL c)))) (fun _ _ iv _ => 3 - (intOf iv).toNat)
      case atStart => exact ⟨0, ⟨wr, Below.refl _ _⟩, rfl, by omega, rfl, Lib.hid (World.ownsRow_nil _ _ _ _), Lib.hid (World.ownsRow_nil _ _ _ _)⟩
      case round =>
        obtain ⟨i, X, rfl, hi3, rfl, HO9, HO10⟩ := hrel
        by_cases hi : i = 3
        case pos =>
          subst hi
          obtain ⟨⟨vf, hvf, hff⟩, ⟨vu, hvu, huu⟩⟩ := HD.out.below X.2
          obtain ⟨hd1, hd2, hd3⟩ := Rd.sel_dur hk1 (by omega : k ≤ 7)
          have hps := List.length_pos_iff.2 hd3
          have hp9 : 0 < (lform (sel k 3)).length := by rw [Rd.lform_len]; omega
          have FB := Lib.hid (form_of_own HO9.out hp9)
          have UB : Hid (UnitBlk X.1 u10 ((sel k 3).map unitL)) := Lib.hid (unit_of_own (us := (sel k 3).map unitL) (by
            have := HO10.out
            rw [List.length_map, List.map_map]
            exact this) (by rw [List.length_map]; exact hps))
          obtain ⟨g9, c9, rfl⟩ := own_open HO9.out hp9
          obtain ⟨g10, c10, rfl⟩ := own_open HO10.out hps
          have HVF := Lib.hid hvf
          have HVU := Lib.hid hvu
          have HFF := Lib.hid hff
          have HUU := Lib.hid huu
          have HD1 := Lib.hid hd1
          have HD2 := Lib.hid hd2
          have H5X := Lib.hid (below_block X.2 H5.out)
          have HBX := Lib.hid (HB.out.trans (X.2.mono HB.out.size))
          have hbx := HBX.out.size
          obtain ⟨n9, hn9⟩ : ∃ n, (lform (sel k 3)).length = n := ⟨_, rfl⟩
          obtain ⟨n10, hn10⟩ : ∃ n, (sel k 3).length = n := ⟨_, rfl⟩
          rw [hn9] at FB
          rw [hn10] at UB
          clear hvf hvu hff huu hd1 hd2 hd3 hps hp9 HO9 HO10 HD
          obtain ⟨j1, j2, j3, j4⟩ := HLs.out
          obtain ⟨m1, m2, m3, m4⟩ := HMs.out
          have O6 := HVF.out
          obtain ⟨W, hW⟩ : ∃ W, X.1 = W := ⟨_, rfl⟩
          rw [hW] at O6 HVU H5X HBX hbx FB UB HFF HUU ⊢
          clear hW HVF
          go_upto_region 17 with fail
          rw [hn9, hn10]
          go_wp2_with (first
            | (at_builtin; go_loud (
               refine wpList_append_own _ rfl _ _ 51 rfl w.heap.size 47 l0 (.slice none 0 0) 1 24 Tryd.underlying51 j1 j2 j3 j4 rfl (by decide) u6 (k + 1) vf rfl (O6.alloc _) ⟨W.heap.size, 0, none⟩ 1 1 [.slice (some ⟨g9, 0, none⟩) n9 c9] rfl rfl (fun j u hj => by match j, hj with | 0, hj => (simp at hj; subst hj; simp [Addr.add])) (fun u hu => by simp at hu; subst hu; rfl) (by unfold maxLen; omega) (by omega) (by simp; omega) ?_
               intro v' w3 hown' hgrow _
               have HW3 := Lib.hid hown'
               have HG3 := Lib.hid hgrow
               have O7 := (HVU.out.alloc _).kept HG3.out (own_ne O6 HVU.out (by decide))
               have hs3 := HG3.out.size
               clear hown' hgrow))
            | (at_builtin; go_loud (
               refine wpList_append_own _ rfl _ _ 53 rfl w.heap.size 52 m0 (.slice none 0 0) 1 24 Tryd.underlying53 m1 m2 m3 m4 rfl (by decide) u7 (k + 1) vu rfl (O7.alloc _) ⟨w3.heap.size, 0, none⟩ 1 1 [.slice (some ⟨g10, 0, none⟩) n10 c10] rfl rfl (fun j u hj => by match j, hj with | 0, hj => (simp at hj; subst hj; simp [Addr.add])) (fun u hu => by simp at hu; subst hu; rfl) (by unfold maxLen; omega) (by omega) (by simp at hs3 ⊢; omega) ?_
               intro v'' w4 hown' hgrow _
               have HW4 := Lib.hid hown'
               have HG4 := Lib.hid hgrow
               clear hown' hgrow))
            | fail)
          go_roundw
          case rel =>
            have s1 : Still 47 W w3 := (Still.of_below (below_al W _)).trans (Still.of_grown (O6.alloc _) HG3.out)
            have s2 : Still 52 w3 w4 := (Still.of_below (below_al w3 _)).trans (Still.of_grown (O7.alloc _) HG4.out)
            have hlf : vf.length = k + 1 := by have := O6.1; omega
            have hlu : vu.length = k + 1 := by have := HVU.out.1; omega
            have hw3 : w.heap.size ≤ w3.heap.size := by have := hs3; simp at this; omega
            refine ⟨k + 1, by go_num, by omega, by omega, Lib.hid ?_, Lib.hid ⟨⟨vf ++ [.slice (some ⟨g9, 0, none⟩) n9 c9], (HW3.out.alloc _).kept HG4.out (own_ne O7 HW3.out (by decide)), fun j hj => ?_⟩, ⟨vu ++ [.slice (some ⟨g10, 0, none⟩) n10 c10], HW4.out, fun j hj => ?_⟩⟩, Lib.hid (s2 _ _ _ _ (by decide) (s1 _ _ _ _ (by decide) H5X.out))⟩
            · exact (((HBX.out.alloc hbx _).grown HG3.out (by simp; omega) (fun b hb => by have := O6.lt b hb; omega)).alloc hw3 _).grown HG4.out (by simp; omega) (fun b hb => by have := O7.lt b hb; omega)
            · by_cases hjk : j < k + 1
              · obtain ⟨v, f, h1, h2, h3⟩ := HFF.out j hjk
                exact ⟨v, f, by rw [List.getElem?_append_left (by omega)]; exact h1, h2, (h3.still s1 (by decide)).still s2 (by decide)⟩
              · obtain rfl : j = k + 1 := by omega
                exact ⟨_, _, by rw [List.getElem?_append_right (by omega), hlf, Nat.sub_self]; rfl, HD1.out, (FB.out.still s1 (by decide)).still s2 (by decide)⟩
            · by_cases hjk : j < k + 1
              · obtain ⟨v, f, h1, h2, h3⟩ := HUU.out j hjk
                exact ⟨v, f, by rw [List.getElem?_append_left (by omega)]; exact h1, h2, (h3.still s1 (by decide)).still s2 (by decide)⟩
              · obtain rfl : j = k + 1 := by omega
                exact ⟨_, _, by rw [List.getElem?_append_right (by omega), hlu, Nat.sub_self]; rfl, HD2.out, (UB.out.still s1 (by decide)).still s2 (by decide)⟩
          case measure => simp [intOf]; omega
        case neg =>
          have hilt : i < 3 := by omega
          have i1 : decide ((i : Int) < 3) = true := by rw [decide_eq_true_eq]; omega
          have i2 : decide (i < 3) = true := by simpa using hilt
          obtain ⟨bb, hbb⟩ : ∃ x, bitOn k i = x := ⟨_, rfl⟩
          have hbit : (bits BinOp.and IntKind.i64 ((k : Int) / 2 ^ i) 1 == 1) = bb := by
            rw [← hbb]
            rcases (show k = 1 ∨ k = 2 ∨ k = 3 ∨ k = 4 ∨ k = 5 ∨ k = 6 ∨ k = 7 by omega) with rfl | rfl | rfl | rfl | rfl | rfl | rfl <;> rcases (show i = 0 ∨ i = 1 ∨ i = 2 by omega) with rfl | rfl | rfl <;> decide +kernel
          have HS := Lib.hid (show sel k (i + 1) = if bb = true then sel k i ++ [letL i] else sel k i from by rw [← hbb]; rfl)
          have hsl9 := Rd.sel_len k i
          have hfl9 : (lform (sel k i)).length ≤ 6 := by rw [Rd.lform_len]; omega
          clear hbb
          cases bb
          case false =>
            go_wp2_with fail
            go_roundw
            case rel =>
              have e : sel k (i + 1) = sel k i := by rw [HS.out]; exact if_neg (by simp)
              exact ⟨i + 1, X, by go_num, by omega, rfl, by rw [e]; exact HO9, by rw [e]; exact HO10⟩
            case measure => simp [intOf]; omega
          case true =>
            have e := HS.out
            rw [if_pos rfl] at e
            have HE9 := Lib.hid e
            have hn5 : ¬ u9.ownBlock = some p5 := fun h => by
              have h1 := (HO9.out.lt _ h).1
              have h2 := lt_of_block H5.out
              omega
            have S0 : ∀ Z : ExtO (fun b => u9.ownBlock = some b) X.1, Z.1.cell? ⟨p5, 0, none⟩ = some (.int .i64 2) := ExtO.ex hn5 (C5 X)
            have S1 : ∀ Z : ExtO (fun b => u9.ownBlock = some b) X.1, Z.1.cell? ⟨p5, 1, none⟩ = some (.string ⟨#[]⟩) := ExtO.ex hn5 (C51 X)
            have S2 : ∀ Z : ExtO (fun b => u9.ownBlock = some b) X.1, Z.1.cell? ⟨p5, 2, none⟩ = some (.int .i64 0) := ExtO.ex hn5 (C52 X)
            have S3 : ∀ Z : ExtO (fun b => u9.ownBlock = some b) X.1, Z.1.cell? ⟨p5, 3, none⟩ = some (.int .i64 9999999) := ExtO.ex hn5 (C53 X)
            have S4 : ∀ Z : ExtO (fun b => u9.ownBlock = some b) X.1, Z.1.cell? ⟨p5, 4, none⟩ = some (.int .i64 7) := ExtO.ex hn5 (C54 X)
            have hsl : ∀ W : World, (Instr.slice 9 (.string ⟨#[104, 109, 115]⟩) (some (.int .i64 (i : Int))) (some (.int .i64 ((i : Int) + 1))) none).run Tryd.prog W = .ok (.string (byteT (letL i))) W := fun W => by
              rw [run_slice_string W _ _ _ _ _ _ (by kernel_rfl) (by omega) (by omega) (by show (i : Int) + 1 ≤ 3; omega)]
              rcases (show i = 0 ∨ i = 1 ∨ i = 2 by omega) with rfl | rfl | rfl <;> rfl
            have hidx : ∀ W : World, (Instr.index 54 (.agg #[.int .i64 3600, .int .i64 60, .int .i64 1]) (.int .i64 (i : Int))).run Tryd.prog W = .ok (.int .i64 (unitL (letL i))) W := fun W => by
              rcases (show i = 0 ∨ i = 1 ∨ i = 2 by omega) with rfl | rfl | rfl <;> kernel_rfl
            obtain ⟨lt, hlt'⟩ : ∃ x, byteT (letL i) = x := ⟨_, rfl⟩
            obtain ⟨un, hun⟩ : ∃ x, unitL (letL i) = x := ⟨_, rfl⟩
            rw [hlt'] at hsl
            rw [hun] at hidx
            have HLT := Lib.hid hlt'
            have HUN := Lib.hid hun
            have DIi := Lib.hid (DI.out lt)
            clear hlt' hun C5 C51 C52 C53 C54 hn5 e
            go_upto_region 15 with fail
            refine held_start (C := fun w' => ∃ Z : ExtO (fun b => u9.ownBlock = some b) X.1, w' = Z.1) (by kernel_rfl) ?_
            obtain ⟨Y0, hY0, hy0⟩ : ∃ Z : ExtO (fun b => u9.ownBlock = some b) X.1, ({ X.1 with drawn := X.1.drawn + 1 } : World) = Z.1 ∧ Below X.1.heap.size X.1 Z.1 := ⟨⟨{ X.1 with drawn := X.1.drawn + 1 }, ⟨rfl, rfl, rfl, Nat.le_refl _, fun _ _ _ => rfl⟩⟩, rfl, ⟨rfl, rfl, rfl, Nat.le_refl _, fun _ _ => rfl⟩⟩
            rw [hY0]
            have HVY := Lib.hid hy0
            clear hY0 hy0
            refine held_quiet (by kernel_rfl) (fun _ _ d _ _ h => by cases d <;> exact h) ⟨Y0, rfl⟩ [0, 1, 2, 3, 4, 5] 4 _ _ (by kernel_rfl) ?_
            change wpQuiet _ _ _ _ (_ :: _ :: _ :: _ :: _ :: _ :: []) _
            repeat go_big_quiet_step (fail)
            refine wpQuiet_nil ?_
            refine held_do (i := 6) _ rfl (by kernel_rfl) rfl (fun K hK => ?_)
            go_simp
            refine (DIi.out Y0.1).mono ?_
            rintro e w3 ⟨rfl, hb3⟩
            obtain ⟨Z3, hZ3⟩ : ∃ Z : ExtO (fun b => u9.ownBlock = some b) X.1, w3 = Z.1 := ⟨⟨w3, Kept.of_below (below_step HVY.out hb3)⟩, rfl⟩
            have HV3 := Lib.hid (below_step HVY.out hb3)
            rw [hZ3] at HV3
            rw [hZ3]
            refine hK _ _ ⟨Z3, rfl⟩ ?_
            clear hK K hb3 hZ3
            refine held_do (i := 7) _ rfl (by kernel_rfl) rfl (fun K hK => ?_)
            go_simp
            obtain ⟨Wb, hWb, hwb1, hwb2, hwq⟩ := alloc_block Z3.1 #[.int .i64 2, .string ⟨#[]⟩, .int .i64 0, .int .i64 9999999, .int .i64 7, .int .i64 1, .string lt, .int .i64 0, .int .i64 0, .int .i64 0] 45
            rw [hWb]
            have hvz := below_step HV3.out hwb1
            obtain ⟨Zb, rfl⟩ : ∃ Z : ExtO (fun b => u9.ownBlock = some b) X.1, Wb = Z.1 := ⟨⟨Wb, Kept.of_below hvz⟩, rfl⟩
            have HVZ := Lib.hid hvz
            have HWQ := Lib.hid hwq
            refine hK _ _ ⟨Zb, rfl⟩ ?_
            clear hWb hwb1 hwb2 hwq hvz hK K
            refine held_do (i := 8) _ rfl (by kernel_rfl) rfl (fun K hK => ?_)
            have HO9b := Lib.hid (ownsRow_below HO9.out HVZ.out)
            have HO10b := Lib.hid (ownsRow_below HO10.out HVZ.out)
            have hxs : wr.heap.size ≤ Zb.1.heap.size := Nat.le_trans X.2.size HVZ.out.size
            obtain ⟨j1, j2, j3, j4⟩ := HJ.out
            refine wp_append_lies Zb.1 (.tmp 51) (.tmp 58) 47 rfl wr.heap.size 45 j0 (.agg #[.int .i64 0, .string ⟨#[]⟩, .int .i64 0, .int .i64 0, .int .i64 0]) 5 48 Tryd.underlying47 j1 j2 j3 j4 rfl (by decide) u9 (lform (sel k i)).length ((lform (sel k i)).flatMap tokCells) rfl HO9b.out ⟨Z3.1.heap.size, 0, none⟩ 2 2 [.int .i64 2, .string ⟨#[]⟩, .int .i64 0, .int .i64 9999999, .int .i64 7, .int .i64 1, .string lt, .int .i64 0, .int .i64 0, .int .i64 0] rfl rfl (fun j u hu => by rw [addr_add0]; exact block_cell HWQ.out (by simpa using hu)) (fun u hu => by simp only [List.mem_cons, List.not_mem_nil, or_false] at hu; rcases hu with rfl | rfl | rfl | rfl | rfl | rfl | rfl | rfl | rfl | rfl <;> rfl) (by omega) (by unfold maxLen; omega) (by omega) hxs _ rfl (fun g6 cap6 w6 hown6 hg6 hat6 hlt6 => ?_)
            have HO6 := Lib.hid hown6
            have HO10c := Lib.hid (HO10b.out.kept hg6 (own_ne HO9b.out HO10b.out (by decide)))
            obtain ⟨Z6, hZ6⟩ : ∃ Z : ExtO (fun b => u9.ownBlock = some b) X.1, w6 = Z.1 := ⟨⟨w6, Zb.2.grown hg6 (fun q hq _ => hq)⟩, rfl⟩
            rw [hZ6] at HO6 HO10c ⊢
            refine hK _ _ ⟨Z6, rfl⟩ ?_
            clear hg6 hat6 hlt6 hown6 hZ6 hK K w6 j1 j2 j3 j4
            simp only [Act.put, List.setIfInBounds_toArray, List.set_cons_zero, List.set_cons_succ]
            refine held_quiet (by kernel_rfl) (fun _ _ d _ _ h => by cases d <;> exact h) ⟨Z6, rfl⟩ [9] 0 _ _ (by kernel_rfl) ?_
            change wpQuiet _ _ _ _ (_ :: []) _
            go_big_quiet_step (fail)
            refine wpQuiet_nil ?_
            refine wpAnyH_done (by kernel_rfl) ?_ _
            have HBW6 : Hid (Below wr.heap.size wr Z6.1) := Lib.hid (Kept.below X.2 Z6.2 X.2.size (fun b hb e => by have := (HO9.out.lt b e).1; omega))
            obtain ⟨W6, hW6⟩ : ∃ W, Z6.1 = W := ⟨_, rfl⟩
            rw [hW6] at HO6 HO10c HBW6 ⊢
            clear hW6 Z6 S0 S1 S2 S3 S4 HVY HV3 HVZ HWQ HO9b HO10b
            have hw6 := HBW6.out.size
            obtain ⟨j1, j2, j3, j4⟩ := HI.out
            have O10 := HO10c.out
            go_wp2_with (first
              | (at_builtin; go_loud (
                 refine wpList_append_own _ rfl _ _ 52 rfl wr.heap.size 3 i0 (.int .i64 0) 1 8 Tryd.underlying52 j1 j2 j3 j4 rfl (by decide) u10 (sel k i).length ((sel k i).map fun c => .int .i64 (unitL c)) rfl (O10.alloc _) ⟨W6.heap.size, 0, none⟩ 1 1 [.int .i64 un] rfl rfl (fun j u hj => by match j, hj with | 0, hj => (simp at hj; subst hj; simp [Addr.add])) (fun u hu => by simp at hu; subst hu; rfl) (by unfold maxLen; omega) (by omega) (by simp; omega) ?_
                 intro v' w7 hown' hgrow _
                 have HW7 := Lib.hid hown'
                 have HG7 := Lib.hid hgrow
                 clear hown' hgrow))
              | fail)
            go_roundw
            case rel =>
              have e1 : lform (sel k (i + 1)) = lform (sel k i) ++ [numT 0 9999999 7, litT lt] := by rw [HE9.out, Rd.lform_snoc, HLT.out]
              refine ⟨i + 1, ⟨w7, (HBW6.out.alloc (by omega) _).grown HG7.out (by simp; omega) (fun b hb => by have := O10.lt b hb; omega)⟩, by go_num, by omega, rfl, Lib.hid ?_, Lib.hid ?_⟩
              · have h := (HO6.out.alloc _).kept HG7.out (own_ne O10 HO6.out (by decide))
                rw [e1, List.length_append, List.flatMap_append]
                exact h
              · have h := HW7.out
                rw [HE9.out, List.length_append, List.map_append]
                rw [← HUN.out] at h
                exact h
            case measure => simp [intOf]; omega
end Go.Proofs.YthimnjegacdhaaaDoor

/- DurationText of both. -/
namespace Go.Proofs.YthimnjegacdhaaaDoor
open Go.RowKit Go.BigFrame
open Rd (sB bt itoaB padB zeroB durText colon)

set_option maxRecDepth 1000000 in
theorem repeat_zero (s : ByteArray) (w : World) : Calls Tryd.prog 35 #[.string s, .int .i64 0] w fun e w' => e = .returned (.string ⟨#[]⟩) ∧ w = w' := by
  go_enter Tryd.func35, Tryd.ntmps35
  go_wp2
  go_ret
  exact ⟨rfl, rfl⟩
set_option maxRecDepth 1000000 in
theorem repeat_one (s : ByteArray) (w : World) : Calls Tryd.prog 35 #[.string s, .int .i64 1] w fun e w' => e = .returned (.string s) ∧ w = w' := by
  go_enter Tryd.func35, Tryd.ntmps35
  go_wp2
  go_ret
  exact ⟨rfl, rfl⟩
theorem two_any (n : Int) (h0 : 0 ≤ n) (h1 : n < 100) (w : World) (hg : Glo w) : Calls Tryd.prog 10 #[.int .i64 n] w fun e w' => e = .returned (.string (padB n)) ∧ Below w.heap.size w w' := by
  have DI := Lib.hid (itoa_any n (by omega) (by omega) w hg)
  have hl := Rd.itoa_len h0 h1
  have HP : Hid (padB n = if n < 10 then zeroB ++ itoaB n else itoaB n) := Lib.hid rfl
  have D : Calls Tryd.prog 25 #[.int .i64 n, .int .i64 2] w fun e w' => e = .returned (.string (padB n)) ∧ Below w.heap.size w w' := by
    generalize padB n = r at HP ⊢
    obtain ⟨t, ht⟩ : ∃ t, itoaB n = t := ⟨_, rfl⟩
    rw [ht] at DI hl HP
    clear ht
    by_cases hn : n < 10
    · rw [if_pos hn] at hl
      have hr := HP.out
      rw [if_pos hn] at hr
      have HR := Lib.hid hr
      have hl' : ((t.size : Nat) : Int) = 1 := by omega
      clear hn HP hr
      go_enter Tryd.func25, Tryd.ntmps25
      go_upto_region 2 with (go_at_call 9; refine DI.out.mono ?_; rintro e w2 ⟨rfl, hb2⟩)
      go_wp2_with (go_at_call 35; refine (repeat_one _ _).mono ?_; rintro e _ ⟨rfl, rfl⟩)
      go_ret
      exact ⟨by rw [HR.out]; rfl, hb2⟩
    · rw [if_neg hn] at hl
      have hr := HP.out
      rw [if_neg hn] at hr
      have HR := Lib.hid hr
      have hl' : ((t.size : Nat) : Int) = 2 := by omega
      clear hn HP hr
      go_enter Tryd.func25, Tryd.ntmps25
      go_upto_region 2 with (go_at_call 9; refine DI.out.mono ?_; rintro e w2 ⟨rfl, hb2⟩)
      go_wp2_with (go_at_call 35; refine (repeat_zero _ _).mono ?_; rintro e _ ⟨rfl, rfl⟩)
      go_ret
      exact ⟨by rw [HR.out]; exact congrArg (fun x => Ending.returned (.string x)) (Rd.nil_app t), hb2⟩
  have HD := Lib.hid D
  generalize padB n = r at HD ⊢
  go_enter Tryd.func10, Tryd.ntmps10
  go_wp2_with (go_at_call 25; refine HD.out.mono ?_; rintro e w2 ⟨rfl, hb2⟩)
  go_ret
  exact ⟨rfl, hb2⟩
theorem padded_any (n : Int) (h0 : 0 ≤ n) (h1 : n < 100) (w : World) (hg : Glo w) : Calls Tryd.prog 12 #[.int .i64 n] w fun e w' => e = .returned (.string (padB n)) ∧ Below w.heap.size w w' := by
  have DI := Lib.hid (itoa_any n (by omega) (by omega) w hg)
  have HP : Hid (padB n = if n < 10 then zeroB ++ itoaB n else itoaB n) := Lib.hid rfl
  have hl := Rd.itoaB_size (n := n) (by omega) (by omega)
  generalize padB n = r at HP ⊢
  generalize itoaB n = t at DI HP hl
  by_cases hn : n < 10
  · have t1 : decide (n < 10) = true := by simpa using hn
    have hr := HP.out
    rw [if_pos hn] at hr
    have HR := Lib.hid hr
    clear HP hr hn
    go_enter Tryd.func12, Tryd.ntmps12
    go_wp2_with (go_at_call 9; refine DI.out.mono ?_; rintro e w2 ⟨rfl, hb2⟩)
    go_ret
    exact ⟨by rw [HR.out]; rfl, hb2⟩
  · have t1 : decide (n < 10) = false := by simpa using hn
    have hr := HP.out
    rw [if_neg hn] at hr
    have HR := Lib.hid hr
    clear HP hr hn
    go_enter Tryd.func12, Tryd.ntmps12
    go_wp2_with (go_at_call 9; refine DI.out.mono ?_; rintro e w2 ⟨rfl, hb2⟩)
    go_ret
    exact ⟨by rw [HR.out]; rfl, hb2⟩
/-- what DurationText hands back -/
def durTextR (n : Int) : ByteArray × Int := if n < 0 ∨ 3599999 < n then (⟨#[]⟩, 9) else (durText n, 0)
set_option maxHeartbeats 2000000 in
theorem durationText_any (n : Int) (h0 : -9223372036854775808 ≤ n) (h1 : n ≤ 9223372036854775807) (w : World) (hg : Glo w) :
    Calls Tryd.prog 4 #[.int .i64 n] w fun e w' => e = .returned (.tuple #[.string (durTextR n).1, .int .i64 (durTextR n).2]) ∧ Below w.heap.size w w' := by
  by_cases hn : n < 0
  · have t1 : decide (n < 0) = true := by simpa using hn
    have HX := Lib.hid (show durTextR n = (⟨#[]⟩, 9) from if_pos (Or.inl hn))
    clear hn
    go_enter Tryd.func4, Tryd.ntmps4
    go_wp2
    go_ret2
    exact ⟨by rw [HX.out]; rfl, Below.refl _ _⟩
  by_cases hb : 3599999 < n
  · have t1 : decide (n < 0) = false := by simpa using hn
    have t2 : decide (3599999 < n) = true := by simpa using hb
    have HX := Lib.hid (show durTextR n = (⟨#[]⟩, 9) from if_pos (Or.inr hb))
    go_enter Tryd.func4, Tryd.ntmps4
    go_wp2
    go_ret2
    exact ⟨by rw [HX.out]; rfl, Below.refl _ _⟩
  have t1 : decide (n < 0) = false := by simpa using hn
  have t2 : decide (3599999 < n) = false := by simpa using hb
  have HX := Lib.hid (show durTextR n = (durText n, 0) from if_neg (by omega))
  have HG := Lib.hid (fun (W : World) (h : Below w.heap.size w W) => hg.below h)
  by_cases hs : n < 3600
  · have t3 : decide (n < 3600) = true := by simpa using hs
    have HT := Lib.hid (show durText n = itoaB (n / 60) ++ colon ++ padB (n % 60) from if_pos hs)
    have D1 := Lib.hid (fun W h => itoa_any (n / 60) (by omega) (by omega) W (HG.out W h))
    have D2 := Lib.hid (fun W h => two_any (n % 60) (by omega) (by omega) W (HG.out W h))
    have z1 := Rd.itoaB_size (n := n / 60) (by omega) (by omega)
    generalize itoaB (n / 60) = r1 at HT D1 z1
    have z2 := Rd.padB_size (n := n % 60) (by omega) (by omega)
    generalize padB (n % 60) = r2 at HT D2 z2
    go_enter Tryd.func4, Tryd.ntmps4
    go_wp2_with fail
    refine (D1.out w (Below.refl _ _)).mono ?_
    rintro e w1 ⟨rfl, hb1⟩
    go_wp2_with fail
    refine (D2.out w1 hb1).mono ?_
    rintro e w2 ⟨rfl, hb2⟩
    go_wp2_with fail
    go_ret2
    exact ⟨by rw [HX.out, HT.out]; rfl, below_step hb1 hb2⟩
  · have t3 : decide (n < 3600) = false := by simpa using hs
    have HT := Lib.hid (show durText n = itoaB (n / 3600) ++ colon ++ padB (n / 60 % 60) ++ colon ++ padB (n % 60) from if_neg hs)
    have D1 := Lib.hid (fun W h => itoa_any (n / 3600) (by omega) (by omega) W (HG.out W h))
    have D2 := Lib.hid (fun W h => two_any (n / 60 % 60) (by omega) (by omega) W (HG.out W h))
    have D3 := Lib.hid (fun W h => two_any (n % 60) (by omega) (by omega) W (HG.out W h))
    have z1 := Rd.itoaB_size (n := n / 3600) (by omega) (by omega)
    generalize itoaB (n / 3600) = r1 at HT D1 z1
    have z2 := Rd.padB_size (n := n / 60 % 60) (by omega) (by omega)
    generalize padB (n / 60 % 60) = r2 at HT D2 z2
    have z3 := Rd.padB_size (n := n % 60) (by omega) (by omega)
    generalize padB (n % 60) = r3 at HT D3 z3
    go_enter Tryd.func4, Tryd.ntmps4
    go_wp2_with fail
    refine (D1.out w (Below.refl _ _)).mono ?_
    rintro e w1 ⟨rfl, hb1⟩
    go_wp2_with fail
    refine (D2.out w1 hb1).mono ?_
    rintro e w2 ⟨rfl, hb2⟩
    go_wp2_with fail
    refine (D3.out w2 (below_step hb1 hb2)).mono ?_
    rintro e w3 ⟨rfl, hb3⟩
    go_wp2_with fail
    go_ret2
    exact ⟨by rw [HX.out, HT.out]; rfl, below_step (below_step hb1 hb2) hb3⟩
set_option maxHeartbeats 2000000 in
theorem rDurationText_any (n : Int) (h0 : -9223372036854775808 ≤ n) (h1 : n ≤ 9223372036854775807) (w : World) (hg : Glo w) :
    Calls Tryd.prog 5 #[.int .i64 n] w fun e w' => e = .returned (.tuple #[.string (durTextR n).1, .int .i64 (durTextR n).2]) ∧ Below w.heap.size w w' := by
  have DO := Lib.hid (fun W => outside_any n 0 3599999 W)
  by_cases hout : n < 0 ∨ 3599999 < n
  · have ho : (decide (n < 0) || decide (3599999 < n)) = true := by simpa using hout
    have HX := Lib.hid (show durTextR n = (⟨#[]⟩, 9) from if_pos hout)
    rw [ho] at DO
    clear hout ho
    go_enter Tryd.func5, Tryd.ntmps5
    go_wp2_with (go_at_call 11; refine (DO.out _).mono ?_; rintro e _ ⟨rfl, rfl⟩)
    go_ret2
    exact ⟨by rw [HX.out]; rfl, Below.refl _ _⟩
  have ho : (decide (n < 0) || decide (3599999 < n)) = false := by simpa using hout
  have HX := Lib.hid (show durTextR n = (durText n, 0) from if_neg hout)
  rw [ho] at DO
  have HG := Lib.hid (fun (W : World) (h : Below w.heap.size w W) => hg.below h)
  by_cases hs : n < 3600
  · have e3 : n / 3600 = 0 := by omega
    have t3 : (n / 3600 == 0) = true := by rw [e3]; rfl
    have HT := Lib.hid (show durText n = itoaB (n / 60 % 60) ++ colon ++ padB (n % 60) by rw [show n / 60 % 60 = n / 60 by omega]; exact if_pos hs)
    have D1 := Lib.hid (fun W h => itoa_any (n / 60 % 60) (by omega) (by omega) W (HG.out W h))
    have D2 := Lib.hid (fun W h => padded_any (n % 60) (by omega) (by omega) W (HG.out W h))
    have z1 := Rd.itoaB_size (n := n / 60 % 60) (by omega) (by omega)
    generalize itoaB (n / 60 % 60) = r1 at HT D1 z1
    have z2 := Rd.padB_size (n := n % 60) (by omega) (by omega)
    generalize padB (n % 60) = r2 at HT D2 z2
    clear e3
    go_enter Tryd.func5, Tryd.ntmps5
    go_upto_region 3 with (go_at_call 11; refine (DO.out _).mono ?_; rintro e _ ⟨rfl, rfl⟩)
    go_wp2_with fail
    refine (D1.out w (Below.refl _ _)).mono ?_
    rintro e w1 ⟨rfl, hb1⟩
    go_wp2_with fail
    refine (D2.out w1 hb1).mono ?_
    rintro e w2 ⟨rfl, hb2⟩
    go_wp2_with fail
    go_ret2
    exact ⟨by rw [HX.out, HT.out]; rfl, below_step hb1 hb2⟩
  · have t3 : (n / 3600 == 0) = false := by rw [beq_eq_false_iff_ne]; omega
    have t3' : decide (n / 3600 = 0) = false := by rw [decide_eq_false_iff_not]; omega
    have HT := Lib.hid (show durText n = itoaB (n / 3600) ++ colon ++ padB (n / 60 % 60) ++ colon ++ padB (n % 60) from if_neg hs)
    have D1 := Lib.hid (fun W h => itoa_any (n / 3600) (by omega) (by omega) W (HG.out W h))
    have D2 := Lib.hid (fun W h => padded_any (n / 60 % 60) (by omega) (by omega) W (HG.out W h))
    have D3 := Lib.hid (fun W h => padded_any (n % 60) (by omega) (by omega) W (HG.out W h))
    have z1 := Rd.itoaB_size (n := n / 3600) (by omega) (by omega)
    generalize itoaB (n / 3600) = r1 at HT D1 z1
    have z2 := Rd.padB_size (n := n / 60 % 60) (by omega) (by omega)
    generalize padB (n / 60 % 60) = r2 at HT D2 z2
    have z3 := Rd.padB_size (n := n % 60) (by omega) (by omega)
    generalize padB (n % 60) = r3 at HT D3 z3
    go_enter Tryd.func5, Tryd.ntmps5
    go_upto_region 3 with (go_at_call 11; refine (DO.out _).mono ?_; rintro e _ ⟨rfl, rfl⟩)
    go_wp2_with fail
    refine (D1.out w (Below.refl _ _)).mono ?_
    rintro e w1 ⟨rfl, hb1⟩
    go_wp2_with fail
    refine (D2.out w1 hb1).mono ?_
    rintro e w2 ⟨rfl, hb2⟩
    go_wp2_with fail
    refine (D3.out w2 (below_step hb1 hb2)).mono ?_
    rintro e w3 ⟨rfl, hb3⟩
    go_wp2_with fail
    go_ret2
    exact ⟨by rw [HX.out, HT.out]; rfl, below_step (below_step hb1 hb2) hb3⟩
end Go.Proofs.YthimnjegacdhaaaDoor

/- Scale of the program returns 'Sc.sc'. -/
namespace Go.Proofs.YthimnjegacdhaaaDoor
open Go.RowKit Go.BigFrame

def scRet (p : Int × Int) : Ending := .returned (.tuple #[.int .i64 p.1, .int .i64 p.2])
theorem hasRow_new (w : World) (o : Obj) : HasRow ((w.alloc o).alloc (.cells wayRow 70)) (w.heap.size + 1) := by
  intro j hj
  rw [World.cell?_alloc_at _ _ _ _ (by simp)]
  rcases (show j = 0 ∨ j = 1 ∨ j = 2 ∨ j = 3 ∨ j = 4 ∨ j = 5 ∨ j = 6 ∨ j = 7 ∨ j = 8 ∨ j = 9 by omega) with rfl | rfl | rfl | rfl | rfl | rfl | rfl | rfl | rfl | rfl <;> rfl
theorem how_new (w : World) (how : Int) (o : Obj) : ((w.alloc (.cells #[.int .i64 how] 3)).alloc o).cell? ⟨w.heap.size, 0, none⟩ = some (.int .i64 how) := by
  rw [World.cell?_alloc_past _ _ _ (by simp), World.cell?_alloc_at _ _ _ _ rfl]; rfl
theorem below_two (w : World) (o o' : Obj) : Below w.heap.size w ((w.alloc o).alloc o') := ((Below.refl _ _).alloc (Nat.le_refl _) o).alloc (by simp) o'

set_option maxHeartbeats 400000 in
theorem scale_kind (a num den how : Int) (w : World) (h : how < 1 ∨ 5 < how) :
    Calls Tryd.prog 23 #[.int .i64 a, .int .i64 num, .int .i64 den, .int .i64 how] w fun e w' => e = scRet (0, 7) ∧ Below w.heap.size w w' := by
  have hw : wayAt how = -1 := by unfold wayAt; rw [if_neg (by omega)]
  have hmf : ∀ (fn : Fn) (first cap : Array Value) (w : World), (Instr.makeFunc fn first cap).run Tryd.prog w = .ok (.func fn first cap) w := fun _ _ _ _ => rfl
  go_enter Tryd.func23, Tryd.ntmps23
  go_wp2_with fail
  refine (ways_any _).mono ?_
  rintro e w1 ⟨rfl, rfl⟩
  go_wp2_with fail
  refine (index_any _ _ how _ (hasRow_new w _) (how_new w how _) (by simp) (by simp; omega)).mono ?_
  rintro e w1 ⟨rfl, hb⟩
  rw [hw]
  have hb' := (below_two w _ _).trans (hb.mono (by simp; omega))
  clear hb
  go_wp2
  go_ret2
  exact ⟨rfl, hb'⟩
set_option maxHeartbeats 400000 in
theorem scale_arg (a num den how : Int) (w : World) (h1 : 1 ≤ how) (h5 : how ≤ 5) (h : den ≤ 0 ∨ num < 0) :
    Calls Tryd.prog 23 #[.int .i64 a, .int .i64 num, .int .i64 den, .int .i64 how] w fun e w' => e = scRet (0, 1) ∧ Below w.heap.size w w' := by
  have hw : wayAt how = how - 1 := by unfold wayAt; rw [if_pos ⟨h1, h5⟩]
  have hmf : ∀ (fn : Fn) (first cap : Array Value) (w : World), (Instr.makeFunc fn first cap).run Tryd.prog w = .ok (.func fn first cap) w := fun _ _ _ _ => rfl
  have hk : decide (how - 1 < 0) = false := by rw [decide_eq_false_iff_not]; omega
  by_cases hd : den ≤ 0
  all_goals
    go_enter Tryd.func23, Tryd.ntmps23
    go_wp2_with fail
    refine (ways_any _).mono ?_
    rintro e w1 ⟨rfl, rfl⟩
    go_wp2_with fail
    refine (index_any _ _ how _ (hasRow_new w _) (how_new w how _) (by simp) (by simp; omega)).mono ?_
    rintro e w1 ⟨rfl, hb⟩
    rw [hw]
    have hb' := (below_two w _ _).trans (hb.mono (by simp; omega))
    clear hb hw
  · go_wp2
    go_ret2
    exact ⟨rfl, hb'⟩
  · have hd2 : decide (den ≤ 0) = false := by rw [decide_eq_false_iff_not]; omega
    have hn2 : decide (num < 0) = true := by rw [decide_eq_true_eq]; omega
    clear h hd
    go_wp2
    go_ret2
    exact ⟨rfl, hb'⟩

/-- the number without its sign, as the program makes it -/
theorem neg_wrap {a : Int} (h : a < 0) (h1 : -9223372036854775808 ≤ a) : IntKind.u64.wrap (-IntKind.u64.wrap a) = (a.natAbs : Int) := by
  simp only [IntKind.wrap_u64]; omega

theorem fin_ok {a num den how v : Int} {S : Bool} {q r d Q : Nat}
    (h : Sc.sc a num den how = if 4611686018427387904 < Sc.quo how S q r d then (0, 9) else (Sc.sgn S (Sc.quo how S q r d), 0))
    (hQ : Sc.quo how S q r d = Q) (hl : (Q : Int) ≤ 4611686018427387904) (hv : v = Sc.sgn S Q) :
    Ending.returned (.tuple #[.int .i64 v, .int .i64 0]) = scRet (Sc.sc a num den how) := by
  rw [h, hQ, if_neg (by omega), hv]; rfl
theorem fin_big {a num den how : Int} {S : Bool} {q r d Q : Nat}
    (h : Sc.sc a num den how = if 4611686018427387904 < Sc.quo how S q r d then (0, 9) else (Sc.sgn S (Sc.quo how S q r d), 0))
    (hQ : Sc.quo how S q r d = Q) (hl : 4611686018427387904 < (Q : Int)) :
    Ending.returned (.tuple #[.int .i64 0, .int .i64 9]) = scRet (Sc.sc a num den how) := by
  rw [h, hQ, if_pos (by omega)]; rfl
theorem quo_rest0 (how : Int) (S : Bool) (q d : Nat) : Sc.quo how S q 0 d = q := by simp [Sc.quo]
theorem quo_stay {how : Int} {S : Bool} {q r d : Nat} (h : Sc.away how S q r d = false) : Sc.quo how S q r d = q := by simp [Sc.quo, h]
theorem quo_up {how : Int} {S : Bool} {q r d : Nat} (h0 : 0 < r) (h : Sc.away how S q r d = true) : Sc.quo how S q r d = q + 1 := by simp [Sc.quo, h, h0]

set_option maxHeartbeats 2000000 in
set_option maxRecDepth 100000 in
/-- the product's quotient fits one word -/
theorem scale_neg (a how : Int) (num den hi lo q r k A : Nat) (w : World) (hk : Hid (how = (k : Int) + 1)) (hk5 : k < 5) (hd : 1 ≤ den) (hD : (den : Int) ≤ 9223372036854775807) (hM : (num : Int) ≤ 9223372036854775807)
    (hs : a < 0) (_ha1 : -9223372036854775808 ≤ a) (hneg : IntKind.u64.wrap (-IntKind.u64.wrap a) = (A : Int))
    (hhi' : ((A * num / 18446744073709551616 : Nat) : Int) = hi) (hlo' : ((A * num % 18446744073709551616 : Nat) : Int) = lo) (hlt : (hi : Int) < den)
    (hq' : (((hi * 18446744073709551616 + lo) / den : Nat) : Int) = q) (hr' : (((hi * 18446744073709551616 + lo) % den : Nat) : Int) = r) (hr0 : (r : Int) < den) (_hlo2 : (lo : Int) ≤ 18446744073709551615) (hq2 : (q : Int) ≤ 18446744073709551615) (hA : (A : Int) ≤ 9223372036854775808)
    (hfin : Hid (Sc.sc a num den how = if 4611686018427387904 < Sc.quo how true q r den then (0, 9) else (Sc.sgn true (Sc.quo how true q r den), 0))) :
    Calls Tryd.prog 23 #[.int .i64 a, .int .i64 num, .int .i64 den, .int .i64 how] w fun e w' => e = scRet (Sc.sc a num den how) ∧ Below w.heap.size w w' := by
  have hw : wayAt how = (k : Int) := by have := hk.out; unfold wayAt; rw [if_pos (by omega)]; omega
  have hmf : ∀ (fn : Fn) (first cap : Array Value) (w : World), (Instr.makeFunc fn first cap).run Tryd.prog w = .ok (.func fn first cap) w := fun _ _ _ _ => rfl
  have b1 : decide ((den : Int) ≤ 0) = false := by rw [decide_eq_false_iff_not]; omega
  have b2 : decide ((den : Int) ≤ hi) = false := by rw [decide_eq_false_iff_not]; omega
  have hmul := Lib.hid (Go.Proofs.Tryd.bits_Mul64 A num)
  have hdiv := Lib.hid (div64_any hi lo den)
  obtain ⟨f, g0, g1, hcf, hf'⟩ := way_any k hk5
  have hf := Lib.hid hf'
  clear hf'
  unfold fnv at g1
  go_enter Tryd.func23, Tryd.ntmps23
  go_wp2_with fail
  refine (ways_any _).mono ?_
  rintro e w1 ⟨rfl, rfl⟩
  go_wp2_with fail
  refine (index_any _ _ how _ (hasRow_new w _) (how_new w how _) (by simp) (by simp; omega)).mono ?_
  rintro e w1 ⟨rfl, hb⟩
  rw [hw]
  have hrow := (hasRow_new w (.cells #[.int .i64 how] 3)).at hb (by simp)
  have hb' := (below_two w _ _).trans (hb.mono (by simp; omega))
  have hk5i : (k : Int) < 5 := by omega
  have r0 := hrow (k * 2) (by omega)
  have r1 := hrow (k * 2 + 1) (by omega)
  rw [g0] at r0; rw [g1] at r1
  clear hb hw hrow g0 g1
  go_wp2_with fail
  refine (hmul.out (by omega) (by omega) _).mono ?_
  rintro e w2 ⟨rfl, rfl⟩
  rw [hhi', hlo']
  go_wp2_with fail
  refine (hdiv.out _ (by omega) (by omega) (by omega)).mono ?_
  rintro e w3 ⟨rfl, hn⟩
  rw [hq', hr']
  obtain ⟨r0', r1', hb2⟩ : w3.cell? ⟨w.heap.size + 1, k * 2, none⟩ = some (.int .i64 ((k : Int) + 1)) ∧ w3.cell? ⟨w.heap.size + 1, k * 2 + 1, none⟩ = some (.func (.func f) #[] #[]) ∧ Below w.heap.size w w3 := by
    obtain ⟨n, rfl⟩ := hn
    exact ⟨r0, r1, below_drewN hb' n⟩
  have Hb2 := Lib.hid hb2
  clear hn r0 r1 hb' hb2 hmul hdiv hq' hr' hhi' hlo' b2
  by_cases hr1 : r = 0
  · subst hr1
    have hQ := Lib.hid (quo_rest0 how true q den)
    go_wp2_with fail
    go_quiet (fail)
    go_wp2
    all_goals go_ret2
    all_goals refine ⟨?_, below_drewN Hb2.out _⟩
    all_goals first | exact fin_ok hfin.out hQ.out (by assumption) (by simp [Sc.sgn]) | exact fin_big hfin.out hQ.out (by assumption)
  · have c1 : decide ((0 : Int) < (r : Int)) = true := by rw [decide_eq_true_eq]; omega
    have hr1' : 0 < r := by omega
    clear hr1
    by_cases hq3 : q ≤ 4611686018427387904
    · have c2 : decide ((q : Int) ≤ 4611686018427387904) = true := by rw [decide_eq_true_eq]; omega
      have hq3i : (q : Int) ≤ 4611686018427387904 := by omega
      clear hq3
      cases haw : Sc.away how true q r den
      · have hwf : wayF ((k : Int) + 1) true q (cmpF r ((den : Int) - r)) = false := by rw [← hk.out, wayF_away, haw]
        have hQ := Lib.hid (quo_stay haw)
        clear haw
        go_wp2_with fail
        refine wp_region_quiet_lit (by kernel_rfl) (by kernel_rfl) ?_
        repeat (go_big_quiet_step (fail))
        go_big_quiet_want
        go_big_quiet_op
        go_big_quiet_call ((refine (compare_any _ _ _).mono ?_; exact fun _ _ h => ⟨h.1, _, h.2.symm⟩))
        go_big_quiet_want
        go_big_quiet_op
        go_big_quiet_call ((refine (hf.out _ _ _ _ (by omega)).mono ?_; exact fun _ _ h => ⟨h.1, _, h.2.symm⟩))
        repeat (go_big_quiet_step (fail))
        refine wpQuiet_nil ?_
        intro w4 hw4
        obtain ⟨nq, rfl⟩ := hw4
        have c4 : decide (4611686018427387904 < (q : Int)) = false := by rw [decide_eq_false_iff_not]; omega
        clear hk5 hd hr1' hmf hcf hlt
        go_wp2
        go_ret2
        refine ⟨?_, below_drewN Hb2.out _⟩
        exact fin_ok hfin.out hQ.out (by omega) (by simp [Sc.sgn])
      · have hwf : wayF ((k : Int) + 1) true q (cmpF r ((den : Int) - r)) = true := by rw [← hk.out, wayF_away, haw]
        have hQ := Lib.hid (quo_up hr1' haw)
        clear haw
        go_wp2_with fail
        refine wp_region_quiet_lit (by kernel_rfl) (by kernel_rfl) ?_
        repeat (go_big_quiet_step (fail))
        go_big_quiet_want
        go_big_quiet_op
        go_big_quiet_call ((refine (compare_any _ _ _).mono ?_; exact fun _ _ h => ⟨h.1, _, h.2.symm⟩))
        go_big_quiet_want
        go_big_quiet_op
        go_big_quiet_call ((refine (hf.out _ _ _ _ (by omega)).mono ?_; exact fun _ _ h => ⟨h.1, _, h.2.symm⟩))
        repeat (go_big_quiet_step (fail))
        refine wpQuiet_nil ?_
        intro w4 hw4
        obtain ⟨nq, rfl⟩ := hw4
        by_cases hq4 : (q : Int) = 4611686018427387904
        · have c4 : decide (4611686018427387904 < (q : Int) + 1) = true := by rw [decide_eq_true_eq]; omega
          have Hq4 := Lib.hid hq4
          clear hk5 hd hr1' hmf hcf hlt hq4
          go_wp2
          go_ret2
          refine ⟨?_, below_drewN Hb2.out _⟩
          exact fin_big hfin.out hQ.out (by have := Hq4.out; omega)
        · have c4 : decide (4611686018427387904 < (q : Int) + 1) = false := by rw [decide_eq_false_iff_not]; omega
          have hq5 : (q : Int) ≤ 4611686018427387903 := by omega
          clear hk5 hd hr1' hmf hcf hlt hq4 hq3i
          go_wp2
          go_ret2
          refine ⟨?_, below_drewN Hb2.out _⟩
          exact fin_ok hfin.out hQ.out (by omega) (by simp [Sc.sgn]; try omega)
    · have c2 : decide ((q : Int) ≤ 4611686018427387904) = false := by rw [decide_eq_false_iff_not]; omega
      have hq3i : 4611686018427387904 < (q : Int) := by omega
      clear hq3
      go_wp2_with fail
      go_quiet (fail)
      go_wp2
      go_ret2
      refine ⟨?_, below_drewN Hb2.out _⟩
      cases haw : Sc.away how true q r den
      · exact fin_big hfin.out (quo_stay haw) hq3i
      · exact fin_big hfin.out (quo_up hr1' haw) (by omega)
set_option maxHeartbeats 2000000 in
set_option maxRecDepth 100000 in
/-- the product's quotient fits one word -/
theorem scale_pos (how : Int) (num den hi lo q r k A : Nat) (w : World) (hk : Hid (how = (k : Int) + 1)) (hk5 : k < 5) (hd : 1 ≤ den) (hD : (den : Int) ≤ 9223372036854775807) (hM : (num : Int) ≤ 9223372036854775807)
    
    (hhi' : ((A * num / 18446744073709551616 : Nat) : Int) = hi) (hlo' : ((A * num % 18446744073709551616 : Nat) : Int) = lo) (hlt : (hi : Int) < den)
    (hq' : (((hi * 18446744073709551616 + lo) / den : Nat) : Int) = q) (hr' : (((hi * 18446744073709551616 + lo) % den : Nat) : Int) = r) (hr0 : (r : Int) < den) (_hlo2 : (lo : Int) ≤ 18446744073709551615) (hq2 : (q : Int) ≤ 18446744073709551615) (hA : (A : Int) ≤ 9223372036854775807)
    (hfin : Hid (Sc.sc A num den how = if 4611686018427387904 < Sc.quo how false q r den then (0, 9) else (Sc.sgn false (Sc.quo how false q r den), 0))) :
    Calls Tryd.prog 23 #[.int .i64 A, .int .i64 num, .int .i64 den, .int .i64 how] w fun e w' => e = scRet (Sc.sc A num den how) ∧ Below w.heap.size w w' := by
  have hw : wayAt how = (k : Int) := by have := hk.out; unfold wayAt; rw [if_pos (by omega)]; omega
  have hmf : ∀ (fn : Fn) (first cap : Array Value) (w : World), (Instr.makeFunc fn first cap).run Tryd.prog w = .ok (.func fn first cap) w := fun _ _ _ _ => rfl
  have b5 : decide ((A : Int) < 0) = false := by rw [decide_eq_false_iff_not]; omega
  have b1 : decide ((den : Int) ≤ 0) = false := by rw [decide_eq_false_iff_not]; omega
  have b2 : decide ((den : Int) ≤ hi) = false := by rw [decide_eq_false_iff_not]; omega
  have hmul := Lib.hid (Go.Proofs.Tryd.bits_Mul64 A num)
  have hdiv := Lib.hid (div64_any hi lo den)
  obtain ⟨f, g0, g1, hcf, hf'⟩ := way_any k hk5
  have hf := Lib.hid hf'
  clear hf'
  unfold fnv at g1
  go_enter Tryd.func23, Tryd.ntmps23
  go_wp2_with fail
  refine (ways_any _).mono ?_
  rintro e w1 ⟨rfl, rfl⟩
  go_wp2_with fail
  refine (index_any _ _ how _ (hasRow_new w _) (how_new w how _) (by simp) (by simp; omega)).mono ?_
  rintro e w1 ⟨rfl, hb⟩
  rw [hw]
  have hrow := (hasRow_new w (.cells #[.int .i64 how] 3)).at hb (by simp)
  have hb' := (below_two w _ _).trans (hb.mono (by simp; omega))
  have hk5i : (k : Int) < 5 := by omega
  have r0 := hrow (k * 2) (by omega)
  have r1 := hrow (k * 2 + 1) (by omega)
  rw [g0] at r0; rw [g1] at r1
  clear hb hw hrow g0 g1
  go_wp2_with fail
  refine (hmul.out (by omega) (by omega) _).mono ?_
  rintro e w2 ⟨rfl, rfl⟩
  rw [hhi', hlo']
  go_wp2_with fail
  refine (hdiv.out _ (by omega) (by omega) (by omega)).mono ?_
  rintro e w3 ⟨rfl, hn⟩
  rw [hq', hr']
  obtain ⟨r0', r1', hb2⟩ : w3.cell? ⟨w.heap.size + 1, k * 2, none⟩ = some (.int .i64 ((k : Int) + 1)) ∧ w3.cell? ⟨w.heap.size + 1, k * 2 + 1, none⟩ = some (.func (.func f) #[] #[]) ∧ Below w.heap.size w w3 := by
    obtain ⟨n, rfl⟩ := hn
    exact ⟨r0, r1, below_drewN hb' n⟩
  have Hb2 := Lib.hid hb2
  clear hn r0 r1 hb' hb2 hmul hdiv hq' hr' hhi' hlo' b2
  by_cases hr1 : r = 0
  · subst hr1
    have hQ := Lib.hid (quo_rest0 how false q den)
    go_wp2_with fail
    go_quiet (fail)
    go_wp2
    all_goals go_ret2
    all_goals refine ⟨?_, below_drewN Hb2.out _⟩
    all_goals first | exact fin_ok hfin.out hQ.out (by assumption) (by simp [Sc.sgn]) | exact fin_big hfin.out hQ.out (by assumption)
  · have c1 : decide ((0 : Int) < (r : Int)) = true := by rw [decide_eq_true_eq]; omega
    have hr1' : 0 < r := by omega
    clear hr1
    by_cases hq3 : q ≤ 4611686018427387904
    · have c2 : decide ((q : Int) ≤ 4611686018427387904) = true := by rw [decide_eq_true_eq]; omega
      have hq3i : (q : Int) ≤ 4611686018427387904 := by omega
      clear hq3
      cases haw : Sc.away how false q r den
      · have hwf : wayF ((k : Int) + 1) false q (cmpF r ((den : Int) - r)) = false := by rw [← hk.out, wayF_away, haw]
        have hQ := Lib.hid (quo_stay haw)
        clear haw
        go_wp2_with fail
        refine wp_region_quiet_lit (by kernel_rfl) (by kernel_rfl) ?_
        repeat (go_big_quiet_step (fail))
        go_big_quiet_want
        go_big_quiet_op
        go_big_quiet_call ((refine (compare_any _ _ _).mono ?_; exact fun _ _ h => ⟨h.1, _, h.2.symm⟩))
        go_big_quiet_want
        go_big_quiet_op
        go_big_quiet_call ((refine (hf.out _ _ _ _ (by omega)).mono ?_; exact fun _ _ h => ⟨h.1, _, h.2.symm⟩))
        repeat (go_big_quiet_step (fail))
        refine wpQuiet_nil ?_
        intro w4 hw4
        obtain ⟨nq, rfl⟩ := hw4
        have c4 : decide (4611686018427387904 < (q : Int)) = false := by rw [decide_eq_false_iff_not]; omega
        clear hk5 hd hr1' hmf hcf hlt
        go_wp2
        go_ret2
        refine ⟨?_, below_drewN Hb2.out _⟩
        exact fin_ok hfin.out hQ.out (by omega) (by simp [Sc.sgn])
      · have hwf : wayF ((k : Int) + 1) false q (cmpF r ((den : Int) - r)) = true := by rw [← hk.out, wayF_away, haw]
        have hQ := Lib.hid (quo_up hr1' haw)
        clear haw
        go_wp2_with fail
        refine wp_region_quiet_lit (by kernel_rfl) (by kernel_rfl) ?_
        repeat (go_big_quiet_step (fail))
        go_big_quiet_want
        go_big_quiet_op
        go_big_quiet_call ((refine (compare_any _ _ _).mono ?_; exact fun _ _ h => ⟨h.1, _, h.2.symm⟩))
        go_big_quiet_want
        go_big_quiet_op
        go_big_quiet_call ((refine (hf.out _ _ _ _ (by omega)).mono ?_; exact fun _ _ h => ⟨h.1, _, h.2.symm⟩))
        repeat (go_big_quiet_step (fail))
        refine wpQuiet_nil ?_
        intro w4 hw4
        obtain ⟨nq, rfl⟩ := hw4
        by_cases hq4 : (q : Int) = 4611686018427387904
        · have c4 : decide (4611686018427387904 < (q : Int) + 1) = true := by rw [decide_eq_true_eq]; omega
          have Hq4 := Lib.hid hq4
          clear hk5 hd hr1' hmf hcf hlt hq4
          go_wp2
          go_ret2
          refine ⟨?_, below_drewN Hb2.out _⟩
          exact fin_big hfin.out hQ.out (by have := Hq4.out; omega)
        · have c4 : decide (4611686018427387904 < (q : Int) + 1) = false := by rw [decide_eq_false_iff_not]; omega
          have hq5 : (q : Int) ≤ 4611686018427387903 := by omega
          clear hk5 hd hr1' hmf hcf hlt hq4 hq3i
          go_wp2
          go_ret2
          refine ⟨?_, below_drewN Hb2.out _⟩
          exact fin_ok hfin.out hQ.out (by omega) (by simp [Sc.sgn]; try omega)
    · have c2 : decide ((q : Int) ≤ 4611686018427387904) = false := by rw [decide_eq_false_iff_not]; omega
      have hq3i : 4611686018427387904 < (q : Int) := by omega
      clear hq3
      go_wp2_with fail
      go_quiet (fail)
      go_wp2
      go_ret2
      refine ⟨?_, below_drewN Hb2.out _⟩
      cases haw : Sc.away how false q r den
      · exact fin_big hfin.out (quo_stay haw) hq3i
      · exact fin_big hfin.out (quo_up hr1' haw) (by omega)
end Go.Proofs.YthimnjegacdhaaaDoor

/- Scale and Div of the program and of the reference: all return 'Sc.sc'. -/
namespace Go.Proofs.YthimnjegacdhaaaDoor
open Go.RowKit Go.BigFrame

theorem word_split (n : Nat) : n / 18446744073709551616 * 18446744073709551616 + n % 18446744073709551616 = n := by omega

theorem scale_high_neg (a how : Int) (num den hi k A : Nat) (w : World) (hk : Hid (how = (k : Int) + 1)) (hk5 : k < 5) (hd : 1 ≤ den) (hD : (den : Int) ≤ 9223372036854775807) (hM : (num : Int) ≤ 9223372036854775807)
    (hs : a < 0) (hneg : IntKind.u64.wrap (-IntKind.u64.wrap a) = (A : Int)) (hA : (A : Int) ≤ 9223372036854775808)
    (hhi' : ((A * num / 18446744073709551616 : Nat) : Int) = hi) (hle : (den : Int) ≤ hi) :
    Calls Tryd.prog 23 #[.int .i64 a, .int .i64 num, .int .i64 den, .int .i64 how] w fun e w' => e = scRet (0, 9) ∧ Below w.heap.size w w' := by
  have hw : wayAt how = (k : Int) := by have := hk.out; unfold wayAt; rw [if_pos (by omega)]; omega
  have hmf : ∀ (fn : Fn) (first cap : Array Value) (w : World), (Instr.makeFunc fn first cap).run Tryd.prog w = .ok (.func fn first cap) w := fun _ _ _ _ => rfl
  have b1 : decide ((den : Int) ≤ 0) = false := by rw [decide_eq_false_iff_not]; omega
  have b2 : decide ((den : Int) ≤ hi) = true := by rw [decide_eq_true_eq]; omega
  have hmul := Lib.hid (Go.Proofs.Tryd.bits_Mul64 A num)
  go_enter Tryd.func23, Tryd.ntmps23
  go_wp2_with fail
  refine (ways_any _).mono ?_
  rintro e w1 ⟨rfl, rfl⟩
  go_wp2_with fail
  refine (index_any _ _ how _ (hasRow_new w _) (how_new w how _) (by simp) (by simp; omega)).mono ?_
  rintro e w1 ⟨rfl, hb⟩
  rw [hw]
  have hb' := (below_two w _ _).trans (hb.mono (by simp; omega))
  have hk5i : (k : Int) < 5 := by omega
  clear hb hw
  go_wp2_with fail
  refine (hmul.out (by omega) (by omega) _).mono ?_
  rintro e w2 ⟨rfl, rfl⟩
  rw [hhi']
  go_wp2
  go_ret2
  exact ⟨rfl, hb'⟩
theorem scale_high_pos (how : Int) (num den hi k A : Nat) (w : World) (hk : Hid (how = (k : Int) + 1)) (hk5 : k < 5) (hd : 1 ≤ den) (hD : (den : Int) ≤ 9223372036854775807) (hM : (num : Int) ≤ 9223372036854775807)
    (hA : (A : Int) ≤ 9223372036854775807)
    (hhi' : ((A * num / 18446744073709551616 : Nat) : Int) = hi) (hle : (den : Int) ≤ hi) :
    Calls Tryd.prog 23 #[.int .i64 A, .int .i64 num, .int .i64 den, .int .i64 how] w fun e w' => e = scRet (0, 9) ∧ Below w.heap.size w w' := by
  have hw : wayAt how = (k : Int) := by have := hk.out; unfold wayAt; rw [if_pos (by omega)]; omega
  have hmf : ∀ (fn : Fn) (first cap : Array Value) (w : World), (Instr.makeFunc fn first cap).run Tryd.prog w = .ok (.func fn first cap) w := fun _ _ _ _ => rfl
  have b5 : decide ((A : Int) < 0) = false := by rw [decide_eq_false_iff_not]; omega
  have b1 : decide ((den : Int) ≤ 0) = false := by rw [decide_eq_false_iff_not]; omega
  have b2 : decide ((den : Int) ≤ hi) = true := by rw [decide_eq_true_eq]; omega
  have hmul := Lib.hid (Go.Proofs.Tryd.bits_Mul64 A num)
  go_enter Tryd.func23, Tryd.ntmps23
  go_wp2_with fail
  refine (ways_any _).mono ?_
  rintro e w1 ⟨rfl, rfl⟩
  go_wp2_with fail
  refine (index_any _ _ how _ (hasRow_new w _) (how_new w how _) (by simp) (by simp; omega)).mono ?_
  rintro e w1 ⟨rfl, hb⟩
  rw [hw]
  have hb' := (below_two w _ _).trans (hb.mono (by simp; omega))
  have hk5i : (k : Int) < 5 := by omega
  clear hb hw
  go_wp2_with fail
  refine (hmul.out (by omega) (by omega) _).mono ?_
  rintro e w2 ⟨rfl, rfl⟩
  rw [hhi']
  go_wp2
  go_ret2
  exact ⟨rfl, hb'⟩

/-- the program's Scale -/
theorem scale_any (a num den how : Int) (w : World) (ha1 : -9223372036854775808 ≤ a) (ha2 : a ≤ 9223372036854775807) (hn : num ≤ 9223372036854775807) (hd : den ≤ 9223372036854775807) :
    Calls Tryd.prog 23 #[.int .i64 a, .int .i64 num, .int .i64 den, .int .i64 how] w fun e w' => e = scRet (Sc.sc a num den how) ∧ Below w.heap.size w w' := by
  by_cases h1 : how < 1 ∨ 5 < how
  · rw [Sc.sc_kind _ _ _ _ h1]; exact scale_kind a num den how w h1
  by_cases h2 : den ≤ 0 ∨ num < 0
  · rw [Sc.sc_arg _ _ _ _ (by omega) (by omega) h2]; exact scale_arg a num den how w (by omega) (by omega) h2
  obtain ⟨num, rfl⟩ := Int.eq_ofNat_of_zero_le (show 0 ≤ num by omega)
  obtain ⟨den, rfl⟩ := Int.eq_ofNat_of_zero_le (show 0 ≤ den by omega)
  obtain ⟨k, hk⟩ : ∃ k : Nat, how = (k : Int) + 1 := ⟨(how - 1).toNat, by omega⟩
  have hk5 : k < 5 := by omega
  obtain ⟨N, hN⟩ : ∃ N, N = a.natAbs * num := ⟨_, rfl⟩
  have hN2 : N ≤ 9223372036854775808 * 9223372036854775807 := by rw [hN]; exact Nat.mul_le_mul (by omega) (by omega)
  by_cases h3 : den ≤ a.natAbs * num / 18446744073709551616
  · rw [Sc.sc_high a how num den (by omega) (by omega) (by omega) h3]
    by_cases h4 : a < 0
    · exact scale_high_neg a how num den _ k a.natAbs w (Lib.hid hk) hk5 (by omega) hd hn h4 (neg_wrap h4 ha1) (by omega) rfl (by omega)
    · obtain ⟨A, rfl⟩ := Int.eq_ofNat_of_zero_le (show 0 ≤ a by omega)
      rw [Int.natAbs_natCast] at h3
      exact scale_high_pos how num den _ k A w (Lib.hid hk) hk5 (by omega) hd hn ha2 rfl (by omega)
  · have hfin := Sc.sc_of a how num den (by omega) (by omega) (by omega) (by omega)
    rw [← hN] at hfin h3
    have hr := Nat.mod_lt N (show 0 < den by omega)
    have hq : N / den < 18446744073709551616 := by
      rw [Nat.div_lt_iff_lt_mul (by omega)]
      omega
    have hlo := Nat.mod_lt N (show 0 < 18446744073709551616 by omega)
    by_cases h4 : a < 0
    · rw [show decide (a < 0) = true by simpa using h4] at hfin
      refine scale_neg a how num den (N / 18446744073709551616) (N % 18446744073709551616) (N / den) (N % den) k a.natAbs w (Lib.hid hk) hk5 (by omega) hd hn h4 ha1 (neg_wrap h4 ha1) (by rw [← hN]) (by rw [← hN]) (by omega) (by rw [word_split]) (by rw [word_split]) (by omega) (by omega) (by omega) (by omega) (Lib.hid hfin)
    · obtain ⟨A, rfl⟩ := Int.eq_ofNat_of_zero_le (show 0 ≤ a by omega)
      rw [show decide ((A : Int) < 0) = false by rw [decide_eq_false_iff_not]; exact h4] at hfin
      rw [Int.natAbs_natCast] at hN
      refine scale_pos how num den (N / 18446744073709551616) (N % 18446744073709551616) (N / den) (N % den) k A w (Lib.hid hk) hk5 (by omega) hd hn (by rw [← hN]) (by rw [← hN]) (by omega) (by rw [word_split]) (by rw [word_split]) (by omega) (by omega) (by omega) (by omega) (Lib.hid hfin)

end Go.Proofs.YthimnjegacdhaaaDoor

/- Scale and Div of the reference return 'Sc.sc'. -/
namespace Go.Proofs.YthimnjegacdhaaaDoor
open Go.RowKit Go.BigFrame

theorem moreF_away {how : Int} (h1 : 1 ≤ how) (h5 : how ≤ 5) (b : Bool) (q r d : Nat) : moreF q r d b how = decide (0 < r ∧ Sc.away how b q r d = true) := by
  have e3 : ((q : Int) % 2 = 1) ↔ q % 2 = 1 := by omega
  have e5 : ((q : Int) % 2 == 1) = decide (q % 2 = 1) := by rw [Bool.eq_iff_iff, beq_iff_eq, decide_eq_true_eq]; exact e3
  unfold moreF
  by_cases h0 : r = 0
  · subst h0; simp
  rw [if_neg (by omega)]
  have hr : 0 < r := by omega
  unfold Sc.away
  by_cases a1 : how = 1
  · subst a1; cases b <;> simp [hr]
  by_cases a2 : how = 2
  · subst a2; cases b <;> simp [hr]
  by_cases a3 : how = 3
  · subst a3; simp
  simp only [a1, a2, a3, if_false]
  by_cases h6 : (r : Int) = d - r
  · rw [if_neg (by omega)]
    have h7 : 2 * r = d := by omega
    simp only [h7, hr, true_and, decide_true, Bool.true_and, e5]
    by_cases a4 : how = 4
    · subst a4; cases b <;> simp
    · simp [a4]
  · rw [if_pos h6]
    have h7 : ¬ 2 * r = d := by omega
    simp only [h7, hr, true_and, decide_false, Bool.false_and, Bool.or_false]
    have h8 : ((d : Int) - r < r) ↔ d < 2 * r := by omega
    by_cases a4 : how = 4
    · subst a4; simp [h8]
    · simp [a4, h8]

end Go.Proofs.YthimnjegacdhaaaDoor

/- The reader: readerOf and its functions, each by its contract. -/
namespace Go.Proofs.YthimnjegacdhaaaDoor
open Go.RowKit Go.BigFrame

def pt (b : Nat) : Value := .pointer (some ⟨b, 0, none⟩)
def digF (B : Nat) : Value := .func (.func 36) #[] #[pt (B + 3), pt (B + 2), pt B]
def takeF (B : Nat) : Value := .func (.func 38) #[] #[pt (B + 2), pt B]
def rdVals (B : Nat) : Array Value := #[
  .func (.func 39) #[] #[pt (B + 4), pt B, pt (B + 2), pt (B + 5), pt (B + 3)],
  .func (.func 40) #[] #[pt (B + 4), pt (B + 5), pt (B + 3)],
  .func (.func 41) #[] #[pt (B + 4), pt B, pt (B + 2), pt (B + 3), pt (B + 5)],
  .func (.func 42) #[] #[pt (B + 3), pt (B + 2), pt B],
  .func (.func 43) #[] #[pt (B + 3), pt (B + 2), pt B],
  .func (.func 45) #[] #[pt (B + 3), pt B, pt (B + 2)],
  .func (.func 47) #[] #[pt (B + 3), pt B, pt (B + 2)],
  digF B,
  .func (.func 49) #[] #[pt (B + 2), pt (B + 3), pt B]]
/-- a reader of the text s, at p -/
structure IsRd (w : World) (B : Nat) (s : ByteArray) (p : Nat) (ok : Bool) : Prop where
  size : B + 6 ≤ w.heap.size
  text : w.cell? ⟨B, 0, none⟩ = some (.string s)
  place : w.cell? ⟨B + 2, 0, none⟩ = some (.int .i64 p)
  placeF : w.frozen? ⟨B + 2, 0, none⟩ = false
  flag : w.cell? ⟨B + 3, 0, none⟩ = some (.bool ok)
  flagF : w.frozen? ⟨B + 3, 0, none⟩ = false
  dig : w.cell? ⟨B + 4, 7, none⟩ = some (digF B)
  take : w.cell? ⟨B + 5, 0, none⟩ = some (takeF B)

theorem cell_past {w : World} {o : Obj} {b j : Nat} {v : Value} (h : w.cell? ⟨b, j, none⟩ = some v) : (w.alloc o).cell? ⟨b, j, none⟩ = some v := by
  rw [World.cell?_alloc_past _ _ _ ?_]; exact h
  rcases Nat.lt_or_ge b w.heap.size with h1 | h1
  · exact h1
  · simp [World.cell?, Array.getElem?_eq_none h1] at h
theorem frozen_past {w : World} {o : Obj} {b j : Nat} (hb : b < w.heap.size) (h : w.frozen? ⟨b, j, none⟩ = false) : (w.alloc o).frozen? ⟨b, j, none⟩ = false := by
  rw [World.frozen?_alloc_past _ _ _ hb]; exact h
theorem isRd_new (w : World) (s : ByteArray) (o1 : Obj) (row : Array Value) (T0 T2 T3 T4 T5 : TypeId) (hr : row[7]? = some (digF w.heap.size)) :
    IsRd ((((((w.alloc (.cells #[.string s] T0)).alloc o1).alloc (.cells #[.int .i64 0] T2)).alloc (.cells #[.bool true] T3)).alloc (.cells row T4)).alloc (.cells #[takeF w.heap.size] T5)) w.heap.size s 0 true := by
  refine ⟨by simp, ?_, ?_, ?_, ?_, ?_, ?_, ?_⟩
  · iterate 5 refine cell_past ?_
    rw [World.cell?_alloc_at _ _ _ _ (by simp)]; rfl
  · iterate 3 refine cell_past ?_
    rw [World.cell?_alloc_at _ _ _ _ (by simp)]; rfl
  · iterate 3 refine frozen_past (by simp) ?_
    exact World.frozen?_alloc_at _ _ _ _ (by simp)
  · iterate 2 refine cell_past ?_
    rw [World.cell?_alloc_at _ _ _ _ (by simp)]; rfl
  · iterate 2 refine frozen_past (by simp) ?_
    exact World.frozen?_alloc_at _ _ _ _ (by simp)
  · refine cell_past ?_
    rw [World.cell?_alloc_at _ _ _ _ (by simp)]; exact hr
  · rw [World.cell?_alloc_at _ _ _ _ (by simp)]; rfl
theorem readerOf_any (s : ByteArray) (w : World) :
    Calls Tryd.prog 26 #[.string s] w fun e w' => e = .returned (.agg (rdVals w.heap.size)) ∧ IsRd w' w.heap.size s 0 true ∧ Below w.heap.size w w' := by
  have hmf : ∀ (fn : Fn) (first cap : Array Value) (w : World), (Instr.makeFunc fn first cap).run Tryd.prog w = .ok (.func fn first cap) w := fun _ _ _ _ => rfl
  go_enter Tryd.func26, Tryd.ntmps26
  go_wp2
  refine bodyPost_ret (v := .agg (rdVals w.heap.size)) (by simp [results, Tryd.results26, go_sem, rdVals, digF, pt]) rfl ⟨rfl, ?_, ?_⟩
  · exact isRd_new w s _ _ _ _ _ _ _ rfl
  · go_grown

/-! ### how the world moves under a reader -/
theorem cell_set_same {w : World} {b j : Nat} {v : Value} (h : w.cell? ⟨b, j, none⟩ = some v) (u : Value) : (w.setCell ⟨b, j, none⟩ u).cell? ⟨b, j, none⟩ = some u := by
  unfold World.cell? at h ⊢
  simp only [World.setCell, Array.getElem?_modify, if_true]
  cases hb : w.heap[b]? with
  | none => simp [hb] at h
  | some o =>
    cases o with
    | cells c e f =>
      simp [hb] at h ⊢
      obtain ⟨hj, _⟩ := Array.getElem?_eq_some_iff.1 h
      rw [Array.getElem?_setIfInBounds_self_of_lt hj]
    | _ => simp [hb] at h
theorem cell_set_far {w : World} {b j b' j' : Nat} (hne : b' ≠ b) (u : Value) : (w.setCell ⟨b, j, none⟩ u).cell? ⟨b', j', none⟩ = w.cell? ⟨b', j', none⟩ :=
  World.cell?_of_block (w := w) (Below.heap_setCell w ⟨b, j, none⟩ u b' hne)
theorem frozen_set_far {w : World} {b j b' j' : Nat} (hne : b' ≠ b) (u : Value) : (w.setCell ⟨b, j, none⟩ u).frozen? ⟨b', j', none⟩ = w.frozen? ⟨b', j', none⟩ :=
  World.frozen?_of_block (w := w) (Below.heap_setCell w ⟨b, j, none⟩ u b' hne)
theorem frozen_set_same {w : World} {b j : Nat} (h : w.frozen? ⟨b, j, none⟩ = false) (u : Value) : (w.setCell ⟨b, j, none⟩ u).frozen? ⟨b, j, none⟩ = false := by
  unfold World.frozen? at h ⊢
  simp only [World.setCell, Array.getElem?_modify, if_true]
  cases hb : w.heap[b]? with
  | none => simp
  | some o => cases o <;> simp_all
theorem IsRd.setAt {w : World} {B : Nat} {s : ByteArray} {p : Nat} {ok : Bool} (h : IsRd w B s p ok) (q : Nat) : IsRd (w.setCell ⟨B + 2, 0, none⟩ (.int .i64 q)) B s q ok :=
  ⟨by rw [World.size_setCell]; exact h.size, by rw [cell_set_far (by omega)]; exact h.text, cell_set_same h.place _, frozen_set_same h.placeF _, by rw [cell_set_far (by omega)]; exact h.flag, by rw [frozen_set_far (by omega)]; exact h.flagF, by rw [cell_set_far (by omega)]; exact h.dig, by rw [cell_set_far (by omega)]; exact h.take⟩
theorem IsRd.setOk {w : World} {B : Nat} {s : ByteArray} {p : Nat} {ok : Bool} (h : IsRd w B s p ok) (q : Bool) : IsRd (w.setCell ⟨B + 3, 0, none⟩ (.bool q)) B s p q :=
  ⟨by rw [World.size_setCell]; exact h.size, by rw [cell_set_far (by omega)]; exact h.text, by rw [cell_set_far (by omega)]; exact h.place, by rw [frozen_set_far (by omega)]; exact h.placeF, cell_set_same h.flag _, frozen_set_same h.flagF _, by rw [cell_set_far (by omega)]; exact h.dig, by rw [cell_set_far (by omega)]; exact h.take⟩
theorem IsRd.kept {w w' : World} {B : Nat} {s : ByteArray} {p : Nat} {ok : Bool} (h : IsRd w B s p ok) (hb : Below w.heap.size w w') : IsRd w' B s p ok :=
  have hs := h.size
  ⟨Nat.le_trans hs hb.size, (hb.cell (p := ⟨B, 0, none⟩) (by show B < _; omega)).trans h.text, (hb.cell (p := ⟨B + 2, 0, none⟩) (by show B + 2 < _; omega)).trans h.place, (hb.frozen (p := ⟨B + 2, 0, none⟩) (by show B + 2 < _; omega)).trans h.placeF,
   (hb.cell (p := ⟨B + 3, 0, none⟩) (by show B + 3 < _; omega)).trans h.flag, (hb.frozen (p := ⟨B + 3, 0, none⟩) (by show B + 3 < _; omega)).trans h.flagF, (hb.cell (p := ⟨B + 4, 7, none⟩) (by show B + 4 < _; omega)).trans h.dig, (hb.cell (p := ⟨B + 5, 0, none⟩) (by show B + 5 < _; omega)).trans h.take⟩
/-- nothing but the reader's place and flag has turned -/
structure Kp (B : Nat) (w w' : World) : Prop where
  os : w'.os = w.os
  tape : w'.tape = w.tape
  output : w'.output = w.output
  size : w.heap.size ≤ w'.heap.size
  block : ∀ k, k < w.heap.size → k ≠ B + 2 → k ≠ B + 3 → w'.heap[k]? = w.heap[k]?
theorem Kp.refl (B : Nat) (w : World) : Kp B w w := ⟨rfl, rfl, rfl, Nat.le_refl _, fun _ _ _ _ => rfl⟩
theorem Kp.trans {B : Nat} {a b c : World} (h : Kp B a b) (k : Kp B b c) : Kp B a c :=
  ⟨k.os.trans h.os, k.tape.trans h.tape, k.output.trans h.output, Nat.le_trans h.size k.size, fun i h1 h2 h3 => (k.block i (Nat.lt_of_lt_of_le h1 h.size) h2 h3).trans (h.block i h1 h2 h3)⟩
theorem Kp.of_below {B : Nat} {w w' : World} (h : Below w.heap.size w w') : Kp B w w' := ⟨h.os, h.tape, h.output, h.size, fun k hk _ _ => h.block k hk⟩
theorem Kp.setAt {B : Nat} {a w : World} (h : Kp B a w) (v : Value) : Kp B a (w.setCell ⟨B + 2, 0, none⟩ v) :=
  h.trans ⟨rfl, rfl, rfl, by rw [World.size_setCell]; exact Nat.le_refl _, fun k _ h2 _ => Below.heap_setCell _ _ _ _ h2⟩
theorem Kp.setOk {B : Nat} {a w : World} (h : Kp B a w) (v : Value) : Kp B a (w.setCell ⟨B + 3, 0, none⟩ v) :=
  h.trans ⟨rfl, rfl, rfl, by rw [World.size_setCell]; exact Nat.le_refl _, fun k _ _ h3 => Below.heap_setCell _ _ _ _ h3⟩
theorem Kp.drewN {B : Nat} {a w : World} (h : Kp B a w) (n : Nat) : Kp B a (w.drewN n) := h.trans ⟨rfl, rfl, rfl, Nat.le_refl _, fun _ _ _ _ => rfl⟩
theorem Kp.alloc {B : Nat} {a w : World} (h : Kp B a w) (o : Obj) : Kp B a (w.alloc o) := h.trans (Kp.of_below ((Below.refl _ _).alloc (Nat.le_refl _) o))
theorem Kp.below {B C : Nat} {w w' : World} (h : Kp B w w') (hB : C ≤ B) (hs : C ≤ w.heap.size) : Below C w w' := ⟨h.os, h.tape, h.output, h.size, fun k hk => h.block k (by omega) (by omega) (by omega)⟩

/-! ### the functions -/
theorem isDigit_any (c : Nat) (w : World) : Calls Tryd.prog 37 #[.int .u8 c] w fun e w' => e = .returned (.bool (Rd.isD c)) ∧ w = w' := by
  by_cases h : 48 ≤ c
  · have h1 : decide ((48 : Int) ≤ (c : Int)) = true := by rw [decide_eq_true_eq]; omega
    by_cases h2 : c ≤ 57
    · have h3 : decide ((c : Int) ≤ 57) = true := by rw [decide_eq_true_eq]; omega
      go_enter Tryd.func37, Tryd.ntmps37
      go_wp2
      go_ret
      exact ⟨ret_bool (by simp [Rd.isD, h, h2]), rfl⟩
    · have h3 : decide ((c : Int) ≤ 57) = false := by rw [decide_eq_false_iff_not]; omega
      go_enter Tryd.func37, Tryd.ntmps37
      go_wp2
      go_ret
      exact ⟨ret_bool (by simp [Rd.isD, h2]), rfl⟩
  · have h1 : decide ((48 : Int) ≤ (c : Int)) = false := by rw [decide_eq_false_iff_not]; omega
    go_enter Tryd.func37, Tryd.ntmps37
    go_wp2
    go_ret
    exact ⟨ret_bool (by simp [Rd.isD, h]), rfl⟩

theorem digit_any {B : Nat} {s : ByteArray} {p : Nat} {ok : Bool} (w : World) (h : IsRd w B s p ok) :
    Calls Tryd.prog 36 #[pt (B + 3), pt (B + 2), pt B] w fun e w' => e = .returned (.bool (Rd.digAt s p ok)) ∧ w = w' := by
  obtain ⟨_, c0, c2, _, c3, _, _, _⟩ := h
  unfold pt
  cases ok
  · go_enter Tryd.func36, Tryd.ntmps36
    go_wp2
    go_ret
    exact ⟨ret_bool (by simp [Rd.digAt]), rfl⟩
  · by_cases hp : p < s.size
    · have h1 : decide ((p : Int) < (s.size : Int)) = true := by rw [decide_eq_true_eq]; omega
      have hd := Lib.hid (isDigit_any (s[p].toNat))
      go_enter Tryd.func36, Tryd.ntmps36
      go_wp2_with fail
      refine (hd.out _).mono ?_
      rintro e w1 ⟨rfl, rfl⟩
      go_wp2
      go_ret
      exact ⟨ret_bool (by simp [Rd.digAt, hp, Rd.byte_lt hp]), rfl⟩
    · have h1 : decide ((p : Int) < (s.size : Int)) = false := by rw [decide_eq_false_iff_not]; omega
      have h2 : decide (p < s.size) = false := by simpa using hp
      go_enter Tryd.func36, Tryd.ntmps36
      go_wp2
      go_ret
      exact ⟨ret_bool (by simp [Rd.digAt, hp]), rfl⟩
theorem take_any {B : Nat} {s : ByteArray} {p : Nat} {ok : Bool} (w : World) (h : IsRd w B s p ok) (hs : s.size ≤ 9223372036854775807) (hp : p < s.size) (hd : 48 ≤ Rd.byte s p) :
    Calls Tryd.prog 38 #[pt (B + 2), pt B] w fun e w' => e = .returned (.int .i64 ((Rd.byte s p : Int) - 48)) ∧ IsRd w' B s (p + 1) ok ∧ Kp B w w' := by
  have h' := h
  obtain ⟨_, c0, c2, cf, _, _, _, _⟩ := h
  have hb := Rd.byte_lt hp
  have hle := Rd.byte_le s p
  rw [hb] at hd hle
  unfold pt
  go_enter Tryd.func38, Tryd.ntmps38
  go_wp2
  go_ret
  exact ⟨ret_int (by rw [hb]), h'.setAt (p + 1), (Kp.refl _ _).setAt _⟩
end Go.Proofs.YthimnjegacdhaaaDoor

/- The reader's number. -/
namespace Go.Proofs.YthimnjegacdhaaaDoor
open Go.RowKit Go.BigFrame

theorem numEnd {B : Nat} {s : ByteArray} {p : Nat} {ok : Bool} {digits : Nat} {least most : Int} {w wr : World} {n : Int} {k q : Nat} {b : Bool} (hR : IsRd wr B s q ok) (hK : Kp B w wr)
    (hX : Rd.numAt s digits least most ok p = (n, k, q)) (hb : Rd.numOk least ok (n, k, q) = b) :
    Ending.returned (.int .i64 n) = .returned (.int .i64 (Rd.numAt s digits least most ok p).1) ∧
      IsRd (wr.setCell ⟨B + 3, 0, none⟩ (.bool b)) B s (Rd.numAt s digits least most ok p).2.2 (Rd.numOk least ok (Rd.numAt s digits least most ok p)) ∧ Kp B w (wr.setCell ⟨B + 3, 0, none⟩ (.bool b)) := by
  rw [hX, hb]; exact ⟨rfl, hR.setOk b, hK.setOk _⟩

set_option maxHeartbeats 1000000 in
set_option maxRecDepth 100000 in
theorem number_any {B : Nat} {s : ByteArray} {p : Nat} {ok : Bool} (digits : Nat) (least most : Int) (w : World) (h : IsRd w B s p ok) (hs : s.size ≤ 9223372036854775807) (hd : digits ≤ 18) :
    Calls Tryd.prog 39 #[.int .i64 digits, .int .i64 least, .int .i64 most, pt (B + 4), pt B, pt (B + 2), pt (B + 5), pt (B + 3)] w fun e w' =>
      e = .returned (.int .i64 (Rd.numAt s digits least most ok p).1) ∧ IsRd w' B s (Rd.numAt s digits least most ok p).2.2 (Rd.numOk least ok (Rd.numAt s digits least most ok p)) ∧ Kp B w w' := by
  have h' := Lib.hid h
  clear h
  unfold pt
  go_enter Tryd.func39, Tryd.ntmps39
  go_wp2_with fail
  go_loopw [12, 13] (fun n m wr => ∃ (nn : Int) (k q : Nat), n = .int .i64 nn ∧ m = .int .i64 k ∧ k ≤ digits ∧ 0 ≤ nn ∧ nn < 10 ^ k ∧ IsRd wr B s q ok ∧ Kp B w wr ∧
      Rd.numLoop s digits least most ok (digits - k) nn k q = Rd.numAt s digits least most ok p) (fun _ m _ => digits - (intOf m).toNat)
  case atStart => exact ⟨0, 0, p, rfl, rfl, by omega, by omega, by decide, h'.out, Kp.refl _ _, rfl⟩
  case round =>
    obtain ⟨n, k, q, rfl, rfl, hk, hn0, hn1, hR, hK, hF⟩ := hrel
    have HR := Lib.hid hR
    have HK := Lib.hid hK
    have HF := Lib.hid hF
    have HN := Lib.hid hn1
    obtain ⟨_, c0, c2, cf2, c3, cf3, cd, ct⟩ := hR
    unfold digF pt at cd
    unfold takeF pt at ct
    clear hK hF hn1 h'
    by_cases hkd : k < digits
    · have t1 : decide ((k : Int) < (digits : Int)) = true := by rw [decide_eq_true_eq]; omega
      have t1' : decide (k < digits) = true := by simpa using hkd
      go_wp2_with fail
      refine (digit_any wr HR.out).mono ?_
      rintro e w1 ⟨rfl, rfl⟩
      cases hdg : Rd.digAt s q ok
      · have HX := Lib.hid (HF.out.symm.trans (Rd.numLoop_stop (s := s) (digits := digits) (least := least) (most := most) (ok := ok) (f := digits - k) (n := n) (m := k) (p := q) (by simp [hdg])))
        clear hdg HF
        go_wp2
        all_goals go_ret
        all_goals refine numEnd HR.out HK.out HX.out ?_
        all_goals simp_all [Rd.numOk]
      · obtain ⟨hok, hq, hb0, hb1⟩ := Rd.digAt_true hdg
        subst hok
        have HD := Lib.hid hdg
        have e1 := Rd.byte_lt hq
        have He1 := Lib.hid e1
        rw [e1] at hb0 hb1
        have hn9 : n ≤ 99999999999999999 := by
          have h1 := HN.out
          have h2 : (10 : Int) ^ k ≤ 10 ^ 17 := by exact_mod_cast Nat.pow_le_pow_right (show 0 < 10 by omega) (show k ≤ 17 by omega)
          have h3 : (10 : Int) ^ 17 = 100000000000000000 := by decide
          omega
        clear hdg e1
        cases bk : decide (0 < k)
        · skip
          cases bm : decide (most < 10 * n + ((s[q].toNat : Int) - 48))
          · cases bx : (10 * n + ((s[q].toNat : Int) - 48) == 0)
            · have cx : decide (10 * n + ((s[q].toNat : Int) - 48) = 0) = false := by simpa using bx
              have HX := Lib.hid (Rd.numLoop_next (s := s) (digits := digits) (least := least) (most := most) (ok := true) (f := digits - k - 1) (n := n) (m := k) (p := q) ⟨hkd, HD.out⟩ (by rw [He1.out]; simp [Rd.stops, bk, bm, cx]))
              go_wp2_with fail
              refine (take_any wr HR.out hs hq (by rw [He1.out]; exact hb0)).mono ?_
              rintro e w1 ⟨rfl, hR1, hK1⟩
              rw [He1.out]
              have HR1 := Lib.hid hR1
              have HK1 := Lib.hid (HK.out.trans hK1)
              clear hR1 hK1
              go_wp2
              go_roundw
              case rel =>
                refine ⟨10 * n + ((s[q].toNat : Int) - 48), k + 1, q + 1, rfl, by go_num, by omega, by omega, ?_, HR1.out, HK1.out, ?_⟩
                · have := HN.out
                  rw [Int.pow_succ]; omega
                · rw [← HF.out, show digits - k = (digits - k - 1) + 1 by omega, HX.out, He1.out, show digits - (k + 1) = digits - k - 1 by omega]
              case measure => simp [intOf]; omega
            · have cx : decide (10 * n + ((s[q].toNat : Int) - 48) = 0) = true := by simpa using bx
              cases bl : decide (0 < least)
              · skip
                have HX := Lib.hid (Rd.numLoop_next (s := s) (digits := digits) (least := least) (most := most) (ok := true) (f := digits - k - 1) (n := n) (m := k) (p := q) ⟨hkd, HD.out⟩ (by rw [He1.out]; simp [Rd.stops, bk, bm, cx, bl]))
                go_wp2_with fail
                refine (take_any wr HR.out hs hq (by rw [He1.out]; exact hb0)).mono ?_
                rintro e w1 ⟨rfl, hR1, hK1⟩
                rw [He1.out]
                have HR1 := Lib.hid hR1
                have HK1 := Lib.hid (HK.out.trans hK1)
                clear hR1 hK1
                go_wp2
                go_roundw
                case rel =>
                  refine ⟨10 * n + ((s[q].toNat : Int) - 48), k + 1, q + 1, rfl, by go_num, by omega, by omega, ?_, HR1.out, HK1.out, ?_⟩
                  · have := HN.out
                    rw [Int.pow_succ]; omega
                  · rw [← HF.out, show digits - k = (digits - k - 1) + 1 by omega, HX.out, He1.out, show digits - (k + 1) = digits - k - 1 by omega]
                case measure => simp [intOf]; omega
              · skip
                have HX := Lib.hid (HF.out.symm.trans (Rd.numLoop_break (s := s) (digits := digits) (least := least) (most := most) (ok := true) (f := digits - k) (n := n) (m := k) (p := q) ⟨hkd, HD.out⟩ (by rw [He1.out]; simp [Rd.stops, bk, bm, cx, bl])))
                clear HF
                go_wp2
                go_ret
                refine numEnd HR.out HK.out HX.out ?_
                simp [Rd.numOk, bk]
          · skip
            have HX := Lib.hid (HF.out.symm.trans (Rd.numLoop_break (s := s) (digits := digits) (least := least) (most := most) (ok := true) (f := digits - k) (n := n) (m := k) (p := q) ⟨hkd, HD.out⟩ (by rw [He1.out]; simp [Rd.stops, bk, bm])))
            clear HF
            go_wp2
            go_ret
            refine numEnd HR.out HK.out HX.out ?_
            simp [Rd.numOk, bk]
        · cases bn : (n == 0)
          · have cn : decide (n = 0) = false := by simpa using bn
            cases bm : decide (most < 10 * n + ((s[q].toNat : Int) - 48))
            · cases bx : (10 * n + ((s[q].toNat : Int) - 48) == 0)
              · have cx : decide (10 * n + ((s[q].toNat : Int) - 48) = 0) = false := by simpa using bx
                have HX := Lib.hid (Rd.numLoop_next (s := s) (digits := digits) (least := least) (most := most) (ok := true) (f := digits - k - 1) (n := n) (m := k) (p := q) ⟨hkd, HD.out⟩ (by rw [He1.out]; simp [Rd.stops, bk, cn, bm, cx]))
                go_wp2_with fail
                refine (take_any wr HR.out hs hq (by rw [He1.out]; exact hb0)).mono ?_
                rintro e w1 ⟨rfl, hR1, hK1⟩
                rw [He1.out]
                have HR1 := Lib.hid hR1
                have HK1 := Lib.hid (HK.out.trans hK1)
                clear hR1 hK1
                go_wp2
                go_roundw
                case rel =>
                  refine ⟨10 * n + ((s[q].toNat : Int) - 48), k + 1, q + 1, rfl, by go_num, by omega, by omega, ?_, HR1.out, HK1.out, ?_⟩
                  · have := HN.out
                    rw [Int.pow_succ]; omega
                  · rw [← HF.out, show digits - k = (digits - k - 1) + 1 by omega, HX.out, He1.out, show digits - (k + 1) = digits - k - 1 by omega]
                case measure => simp [intOf]; omega
              · have cx : decide (10 * n + ((s[q].toNat : Int) - 48) = 0) = true := by simpa using bx
                cases bl : decide (0 < least)
                · skip
                  have HX := Lib.hid (Rd.numLoop_next (s := s) (digits := digits) (least := least) (most := most) (ok := true) (f := digits - k - 1) (n := n) (m := k) (p := q) ⟨hkd, HD.out⟩ (by rw [He1.out]; simp [Rd.stops, bk, cn, bm, cx, bl]))
                  go_wp2_with fail
                  refine (take_any wr HR.out hs hq (by rw [He1.out]; exact hb0)).mono ?_
                  rintro e w1 ⟨rfl, hR1, hK1⟩
                  rw [He1.out]
                  have HR1 := Lib.hid hR1
                  have HK1 := Lib.hid (HK.out.trans hK1)
                  clear hR1 hK1
                  go_wp2
                  go_roundw
                  case rel =>
                    refine ⟨10 * n + ((s[q].toNat : Int) - 48), k + 1, q + 1, rfl, by go_num, by omega, by omega, ?_, HR1.out, HK1.out, ?_⟩
                    · have := HN.out
                      rw [Int.pow_succ]; omega
                    · rw [← HF.out, show digits - k = (digits - k - 1) + 1 by omega, HX.out, He1.out, show digits - (k + 1) = digits - k - 1 by omega]
                  case measure => simp [intOf]; omega
                · skip
                  have HX := Lib.hid (HF.out.symm.trans (Rd.numLoop_break (s := s) (digits := digits) (least := least) (most := most) (ok := true) (f := digits - k) (n := n) (m := k) (p := q) ⟨hkd, HD.out⟩ (by rw [He1.out]; simp [Rd.stops, bk, cn, bm, cx, bl])))
                  clear HF
                  go_wp2
                  go_ret
                  refine numEnd HR.out HK.out HX.out ?_
                  simp [Rd.numOk, bk]
            · skip
              have HX := Lib.hid (HF.out.symm.trans (Rd.numLoop_break (s := s) (digits := digits) (least := least) (most := most) (ok := true) (f := digits - k) (n := n) (m := k) (p := q) ⟨hkd, HD.out⟩ (by rw [He1.out]; simp [Rd.stops, bk, cn, bm])))
              clear HF
              go_wp2
              go_ret
              refine numEnd HR.out HK.out HX.out ?_
              simp [Rd.numOk, bk]
          · have cn : decide (n = 0) = true := by simpa using bn
            have HX := Lib.hid (HF.out.symm.trans (Rd.numLoop_break (s := s) (digits := digits) (least := least) (most := most) (ok := true) (f := digits - k) (n := n) (m := k) (p := q) ⟨hkd, HD.out⟩ (by rw [He1.out]; simp [Rd.stops, bk, cn])))
            clear HF
            go_wp2
            go_ret
            refine numEnd HR.out HK.out HX.out ?_
            simp [Rd.numOk, bk]
    · have t1 : decide ((k : Int) < (digits : Int)) = false := by rw [decide_eq_false_iff_not]; omega
      have t1' : decide (k < digits) = false := by simpa using hkd
      have HX := Lib.hid (HF.out.symm.trans (Rd.numLoop_stop (s := s) (digits := digits) (least := least) (most := most) (ok := ok) (f := digits - k) (n := n) (m := k) (p := q) (by simp [hkd])))
      clear HF
      go_wp2
      all_goals go_ret
      all_goals refine numEnd HR.out HK.out HX.out ?_
      all_goals simp_all [Rd.numOk]
end Go.Proofs.YthimnjegacdhaaaDoor

/- The reader's exact, pair, one, place. -/
namespace Go.Proofs.YthimnjegacdhaaaDoor
open Go.RowKit Go.BigFrame

theorem IsRd.drew {w : World} {B : Nat} {s : ByteArray} {p : Nat} {ok : Bool} (h : IsRd w B s p ok) : IsRd w.drew B s p ok := h.kept (Below.refl _ _).drew
theorem Kp.drew {B : Nat} {a w : World} (h : Kp B a w) : Kp B a w.drew := h.trans (Kp.of_below (Below.refl _ _).drew)
def ExactTo (s t : ByteArray) (i q : Nat) (b : Bool) (z : Nat × Bool) : Prop := (b = false → z = (q, false)) ∧ (b = true → Rd.exactLoop s t (t.size - i) i q = z)

theorem ExactTo.no {s t : ByteArray} {i q : Nat} {z : Nat × Bool} (h : z = (q, false)) : ExactTo s t i q false z := ⟨fun _ => h, fun h => by cases h⟩
theorem ExactTo.yes {s t : ByteArray} {i q : Nat} {z : Nat × Bool} (h : Rd.exactLoop s t (t.size - i) i q = z) : ExactTo s t i q true z := ⟨fun h => (by cases h), fun _ => h⟩
set_option maxHeartbeats 1000000 in
set_option maxRecDepth 100000 in
theorem exact_any {B : Nat} {s : ByteArray} {p : Nat} {ok : Bool} (t : ByteArray) (w : World) (h : IsRd w B s p ok) (hs : s.size ≤ 9223372036854775807) (ht : t.size ≤ 9223372036854775807) :
    Calls Tryd.prog 42 #[.string t, pt (B + 3), pt (B + 2), pt B] w fun e w' =>
      e = .returned (.tuple #[]) ∧ IsRd w' B s (Rd.exactAt s t p ok).1 (Rd.exactAt s t p ok).2 ∧ Kp B w w' := by
  have h' := Lib.hid h
  have hst : ExactTo s t 0 p ok (Rd.exactAt s t p ok) := by
    unfold ExactTo Rd.exactAt
    cases ok <;> simp
  have Hst := Lib.hid hst
  generalize hz : Rd.exactAt s t p ok = z at Hst ⊢
  clear h hst hz
  unfold pt
  go_enter Tryd.func42, Tryd.ntmps42
  go_wp2_with fail
  go_loopw [5] (fun iv wr => ∃ (i q : Nat) (b : Bool), iv = .int .i64 i ∧ i ≤ t.size ∧ IsRd wr B s q b ∧ Kp B w wr ∧ ExactTo s t i q b z) (fun iv _ => t.size - (intOf iv).toNat)
  case atStart => exact ⟨0, p, ok, rfl, by omega, h'.out, Kp.refl _ _, Hst.out⟩
  case round =>
    obtain ⟨i, q, b, rfl, hi, hR, hK, hE⟩ := hrel
    have HR := Lib.hid hR
    have HK := Lib.hid hK
    have HE := Lib.hid hE
    obtain ⟨_, c0, c2, cf2, c3, cf3, _, _⟩ := hR
    clear hK hE h' Hst
    cases b
    · have hz := Lib.hid (HE.out.1 rfl)
      go_wp2
      go_end0
      rw [hz.out]
      exact ⟨rfl, HR.out, HK.out⟩
    · by_cases hit : i < t.size
      · have t1 : decide (i < t.size) = true := by simpa using hit
        by_cases hq : q < s.size
        · have t2 : decide (q < s.size) = true := by simpa using hq
          cases he : (((s[q]).toNat : Int) == ((t[i]).toNat : Int))
          · have hz : z = (q, false) := by
              rw [← HE.out.2 rfl, show t.size - i = (t.size - i - 1) + 1 by omega, Rd.exactLoop, if_pos hit, if_neg]
              rw [Rd.byte_lt hq, Rd.byte_lt hit]
              simp only [beq_eq_false_iff_ne, ne_eq] at he
              omega
            have Hz := Lib.hid hz
            clear hz HE
            go_wp2_with fail
            go_still_tail 13, (by kernel_rfl)
            change wpList _ _ _ _ _ wr.drew
            clear c0 c2 cf2 c3 cf3
            have hR2 := HR.out.drew
            have hK2 := HK.out.drew
            clear HR HK
            generalize wr.drew = w2 at hR2 hK2 ⊢
            have HR := Lib.hid hR2
            have HK := Lib.hid hK2
            obtain ⟨_, c0, c2, cf2, c3, cf3, _, _⟩ := hR2
            clear hK2
            go_wp2
            go_roundw
            case rel => exact ⟨i + 1, q, false, by go_num, by omega, HR.out.setOk false, HK.out.setOk _, ExactTo.no Hz.out⟩
            case measure => simp [intOf]; omega
          · have hz : Rd.exactLoop s t (t.size - (i + 1)) (i + 1) (q + 1) = z := by
              rw [← HE.out.2 rfl, show t.size - i = (t.size - (i + 1)) + 1 by omega]
              conv => rhs; rw [Rd.exactLoop, if_pos hit]
              rw [if_pos]
              rw [Rd.byte_lt hq, Rd.byte_lt hit]
              simp only [beq_iff_eq] at he
              exact ⟨hq, by omega⟩
            have Hz := Lib.hid hz
            clear hz HE
            go_wp2_with fail
            go_still_tail 13, (by kernel_rfl)
            change wpList _ _ _ _ _ wr.drew
            clear c0 c2 cf2 c3 cf3
            have hR2 := HR.out.drew
            have hK2 := HK.out.drew
            clear HR HK
            generalize wr.drew = w2 at hR2 hK2 ⊢
            have HR := Lib.hid hR2
            have HK := Lib.hid hK2
            obtain ⟨_, c0, c2, cf2, c3, cf3, _, _⟩ := hR2
            clear hK2
            go_wp2
            go_roundw
            case rel => exact ⟨i + 1, q + 1, true, by go_num, by omega, (HR.out.setOk true).setAt (q + 1), (HK.out.setOk _).setAt _, ExactTo.yes Hz.out⟩
            case measure => simp [intOf]; omega
        · have t2 : decide (q < s.size) = false := by simpa using hq
          have hz : z = (q, false) := by
            rw [← HE.out.2 rfl, show t.size - i = (t.size - i - 1) + 1 by omega, Rd.exactLoop, if_pos hit, if_neg]
            omega
          have Hz := Lib.hid hz
          clear hz HE
          go_wp2_with fail
          go_region
          go_wp2
          go_roundw
          case rel => exact ⟨i + 1, q, false, by go_num, by omega, (HR.out.setOk false).drew, (HK.out.setOk _).drew, ExactTo.no Hz.out⟩
          case measure => simp [intOf]; omega
      · have t1 : decide (i < t.size) = false := by simpa using hit
        have hz := Lib.hid (HE.out.2 rfl)
        go_wp2
        go_end0
        rw [← hz.out]
        have : Rd.exactLoop s t (t.size - i) i q = (q, true) := by rw [show t.size - i = 0 by omega]; rfl
        rw [this]
        exact ⟨rfl, HR.out, HK.out⟩

theorem place_any {B : Nat} {s : ByteArray} {p : Nat} {ok : Bool} (w : World) (h : IsRd w B s p ok) :
    Calls Tryd.prog 49 #[pt (B + 2), pt (B + 3), pt B] w fun e w' => e = .returned (.tuple #[.int .i64 p, .bool (ok && decide (p = s.size))]) ∧ ∃ n, w' = w.drewN n := by
  obtain ⟨_, c0, c2, cf2, c3, cf3, _, _⟩ := h
  unfold pt
  cases ok
  · go_enter Tryd.func49, Tryd.ntmps49
    go_wp2_with fail
    go_quiet (fail)
    go_wp2
    go_ret2
    exact ⟨by simp, _, rfl⟩
  · go_enter Tryd.func49, Tryd.ntmps49
    go_wp2_with fail
    go_quiet (fail)
    go_wp2
    go_ret2
    refine ⟨?_, _, rfl⟩
    have : ((p : Int) == (s.size : Int)) = (true && decide (p = s.size)) := by rw [Bool.eq_iff_iff, Bool.true_and, beq_iff_eq, decide_eq_true_eq]; omega
    rw [← this]; rfl
/-- one of these bytes: which -/
theorem one_any {B : Nat} {s : ByteArray} {p : Nat} {ok : Bool} (t : ByteArray) (w : World) (h : IsRd w B s p ok) (hs : s.size ≤ 9223372036854775807) :
    Calls Tryd.prog 43 #[.string t, pt (B + 3), pt (B + 2), pt B] w fun e w' =>
      e = .returned (.int .i64 (Rd.oneAt s t p ok).1) ∧ IsRd w' B s (Rd.oneAt s t p ok).2.1 (Rd.oneAt s t p ok).2.2 ∧ Kp B w w' := by
  have HR := Lib.hid h
  obtain ⟨_, c0, c2, cf2, c3, cf3, _, _⟩ := h
  unfold pt
  cases ok
  · go_enter Tryd.func43, Tryd.ntmps43
    go_wp2
    go_ret
    exact ⟨rfl, HR.out.setOk false, (Kp.refl _ _).setOk _⟩
  · by_cases hp : p < s.size
    · have t2 : decide (p < s.size) = true := by simpa using hp
      have hib := Lib.hid (Go.Proofs.Tryd.strings_IndexByte t ((s[p]).toNat : Int))
      go_enter Tryd.func43, Tryd.ntmps43
      go_wp2_with fail
      refine (hib.out _).mono ?_
      rintro e w1 ⟨rfl, rfl⟩
      have hby : (((s[p]).toNat : Int).toNat).toUInt8 = (Rd.byte s p).toUInt8 := by rw [Rd.byte_lt hp, Int.toNat_natCast]
      rw [hby]
      have hz := Lib.hid (show Rd.oneAt s t p true = if 0 ≤ Lib.indexByte t.data.toList (Rd.byte s p).toUInt8 then (Lib.indexByte t.data.toList (Rd.byte s p).toUInt8, p + 1, true) else (Lib.indexByte t.data.toList (Rd.byte s p).toUInt8, p, false) by unfold Rd.oneAt; rw [if_pos ⟨rfl, hp⟩])
      generalize Lib.indexByte t.data.toList (Rd.byte s p).toUInt8 = k at hz ⊢
      clear hib hby
      by_cases hk : 0 ≤ k
      · have t3 : decide (0 ≤ k) = true := by simpa using hk
        go_wp2
        go_ret
        have hz' := hz.out
        rw [if_pos hk] at hz'
        rw [hz']
        exact ⟨rfl, (HR.out.setOk true).setAt (p + 1), ((Kp.refl _ _).setOk _).setAt _⟩
      · have t3 : decide (0 ≤ k) = false := by simpa using hk
        have hk2 : k < 0 := by omega
        go_wp2
        go_ret
        have hz' := hz.out
        rw [if_neg (by omega)] at hz'
        rw [hz']
        exact ⟨rfl, HR.out.setOk false, (Kp.refl _ _).setOk _⟩
    · have t2 : decide (p < s.size) = false := by simpa using hp
      go_enter Tryd.func43, Tryd.ntmps43
      go_wp2
      go_ret
      have hz : Rd.oneAt s t p true = (-1, p, false) := by unfold Rd.oneAt; rw [if_neg (by simp [hp])]
      rw [hz]
      exact ⟨rfl, HR.out.setOk false, (Kp.refl _ _).setOk _⟩

theorem IsRd.of_kp {w w' : World} {B b j : Nat} {v : Value} (hk : Kp B w w') (h : w.cell? ⟨b, j, none⟩ = some v) (h2 : b ≠ B + 2) (h3 : b ≠ B + 3) : w'.cell? ⟨b, j, none⟩ = some v := by
  rcases Nat.lt_or_ge b w.heap.size with h1 | h1
  · rw [World.cell?_of_block (w := w) (hk.block b h1 h2 h3)]; exact h
  · simp [World.cell?, Array.getElem?_eq_none h1] at h
end Go.Proofs.YthimnjegacdhaaaDoor

/- The reader's pair. -/
namespace Go.Proofs.YthimnjegacdhaaaDoor
open Go.RowKit Go.BigFrame

def PairTo (s : ByteArray) (most : Int) (p : Nat) (ok : Bool) (i : Nat) (x : Int × Nat × Bool) : Prop :=
  (i = 0 → x = (0, p, ok)) ∧ (i = 1 → x = Rd.pairStep s most 10 (0, p, ok)) ∧ (i = 2 → x = Rd.pairAt s most p ok)
theorem PairTo.start (s : ByteArray) (most : Int) (p : Nat) (ok : Bool) : PairTo s most p ok 0 (0, p, ok) := ⟨fun _ => rfl, fun h => (by cases h), fun h => by cases h⟩
theorem PairTo.step {s : ByteArray} {most : Int} {p : Nat} {ok : Bool} {i : Nat} {x y : Int × Nat × Bool} (h : PairTo s most p ok i x) (hi : i = 0 ∧ y = Rd.pairStep s most 10 x ∨ i = 1 ∧ y = Rd.pairStep s most 1 x) : PairTo s most p ok (i + 1) y := by
  rcases hi with ⟨rfl, rfl⟩ | ⟨rfl, rfl⟩
  · refine ⟨fun h => (by omega), fun _ => ?_, fun h => (by omega)⟩
    rw [h.1 rfl]
  · refine ⟨fun h => (by omega), fun h => (by omega), fun _ => ?_⟩
    rw [h.2.1 rfl]; rfl
theorem pairStep_no {s : ByteArray} {most u n : Int} {q : Nat} {b : Bool} (h : ¬ (Rd.digAt s q b = true ∧ n + u * ((Rd.byte s q : Int) - 48) ≤ most)) : Rd.pairStep s most u (n, q, b) = (n, q, false) := by
  unfold Rd.pairStep; rw [if_neg h]
theorem pairStep_yes {s : ByteArray} {most u n : Int} {q : Nat} {b : Bool} (h : Rd.digAt s q b = true ∧ n + u * ((Rd.byte s q : Int) - 48) ≤ most) : Rd.pairStep s most u (n, q, b) = (n + u * ((Rd.byte s q : Int) - 48), q + 1, true) := by
  unfold Rd.pairStep; rw [if_pos h]

set_option maxHeartbeats 2000000 in
set_option maxRecDepth 100000 in
theorem pair_any {B : Nat} {s : ByteArray} {p : Nat} {ok : Bool} (most : Int) (w : World) (h : IsRd w B s p ok) (hs : s.size ≤ 9223372036854775807) :
    Calls Tryd.prog 41 #[.int .i64 most, pt (B + 4), pt B, pt (B + 2), pt (B + 3), pt (B + 5)] w fun e w' =>
      e = .returned (.int .i64 (Rd.pairAt s most p ok).1) ∧ IsRd w' B s (Rd.pairAt s most p ok).2.1 (Rd.pairAt s most p ok).2.2 ∧ Kp B w w' := by
  have hsz := h.size
  have h0 := Lib.hid ((Below.refl w.heap.size w).alloc (Nat.le_refl _) (.cells #[.int .i64 10, .int .i64 1] 3))
  have h' := Lib.hid (h.kept h0.out)
  clear h
  unfold pt
  go_enter Tryd.func41, Tryd.ntmps41
  go_wp2_with fail
  go_loopw [8, 13] (fun nv iv wr => ∃ (n : Int) (i q : Nat) (b : Bool), nv = .int .i64 n ∧ iv = .int .i64 i ∧ i ≤ 2 ∧ 0 ≤ n ∧ n ≤ 90 * i ∧ IsRd wr B s q b ∧ Kp B w wr ∧
      wr.cell? ⟨w.heap.size, 0, none⟩ = some (.int .i64 10) ∧ wr.cell? ⟨w.heap.size, 1, none⟩ = some (.int .i64 1) ∧ PairTo s most p ok i (n, q, b)) (fun _ iv _ => 2 - (intOf iv).toNat)
  case atStart => exact ⟨0, 0, p, ok, rfl, rfl, by omega, by omega, by omega, h'.out, Kp.of_below h0.out, by rw [World.cell?_alloc_at _ _ _ _ rfl]; rfl, by rw [World.cell?_alloc_at _ _ _ _ rfl]; rfl, PairTo.start s most p ok⟩
  case round =>
    obtain ⟨n, i, q, b, rfl, rfl, hi, hn0, hn1, hR, hK, u0, u1, hE⟩ := hrel
    have HR := Lib.hid hR
    have HK := Lib.hid hK
    have HE := Lib.hid hE
    have U0 := Lib.hid u0
    have U1 := Lib.hid u1
    obtain ⟨_, c0, c2, cf2, c3, cf3, cd, ct⟩ := hR
    unfold digF pt at cd
    unfold takeF pt at ct
    clear hK hE h' h0
    by_cases h2 : i = 2
    · subst h2
      have hz := Lib.hid (HE.out.2.2 rfl)
      go_wp2
      go_ret
      rw [← hz.out]
      exact ⟨rfl, HR.out, HK.out⟩
    by_cases h1 : i = 1
    · subst h1
      go_wp2_with fail
      refine (digit_any wr HR.out).mono ?_
      rintro e w1 ⟨rfl, rfl⟩
      cases hdg : Rd.digAt s q b
      · skip
        have HZ := Lib.hid (pairStep_no (s := s) (most := most) (u := 1) (n := n) (q := q) (b := b) (by simp [hdg])).symm
        clear hdg
        go_wp2
        go_roundw
        case rel =>
          exact ⟨n, 2, q, false, rfl, by go_num, by omega, by omega, by omega, HR.out.setOk false, HK.out.setOk _, by rw [cell_set_far (by omega)]; exact U0.out, by rw [cell_set_far (by omega)]; exact U1.out, HE.out.step (.inr ⟨rfl, HZ.out⟩)⟩
        case measure => simp [intOf]
      · obtain ⟨hok, hq, hb0, hb1⟩ := Rd.digAt_true hdg
        subst hok
        have HD := Lib.hid hdg
        have e1 := Rd.byte_lt hq
        have He1 := Lib.hid e1
        rw [e1] at hb0 hb1
        clear hdg e1
        by_cases hm : n + ((s[q].toNat : Int) - 48) ≤ most
        · have t3 : decide (n + ((s[q].toNat : Int) - 48) ≤ most) = true := by simpa using hm
          have HZ := Lib.hid (pairStep_yes (s := s) (most := most) (u := 1) (n := n) (q := q) (b := true) ⟨HD.out, by rw [He1.out]; omega⟩).symm
          clear hm
          go_wp2_with fail
          have hR2 := HR.out.setOk true
          have hK2 := HK.out.setOk (.bool true)
          have v0 : (wr.setCell ⟨B + 3, 0, none⟩ (.bool true)).cell? ⟨w.heap.size, 0, none⟩ = some (.int .i64 10) := by rw [cell_set_far (by omega)]; exact U0.out
          have v1 : (wr.setCell ⟨B + 3, 0, none⟩ (.bool true)).cell? ⟨w.heap.size, 1, none⟩ = some (.int .i64 1) := by rw [cell_set_far (by omega)]; exact U1.out
          generalize wr.setCell ⟨B + 3, 0, none⟩ (.bool true) = w2 at hR2 hK2 v0 v1 ⊢
          refine (take_any w2 hR2 hs hq (by rw [He1.out]; exact hb0)).mono ?_
          rintro e w1 ⟨rfl, hR1, hK1⟩
          rw [He1.out]
          have HR1 := Lib.hid hR1
          have HK1 := Lib.hid (hK2.trans hK1)
          have V0 := Lib.hid (IsRd.of_kp hK1 v0 (by omega) (by omega))
          have V1 := Lib.hid (IsRd.of_kp hK1 v1 (by omega) (by omega))
          clear hR1 hK1 hR2 hK2 v0 v1 c0 c2 cf2 c3 cf3 cd ct u0 u1
          go_wp2
          go_roundw
          case rel =>
            refine ⟨_, 2, q + 1, true, rfl, by go_num, by omega, by omega, by omega, HR1.out, HK1.out, V0.out, V1.out, HE.out.step ?_⟩
            rw [← He1.out]
            have HZ' := HZ.out
            rw [Int.one_mul] at HZ'; exact .inr ⟨rfl, HZ'⟩
          case measure => simp [intOf]
        · have t3 : decide (n + ((s[q].toNat : Int) - 48) ≤ most) = false := by simpa using hm
          have HZ := Lib.hid (pairStep_no (s := s) (most := most) (u := 1) (n := n) (q := q) (b := true) (by rw [He1.out]; omega)).symm
          go_wp2
          go_roundw
          case rel =>
            exact ⟨n, 2, q, false, rfl, by go_num, by omega, by omega, by omega, HR.out.setOk false, HK.out.setOk _, by rw [cell_set_far (by omega)]; exact U0.out, by rw [cell_set_far (by omega)]; exact U1.out, HE.out.step (.inr ⟨rfl, HZ.out⟩)⟩
          case measure => simp [intOf]
    · obtain rfl : i = 0 := by omega
      go_wp2_with fail
      refine (digit_any wr HR.out).mono ?_
      rintro e w1 ⟨rfl, rfl⟩
      cases hdg : Rd.digAt s q b
      · skip
        have HZ := Lib.hid (pairStep_no (s := s) (most := most) (u := 10) (n := n) (q := q) (b := b) (by simp [hdg])).symm
        clear hdg
        go_wp2
        go_roundw
        case rel =>
          exact ⟨n, 1, q, false, rfl, by go_num, by omega, by omega, by omega, HR.out.setOk false, HK.out.setOk _, by rw [cell_set_far (by omega)]; exact U0.out, by rw [cell_set_far (by omega)]; exact U1.out, HE.out.step (.inl ⟨rfl, HZ.out⟩)⟩
        case measure => simp [intOf]
      · obtain ⟨hok, hq, hb0, hb1⟩ := Rd.digAt_true hdg
        subst hok
        have HD := Lib.hid hdg
        have e1 := Rd.byte_lt hq
        have He1 := Lib.hid e1
        rw [e1] at hb0 hb1
        clear hdg e1
        by_cases hm : n + 10 * ((s[q].toNat : Int) - 48) ≤ most
        · have t3 : decide (n + 10 * ((s[q].toNat : Int) - 48) ≤ most) = true := by simpa using hm
          have HZ := Lib.hid (pairStep_yes (s := s) (most := most) (u := 10) (n := n) (q := q) (b := true) ⟨HD.out, by rw [He1.out]; omega⟩).symm
          clear hm
          go_wp2_with fail
          have hR2 := HR.out.setOk true
          have hK2 := HK.out.setOk (.bool true)
          have v0 : (wr.setCell ⟨B + 3, 0, none⟩ (.bool true)).cell? ⟨w.heap.size, 0, none⟩ = some (.int .i64 10) := by rw [cell_set_far (by omega)]; exact U0.out
          have v1 : (wr.setCell ⟨B + 3, 0, none⟩ (.bool true)).cell? ⟨w.heap.size, 1, none⟩ = some (.int .i64 1) := by rw [cell_set_far (by omega)]; exact U1.out
          generalize wr.setCell ⟨B + 3, 0, none⟩ (.bool true) = w2 at hR2 hK2 v0 v1 ⊢
          refine (take_any w2 hR2 hs hq (by rw [He1.out]; exact hb0)).mono ?_
          rintro e w1 ⟨rfl, hR1, hK1⟩
          rw [He1.out]
          have HR1 := Lib.hid hR1
          have HK1 := Lib.hid (hK2.trans hK1)
          have V0 := Lib.hid (IsRd.of_kp hK1 v0 (by omega) (by omega))
          have V1 := Lib.hid (IsRd.of_kp hK1 v1 (by omega) (by omega))
          clear hR1 hK1 hR2 hK2 v0 v1 c0 c2 cf2 c3 cf3 cd ct u0 u1
          go_wp2
          go_roundw
          case rel =>
            refine ⟨_, 1, q + 1, true, rfl, by go_num, by omega, by omega, by omega, HR1.out, HK1.out, V0.out, V1.out, HE.out.step ?_⟩
            rw [← He1.out]
            have HZ' := HZ.out
            exact .inl ⟨rfl, HZ'⟩
          case measure => simp [intOf]
        · have t3 : decide (n + 10 * ((s[q].toNat : Int) - 48) ≤ most) = false := by simpa using hm
          have HZ := Lib.hid (pairStep_no (s := s) (most := most) (u := 10) (n := n) (q := q) (b := true) (by rw [He1.out]; omega)).symm
          go_wp2
          go_roundw
          case rel =>
            exact ⟨n, 1, q, false, rfl, by go_num, by omega, by omega, by omega, HR.out.setOk false, HK.out.setOk _, by rw [cell_set_far (by omega)]; exact U0.out, by rw [cell_set_far (by omega)]; exact U1.out, HE.out.step (.inl ⟨rfl, HZ.out⟩)⟩
          case measure => simp [intOf]
end Go.Proofs.YthimnjegacdhaaaDoor

/- Forms of durations. -/
namespace Go.Proofs.YthimnjegacdhaaaDoor
open Go.RowKit Go.BigFrame

def FormOk (f : FuncId) (F : ByteArray → Int × Nat × Bool) : Prop := ∀ (B : Nat) (s : ByteArray) (w : World), IsRd w B s 0 true → s.size ≤ 1000 →
  Calls Tryd.prog f #[.agg (rdVals B)] w fun e w' => e = .returned (.int .i64 (F s).1) ∧ IsRd w' B s (F s).2.1 (F s).2.2 ∧ Kp B w w'
theorem cell_box {w : World} {vs : Array Value} {T : TypeId} (j : Nat) (v : Value) (h : vs[j]? = some v) : (w.alloc (.cells vs T)).cell? ⟨w.heap.size, j, none⟩ = some v := by
  rw [World.cell?_alloc_at _ _ _ _ rfl]; exact h
theorem IsRd.boxed {w : World} {B : Nat} {s : ByteArray} {p : Nat} {ok : Bool} (h : IsRd w B s p ok) (o : Obj) : IsRd (w.alloc o) B s p ok := h.kept ((Below.refl _ _).alloc (Nat.le_refl _) o)

def numF (B : Nat) : Value := .func (.func 39) #[] #[.pointer (some ⟨B + 4, 0, none⟩), .pointer (some ⟨B, 0, none⟩), .pointer (some ⟨B + 2, 0, none⟩), .pointer (some ⟨B + 5, 0, none⟩), .pointer (some ⟨B + 3, 0, none⟩)]
def pairF (B : Nat) : Value := .func (.func 41) #[] #[.pointer (some ⟨B + 4, 0, none⟩), .pointer (some ⟨B, 0, none⟩), .pointer (some ⟨B + 2, 0, none⟩), .pointer (some ⟨B + 3, 0, none⟩), .pointer (some ⟨B + 5, 0, none⟩)]
def exactF (B : Nat) : Value := .func (.func 42) #[] #[.pointer (some ⟨B + 3, 0, none⟩), .pointer (some ⟨B + 2, 0, none⟩), .pointer (some ⟨B, 0, none⟩)]
def oneF (B : Nat) : Value := .func (.func 43) #[] #[.pointer (some ⟨B + 3, 0, none⟩), .pointer (some ⟨B + 2, 0, none⟩), .pointer (some ⟨B, 0, none⟩)]
def digF' (B : Nat) : Value := .func (.func 36) #[] #[.pointer (some ⟨B + 3, 0, none⟩), .pointer (some ⟨B + 2, 0, none⟩), .pointer (some ⟨B, 0, none⟩)]
def placeF (B : Nat) : Value := .func (.func 49) #[] #[.pointer (some ⟨B + 2, 0, none⟩), .pointer (some ⟨B + 3, 0, none⟩), .pointer (some ⟨B, 0, none⟩)]
/-- a variable of type reader, in block C -/
structure IsBox (w : World) (C B : Nat) : Prop where
  num : w.cell? ⟨C, 0, none⟩ = some (numF B)
  pair : w.cell? ⟨C, 2, none⟩ = some (pairF B)
  exact_ : w.cell? ⟨C, 3, none⟩ = some (exactF B)
  one : w.cell? ⟨C, 4, none⟩ = some (oneF B)
  dig : w.cell? ⟨C, 7, none⟩ = some (digF' B)
  place : w.cell? ⟨C, 8, none⟩ = some (placeF B)
theorem isBox_new (w : World) (B : Nat) (T : TypeId) : IsBox (w.alloc (.cells (rdVals B) T)) w.heap.size B :=
  ⟨cell_box 0 _ rfl, cell_box 2 _ rfl, cell_box 3 _ rfl, cell_box 4 _ rfl, cell_box 7 _ rfl, cell_box 8 _ rfl⟩
theorem IsBox.kp {w w' : World} {C B : Nat} (h : IsBox w C B) (hk : Kp B w w') (hC : B + 4 ≤ C) : IsBox w' C B :=
  ⟨IsRd.of_kp hk h.num (by omega) (by omega), IsRd.of_kp hk h.pair (by omega) (by omega), IsRd.of_kp hk h.exact_ (by omega) (by omega), IsRd.of_kp hk h.one (by omega) (by omega), IsRd.of_kp hk h.dig (by omega) (by omega), IsRd.of_kp hk h.place (by omega) (by omega)⟩

set_option maxHeartbeats 1000000 in
set_option maxRecDepth 100000 in
theorem short_form : FormOk 13 Rd.shortF := by
  intro B s w h hs
  have hsz := h.size
  have hR0 := h.boxed (.cells (rdVals B) 40)
  have hK0 := (Kp.refl B w).alloc (.cells (rdVals B) 40)
  have hX := isBox_new w B 40
  have HX := Lib.hid hX
  have k0 := hX.num
  unfold numF at k0
  clear hX
  have hnum := Lib.hid (fun w (h : IsRd w B s 0 true) => number_any 2 0 59 w h (by omega) (by omega))
  generalize hm : Rd.numAt s 2 0 59 true 0 = m at hnum
  have hv : 0 ≤ m.1 ∧ m.1 ≤ 59 := by
    have := Rd.numLoop_val s 2 0 59 true 2 0 0 0 (by omega) (by omega)
    rw [← hm]; unfold Rd.numAt; omega
  have hex := Lib.hid (fun w (h : IsRd w B s m.2.2 (Rd.numOk 0 true m)) => exact_any Rd.colon w h (by omega) (by decide))
  generalize hc : Rd.exactAt s Rd.colon m.2.2 (Rd.numOk 0 true m) = c at hex
  have hpr := Lib.hid (fun w (h : IsRd w B s c.1 c.2) => pair_any 59 w h (by omega))
  have hx := Rd.pairAt_val s (most := 59) c.1 c.2 (by omega)
  generalize hxx : Rd.pairAt s 59 c.1 c.2 = x at hpr hx
  have hF : Rd.shortF s = (60 * m.1 + x.1, x.2.1, x.2.2) := by unfold Rd.shortF; simp only [hm, hc, hxx]
  rw [hF]
  have v0 := hv.1
  have v1 := hv.2
  have x0 := hx.1
  have x1 := hx.2
  clear hF hm hc hxx hv hx
  generalize hn1 : m.1 = mv at *
  generalize hn2 : x.1 = xv at *
  have hK0' := Lib.hid hK0
  have hR0' := Lib.hid hR0
  clear hK0 hR0 h hn1 hn2
  go_enter Tryd.func13, Tryd.ntmps13
  go_wp2_with fail
  refine (hnum.out _ hR0'.out).mono ?_
  rintro e w1 ⟨rfl, hR1, hK1⟩
  have HX1 := Lib.hid (HX.out.kp hK1 (by omega))
  have k3 := HX1.out.exact_
  unfold exactF at k3
  have HR1 := Lib.hid hR1
  have HK1 := Lib.hid (hK0'.out.trans hK1)
  clear hR1 hK1 k0 HX
  go_wp2_with fail
  refine (hex.out _ HR1.out).mono ?_
  rintro e w2 ⟨rfl, hR2, hK2⟩
  have HX2 := Lib.hid (HX1.out.kp hK2 (by omega))
  have k2 := HX2.out.pair
  unfold pairF at k2
  have HR2 := Lib.hid hR2
  have HK2 := Lib.hid (HK1.out.trans hK2)
  clear hR2 hK2 k3 HX1
  go_wp2_with fail
  refine (hpr.out _ HR2.out).mono ?_
  rintro e w3 ⟨rfl, hR3, hK3⟩
  have HR3 := Lib.hid hR3
  have HK3 := Lib.hid (HK2.out.trans hK3)
  clear hR3 hK3 k2
  go_wp2
  go_ret
  exact ⟨rfl, HR3.out, HK3.out⟩
end Go.Proofs.YthimnjegacdhaaaDoor

/- The long form of durations. -/
namespace Go.Proofs.YthimnjegacdhaaaDoor
open Go.RowKit Go.BigFrame

set_option maxHeartbeats 2000000 in
set_option maxRecDepth 100000 in
theorem long_form : FormOk 14 Rd.longF := by
  intro B s w h hs
  have hsz := h.size
  have hR0 := h.boxed (.cells (rdVals B) 40)
  have hK0 := (Kp.refl B w).alloc (.cells (rdVals B) 40)
  have hX := isBox_new w B 40
  have HX := Lib.hid hX
  have k0 := hX.num
  unfold numF at k0
  clear hX
  have hnum := Lib.hid (fun w (h : IsRd w B s 0 true) => number_any 3 1 999 w h (by omega) (by omega))
  have hv := Rd.numLoop_val s 3 1 999 true 3 0 0 0 (by omega) (by omega)
  rw [show Rd.numLoop s 3 1 999 true 3 0 0 0 = Rd.numAt s 3 1 999 true 0 from rfl] at hv
  generalize hh : Rd.numAt s 3 1 999 true 0 = h1 at hnum hv
  have hex := Lib.hid (fun w (h : IsRd w B s h1.2.2 (Rd.numOk 1 true h1)) => exact_any Rd.colon w h (by omega) (by decide))
  generalize hc : Rd.exactAt s Rd.colon h1.2.2 (Rd.numOk 1 true h1) = c at hex
  have hpr := Lib.hid (fun w (h : IsRd w B s c.1 c.2) => pair_any 59 w h (by omega))
  have hy := Rd.pairAt_val s (most := 59) c.1 c.2 (by omega)
  generalize hm : Rd.pairAt s 59 c.1 c.2 = m at hpr hy
  have hex2 := Lib.hid (fun w (h : IsRd w B s m.2.1 m.2.2) => exact_any Rd.colon w h (by omega) (by decide))
  generalize hd : Rd.exactAt s Rd.colon m.2.1 m.2.2 = d at hex2
  have hpr2 := Lib.hid (fun w (h : IsRd w B s d.1 d.2) => pair_any 59 w h (by omega))
  have hx := Rd.pairAt_val s (most := 59) d.1 d.2 (by omega)
  generalize hxx : Rd.pairAt s 59 d.1 d.2 = x at hpr2 hx
  have hF : Rd.longF s = (3600 * h1.1 + 60 * m.1 + x.1, x.2.1, x.2.2) := by unfold Rd.longF; simp only [hh, hc, hm, hd, hxx]
  rw [hF]
  have v0 := hv.1
  have v1 : h1.1 ≤ 999 := by omega
  have y0 := hy.1
  have y1 := hy.2
  have x0 := hx.1
  have x1 := hx.2
  clear hF hh hc hm hd hxx hv hx hy
  generalize hn1 : h1.1 = hv at *
  generalize hn2 : x.1 = xv at *
  generalize hn3 : m.1 = mv at *
  have hK0' := Lib.hid hK0
  have hR0' := Lib.hid hR0
  clear hK0 hR0 h hn1 hn2 hn3
  go_enter Tryd.func14, Tryd.ntmps14
  go_wp2_with fail
  refine (hnum.out _ hR0'.out).mono ?_
  rintro e w1 ⟨rfl, hR1, hK1⟩
  have HX1 := Lib.hid (HX.out.kp hK1 (by omega))
  have k3 := HX1.out.exact_
  unfold exactF at k3
  have HR1 := Lib.hid hR1
  have HK1 := Lib.hid (hK0'.out.trans hK1)
  clear hR1 hK1 k0 HX
  go_wp2_with fail
  refine (hex.out _ HR1.out).mono ?_
  rintro e w2 ⟨rfl, hR2, hK2⟩
  have HX2 := Lib.hid (HX1.out.kp hK2 (by omega))
  have k2 := HX2.out.pair
  unfold pairF at k2
  have HR2 := Lib.hid hR2
  have HK2 := Lib.hid (HK1.out.trans hK2)
  clear hR2 hK2 k3 HX1
  go_wp2_with fail
  refine (hpr.out _ HR2.out).mono ?_
  rintro e w3 ⟨rfl, hR3, hK3⟩
  have HX3 := Lib.hid (HX2.out.kp hK3 (by omega))
  have k3 := HX3.out.exact_
  unfold exactF at k3
  have HR3 := Lib.hid hR3
  have HK3 := Lib.hid (HK2.out.trans hK3)
  clear hR3 hK3 k2 HX2
  go_wp2_with fail
  refine (hex2.out _ HR3.out).mono ?_
  rintro e w4 ⟨rfl, hR4, hK4⟩
  have HX4 := Lib.hid (HX3.out.kp hK4 (by omega))
  have k2 := HX4.out.pair
  unfold pairF at k2
  have HR4 := Lib.hid hR4
  have HK4 := Lib.hid (HK3.out.trans hK4)
  clear hR4 hK4 k3 HX3
  go_wp2_with fail
  refine (hpr2.out _ HR4.out).mono ?_
  rintro e w5 ⟨rfl, hR5, hK5⟩
  have HR5 := Lib.hid hR5
  have HK5 := Lib.hid (HK4.out.trans hK5)
  clear hR5 hK5 k2
  go_wp2
  go_ret
  exact ⟨rfl, HR5.out, HK5.out⟩
end Go.Proofs.YthimnjegacdhaaaDoor

/- readForms, ranged. -/
namespace Go.Proofs.YthimnjegacdhaaaDoor
open Go.RowKit Go.BigFrame

theorem ranged_any (n e lo hi : Int) (a : Nat) (w : World) : Calls Tryd.prog 17 #[.int .i64 n, .int .i64 a, .int .i64 e, .int .i64 lo, .int .i64 hi] w fun r w' =>
    r = .returned (.tuple #[.int .i64 (Rd.ranged (n, a, e) lo hi).1, .int .i64 (Rd.ranged (n, a, e) lo hi).2.1, .int .i64 (Rd.ranged (n, a, e) lo hi).2.2]) ∧ w = w' := by
  cases h0 : (e == 0)
  · have hz : Rd.ranged (n, a, e) lo hi = (n, a, e) := by unfold Rd.ranged; rw [if_neg]; simp only [beq_eq_false_iff_ne] at h0; exact fun h => h0 h.1
    rw [hz]
    clear hz
    go_enter Tryd.func17, Tryd.ntmps17
    go_wp2
    go_ret3
    exact ⟨rfl, rfl⟩
  · have he : e = 0 := by simpa using h0
    subst he
    clear h0
    by_cases h1 : n < lo
    · have hz : Rd.ranged (n, a, 0) lo hi = (0, 0, 9) := by unfold Rd.ranged; rw [if_pos]; exact ⟨rfl, .inl h1⟩
      rw [hz]
      have t1 : decide (n < lo) = true := by simpa using h1
      clear hz h1
      go_enter Tryd.func17, Tryd.ntmps17
      go_wp2
      go_ret3
      exact ⟨rfl, rfl⟩
    · have t1 : decide (n < lo) = false := by simpa using h1
      by_cases h2 : hi < n
      · have hz : Rd.ranged (n, a, 0) lo hi = (0, 0, 9) := by unfold Rd.ranged; rw [if_pos]; exact ⟨rfl, .inr h2⟩
        rw [hz]
        have t2 : decide (hi < n) = true := by simpa using h2
        clear hz h1 h2
        go_enter Tryd.func17, Tryd.ntmps17
        go_wp2
        go_ret3
        exact ⟨rfl, rfl⟩
      · have hz : Rd.ranged (n, a, 0) lo hi = (n, a, 0) := by unfold Rd.ranged; rw [if_neg]; intro h; rcases h.2 with h | h; exact h1 h; exact h2 h
        rw [hz]
        have t2 : decide (hi < n) = false := by simpa using h2
        clear hz h1 h2
        go_enter Tryd.func17, Tryd.ntmps17
        go_wp2
        go_ret3
        exact ⟨rfl, rfl⟩

structure IsForm (f : FuncId) (F : ByteArray → Int × Nat × Bool) : Prop where
  enter : ∀ args w, Sem.run Tryd.prog (callFunc f args) w = .ok (.enter f args) w
  ok : FormOk f F
/-- a slice of forms in memory, without captured variables -/
def Forms (w : World) (R : Nat) : List FuncId → Nat → Prop
  | [], _ => True
  | f :: l, j => w.cell? ⟨R, j, none⟩ = some (.func (.func f) #[] #[]) ∧ Forms w R l (j + 1)

set_option maxHeartbeats 2000000 in
set_option maxRecDepth 100000 in
theorem readForms_any (s : ByteArray) (w : World) (R n : Nat) (fs : Nat → FuncId) (Fs : Nat → ByteArray → Int × Nat × Bool) (hn : n ≤ 100) (hR : R < w.heap.size)
    (hf : ∀ j, j < n → w.cell? ⟨R, j, none⟩ = some (.func (.func (fs j)) #[] #[])) (hF : ∀ j, j < n → IsForm (fs j) (Fs j)) (hs : s.size ≤ 9223372036854775807) (z : Int × Nat × Int)
    (hz : Rd.readForms s ((List.range n).map Fs) = z) :
    Calls Tryd.prog 15 #[.string s, .slice (some ⟨R, 0, none⟩) n n] w fun r w' =>
      r = .returned (.tuple #[.int .i64 z.1, .int .i64 z.2.1, .int .i64 z.2.2]) ∧ Below w.heap.size w w' := by
  have Hf := Lib.hid hf
  have HF := Lib.hid hF
  have Hz := Lib.hid hz
  clear hf hF hz
  by_cases h1 : 1000 < s.size
  · have t1 : decide ((1000 : Int) < (s.size : Int)) = true := by rw [decide_eq_true_eq]; omega
    have hzz : z = (0, 0, 3) := by rw [← Hz.out]; unfold Rd.readForms; rw [if_pos h1]
    subst hzz
    clear h1
    go_enter Tryd.func15, Tryd.ntmps15
    go_wp2_with fail
    go_ret3
    exact ⟨rfl, Below.refl _ _⟩
  · have t1 : decide ((1000 : Int) < (s.size : Int)) = false := by rw [decide_eq_false_iff_not]; omega
    have hsz : (s.size : Int) ≤ 1000 := by omega
    have hst := Lib.hid (show Rd.formsLoop s ((List.range n).map Fs) 0 = z by rw [← Hz.out]; unfold Rd.readForms; rw [if_neg h1])
    clear h1
    go_enter Tryd.func15, Tryd.ntmps15
    go_wp2_with fail
    go_loopw [5, 18] (fun av iv wr => ∃ (a i : Nat), av = .int .i64 a ∧ iv = .int .i64 i ∧ i ≤ n ∧ Below w.heap.size w wr ∧ Rd.formsLoop s (((List.range n).map Fs).drop i) a = z) (fun _ iv _ => n - (intOf iv).toNat)
    case atStart => exact ⟨0, 0, rfl, rfl, by omega, Below.refl _ _, hst.out⟩
    case round =>
      obtain ⟨a, i, rfl, rfl, hi, hb, hl⟩ := hrel
      have HB := Lib.hid hb
      have HL := Lib.hid hl
      have hbs := hb.size
      clear hb hl hst
      by_cases hin : i < n
      · have t2 : decide ((i : Int) < (n : Int)) = true := by rw [decide_eq_true_eq]; omega
        have hcf := (HF.out i hin).enter
        have c0 := (HB.out.cell (p := ⟨R, i, none⟩) hR).trans (Hf.out i hin)
        have hrd := Lib.hid (readerOf_any s wr)
        go_wp2_with fail
        refine hrd.out.mono ?_
        rintro e w1 ⟨rfl, hR1, hb1⟩
        unfold rdVals digF pt
        have hb1s := hb1.size
        have h6 := hR1.size
        have HR1 := Lib.hid (hR1.boxed (.cells (rdVals wr.heap.size) 40))
        have HX1 := Lib.hid (isBox_new w1 wr.heap.size 40)
        have HB1 := Lib.hid ((HB.out.trans (hb1.mono hbs)).alloc (by omega) (.cells (rdVals wr.heap.size) 40))
        clear hb1 hR1
        go_wp2_with fail
        change Calls Tryd.prog (fs i) #[.agg (rdVals wr.heap.size)] (w1.alloc (.cells (rdVals wr.heap.size) 40)) _
        refine ((HF.out i hin).ok wr.heap.size s _ HR1.out (by omega)).mono ?_
        rintro e w2 ⟨rfl, hR2, hK2⟩
        have HX2 := Lib.hid (HX1.out.kp hK2 (by omega))
        have hk2s := hK2.size
        have HB2 := Lib.hid (HB1.out.trans (hK2.below (C := w.heap.size) (by omega) (by simp; omega)))
        have HR2 := Lib.hid hR2
        have k8 := HX2.out.place
        unfold placeF at k8
        have hpl := Lib.hid (place_any w2 hR2)
        have hcons : (((List.range n).map Fs).drop i) = Fs i :: (((List.range n).map Fs).drop (i + 1)) := by
          rw [List.drop_eq_getElem_cons (by simpa using hin)]
          simp
        have hL := HL.out
        rw [hcons, Rd.formsLoop] at hL
        have HL' := Lib.hid hL
        clear hR2 hK2 hL hcons HL
        generalize Fs i s = F at HL' HR2 hpl ⊢
        go_wp2_with fail
        refine hpl.out.mono ?_
        rintro e w3 ⟨rfl, nd, rfl⟩
        have HB3 := Lib.hid (below_drewN HB2.out nd)
        clear k8 hpl
        cases hw : (F.2.2 && decide (F.2.1 = s.size))
        · have hL := HL'.out
          rw [hw, if_neg (by simp)] at hL
          have HL2 := Lib.hid hL
          clear hL HL' hw
          go_wp2
          go_roundw
          case rel => exact ⟨max a F.2.1, i + 1, congrArg (Value.int .i64) (by omega), by go_num, by omega, HB3.out, HL2.out⟩
          case measure => simp [intOf]; omega
        · have hL := HL'.out
          rw [hw, if_pos rfl] at hL
          subst hL
          clear HL' hw
          go_wp2
          go_ret3
          exact ⟨rfl, HB3.out⟩
      · have t2 : decide (i < n) = false := by simpa using hin
        have hL := HL.out
        rw [List.drop_of_length_le (by simp; omega), Rd.formsLoop] at hL
        subst hL
        clear HL hin
        go_wp2
        go_ret3
        exact ⟨rfl, HB.out⟩
end Go.Proofs.YthimnjegacdhaaaDoor

/- Durations with letters. -/
namespace Go.Proofs.YthimnjegacdhaaaDoor
open Go.RowKit Go.BigFrame

def strLen : Value → Nat | .string t => t.size | _ => 0
theorem lets_size {m : Nat} (h : m ≤ 3) : (Rd.lets m).size = m := by
  rcases (show m = 0 ∨ m = 1 ∨ m = 2 ∨ m = 3 by omega) with rfl | rfl | rfl | rfl <;> rfl
theorem sum_bound {v u : Int} (h0 : 0 ≤ v) (h1 : v ≤ 9999999) (hu : u = 3600 ∨ u = 60 ∨ u = 1) : 0 ≤ v * u ∧ v * u ≤ 36000000000 := by
  rcases hu with rfl | rfl | rfl <;> omega

set_option maxHeartbeats 4000000 in
set_option maxRecDepth 100000 in
theorem lettered_form : FormOk 16 Rd.letteredF := by
  intro B s w h hs
  have hsz := h.size
  have hb0 := ((Below.refl w.heap.size w).alloc (Nat.le_refl _) (.cells (rdVals B) 40)).alloc (by simp) (.cells #[.int .i64 3600, .int .i64 60, .int .i64 1] 3)
  have hR0 := Lib.hid (h.kept hb0)
  have hK0 := Lib.hid (Kp.of_below (B := B) hb0)
  have hX0 := Lib.hid ((isBox_new w B 40).kp (Kp.of_below (B := B) ((Below.refl _ _).alloc (Nat.le_refl _) (.cells #[.int .i64 3600, .int .i64 60, .int .i64 1] 3))) (by omega))
  obtain ⟨z, hz⟩ : ∃ z, z = Rd.letteredF s := ⟨_, rfl⟩
  rw [← hz]
  have Hz := Lib.hid (hz.symm : Rd.lettLoop s 3 3 0 0 true = z)
  clear h hb0 hz
  go_enter Tryd.func16, Tryd.ntmps16
  go_wp2_with fail
  go_loopw [3, 5] (fun sv lv wr => ∃ (sum : Int) (m f p : Nat) (ok : Bool), sv = .int .i64 sum ∧ lv = .string (Rd.lets m) ∧ m ≤ 3 ∧ m ≤ f ∧ 0 ≤ sum ∧ sum ≤ 36000000000 * (3 - m) ∧ IsRd wr B s p ok ∧ IsBox wr w.heap.size B ∧ Kp B w wr ∧
      wr.cell? ⟨w.heap.size + 1, 0, none⟩ = some (.int .i64 3600) ∧ wr.cell? ⟨w.heap.size + 1, 1, none⟩ = some (.int .i64 60) ∧ wr.cell? ⟨w.heap.size + 1, 2, none⟩ = some (.int .i64 1) ∧ Rd.lettLoop s f m sum p ok = z) (fun _ lv _ => strLen lv)
  case atStart =>
    exact ⟨0, 3, 3, 0, true, rfl, rfl, by omega, by omega, by omega, by omega, hR0.out, hX0.out, hK0.out, by rw [World.cell?_alloc_at _ _ _ _ (by simp)]; rfl, by rw [World.cell?_alloc_at _ _ _ _ (by simp)]; rfl, by rw [World.cell?_alloc_at _ _ _ _ (by simp)]; rfl, Hz.out⟩
  case round =>
    obtain ⟨sum, m, f, p, ok, rfl, rfl, hm, hf, hs0, hs1, hR, hX, hK, u0, u1, u2, hL⟩ := hrel
    have HR := Lib.hid hR
    have HX := Lib.hid hX
    have HK := Lib.hid hK
    have HL := Lib.hid hL
    have k0 := hX.num
    unfold numF at k0
    clear hR hX hK hL Hz hR0 hX0 hK0
    by_cases hm0 : m = 0
    · subst hm0
      have hL := HL.out
      rw [Rd.lettLoop_end] at hL
      subst hL
      unfold Rd.lets
      clear HL
      go_wp2
      go_ret
      exact ⟨rfl, HR.out, HK.out⟩
    · have hne : (!(Rd.lets m).toList.isEmpty) = true := by
        rcases (show m = 1 ∨ m = 2 ∨ m = 3 by omega) with rfl | rfl | rfl <;> kernel_rfl
      have hne2 : (Rd.lets m).toList.isEmpty = false := by simpa using hne
      obtain ⟨f, rfl⟩ : ∃ g, f = g + 1 := ⟨f - 1, by omega⟩
      have hlm := lets_size hm
      have hnum := Lib.hid (number_any 7 0 9999999 wr HR.out (by omega) (by omega))
      have hv := Rd.numAt_val s 7 0 9999999 ok p (by omega)
      generalize hx : Rd.numAt s 7 0 9999999 ok p = x at hnum hv
      have hone := Lib.hid (fun w (h : IsRd w B s x.2.2 (Rd.numOk 0 ok x)) => one_any (Rd.lets m) w h (by omega))
      have hk := Rd.oneAt_lt s (Rd.lets m) x.2.2 (Rd.numOk 0 ok x)
      rw [hlm] at hk
      generalize hkk : Rd.oneAt s (Rd.lets m) x.2.2 (Rd.numOk 0 ok x) = k at hone hk
      have Hx := Lib.hid hx
      have Hk := Lib.hid hkk
      have v0 := hv.1
      have v1 := hv.2
      generalize hxv : x.1 = xv at v0 v1 hnum
      have Hxv := Lib.hid hxv
      generalize hkv : k.1 = kv at hk hone
      have Hkv := Lib.hid hkv
      clear hx hkk hv hlm hxv hkv
      go_wp2_with fail
      refine hnum.out.mono ?_
      rintro e w1 ⟨rfl, hR1, hK1⟩
      have HX1 := Lib.hid (HX.out.kp hK1 (by omega))
      have k4 := HX1.out.one
      unfold oneF at k4
      have HR1 := Lib.hid hR1
      have HK1 := Lib.hid (HK.out.trans hK1)
      have U0 := IsRd.of_kp hK1 u0 (by omega) (by omega)
      have U1 := IsRd.of_kp hK1 u1 (by omega) (by omega)
      have U2 := IsRd.of_kp hK1 u2 (by omega) (by omega)
      clear hR1 hK1 k0 HX u0 u1 u2 hnum
      go_wp2_with fail
      refine (hone.out _ HR1.out).mono ?_
      rintro e w2 ⟨rfl, hR2, hK2⟩
      have HX2 := Lib.hid (HX1.out.kp hK2 (by omega))
      have k7 := HX2.out.dig
      unfold digF' at k7
      have HR2 := Lib.hid hR2
      have HK2 := Lib.hid (HK1.out.trans hK2)
      have u0 := IsRd.of_kp hK2 U0 (by omega) (by omega)
      have u1 := IsRd.of_kp hK2 U1 (by omega) (by omega)
      have u2 := IsRd.of_kp hK2 U2 (by omega) (by omega)
      clear hR2 hK2 k4 HX1 U0 U1 U2 hone HR1 HK1 HR HK
      by_cases hkn : kv < 0
      · have t1 : decide (kv < 0) = true := by simpa using hkn
        have hL := HL.out
        rw [Rd.lettLoop_none hm0 Hx.out Hk.out (by rw [Hkv.out]; exact hkn)] at hL
        subst hL
        clear hk hkn HL
        go_wp2
        go_ret
        exact ⟨rfl, HR2.out, HK2.out⟩
      · have t1 : decide (kv < 0) = false := by simpa using hkn
        obtain ⟨kn, rfl⟩ := Int.eq_ofNat_of_zero_le (show 0 ≤ kv by omega)
        have hkm : kn < m := by omega
        have hdig := Lib.hid (digit_any w2 HR2.out)
        have h6 : (m = 1 ∧ kn = 0) ∨ (m = 2 ∧ kn = 0) ∨ (m = 2 ∧ kn = 1) ∨ (m = 3 ∧ kn = 0) ∨ (m = 3 ∧ kn = 1) ∨ (m = 3 ∧ kn = 2) := by omega
        cases hdg : Rd.digAt s k.2.1 k.2.2
        · have hL := HL.out
          rw [Rd.lettLoop_last hm0 Hx.out Hk.out (by rw [Hkv.out]; exact hkn) hdg, Hkv.out, Hxv.out] at hL
          rw [hdg] at hdig
          have HL2 := Lib.hid hL
          clear hL HL hdg hk hkn hkm
          rcases h6 with ⟨rfl, rfl⟩ | ⟨rfl, rfl⟩ | ⟨rfl, rfl⟩ | ⟨rfl, rfl⟩ | ⟨rfl, rfl⟩ | ⟨rfl, rfl⟩
          · have hb := sum_bound v0 v1 (u := 1) (by omega)
            clear hm0 hne hne2
            unfold Rd.lets
            go_wp2_with fail
            refine hdig.out.mono ?_
            rintro e w3 ⟨rfl, rfl⟩
            go_wp2
            go_ret
            rw [← HL2.out]
            refine ⟨ret_int ?_, HR2.out, HK2.out⟩
            show _ = sum + xv * 1
            omega
          · have hb := sum_bound v0 v1 (u := 60) (by omega)
            clear hm0 hne hne2
            unfold Rd.lets
            go_wp2_with fail
            refine hdig.out.mono ?_
            rintro e w3 ⟨rfl, rfl⟩
            go_wp2
            go_ret
            rw [← HL2.out]
            refine ⟨ret_int ?_, HR2.out, HK2.out⟩
            show _ = sum + xv * 60
            omega
          · have hb := sum_bound v0 v1 (u := 1) (by omega)
            clear hm0 hne hne2
            unfold Rd.lets
            go_wp2_with fail
            refine hdig.out.mono ?_
            rintro e w3 ⟨rfl, rfl⟩
            go_wp2
            go_ret
            rw [← HL2.out]
            refine ⟨ret_int ?_, HR2.out, HK2.out⟩
            show _ = sum + xv * 1
            omega
          · have hb := sum_bound v0 v1 (u := 3600) (by omega)
            clear hm0 hne hne2
            unfold Rd.lets
            go_wp2_with fail
            refine hdig.out.mono ?_
            rintro e w3 ⟨rfl, rfl⟩
            go_wp2
            go_ret
            rw [← HL2.out]
            refine ⟨ret_int ?_, HR2.out, HK2.out⟩
            show _ = sum + xv * 3600
            omega
          · have hb := sum_bound v0 v1 (u := 60) (by omega)
            clear hm0 hne hne2
            unfold Rd.lets
            go_wp2_with fail
            refine hdig.out.mono ?_
            rintro e w3 ⟨rfl, rfl⟩
            go_wp2
            go_ret
            rw [← HL2.out]
            refine ⟨ret_int ?_, HR2.out, HK2.out⟩
            show _ = sum + xv * 60
            omega
          · have hb := sum_bound v0 v1 (u := 1) (by omega)
            clear hm0 hne hne2
            unfold Rd.lets
            go_wp2_with fail
            refine hdig.out.mono ?_
            rintro e w3 ⟨rfl, rfl⟩
            go_wp2
            go_ret
            rw [← HL2.out]
            refine ⟨ret_int ?_, HR2.out, HK2.out⟩
            show _ = sum + xv * 1
            omega
        · have hL := HL.out
          rw [Rd.lettLoop_next hm0 Hx.out Hk.out (by rw [Hkv.out]; exact hkn) hdg, Hkv.out, Hxv.out] at hL
          rw [hdg] at hdig
          have HL2 := Lib.hid hL
          clear hL HL hdg hk hkn hkm
          rcases h6 with ⟨rfl, rfl⟩ | ⟨rfl, rfl⟩ | ⟨rfl, rfl⟩ | ⟨rfl, rfl⟩ | ⟨rfl, rfl⟩ | ⟨rfl, rfl⟩
          · have hb := sum_bound v0 v1 (u := 1) (by omega)
            clear hm0 hne hne2
            unfold Rd.lets
            go_wp2_with fail
            refine hdig.out.mono ?_
            rintro e w3 ⟨rfl, rfl⟩
            go_wp2
            go_roundw
            case rel =>
              refine ⟨sum + xv * 1, 0, f, k.2.1, k.2.2, ?_, ?_, by omega, by omega, by omega, by omega, HR2.out, HX2.out, HK2.out, u0, u1, u2, HL2.out⟩
              · exact congrArg (Value.int .i64) (by omega)
              · first | rfl | kernel_rfl
            case measure => first | (simp [strLen]; done) | decide | (show (_ : Nat) < _; kernel_rfl)
          · have hb := sum_bound v0 v1 (u := 60) (by omega)
            clear hm0 hne hne2
            unfold Rd.lets
            go_wp2_with fail
            refine hdig.out.mono ?_
            rintro e w3 ⟨rfl, rfl⟩
            go_wp2
            go_roundw
            case rel =>
              refine ⟨sum + xv * 60, 1, f, k.2.1, k.2.2, ?_, ?_, by omega, by omega, by omega, by omega, HR2.out, HX2.out, HK2.out, u0, u1, u2, HL2.out⟩
              · exact congrArg (Value.int .i64) (by omega)
              · first | rfl | kernel_rfl
            case measure => first | (simp [strLen]; done) | decide | (show (_ : Nat) < _; kernel_rfl)
          · have hb := sum_bound v0 v1 (u := 1) (by omega)
            clear hm0 hne hne2
            unfold Rd.lets
            go_wp2_with fail
            refine hdig.out.mono ?_
            rintro e w3 ⟨rfl, rfl⟩
            go_wp2
            go_roundw
            case rel =>
              refine ⟨sum + xv * 1, 0, f, k.2.1, k.2.2, ?_, ?_, by omega, by omega, by omega, by omega, HR2.out, HX2.out, HK2.out, u0, u1, u2, HL2.out⟩
              · exact congrArg (Value.int .i64) (by omega)
              · first | rfl | kernel_rfl
            case measure => first | (simp [strLen]; done) | decide | (show (_ : Nat) < _; kernel_rfl)
          · have hb := sum_bound v0 v1 (u := 3600) (by omega)
            clear hm0 hne hne2
            unfold Rd.lets
            go_wp2_with fail
            refine hdig.out.mono ?_
            rintro e w3 ⟨rfl, rfl⟩
            go_wp2
            go_roundw
            case rel =>
              refine ⟨sum + xv * 3600, 2, f, k.2.1, k.2.2, ?_, ?_, by omega, by omega, by omega, by omega, HR2.out, HX2.out, HK2.out, u0, u1, u2, HL2.out⟩
              · exact congrArg (Value.int .i64) (by omega)
              · first | rfl | kernel_rfl
            case measure => first | (simp [strLen]; done) | decide | (show (_ : Nat) < _; kernel_rfl)
          · have hb := sum_bound v0 v1 (u := 60) (by omega)
            clear hm0 hne hne2
            unfold Rd.lets
            go_wp2_with fail
            refine hdig.out.mono ?_
            rintro e w3 ⟨rfl, rfl⟩
            go_wp2
            go_roundw
            case rel =>
              refine ⟨sum + xv * 60, 1, f, k.2.1, k.2.2, ?_, ?_, by omega, by omega, by omega, by omega, HR2.out, HX2.out, HK2.out, u0, u1, u2, HL2.out⟩
              · exact congrArg (Value.int .i64) (by omega)
              · first | rfl | kernel_rfl
            case measure => first | (simp [strLen]; done) | decide | (show (_ : Nat) < _; kernel_rfl)
          · have hb := sum_bound v0 v1 (u := 1) (by omega)
            clear hm0 hne hne2
            unfold Rd.lets
            go_wp2_with fail
            refine hdig.out.mono ?_
            rintro e w3 ⟨rfl, rfl⟩
            go_wp2
            go_roundw
            case rel =>
              refine ⟨sum + xv * 1, 0, f, k.2.1, k.2.2, ?_, ?_, by omega, by omega, by omega, by omega, HR2.out, HX2.out, HK2.out, u0, u1, u2, HL2.out⟩
              · exact congrArg (Value.int .i64) (by omega)
              · first | rfl | kernel_rfl
            case measure => first | (simp [strLen]; done) | decide | (show (_ : Nat) < _; kernel_rfl)
end Go.Proofs.YthimnjegacdhaaaDoor

/- ReadDuration; what every law asks besides: told. -/
namespace Go.Proofs.YthimnjegacdhaaaDoor
open Go.RowKit Go.BigFrame

def durForms : Nat → FuncId | 0 => 13 | 1 => 14 | _ => 16
def durFs : Nat → ByteArray → Int × Nat × Bool | 0 => Rd.shortF | 1 => Rd.longF | _ => Rd.letteredF
theorem dur_isForm (j : Nat) (hj : j < 3) : IsForm (durForms j) (durFs j) := by
  rcases (show j = 0 ∨ j = 1 ∨ j = 2 by omega) with rfl | rfl | rfl
  · exact ⟨fun _ _ => by kernel_rfl, short_form⟩
  · exact ⟨fun _ _ => by kernel_rfl, long_form⟩
  · exact ⟨fun _ _ => by kernel_rfl, lettered_form⟩
def readDur (s : ByteArray) : Int × Nat × Int := Rd.ranged (Rd.readForms s [Rd.shortF, Rd.longF, Rd.letteredF]) 0 3599999
theorem readDuration_any (s : ByteArray) (w : World) (hs : s.size ≤ 9223372036854775807) :
    Calls Tryd.prog 6 #[.string s] w fun r w' => r = .returned (.tuple #[.int .i64 (readDur s).1, .int .i64 (readDur s).2.1, .int .i64 (readDur s).2.2]) ∧ Below w.heap.size w w' := by
  obtain ⟨z, hz⟩ : ∃ z, Rd.readForms s ((List.range 3).map durFs) = z := ⟨_, rfl⟩
  have hrf := fun (w : World) (R : Nat) (hR : R < w.heap.size) hf => readForms_any s w R 3 durForms durFs (by omega) hR hf dur_isForm hs z hz
  have Hrf := Lib.hid hrf
  have hd : readDur s = Rd.ranged z 0 3599999 := by rw [← hz]; rfl
  rw [hd]
  obtain ⟨n, a, e⟩ := z
  have hra := Lib.hid (ranged_any n e 0 3599999 a)
  generalize Rd.ranged (n, a, e) 0 3599999 = y at hra ⊢
  clear hz hd hrf
  go_enter Tryd.func6, Tryd.ntmps6
  go_wp2_with fail
  refine (Hrf.out _ w.heap.size (by simp) ?hf).mono ?_
  case hf =>
    intro j hj
    rw [World.cell?_alloc_at _ _ _ _ rfl]
    rcases (show j = 0 ∨ j = 1 ∨ j = 2 by omega) with rfl | rfl | rfl <;> rfl
  rintro r w1 ⟨rfl, hb1⟩
  have HB := Lib.hid (((Below.refl w.heap.size w).alloc (Nat.le_refl _) _).trans (hb1.mono (by simp)))
  clear hb1
  go_wp2_with fail
  refine (hra.out _).mono ?_
  rintro r w2 ⟨rfl, rfl⟩
  go_wp2
  go_ret3
  exact ⟨rfl, HB.out⟩
theorem told_dur : readDur ⟨#[49, 104, 53, 115]⟩ = (3605, 0, 0) := by decide +kernel
theorem told_sc : Sc.sc (-7) 1 2 5 = (-4, 0) := by decide +kernel
theorem told_any (w : World) : Calls Tryd.prog 8 #[] w fun e w' => e = .returned (.bool true) ∧ Below w.heap.size w w' := by
  have h1 := Lib.hid (scale_any (-7) 1 2 5 w (by omega) (by omega) (by omega) (by omega))
  have h2 := Lib.hid (fun w => readDuration_any ⟨#[49, 104, 53, 115]⟩ w (by decide))
  rw [told_dur] at h2
  rw [told_sc] at h1
  unfold scRet at h1
  go_enter Tryd.func8, Tryd.ntmps8
  go_wp2_with fail
  refine h1.out.mono ?_
  rintro e w1 ⟨rfl, hb⟩
  go_wp2_with fail
  refine (h2.out _).mono ?_
  rintro e w2 ⟨rfl, hb2⟩
  have HB := Lib.hid (hb.trans (hb2.mono hb.size))
  clear hb hb2
  go_wp2
  go_ret
  exact ⟨rfl, HB.out⟩
end Go.Proofs.YthimnjegacdhaaaDoor

/- The walk of the law of durations. -/
namespace Go.Proofs.YthimnjegacdhaaaDoor
open Go.RowKit Go.BigFrame

set_option maxHeartbeats 2000000 in
set_option maxRecDepth 100000 in
theorem durations_law (n : Int) (s : ByteArray) (w : World) (h0 : -9223372036854775808 ≤ n) (h1 : n ≤ 9223372036854775807) (hs : s.size ≤ 9223372036854775807) (hg : Glo w) :
    Calls Tryd.prog 3 #[.int .i64 n, .string s] w fun e w' => e = .returned (.bool true) ∧ Below w.heap.size w w' := by
  have D1 := Lib.hid (durationText_any n h0 h1 w hg)
  have D2 := Lib.hid (fun W (h : Below w.heap.size w W) => rDurationText_any n h0 h1 W (hg.below h))
  have D3 := Lib.hid (fun W => readDuration_any s W hs)
  have D4 := Lib.hid (fun W (h : Below w.heap.size w W) => rReadDuration_any s W (hg.below h) hs)
  have D5 := Lib.hid (fun W => told_any W)
  have he : Rd.refDur s = readDur s := Rd.dur_eq s
  rw [he] at D4
  obtain ⟨u, hu⟩ : ∃ u, durTextR n = u := ⟨_, rfl⟩
  obtain ⟨v, hv⟩ : ∃ v, readDur s = v := ⟨_, rfl⟩
  rw [hu] at D1 D2
  rw [hv] at D3 D4
  obtain ⟨t, e⟩ := u
  obtain ⟨x, i, g⟩ := v
  have ht : (t.toList == t.toList) = true := by simp
  clear he hu hv hg
  go_enter Tryd.func3, Tryd.ntmps3
  go_upto_region 2 with (go_at_call 4; refine D1.out.mono ?_; rintro e w1 ⟨rfl, hb1⟩)
  go_upto_region 3 with (go_at_call 5; refine (D2.out w1 hb1).mono ?_; rintro e w2 ⟨rfl, hb2⟩)
  have HB2 := Lib.hid (below_step hb1 hb2)
  clear hb1 hb2
  go_upto_region 4 with (go_at_call 6; refine (D3.out w2).mono ?_; rintro e w3 ⟨rfl, hb3⟩)
  have HB3 := Lib.hid (below_step HB2.out hb3)
  clear hb3
  go_upto_region 5 with (go_at_call 7; refine (D4.out w3 HB3.out).mono ?_; rintro e w4 ⟨rfl, hb4⟩)
  have HB4 := Lib.hid (below_step HB3.out hb4)
  clear hb4
  go_wp2_with (go_at_call 8; refine (D5.out w4).mono ?_; rintro e w5 ⟨rfl, hb5⟩)
  go_ret
  exact ⟨rfl, below_step HB4.out hb5⟩
end Go.Proofs.YthimnjegacdhaaaDoor
