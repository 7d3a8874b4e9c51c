/- Plain facts on texts that are cut and joined again, and on the texts of small numbers. No program's step. -/
import Derived.Test.YtogkonenejfgmaaDoorWCut
import Derived.Test.YtogkonenejfgmaaDoorWJoin
import Derived.Test.YtogkonenejfgmaaDoorTi
import Derived.Test.YtogkonenejfgmaaDoorWIntTextI
import Derived.Test.YtogkonenejfgmaaDoorWPadS
import Derived.Test.YtogkonenejfgmaaDoorWIsWord
namespace Go.Proofs.YtogkonenejfgmaaDoor
open Go.RowKit
open Go.Lib (decDigits itoa)
theorem join_last (sep : List UInt8) (r : List (List UInt8)) (x y : List UInt8) : Lib.join (r ++ [x ++ y]) sep = Lib.join (r ++ [x]) sep ++ y := by
  cases r with
  | nil => rw [List.nil_append, List.nil_append, Lib.join_one, Lib.join_one]
  | cons a r => rw [join_snoc _ _ (by simp), join_snoc _ _ (by simp)]; simp [List.append_assoc]
theorem lst_snoc (l : List ByteArray) (x : ByteArray) : lst (l ++ [x]) = lst l ++ [x.data.toList] := by simp [lst]
theorem ext_self (s : ByteArray) (i : Nat) : (s.extract i i).data.toList = [] := by
  simp
theorem ext_list (s : ByteArray) (a b : Nat) : (s.extract a b).data.toList = (s.data.toList.drop a).take (b - a) := by
  rw [ByteArray.data_extract, Array.toList_extract, List.extract_eq_take_drop]
theorem ext_snoc (s : ByteArray) {a i : Nat} (ha : a ≤ i) (hi : i < s.size) : (s.extract a (i + 1)).data.toList = (s.extract a i).data.toList ++ [s.data.toList.getD i 0] := by
  rw [ext_list, ext_list, show i + 1 - a = (i - a) + 1 by omega]
  have hl : i - a < (s.data.toList.drop a).length := by rw [List.length_drop]; have : s.data.toList.length = s.size := by simp
                                                        omega
  rw [List.take_succ_eq_append_getElem hl]
  congr 1
  rw [List.getElem_drop, List.getD_eq_getElem?_getD, List.getElem?_eq_getElem (by have : s.data.toList.length = s.size := by simp
                                                                                  omega)]
  simp [show a + (i - a) = i by omega]
theorem take_snocD (s : ByteArray) (i : Nat) (hi : i < s.size) : s.data.toList.take (i + 1) = s.data.toList.take i ++ [s.data.toList.getD i 0] := by
  have h := take_snoc s i hi
  rw [byte_at s i hi]; exact h
theorem cut_join (s : ByteArray) (c : UInt8) : ∀ i, i ≤ s.size → Lib.join (lst ((cutSt s ⟨#[c]⟩ i).1 ++ [s.extract (cutSt s ⟨#[c]⟩ i).2 i])) [c] = s.data.toList.take i
  | 0, _ => by
    show Lib.join (lst [s.extract 0 0]) [c] = []
    rw [show lst [s.extract 0 0] = [(s.extract 0 0).data.toList] from rfl, ext_self, Lib.join_one]
  | i + 1, h => by
    have ih := cut_join s c i (by omega)
    have hle := (cutSt_le s ⟨#[c]⟩ i).2
    cases hs : isSep ⟨#[c]⟩ (s.data.toList.getD i 0)
    · rw [cutSt_no hs, lst_snoc, ext_snoc s hle (by omega), join_last, ← lst_snoc, ih, take_snocD s i (by omega)]
    · have hc : s.data.toList.getD i 0 = c := by
        unfold isSep at hs
        rw [decide_eq_true_iff] at hs
        simpa using hs
      rw [cutSt_yes hs]
      dsimp only
      rw [lst_snoc, ext_self, join_snoc _ _ (by simp [lst]), ih, take_snocD s i (by omega), hc, List.append_nil]
theorem fJoin_cut (s : ByteArray) (c : UInt8) : fJoin (fCutAt s ⟨#[c]⟩) ⟨#[c]⟩ = s := by
  have h := cut_join s c s.size (Nat.le_refl _)
  have hl : s.data.toList.length = s.size := by simp
  rw [List.take_of_length_le (by omega)] at h
  unfold fJoin fCutAt
  rw [h]
theorem cut_len (s b : ByteArray) : ∀ i, i ≤ s.size → (cutSt s b i).1.length = ((s.data.toList.take i).filter (isSep b)).length
  | 0, _ => rfl
  | i + 1, h => by
    have ih := cut_len s b i (by omega)
    rw [take_snocD s i (by omega), List.filter_append]
    cases hs : isSep b (s.data.toList.getD i 0)
    · rw [cutSt_no hs, ih, List.filter_cons_of_neg (by rw [hs]; simp)]; simp
    · rw [cutSt_yes hs, List.filter_cons_of_pos hs, List.length_append, List.length_append, ih]; rfl
theorem fCutAt_count (s b : ByteArray) : (fCutAt s b).length = (s.data.toList.filter (isSep b)).length + 1 := by
  have h := cut_len s b s.size (Nat.le_refl _)
  have hl : s.data.toList.length = s.size := by simp
  rw [List.take_of_length_le (by omega)] at h
  unfold fCutAt
  rw [List.length_append, h]; rfl
theorem join_ge (sep : List UInt8) : ∀ (l : List (List UInt8)), (l.map List.length).sum ≤ (Lib.join l sep).length := by
  intro l
  cases l with
  | nil => simp
  | cons x r => rw [Lib.join_cons, List.length_append, joinTail_len]; simp
theorem sumS_cut (s : ByteArray) (c : UInt8) : sumS (fCutAt s ⟨#[c]⟩) ≤ s.size := by
  have h := join_ge [c] (lst (fCutAt s ⟨#[c]⟩))
  have e2 : ((lst (fCutAt s ⟨#[c]⟩)).map List.length).sum = sumS (fCutAt s ⟨#[c]⟩) := by
    unfold lst sumS; rw [List.map_map]; congr 1
  have e : (fJoin (fCutAt s ⟨#[c]⟩) ⟨#[c]⟩).size = (Lib.join (lst (fCutAt s ⟨#[c]⟩)) [c]).length := by simp [fJoin, ByteArray.size]
  rw [fJoin_cut] at e
  omega
theorem itoa_bytes (z : Int) : ∀ c ∈ itoa z, 45 ≤ c.toNat ∧ c.toNat ≤ 57 := by
  intro c hc
  unfold itoa at hc
  have key : ∀ u, c ∈ decDigits u → 45 ≤ c.toNat ∧ c.toNat ≤ 57 := fun u h => by have := digs_dec u c h; omega
  by_cases h : z < 0
  · rw [if_pos h, List.mem_cons] at hc
    rcases hc with rfl | hc
    · decide
    · exact key _ hc
  · rw [if_neg h] at hc; exact key _ hc
theorem itoa_len8 {z : Int} (h : -1000000 ≤ z ∧ z ≤ 1000000) : 0 < (itoa z).length ∧ (itoa z).length ≤ 8 := by
  unfold itoa
  by_cases hz : z < 0
  · rw [if_pos hz]
    have := dec_len 7 z.natAbs (by omega) (by have e : (10 : Nat) ^ 7 = 10000000 := by decide
                                              rw [e]; omega)
    simp; omega
  · rw [if_neg hz]
    have := dec_len 7 z.toNat (by omega) (by have e : (10 : Nat) ^ 7 = 10000000 := by decide
                                             rw [e]; omega)
    have := dec_len_pos z.toNat
    omega
theorem itoa_filter (z : Int) (c : UInt8) (hc : c.toNat < 45 ∨ 57 < c.toNat) : (itoa z).filter (isSep ⟨#[c]⟩) = [] := by
  rw [List.filter_eq_nil_iff]
  intro x hx
  have h := itoa_bytes z x hx
  unfold isSep
  rw [decide_eq_true_iff]
  intro e
  have e2 : x = c := by simpa using e
  subst e2; omega
/-- the text that the law cuts -/
def wT (n : Int) : ByteArray := tx (itoa n) ++ ⟨#[32]⟩ ++ tx (itoa (-n)) ++ ⟨#[32, 32, 120]⟩
theorem wT_list (n : Int) : (wT n).data.toList = itoa n ++ ([32] ++ (itoa (-n) ++ [32, 32, 120])) := by
  unfold wT tx
  simp [ByteArray.data_append, List.append_assoc]
theorem wT_size {n : Int} (h : -1000000 ≤ n ∧ n ≤ 1000000) : 4 ≤ (wT n).size ∧ (wT n).size ≤ 20 := by
  have h1 := itoa_len8 h
  have h2 := itoa_len8 (z := -n) (by omega)
  have e : (wT n).size = (wT n).data.toList.length := by simp
  rw [e, wT_list]
  simp; omega
theorem wT_words (n : Int) : (fCut (wT n)).length = 4 := by
  unfold fCut
  rw [fCutAt_count, wT_list, List.filter_append, List.filter_append, List.filter_append, itoa_filter _ _ (.inl (by decide)), itoa_filter _ _ (.inl (by decide))]
  decide
theorem wT_nl (n : Int) : (wT n).data.toList.filter (isSep ⟨#[10]⟩) = [] := by
  rw [wT_list, List.filter_append, List.filter_append, List.filter_append, itoa_filter _ _ (.inl (by decide)), itoa_filter _ _ (.inl (by decide))]
  decide
def wL (n : Int) : ByteArray := wT n ++ ⟨#[10]⟩ ++ wT n
theorem wL_list (n : Int) : (wL n).data.toList = (wT n).data.toList ++ ([10] ++ (wT n).data.toList) := by
  unfold wL; simp [ByteArray.data_append, List.append_assoc]
theorem wL_size {n : Int} (h : -1000000 ≤ n ∧ n ≤ 1000000) : 9 ≤ (wL n).size ∧ (wL n).size ≤ 41 := by
  have h1 := wT_size h
  have e : (wL n).size = (wL n).data.toList.length := by simp
  have e1 : (wT n).size = (wT n).data.toList.length := by simp
  rw [e, wL_list]
  simp at e1 ⊢; omega
theorem fLines_wL {n : Int} (h : -1000000 ≤ n ∧ n ≤ 1000000) : (fLines (wL n)).length = 2 := by
  have hsz := wL_size h
  have hL : (fCutAt (wL n) ⟨#[10]⟩).length = 2 := by
    rw [fCutAt_count, wL_list, List.filter_append, List.filter_append, wT_nl]
    decide
  unfold fLines fDropE
  rw [if_neg, hL]
  rw [hL]
  have h1 : (cutSt (wL n) ⟨#[10]⟩ (wL n).size).1.length = 1 := by unfold fCutAt at hL; simpa using hL
  have hlast : (fCutAt (wL n) ⟨#[10]⟩).getD (2 - 1) ByteArray.empty = (wL n).extract (cutSt (wL n) ⟨#[10]⟩ (wL n).size).2 (wL n).size := by
    unfold fCutAt
    rw [List.getD_eq_getElem?_getD, List.getElem?_append_right (by omega), h1]; rfl
  rw [hlast]
  obtain ⟨k, hk⟩ : ∃ k, (wL n).size = k + 1 := ⟨(wL n).size - 1, by omega⟩
  have hx : (wL n).data.toList.getD k 0 = 120 := by
    have hl : (wL n).data.toList.length = k + 1 := by rw [← hk]; simp
    have e : ∃ P, (wL n).data.toList = P ++ [120] := by
      rw [wL_list, wT_list]
      exact ⟨itoa n ++ ([32] ++ (itoa (-n) ++ [32, 32, 120])) ++ ([10] ++ (itoa n ++ ([32] ++ (itoa (-n) ++ [32, 32])))), by simp [List.append_assoc]⟩
    obtain ⟨P, hP⟩ := e
    rw [hP] at hl ⊢
    have hPl : P.length = k := by simpa using hl
    rw [List.getD_eq_getElem?_getD, List.getElem?_append_right (by omega), hPl]; simp
  have hs : isSep ⟨#[10]⟩ ((wL n).data.toList.getD k 0) = false := by rw [hx]; decide
  have hno := cutSt_no hs
  have hle := (cutSt_le (wL n) ⟨#[10]⟩ k).2
  have hne : ((wL n).extract (cutSt (wL n) ⟨#[10]⟩ (wL n).size).2 (wL n).size).size ≠ 0 := by
    rw [ByteArray.size_extract, hk, hno]; omega
  intro e
  rw [ByteArray.toList_eq] at e
  apply hne
  have := List.isEmpty_iff.1 e
  have := congrArg List.length this
  simpa using this
theorem itoa_digits (n : Int) : allB 48 57 48 57 (itoa n) = decide (0 ≤ n) := by
  unfold itoa
  by_cases h : n < 0
  · rw [if_pos h, decide_eq_false (by omega)]
    unfold allB
    rw [Bool.and_eq_false_iff]; left
    rw [List.all_cons, Bool.and_eq_false_iff]; left
    decide
  · rw [if_neg h, decide_eq_true (by omega)]
    unfold allB
    rw [Bool.and_eq_true, List.all_eq_true]
    have hd := digs_dec n.toNat
    refine ⟨fun c hc => ?_, ?_⟩
    · have := hd c hc; simp [bad]; omega
    · have := dec_len_pos n.toNat
      cases hc : decDigits n.toNat with
      | nil => rw [hc] at this; simp at this
      | cons c r => rfl
theorem pad12 {n : Int} (h : -1000000 ≤ n ∧ n ≤ 1000000) : (fPad (tx (itoa n)) 12).size = 12 := by
  have h1 := itoa_len8 h
  unfold fPad
  rw [if_pos (by omega), padB_size, tx_size]
  have : (12 : Int).toNat = 12 := rfl
  omega
theorem word3 : wordB (⟨#[120]⟩ ++ fPad ⟨#[]⟩ 3) = true := by decide +kernel
end Go.Proofs.YtogkonenejfgmaaDoor
