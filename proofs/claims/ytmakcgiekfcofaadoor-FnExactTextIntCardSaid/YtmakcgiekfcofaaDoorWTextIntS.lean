/- The walk of TextInt (reference). For every text within the reach. (Printed by gen_tint.py.) -/
import Derived.Test.YtmakcgiekfcofaaDoorTi
import Derived.Test.YtmakcgiekfcofaaDoorWIntTextS
import Derived.Test.YtmakcgiekfcofaaDoorWIsDigits
namespace Go.Proofs.YtmakcgiekfcofaaDoor
open Go.RowKit
open Go.Lib (decDigits itoa)
set_option linter.unusedVariables false
theorem dv_pre (a b : List UInt8) : dv a ≤ dv (a ++ b) := by
  rw [dv_append]
  have : 1 ≤ 10 ^ b.length := Nat.pow_pos (by omega)
  have := Nat.le_mul_of_pos_right (dv a) this
  omega
/-- how a text is parted: its sign, its digits -/
def Sg (l : List UInt8) (neg : Bool) (t : List UInt8) : Prop := (neg = true ∧ l = 45 :: t) ∨ (neg = false ∧ l.head? ≠ some 45 ∧ l = t)
theorem sgItoa {l t : List UInt8} {neg : Bool} (h : Sg l neg t) {z : Int} (e : itoa z = l) : t = decDigits z.natAbs ∧ (neg = true ↔ z < 0) := by
  unfold itoa at e
  rcases h with ⟨rfl, rfl⟩ | ⟨rfl, h1, rfl⟩
  · by_cases hz : z < 0
    · rw [if_pos hz] at e
      simp only [List.cons.injEq, true_and] at e
      exact ⟨e.symm, by simp [hz]⟩
    · rw [if_neg hz] at e
      exact absurd (by rw [e]; rfl) (dec_head z.toNat)
  · by_cases hz : z < 0
    · rw [if_pos hz] at e
      exact absurd (by rw [← e]; rfl) h1
    · rw [if_neg hz] at e
      refine ⟨?_, by simp [hz]⟩
      rw [← e]; congr 1; omega
theorem sgRv {l t : List UInt8} {neg : Bool} (h : Sg l neg t) : rv l = if neg then -((dv t : Nat) : Int) else ((dv t : Nat) : Int) := by
  unfold rv
  rcases h with ⟨rfl, rfl⟩ | ⟨rfl, h1, rfl⟩
  · rfl
  · rw [if_neg h1]; rfl
theorem i64_iff {z : Int} : i64B z = true ↔ -9223372036854775808 ≤ z ∧ z ≤ 9223372036854775807 := by unfold i64B; exact decide_eq_true_iff
theorem sgNo {l t : List UInt8} {neg : Bool} (h : Sg l neg t) (hb : allB 48 57 48 57 t = false ∨ 19 < t.length ∨ 9223372036854775808 < dv t ∨ (neg = false ∧ 9223372036854775808 ≤ dv t)) : fTextInt l = (0, false) := by
  refine fTextInt_no fun z hz e => ?_
  rw [i64_iff] at hz
  obtain ⟨rfl, hn⟩ := sgItoa h e
  rcases hb with hb | hb | hb | ⟨hb1, hb2⟩
  · have hd := digs_dec z.natAbs
    have : allB 48 57 48 57 (decDigits z.natAbs) = true := by
      unfold allB
      rw [Bool.and_eq_true, List.all_eq_true]
      refine ⟨fun c hc => ?_, ?_⟩
      · have := hd c hc; simp [bad]; omega
      · have := dec_len_pos z.natAbs
        cases hc : decDigits z.natAbs with
        | nil => rw [hc] at this; simp at this
        | cons c r => rfl
    rw [this] at hb; cases hb
  · have := dec_len 19 z.natAbs (by omega) (by
      have e : (10 : Nat) ^ 19 = 10000000000000000000 := by decide
      rw [e]; omega)
    omega
  · rw [dv_dec] at hb; omega
  · rw [dv_dec] at hb2
    have : ¬ z < 0 := fun h => by rw [hn.2 h] at hb1; cases hb1
    omega
theorem sgYes {l t : List UInt8} {neg : Bool} (h : Sg l neg t) {n : Int} (hn : n = if neg then -((dv t : Nat) : Int) else ((dv t : Nat) : Int)) (hi : -9223372036854775808 ≤ n ∧ n ≤ 9223372036854775807) :
    fTextInt l = if itoa n = l then (n, true) else (0, false) := by
  have e := sgRv h
  rw [← hn] at e
  unfold fTextInt
  rw [e, i64_iff.2 hi, Bool.true_and]
  by_cases hh : Go.Lib.itoa n = l
  · rw [if_pos hh, decide_eq_true hh]; rfl
  · rw [if_neg hh, decide_eq_false hh]; rfl
theorem sub_len (s : ByteArray) : (s.extract 1 s.size).data.toList = s.data.toList.tail := by
  rw [ByteArray.data_extract, Array.toList_extract]
  cases hd : s.data.toList with
  | nil => simp
  | cons a l =>
    have : s.size = l.length + 1 := by have := congrArg List.length hd; simpa using this
    rw [List.extract_eq_take_drop, this]; simp
theorem dv_take {t : ByteArray} {k : Nat} (hk : k < t.size) : dv (t.data.toList.take (k + 1)) = dv (t.data.toList.take k) * 10 + (t[k].toNat - 48) := by
  rw [take_snoc t k hk, dv_snoc]
theorem tx_beq2 {s : ByteArray} {l : List UInt8} (h : l ≠ s.data.toList) : ((tx l).toList == s.toList) = false := by
  rw [beq_eq_false_iff_ne, ByteArray.toList_eq, ByteArray.toList_eq, tx_list]; exact h
set_option maxRecDepth 100000 in
set_option maxHeartbeats 6400000 in
theorem spec_TextInt (s : ByteArray) (w : World) (hs : s.size ≤ 1048576) :
    Calls Tryd.prog 12 #[.string s] w fun e w' => e = .returned (.tuple #[.int .i64 (fTextInt s.data.toList).1, .bool (fTextInt s.data.toList).2]) ∧ Below w.heap.size w w' := by
  by_cases h0 : 0 < s.size
  · cases h45 : ((s[0].toNat : Int) == 45)
    · have hh : s.data.toList.head? ≠ some 45 := by
        rw [List.head?_eq_getElem?, List.getElem?_eq_getElem (by simpa using h0)]
        intro e
        have e2 : s[0] = 45 := by simpa [ByteArray.getElem_eq_getElem_data] using e
        rw [e2] at h45; exact absurd h45 (by decide)
      have HSg := Lib.hid (show Sg s.data.toList false s.data.toList from .inr ⟨rfl, hh, rfl⟩)
      clear hh
      cases hd : allB 48 57 48 57 s.data.toList
      · have HF := Lib.hid (sgNo HSg.out (.inl hd))
        go_enter Tryd.func12, Tryd.ntmps12
        go_wp2_with fail
        refine (spec_IsDigits _ _ (by unfold maxLen; omega)).mono ?_
        rintro e w1 ⟨rfl, rfl⟩
        rw [hd]
        go_wp2
        go_ret2
        exact ⟨by rw [HF.out]; rfl, Below.refl _ _⟩
      by_cases hl : 19 < s.size
      · have HF := Lib.hid (sgNo HSg.out (.inr (.inl (by simpa using hl))))
        have zl : decide (19 < (s.size : Int)) = true := decide_eq_true (by omega)
        go_enter Tryd.func12, Tryd.ntmps12
        go_wp2_with fail
        refine (spec_IsDigits _ _ (by unfold maxLen; omega)).mono ?_
        rintro e w1 ⟨rfl, rfl⟩
        rw [hd]
        go_wp2
        go_ret2
        exact ⟨by rw [HF.out]; rfl, Below.refl _ _⟩
      have zl : decide (19 < (s.size : Int)) = false := decide_eq_false (by omega)
      have HD := Lib.hid (allB_digs hd)
      have hlen : s.data.toList.length = s.size := by simp
      have HLen := Lib.hid hlen
      clear hlen
      go_enter Tryd.func12, Tryd.ntmps12
      go_wp2_with fail
      refine (spec_IsDigits _ _ (by unfold maxLen; omega)).mono ?_
      rintro e w1 ⟨rfl, rfl⟩
      rw [hd]
      go_wp2
      go_loopw [6, 7] (fun nv iv wr => ∃ (k : Nat) (n : Int), k ≤ s.size ∧ iv = .int .i64 k ∧ nv = .int .i64 n ∧ n = -((dv (s.data.toList.take k) : Nat) : Int) ∧ -9223372036854775808 ≤ n ∧ wr = w) (fun _ iv _ => s.size - (intOf iv).toNat)
      case atStart => refine ⟨0, 0, Nat.zero_le _, rfl, rfl, by simp [dv_nil], by omega, ?_⟩; first | rfl | trivial
      case round =>
        obtain ⟨k, n, hk, rfl, rfl, hn, hn1, rfl⟩ := hrel
        have hn0 : n ≤ 0 := by omega
        by_cases hkt : k < s.size
        · have hdk := HD.out s[k] (by simp [ByteArray.getElem_eq_getElem_data])
          have hdv := dv_take hkt
          have hpre := dv_pre (s.data.toList.take (k + 1)) (s.data.toList.drop (k + 1))
          rw [List.take_append_drop] at hpre
          obtain ⟨d, hde⟩ : ∃ d : Int, (s[k].toNat : Int) - 48 = d := ⟨_, rfl⟩
          have hd0 : 0 ≤ d ∧ d ≤ 9 := by omega
          obtain ⟨hd0, hd9⟩ := hd0
          have hq := (tq (z := -9223372036854775808 + d) (by omega)).1
          obtain ⟨q, hqe⟩ : ∃ q : Int, (-9223372036854775808 + d).tdiv 10 = q := ⟨_, rfl⟩
          rw [hqe] at hq
          have hq1 : -922337203685477580 ≤ q ∧ q ≤ 0 := by omega
          obtain ⟨hq1, hq2⟩ := hq1
          by_cases hov : n < q
          · have HF := Lib.hid (sgNo HSg.out (.inr (.inr (.inl (by omega)))))
            have zq : decide (n < q) = true := decide_eq_true hov
            clear hn hq hpre hdv hdk
            go_wp2
            go_ret2
            exact ⟨by rw [HF.out]; rfl, Below.refl _ _⟩
          · have zq : decide (n < q) = false := decide_eq_false hov
            have hb1 : -9223372036854775808 ≤ n * 10 - d := by omega
            have HN := Lib.hid (show n * 10 - d = -((dv (s.data.toList.take (k + 1)) : Nat) : Int) by omega)
            clear hn hq hpre hdv hdk hov
            go_wp2
            go_roundw
            case rel => refine ⟨k + 1, _, by omega, by go_num, rfl, HN.out, by omega, ?_⟩; first | rfl | trivial
            case measure => simp [intOf]; omega
        · have hkk : k = s.size := by omega
          have hall : s.data.toList.take k = s.data.toList := List.take_of_length_le (by rw [HLen.out]; omega)
          rw [hall] at hn
          by_cases hmin : n = -9223372036854775808
          · have HF := Lib.hid (sgNo HSg.out (.inr (.inr (.inr ⟨rfl, by omega⟩))))
            clear hn hall
            subst hmin
            go_wp2
            go_ret2
            exact ⟨by rw [HF.out]; rfl, Below.refl _ _⟩
          have hmz : (n == -9223372036854775808) = false := by rw [beq_eq_false_iff_ne]; exact hmin
          have hY := sgYes HSg.out (n := -n) (by rw [hn]; simp) (by omega)
          by_cases he : itoa (-n) = s.data.toList
          · have HF := Lib.hid (hY.trans (if_pos he))
            have HS := Lib.hid (show tx (itoa (-n)) = s by rw [he, tx_of])
            clear hn hall hY he
            go_wp2_with fail
            refine (spec_IntText (-n) _ ⟨by omega, by omega⟩).mono ?_
            rintro e w2 ⟨rfl, hb2⟩
            rw [HS.out]
            go_wp2
            go_ret2
            exact ⟨by rw [HF.out]; rfl, hb2⟩
          · have HF := Lib.hid (hY.trans (if_neg he))
            have hne := tx_beq2 he
            obtain ⟨T, hT⟩ : ∃ T, tx (itoa (-n)) = T := ⟨_, rfl⟩
            rw [hT] at hne
            have HT := Lib.hid hT
            clear hn hall hY he hT
            go_wp2_with fail
            refine (spec_IntText (-n) _ ⟨by omega, by omega⟩).mono ?_
            rintro e w2 ⟨rfl, hb2⟩
            rw [HT.out]
            go_wp2
            go_ret2
            exact ⟨by rw [HF.out]; rfl, hb2⟩
    · have h45' : s[0] = 45 := UInt8.toNat_inj.1 (by rw [beq_iff_eq] at h45; have e : (45 : UInt8).toNat = 45 := rfl; omega)
      have HSg := Lib.hid (show Sg s.data.toList true s.data.toList.tail from .inl ⟨rfl, by
        have hl : 0 < s.data.toList.length := by simpa using h0
        cases hd : s.data.toList with
        | nil => rw [hd] at hl; simp at hl
        | cons c r =>
          have : s[0] = c := by simp [ByteArray.getElem_eq_getElem_data, ← Array.getElem_toList, hd]
          rw [← this, h45']; rfl⟩)
      have hts : (s.extract 1 s.size).size ≤ 1048576 := by rw [ByteArray.size_extract]; omega
      obtain ⟨t, ht⟩ : ∃ t, t = s.extract 1 s.size := ⟨_, rfl⟩
      have hsg := HSg.out
      rw [← sub_len, ← ht] at hsg
      replace HSg := Lib.hid hsg
      rw [← ht] at hts
      have HT0 := Lib.hid ht
      clear hsg h45' ht
      cases hd : allB 48 57 48 57 t.data.toList
      · have HF := Lib.hid (sgNo HSg.out (.inl hd))
        go_enter Tryd.func12, Tryd.ntmps12
        go_wp2_with fail
        rw [← HT0.out]
        refine (spec_IsDigits _ _ (by unfold maxLen; omega)).mono ?_
        rintro e w1 ⟨rfl, rfl⟩
        rw [hd]
        go_wp2
        go_ret2
        exact ⟨by rw [HF.out]; rfl, Below.refl _ _⟩
      by_cases hl : 19 < t.size
      · have HF := Lib.hid (sgNo HSg.out (.inr (.inl (by simpa using hl))))
        have zl : decide (19 < (t.size : Int)) = true := decide_eq_true (by omega)
        go_enter Tryd.func12, Tryd.ntmps12
        go_wp2_with fail
        rw [← HT0.out]
        refine (spec_IsDigits _ _ (by unfold maxLen; omega)).mono ?_
        rintro e w1 ⟨rfl, rfl⟩
        rw [hd]
        go_wp2
        go_ret2
        exact ⟨by rw [HF.out]; rfl, Below.refl _ _⟩
      have zl : decide (19 < (t.size : Int)) = false := decide_eq_false (by omega)
      have HD := Lib.hid (allB_digs hd)
      have hlen : t.data.toList.length = t.size := by simp
      have HLen := Lib.hid hlen
      clear hlen
      go_enter Tryd.func12, Tryd.ntmps12
      go_wp2_with fail
      rw [← HT0.out]
      refine (spec_IsDigits _ _ (by unfold maxLen; omega)).mono ?_
      rintro e w1 ⟨rfl, rfl⟩
      rw [hd]
      go_wp2
      go_loopw [6, 7] (fun nv iv wr => ∃ (k : Nat) (n : Int), k ≤ t.size ∧ iv = .int .i64 k ∧ nv = .int .i64 n ∧ n = -((dv (t.data.toList.take k) : Nat) : Int) ∧ -9223372036854775808 ≤ n ∧ wr = w) (fun _ iv _ => t.size - (intOf iv).toNat)
      case atStart => refine ⟨0, 0, Nat.zero_le _, rfl, rfl, by simp [dv_nil], by omega, ?_⟩; first | rfl | trivial
      case round =>
        obtain ⟨k, n, hk, rfl, rfl, hn, hn1, rfl⟩ := hrel
        have hn0 : n ≤ 0 := by omega
        by_cases hkt : k < t.size
        · have hdk := HD.out t[k] (by simp [ByteArray.getElem_eq_getElem_data])
          have hdv := dv_take hkt
          have hpre := dv_pre (t.data.toList.take (k + 1)) (t.data.toList.drop (k + 1))
          rw [List.take_append_drop] at hpre
          obtain ⟨d, hde⟩ : ∃ d : Int, (t[k].toNat : Int) - 48 = d := ⟨_, rfl⟩
          have hd0 : 0 ≤ d ∧ d ≤ 9 := by omega
          obtain ⟨hd0, hd9⟩ := hd0
          have hq := (tq (z := -9223372036854775808 + d) (by omega)).1
          obtain ⟨q, hqe⟩ : ∃ q : Int, (-9223372036854775808 + d).tdiv 10 = q := ⟨_, rfl⟩
          rw [hqe] at hq
          have hq1 : -922337203685477580 ≤ q ∧ q ≤ 0 := by omega
          obtain ⟨hq1, hq2⟩ := hq1
          by_cases hov : n < q
          · have HF := Lib.hid (sgNo HSg.out (.inr (.inr (.inl (by omega)))))
            have zq : decide (n < q) = true := decide_eq_true hov
            clear hn hq hpre hdv hdk
            go_wp2
            go_ret2
            exact ⟨by rw [HF.out]; rfl, Below.refl _ _⟩
          · have zq : decide (n < q) = false := decide_eq_false hov
            have hb1 : -9223372036854775808 ≤ n * 10 - d := by omega
            have HN := Lib.hid (show n * 10 - d = -((dv (t.data.toList.take (k + 1)) : Nat) : Int) by omega)
            clear hn hq hpre hdv hdk hov
            go_wp2
            go_roundw
            case rel => refine ⟨k + 1, _, by omega, by go_num, rfl, HN.out, by omega, ?_⟩; first | rfl | trivial
            case measure => simp [intOf]; omega
        · have hkk : k = t.size := by omega
          have hall : t.data.toList.take k = t.data.toList := List.take_of_length_le (by rw [HLen.out]; omega)
          rw [hall] at hn
          have hY := sgYes HSg.out (n := n) (by rw [hn]; simp) (by omega)
          by_cases he : itoa (n) = s.data.toList
          · have HF := Lib.hid (hY.trans (if_pos he))
            have HS := Lib.hid (show tx (itoa (n)) = s by rw [he, tx_of])
            clear hn hall hY he
            go_wp2_with fail
            refine (spec_IntText (n) _ ⟨by omega, by omega⟩).mono ?_
            rintro e w2 ⟨rfl, hb2⟩
            rw [HS.out]
            go_wp2
            go_ret2
            exact ⟨by rw [HF.out]; rfl, hb2⟩
          · have HF := Lib.hid (hY.trans (if_neg he))
            have hne := tx_beq2 he
            obtain ⟨T, hT⟩ : ∃ T, tx (itoa (n)) = T := ⟨_, rfl⟩
            rw [hT] at hne
            have HT := Lib.hid hT
            clear hn hall hY he hT
            go_wp2_with fail
            refine (spec_IntText (n) _ ⟨by omega, by omega⟩).mono ?_
            rintro e w2 ⟨rfl, hb2⟩
            rw [HT.out]
            go_wp2
            go_ret2
            exact ⟨by rw [HF.out]; rfl, hb2⟩
  · have hz : s.size = 0 := by omega
    have hnil : s.data.toList = [] := List.eq_nil_of_length_eq_zero (by simpa using hz)
    have HF := Lib.hid (show fTextInt s.data.toList = (0, false) from sgNo (show Sg s.data.toList false s.data.toList from .inr ⟨rfl, by rw [hnil]; simp, rfl⟩) (.inl (by rw [hnil]; rfl)))
    have hd : allB 48 57 48 57 s.data.toList = false := by rw [hnil]; rfl
    have hzi : decide (0 < (s.size : Int)) = false := decide_eq_false (by omega)
    clear hnil hz
    go_enter Tryd.func12, Tryd.ntmps12
    go_wp2_with fail
    refine (spec_IsDigits _ _ (by unfold maxLen; omega)).mono ?_
    rintro e w1 ⟨rfl, rfl⟩
    rw [hd]
    go_wp2
    go_ret2
    exact ⟨by rw [HF.out]; rfl, Below.refl _ _⟩
end Go.Proofs.YtmakcgiekfcofaaDoor
