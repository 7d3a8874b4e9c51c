/- The walks of TextNat (reference and program): the number of a text. For every string within the reach. -/
import Derived.Test.YtmakcgiekfcofaaWTrim
import Derived.Test.YtmakcgiekfcofaaDig
import Derived.Test.YtmakcgiekfcofaaWIsDigits
namespace Go.Proofs.Ytmakcgiekfcofaa
open Go.RowKit
theorem numB_dig {s : ByteArray} (h : allB 48 57 48 57 s.data.toList = false) : numB s.data.toList = false := by unfold numB; rw [h]; rfl
theorem numB_long {s : ByteArray} (h : 450 < s.size) : numB s.data.toList = false := by
  unfold numB
  have : decide (s.data.toList.length ≤ 450) = false := by rw [decide_eq_false_iff_not]; simp; omega
  rw [this, Bool.and_false]; rfl
theorem head_get {s : ByteArray} (h : 0 < s.size) : s.data.toList.head? = some s[0] := by
  rw [List.head?_eq_getElem?, List.getElem?_eq_getElem (by simpa using h)]
  simp [ByteArray.getElem_eq_getElem_data]
theorem numB_lead {s : ByteArray} (h : 1 < s.size) (h0 : s[0].toNat = 48) : numB s.data.toList = false := by
  unfold numB
  have h1 : decide (1 < s.data.toList.length) = true := by rw [decide_eq_true_eq]; simpa using h
  have h2 : (s.data.toList.head? == some 48) = true := by
    rw [head_get (by omega), beq_iff_eq, Option.some.injEq]
    exact UInt8.toNat_inj.1 h0
  rw [h1, h2]; simp
theorem numB_ok {s : ByteArray} (hd : allB 48 57 48 57 s.data.toList = true) (hl : s.size ≤ 450) (h : s.size ≤ 1 ∨ ∃ h0 : 0 < s.size, s[0].toNat ≠ 48) : numB s.data.toList = true := by
  unfold numB
  have h1 : decide (s.data.toList.length ≤ 450) = true := by rw [decide_eq_true_eq]; simpa using hl
  rw [hd, h1, Bool.true_and, Bool.true_and, Bool.not_eq_true', Bool.and_eq_false_iff]
  rcases h with h | ⟨h0, h⟩
  · left; rw [decide_eq_false_iff_not]; simp; omega
  · right
    rw [head_get h0, beq_eq_false_iff_ne]
    intro e
    rw [Option.some.injEq] at e
    rw [e] at h; exact h rfl
theorem text_done {l : List UInt8} {k : Nat} {zs : List Int} (h : TxInv l k zs) (hk : l.length ≤ 9 * k) : trimL zs = limbs (dv l) := trimL_val (h.done hk).1 (h.done hk).2

set_option maxRecDepth 100000 in
set_option maxHeartbeats 1600000 in
theorem specTextNat_ok (s : ByteArray) (w : World) (hs : s.size ≤ maxLen) (hd : allB 48 57 48 57 s.data.toList = true) (hl : s.size ≤ 450) (h0 : 0 < s.size) (hz : s.size ≤ 1 ∨ ((s[0].toNat : Int) == 48) = false) :
    Calls Try.prog 21 #[.string s] w fun e w' => (∃ a c, e = .returned (.tuple #[.slice a (limbs (dv s.data.toList)).length c, .bool true]) ∧ Own w' w.heap.size a c (limbs (dv s.data.toList)) ∧ (limbs (dv s.data.toList)).length ≤ 50) ∧ Below w.heap.size w w' := by
  have ho := Lib.hid (Own.empty w w.heap.size (Nat.le_refl _))
  have hb := (Below.refl w.heap.size w).alloc (Nat.le_refl _) (.cells #[] 3)
  have hlen : s.data.toList.length = s.size := by simp
  have HLen := Lib.hid hlen; clear hlen
  have HD := Lib.hid (allB_digs hd)
  have HS := Lib.hid hs
  have hz' : s.size ≤ 1 ∨ (1 < s.size ∧ ((s[0].toNat : Int) == 48) = false) := by
    by_cases h1 : s.size ≤ 1
    · exact .inl h1
    · exact .inr ⟨by omega, hz.resolve_left h1⟩
  clear hs hz
  rcases hz' with hz | ⟨hz1, hz⟩
  all_goals
    go_enter Try.func21, Try.ntmps21
    go_wp2_with fail
    refine (spec_IsDigits s _ HS.out).mono ?_
    rintro e w0 ⟨rfl, rfl⟩
    go_wp2
    go_loopw [4, 5, 6, 7, 8] (fun o ev _ _ _ wr => ∃ (k : Nat) (zs : List Int) (a : Option Addr) (c : Nat), o = .slice a zs.length c ∧ ev = .int .i64 (s.size - 9 * k) ∧ 9 * k < s.size + 9 ∧ TxInv s.data.toList k zs ∧ Own wr w.heap.size a c zs ∧ Below w.heap.size w wr)
      (fun _ ev _ _ _ _ => (intOf ev).toNat)
    case atStart => exact ⟨0, [], _, _, rfl, by go_num, by omega, TxInv.start _, ho.out, hb⟩
    case round =>
      obtain ⟨k, zs, a, c, rfl, rfl, hk, hi, hown, hb⟩ := hrel
      have hsz := hb.size
      have hzl : zs.length ≤ 51 := by rw [hi.1]; omega
      have HI := Lib.hid hi; clear hi
      by_cases hgo : 9 * k < s.size
      · obtain ⟨g, hg⟩ : ∃ g, g = s.size - 9 * k := ⟨_, rfl⟩
        obtain ⟨f, hf⟩ : ∃ f, f = s.size - 9 * (k + 1) := ⟨_, rfl⟩
        have hg0 : 0 < g := by omega
        have hgs : g ≤ s.size := by omega
        have hfg : f < g := by omega
        have hfg9 : g ≤ f + 9 := by omega
        have eg : ((s.size : Int) - 9 * k) = g := by omega
        have HE := Lib.hid eg
        have HN := Lib.hid (HI.out.next HD.out (by rw [HLen.out]; exact hgo))
        rw [HLen.out, ← hg, ← hf] at HN
        have HF := Lib.hid (show f = g - 9 ∧ (9 ≤ g ∨ f = 0) by omega)
        have HK := Lib.hid (show g = s.size - 9 * k from hg)
        rw [HE.out]
        clear eg hf hg hgo hk
        by_cases h9 : (g : Int) - 9 < 0
        all_goals try (exfalso; omega)
        all_goals
          have hfv := HF.out
          obtain rfl : f = g - 9 := hfv.1
          clear hfv
          go_wp2
          go_loop [7, 8] (fun nv iv => ∃ (i n : Nat), iv = .int .i64 i ∧ g - 9 ≤ i ∧ i ≤ g ∧ n = dv (chunk s.data.toList (g - 9) i) ∧ nv = .int .i64 n) (fun _ iv => g - (intOf iv).toNat)
          case atStart => exact ⟨g - 9, 0, by go_num, Nat.le_refl _, by omega, by rw [chunk_nil]; rfl, rfl⟩
          case round =>
            obtain ⟨i, n, rfl, hi0, hi1, hn, rfl⟩ := hrel
            have hnb := chunk_bound (f := g - 9) (i := i) (g := g) HD.out hi0 hi1 hfg9
            rw [← hn] at hnb
            have HNn := Lib.hid hn; clear hn
            by_cases hig : i < g
            · have his : i < s.size := by omega
              have hdig := HD.out s[i] (by simp [ByteArray.getElem_eq_getElem_data])
              obtain ⟨hd0, hd1⟩ := hdig
              have HX := Lib.hid (chunk_next s hi0 his)
              go_wp2
              go_round
              case rel =>
                refine ⟨i + 1, n * 10 + (s[i].toNat - 48), by go_num, by omega, by omega, ?_, by go_num⟩
                rw [HX.out, dv_snoc, HNn.out]
              case measure => simp [intOf]; omega
            · obtain rfl : i = g := by omega
              have hzn : (n : Int) = ((dv (chunk s.data.toList (i - 9) i) : Nat) : Int) := by rw [HNn.out]
              have HZ := Lib.hid hzn; clear hzn
              go_wp2_with (at_builtin; refine app1 _ rfl _ _ rfl w.heap.size a c zs _ rfl rfl hown (by omega) hsz ?_)
              intro a2 c2 w2 ho2 hb2
              have hb3 := hb.trans hb2
              clear hb2 hown
              go_wp2
              go_roundw
              case rel =>
                refine ⟨k + 1, zs ++ [(n : Int)], a2, c2, by simp, ?_, by have := HK.out; omega, ?_, ho2, hb3⟩
                · have := HE.out; go_num
                · rw [HZ.out]; exact HN.out
              case measure => simp [intOf]; omega
      · have HT := Lib.hid (text_done HI.out (by rw [HLen.out]; omega))
        have hrd := hown.rd
        have hle := hown.le
        have hml : zs.length ≤ maxLen := by unfold maxLen; omega
        have hl50 := trimL_length_le zs
        have hzk : zs.length ≤ 50 := by rw [HI.out.1]; omega
        have ho3 := hown.trimL
        rw [HT.out] at ho3 hl50
        have HO := Lib.hid ho3
        clear ho3
        go_wp2_with fail
        refine (l02Trim_any _ _ _ _ hrd hml hle).mono ?_
        rintro e w3 ⟨rfl, rfl⟩
        rw [HT.out]
        go_wp2
        go_ret2
        exact ⟨⟨a, c, rfl, HO.out, by omega⟩, hb⟩
end Go.Proofs.Ytmakcgiekfcofaa
