/- The walks of CutAt, Cut and Lines (program and reference): a text is cut at certain bytes. For every two texts within the reach. -/
import Derived.Test.YtmakcgiekfcofaaWStrS
import Derived.Shelf.Strings.Search1
import Derived.Lib.Agree
namespace Go.Proofs.Ytmakcgiekfcofaa
open Go.RowKit Go.Shelf
def isSep (b : ByteArray) (c : UInt8) : Bool := decide (c ∈ b.data.toList)
def cutSt (s b : ByteArray) : Nat → List ByteArray × Nat
  | 0 => ([], 0)
  | i + 1 => if isSep b (s.data.toList.getD i 0) then ((cutSt s b i).1 ++ [s.extract (cutSt s b i).2 i], i + 1) else cutSt s b i
def fCutAt (s b : ByteArray) : List ByteArray := (cutSt s b s.size).1 ++ [s.extract (cutSt s b s.size).2 s.size]
theorem cutSt_le (s b : ByteArray) : ∀ i, (cutSt s b i).1.length ≤ i ∧ (cutSt s b i).2 ≤ i
  | 0 => ⟨Nat.le_refl _, Nat.le_refl _⟩
  | i + 1 => by
    have := cutSt_le s b i
    unfold cutSt
    split
    · simp; omega
    · omega
theorem cutSt_yes {s b : ByteArray} {i : Nat} (h : isSep b (s.data.toList.getD i 0) = true) : cutSt s b (i + 1) = ((cutSt s b i).1 ++ [s.extract (cutSt s b i).2 i], i + 1) := by
  rw [cutSt, if_pos h]
theorem cutSt_no {s b : ByteArray} {i : Nat} (h : isSep b (s.data.toList.getD i 0) = false) : cutSt s b (i + 1) = cutSt s b i := by
  rw [cutSt, if_neg (by rw [h]; simp)]
theorem fCutAt_len (s b : ByteArray) : (fCutAt s b).length ≤ s.size + 1 := by
  have := (cutSt_le s b s.size).1
  unfold fCutAt; simp; omega
theorem byte_at (s : ByteArray) (i : Nat) (h : i < s.size) : s.data.toList.getD i 0 = s[i] := by
  rw [List.getD_eq_getElem?_getD, List.getElem?_eq_getElem (by simpa using h)]
  simp [ByteArray.getElem_eq_getElem_data]
theorem indexByte_mem (l : List UInt8) (c : UInt8) : (0 ≤ Lib.indexByte l c ∧ c ∈ l) ∨ (Lib.indexByte l c = -1 ∧ c ∉ l) := by
  induction l with
  | nil => right; simp [Lib.indexByte]
  | cons x l ih =>
    unfold Lib.indexByte
    by_cases e : x = c
    · subst e; left; simp
    · rw [if_neg (by simpa using e)]
      rcases ih with ⟨h1, h2⟩ | ⟨h1, h2⟩
      · left
        rw [if_neg (by rw [beq_iff_eq]; omega)]
        exact ⟨by omega, List.mem_cons_of_mem _ h2⟩
      · right
        rw [if_pos (by rw [beq_iff_eq]; exact h1)]
        refine ⟨rfl, ?_⟩
        rw [List.mem_cons]
        rintro (h | h)
        · exact e h.symm
        · exact h2 h
def Try.laysIndex_ren : Go.Shelf.Ren := ⟨fun | 217 => 59 | 266 => 73 | n => n, fun | 9 => 9 | 5 => 5 | 3 => 3 | n => n, fun | n => n⟩
theorem Try.laysIndex : Go.Proofs.Lays.n217 Try.prog Try.laysIndex_ren := {
  mixed := by kernel_rfl
  f217 := Try.func59.trans (congrArg some (by kernel_rfl))
  f266 := Try.func73.trans (congrArg some (by kernel_rfl))
  t3 := Try.underlying3
  a3 := Try.isAgg3
  z3 := Try.sizeOf3
  v3 := Try.zeroValue3
  t5 := Try.underlying5
  a5 := Try.isAgg5
  z5 := Try.sizeOf5
  v5 := Try.zeroValue5
  t9 := Try.underlying9
  a9 := Try.isAgg9
  z9 := Try.sizeOf9
  v9 := Try.zeroValue9 }
theorem fIndex : Try.laysIndex_ren.f 217 = 59 := by kernel_rfl
theorem liteIndex_any (s : ByteArray) (c : Int) (w : World) :
    Calls Try.prog 59 #[.string s, .int .u8 c] w fun e w' => e = .returned (.int .i64 (Lib.indexByte s.data.toList c.toNat.toUInt8)) ∧ w' = w := by
  have h := Any.stringslite_IndexByte Try.laysIndex s c w
  rw [fIndex] at h
  exact h
theorem indexByte_any (s : ByteArray) (c : Int) (w : World) :
    Calls Try.prog 43 #[.string s, .int .u8 c] w fun e w' => e = .returned (.int .i64 (Lib.indexByte s.data.toList c.toNat.toUInt8)) ∧ w' = w := by
  go_enter Try.func43, Try.ntmps43
  go_wp2_with fail
  refine (liteIndex_any _ _ _).mono ?_
  rintro e w' ⟨rfl, rfl⟩
  go_wp2
  go_ret
  exact ⟨rfl, rfl⟩
set_option maxHeartbeats 1600000 in
theorem impl_CutAt (s b : ByteArray) (w : World) (hs : s.size ≤ 1048576) (_hb0 : b.size ≤ 1099511627776) :
    Calls Try.prog 23 #[.string s, .string b] w fun e w' => (∃ a c, e = .returned (.slice a (fCutAt s b).length c) ∧ OwnS w' w.heap.size a c (fCutAt s b) ∧ (fCutAt s b).length ≤ 1048577) ∧ Below w.heap.size w w' := by
  have ho := Lib.hid (OwnS.empty w w.heap.size (Nat.le_refl _))
  have hb := (Below.refl w.heap.size w).alloc (Nat.le_refl _) (.cells #[] 9)
  have HL := Lib.hid (show (fCutAt s b).length ≤ 1048577 by have := fCutAt_len s b; omega)
  go_enter Try.func23, Try.ntmps23
  go_wp2
  go_loopw [5, 6, 7] (fun pv fv iv wr => ∃ (i : Nat) (a : Option Addr) (c : Nat), iv = .int .i64 i ∧ fv = .int .i64 ((cutSt s b i).2 : Nat) ∧ pv = .slice a (cutSt s b i).1.length c ∧ i ≤ s.size ∧ OwnS wr w.heap.size a c (cutSt s b i).1 ∧ Below w.heap.size w wr) (fun _ _ iv _ => s.size - (intOf iv).toNat)
  case atStart => exact ⟨0, _, _, rfl, rfl, rfl, Nat.zero_le _, ho.out, hb⟩
  case round =>
    clear hb
    obtain ⟨i, a, c, rfl, rfl, rfl, hi, hown, hb⟩ := hrel
    have hle := cutSt_le s b i
    have hsz := hb.size
    obtain ⟨hle1, hle2⟩ := hle
    by_cases hlt : i < s.size
    · have hat := byte_at s i hlt
      have hc8 : ((s[i].toNat : Int).toNat.toUInt8) = s[i] := by simp
      have hmem := indexByte_mem b.data.toList s[i]
      go_wp2_with fail
      refine (indexByte_any _ _ _).mono ?_
      rintro e w1 ⟨rfl, rfl⟩
      rw [hc8]
      rcases hmem with ⟨h1, h2⟩ | ⟨h1, h2⟩
      · have hsep : isSep b (s.data.toList.getD i 0) = true := by unfold isSep; rw [hat]; exact decide_eq_true h2
        have HY := Lib.hid (cutSt_yes hsep)
        go_wp2_with (at_builtin; refine app1S _ rfl _ _ rfl w.heap.size a c (cutSt s b i).1 _ rfl rfl hown (by omega) hsz ?_)
        intro a' c' w' ho' hb'
        have hb2 := Lib.hid (hb.trans hb')
        have HO := Lib.hid ho'
        have hlen : (cutSt s b (i + 1)).1.length = (cutSt s b i).1.length + 1 := by rw [HY.out]; simp
        clear hb hb' hown ho' hat hsep
        go_wp2
        go_roundw
        case rel => exact ⟨i + 1, a', c', by go_num, by rw [HY.out]; go_num, by rw [hlen], by omega, by rw [HY.out]; exact HO.out, hb2.out⟩
        case measure => simp [intOf]; omega
      · have hsep : isSep b (s.data.toList.getD i 0) = false := by unfold isSep; rw [hat]; exact decide_eq_false h2
        have HN := Lib.hid (cutSt_no hsep)
        have h3 : ¬ 0 ≤ Lib.indexByte b.data.toList s[i] := by omega
        rw [h1]
        clear hat hsep h1 h3
        go_wp2
        go_roundw
        case rel => exact ⟨i + 1, a, c, by go_num, by rw [HN.out], by rw [HN.out], by omega, by rw [HN.out]; exact hown, hb⟩
        case measure => simp [intOf]; omega
    · have e : i = s.size := by omega
      subst e
      go_wp2_with (at_builtin; refine app1S _ rfl _ _ rfl w.heap.size a c (cutSt s b s.size).1 _ rfl rfl hown (by omega) hsz ?_)
      intro a' c' w' ho' hb'
      have hlen : (fCutAt s b).length = (cutSt s b s.size).1.length + 1 := by unfold fCutAt; simp
      go_wp2
      go_ret
      exact ⟨⟨a', c', by rw [hlen]; simp, ho', HL.out⟩, hb.trans hb'⟩
theorem take_mem_succ {b : ByteArray} {k : Nat} {c : UInt8} (hk : k < b.size) (h : c ∉ b.data.toList.take k) (hne : c ≠ b[k]) : c ∉ b.data.toList.take (k + 1) := by
  rw [take_snoc b k hk, List.mem_append]
  rintro (h1 | h1)
  · exact h h1
  · exact hne (by simpa using h1)
set_option maxHeartbeats 3200000 in
theorem spec_CutAt (s b : ByteArray) (w : World) (hs : s.size ≤ 1048576) (hb0 : b.size ≤ 1099511627776) :
    Calls Try.prog 19 #[.string s, .string b] w fun e w' => (∃ a c, e = .returned (.slice a (fCutAt s b).length c) ∧ OwnS w' w.heap.size a c (fCutAt s b) ∧ (fCutAt s b).length ≤ 1048577) ∧ Below w.heap.size w w' := by
  have ho := Lib.hid (OwnS.empty w w.heap.size (Nat.le_refl _))
  have hb := (Below.refl w.heap.size w).alloc (Nat.le_refl _) (.cells #[] 9)
  have HL := Lib.hid (show (fCutAt s b).length ≤ 1048577 by have := fCutAt_len s b; omega)
  go_enter Try.func19, Try.ntmps19
  go_wp2
  go_loopw [5, 6, 7, 8] (fun pv fv iv _ wr => ∃ (i : Nat) (a : Option Addr) (c : Nat), iv = .int .i64 i ∧ fv = .int .i64 ((cutSt s b i).2 : Nat) ∧ pv = .slice a (cutSt s b i).1.length c ∧ i ≤ s.size ∧ OwnS wr w.heap.size a c (cutSt s b i).1 ∧ Below w.heap.size w wr) (fun _ _ iv _ _ => s.size - (intOf iv).toNat)
  case atStart => exact ⟨0, _, _, rfl, rfl, rfl, Nat.zero_le _, ho.out, hb⟩
  case round =>
    clear hb
    obtain ⟨i, a, c, rfl, rfl, rfl, hi, hown, hb⟩ := hrel
    have hle := cutSt_le s b i
    have hsz := hb.size
    obtain ⟨hle1, hle2⟩ := hle
    by_cases hlt : i < s.size
    · have HAT := Lib.hid (byte_at s i hlt)
      have HO := Lib.hid hown
      have HB := Lib.hid hb
      obtain ⟨wo, rfl⟩ : ∃ wo : World, wo = wr := ⟨_, rfl⟩
      clear hown hb
      go_wp2
      go_loopw [5, 6, 8] (fun pv fv kv wr => ∃ k q : Nat, pv = .slice a (cutSt s b i).1.length c ∧ fv = .int .i64 ((cutSt s b i).2 : Nat) ∧ kv = .int .i64 k ∧ k ≤ b.size ∧ Hid (s[i] ∉ b.data.toList.take k) ∧ wr = wo.drewN q) (fun _ _ kv _ => b.size - (intOf kv).toNat)
      case atStart => exact ⟨0, 0, rfl, rfl, rfl, Nat.zero_le _, Lib.hid (by simp), rfl⟩
      case round =>
        obtain ⟨k, q, rfl, rfl, rfl, hk, hno, rfl⟩ := hrel
        have hown : OwnS (wo.drewN q) w.heap.size a c (cutSt s b i).1 := HO.out
        have hb : Below w.heap.size w (wo.drewN q) := bel_drewN HB.out q
        by_cases hkb : k < b.size
        · by_cases heq : s[i] = b[k]
          · have hE : ((s[i].toNat : Int) == (b[k].toNat : Int)) = true := by rw [heq]; simp
            have hsep : isSep b (s.data.toList.getD i 0) = true := by
              unfold isSep; rw [HAT.out, heq]
              exact decide_eq_true (by simp [ByteArray.getElem_eq_getElem_data])
            have HY := Lib.hid (cutSt_yes hsep)
            clear heq hsep
            go_wp2
            go_quiet (fail)
            go_wp2_with (at_builtin; refine app1S _ rfl _ _ rfl w.heap.size a c (cutSt s b i).1 _ rfl rfl hown (by omega) hb.size ?_)
            intro a' c' w' ho' hb'
            have hb2 := Lib.hid ((bel_drewN HB.out _).trans hb')
            have HO2 := Lib.hid ho'
            have hlen : (cutSt s b (i + 1)).1.length = (cutSt s b i).1.length + 1 := by rw [HY.out]; simp
            clear hb hb' hown ho'
            go_wp2
            go_roundw
            case rel => exact ⟨i + 1, a', c', by go_num, by rw [HY.out]; go_num, by rw [hlen], by omega, by rw [HY.out]; exact HO2.out, hb2.out⟩
            case measure => simp [intOf]; omega
          · have hE : ((s[i].toNat : Int) == (b[k].toNat : Int)) = false := by
              rw [beq_eq_false_iff_ne]
              intro e
              exact heq (UInt8.toNat_inj.1 (by omega))
            have HN := Lib.hid (take_mem_succ hkb hno.out heq)
            clear heq hno
            go_wp2
            go_quiet (fail)
            go_wp2
            go_roundw
            case rel => exact ⟨k + 1, _, rfl, rfl, by go_num, by omega, HN, rfl⟩
            case measure => simp [intOf]; omega
        · have hsep : isSep b (s.data.toList.getD i 0) = false := by
            unfold isSep; rw [HAT.out]
            have := hno.out
            rw [List.take_of_length_le (by simp; omega)] at this
            exact decide_eq_false this
          have HN := Lib.hid (cutSt_no hsep)
          clear hsep hno
          go_wp2
          go_roundw
          case rel => exact ⟨i + 1, a, c, by go_num, by rw [HN.out], by rw [HN.out], by omega, by rw [HN.out]; exact hown, hb⟩
          case measure => simp [intOf]; omega
    · have e : i = s.size := by omega
      subst e
      go_wp2_with (at_builtin; refine app1S _ rfl _ _ rfl w.heap.size a c (cutSt s b s.size).1 _ rfl rfl hown (by omega) hsz ?_)
      intro a' c' w' ho' hb'
      have hlen : (fCutAt s b).length = (cutSt s b s.size).1.length + 1 := by unfold fCutAt; simp
      go_wp2
      go_ret
      exact ⟨⟨a', c', by rw [hlen]; simp, ho', HL.out⟩, hb.trans hb'⟩
def fCut (s : ByteArray) : List ByteArray := fCutAt s ⟨#[32]⟩
def fDropE (L : List ByteArray) : List ByteArray := if (L.getD (L.length - 1) ByteArray.empty).toList.isEmpty then L.take (L.length - 1) else L
def fLines (s : ByteArray) : List ByteArray := fDropE (fCutAt s ⟨#[10]⟩)
end Go.Proofs.Ytmakcgiekfcofaa
