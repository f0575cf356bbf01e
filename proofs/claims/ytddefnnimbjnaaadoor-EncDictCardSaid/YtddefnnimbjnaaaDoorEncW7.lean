/- The walk of the document's PlainOf at right values. -/
import Derived.Test.YtddefnnimbjnaaaDoorEncW6
import Derived.Test.YtddefnnimbjnaaaDoorBitsW5
import Derived.Test.YtddefnnimbjnaaaDoorBitsW7
import Derived.Test.YtddefnnimbjnaaaDoorWireW8
namespace Go.Proofs.YtddefnnimbjnaaaDoor
set_option linter.unusedVariables false
open Go Go.RowKit Go.ChangeShapes

theorem packed_nil (wd : Nat) : packed wd [] = [] := by simp [packed, bytesOf, little]
theorem packOf_none (w : World) : Calls Tryd.prog 50 #[.slice none 0 0, .int .i64 1] w fun e w' => e = .returned (.string ⟨#[]⟩) ∧ Below w.heap.size w w' := by
  have h := packOf_any (.slice none 0 0) [] 1 w (.inl ⟨rfl, none, 0, rfl⟩) (by omega) (by simp) (by simp)
  rw [packed_nil] at h
  exact h

set_option maxRecDepth 100000 in
set_option maxHeartbeats 2000000 in
theorem plainOf_nums (kind : Int) (z : Nat) (hk : kind = 2 ∧ z = 4 ∨ kind = 3 ∧ z = 8 ∨ kind = 5 ∧ z = 8) (v : Value) (l : List Val) (w : World) (hI : IsVals w v l) (hl : l.length ≤ 20000) :
    Calls Tryd.prog 25 #[.int .i64 kind, v] w fun e w' => e = .returned (.string ⟨(l.flatMap fun x => little z (uN x)).toArray⟩) ∧ Below w.heap.size w w' := by
  have HI := Lib.hid hI
  have hz8 : z ≤ 8 := by omega
  obtain ⟨ad, cap, rfl⟩ := hI.form
  clear hI
  go_enter Tryd.func25, Tryd.ntmps25
  go_wp2_with fail
  go_loopw [5, 6, 7] (fun s b i wr => ∃ k : Nat, k ≤ l.length ∧ i = .int .i64 k ∧ b = .slice none 0 0 ∧ s = .string ⟨((l.take k).flatMap fun x => little z (uN x)).toArray⟩ ∧ Below w.heap.size w wr) (fun _ _ i _ => l.length - (intOf i).toNat)
  case atStart => exact ⟨0, Nat.zero_le _, rfl, rfl, rfl, Below.refl _ _⟩
  case round =>
    obtain ⟨k, hkl, rfl, rfl, rfl, hb⟩ := hrel
    by_cases hlt : k < l.length
    · obtain ⟨b0, off, rfl, hq, hlt0, hc⟩ := (HI.out.below hb (Nat.le_refl _)).at (by omega)
      have hcx := (hc k l[k] (List.getElem?_eq_getElem hlt)).2.1
      have hn : ((l.take (k + 1)).flatMap fun x => little z (uN x)) = ((l.take k).flatMap fun x => little z (uN x)) ++ little z (uN l[k]) := by
        rw [List.take_succ_eq_append_getElem hlt]; exact flat_snoc _ _ _
      have hlen := flat_len8 z (l.take k)
      rw [List.length_take, Nat.min_eq_left hkl] at hlen
      have hlz : ((l.take k).flatMap fun x => little z (uN x)).length ≤ 160000 := by
        rw [hlen]
        have : k * z ≤ 20000 * 8 := Nat.mul_le_mul (by omega) hz8
        omega
      generalize l[k] = x at *
      have hin : (k : Int) < (l.length : Int) := by omega
      have hcv := uN_wrap x
      have hul := uN_lt x
      have hll := little_len z (uN x)
      have HL := Lib.hid (fun w2 => littleOf_any (uN x) z w2 hul (by omega))
      have Hn := Lib.hid hn
      have hlz2 : (little z (uN x)).length ≤ 8 := by omega
      generalize little z (uN x) = ls at *
      generalize ((l.take k).flatMap fun x => little z (uN x)) = acc at *
      clear hq hc hn hlen hul hll
      rcases hk with ⟨rfl, rfl⟩ | ⟨rfl, rfl⟩ | ⟨rfl, rfl⟩
      all_goals
        go_wp2_with fail
        refine (HL.out _).mono ?_; rintro e w2 ⟨rfl, hb2⟩
        go_wp2_with fail
        go_roundw
        case rel => exact ⟨k + 1, by omega, by go_num, rfl, by rw [Hn.out]; exact (by rw [ByteArray.mk_append_mk]), below_trans hb hb2⟩
        case measure => simp [intOf]; omega
    · obtain rfl : k = l.length := by omega
      rw [List.take_length]
      have hlen := flat_len8 z l
      have hlz : (l.flatMap fun x => little z (uN x)).length ≤ 160000 := by
        rw [hlen]
        have : l.length * z ≤ 20000 * 8 := Nat.mul_le_mul (by omega) hz8
        omega
      generalize hacc : (l.flatMap fun x => little z (uN x)) = acc at *
      have Hacc := Lib.hid hacc
      clear hlen hacc
      go_wp2_with fail
      refine (packOf_none _).mono ?_; rintro e w2 ⟨rfl, hb2⟩
      go_wp2_with fail
      go_ret
      exact ⟨ret_of (by
        show Value.string (ByteArray.mk acc.toArray ++ ByteArray.mk #[]) = _
        rw [ByteArray.mk_append_mk, Hacc.out]
        simp), below_trans hb hb2⟩

set_option maxRecDepth 100000 in
set_option maxHeartbeats 2000000 in
theorem plainOf_texts (v : Value) (l : List Val) (w : World) (hI : IsVals w v l) (hl : l.length ≤ 20000) (hP : ∀ x ∈ l, x.s.size ≤ 100) :
    Calls Tryd.prog 25 #[.int .i64 4, v] w fun e w' => e = .returned (.string ⟨(textsB l).toArray⟩) ∧ Below w.heap.size w w' := by
  have HI := Lib.hid hI; have HP := Lib.hid hP
  obtain ⟨ad, cap, rfl⟩ := hI.form
  clear hI hP
  go_enter Tryd.func25, Tryd.ntmps25
  go_wp2_with fail
  go_loopw [5, 6, 7] (fun s b i wr => ∃ k : Nat, k ≤ l.length ∧ i = .int .i64 k ∧ b = .slice none 0 0 ∧ s = .string ⟨(textsB (l.take k)).toArray⟩ ∧ Below w.heap.size w wr) (fun _ _ i _ => l.length - (intOf i).toNat)
  case atStart => exact ⟨0, Nat.zero_le _, rfl, rfl, rfl, Below.refl _ _⟩
  case round =>
    obtain ⟨k, hkl, rfl, rfl, rfl, hb⟩ := hrel
    by_cases hlt : k < l.length
    · obtain ⟨b0, off, rfl, hq, hlt0, hc⟩ := (HI.out.below hb (Nat.le_refl _)).at (by omega)
      have hcx := (hc k l[k] (List.getElem?_eq_getElem hlt)).2.2
      have hpx := HP.out l[k] (List.getElem_mem hlt)
      have hn : textsB (l.take (k + 1)) = textsB (l.take k) ++ textOf l[k].s.data.toList := by
        rw [List.take_succ_eq_append_getElem hlt]; exact flat_snoc _ _ _
      have htl := texts_len (l.take k) fun x hx => HP.out x (List.mem_of_mem_take hx)
      rw [List.length_take] at htl
      have hlz : (textsB (l.take k)).length ≤ 2020000 := by omega
      generalize l[k] = x at *
      have hin : (k : Int) < (l.length : Int) := by omega
      have hxl := textOf_len x.s.data.toList (by rw [size_data]; exact hpx)
      rw [size_data] at hxl
      have HL := Lib.hid (fun w2 => long_any x.s w2 (by omega))
      have Hn := Lib.hid hn
      have hlz2 : (textOf x.s.data.toList).length ≤ 101 := by omega
      generalize textOf x.s.data.toList = ls at *
      generalize textsB (l.take k) = acc at *
      clear hq hc hn hxl htl hpx
      go_wp2_with fail
      refine (HL.out _).mono ?_; rintro e w2 ⟨rfl, hb2⟩
      go_wp2_with fail
      go_roundw
      case rel => exact ⟨k + 1, by omega, by go_num, rfl, by rw [Hn.out]; exact (by rw [ByteArray.mk_append_mk]), below_trans hb hb2⟩
      case measure => simp [intOf]; omega
    · obtain rfl : k = l.length := by omega
      rw [List.take_length]
      have htl := texts_len l HP.out
      have hlz : (textsB l).length ≤ 2020000 := by omega
      generalize hacc : textsB l = acc at *
      have Hacc := Lib.hid hacc
      clear htl hacc
      go_wp2_with fail
      refine (packOf_none _).mono ?_; rintro e w2 ⟨rfl, hb2⟩
      go_wp2_with fail
      go_ret
      exact ⟨ret_of (by
        show Value.string (ByteArray.mk acc.toArray ++ ByteArray.mk #[]) = _
        rw [ByteArray.mk_append_mk, Hacc.out]
        simp), below_trans hb hb2⟩

set_option maxRecDepth 100000 in
set_option maxHeartbeats 2000000 in
theorem plainOf_bools (v : Value) (l : List Val) (w : World) (hI : IsVals w v l) (hl : l.length ≤ 20000) (hP : ∀ x ∈ l, OkP 1 x) :
    Calls Tryd.prog 25 #[.int .i64 1, v] w fun e w' => e = .returned (.string ⟨(packed 1 (numsOf 1 l)).toArray⟩) ∧ Below w.heap.size w w' := by
  have HI := Lib.hid hI; have HP := Lib.hid hP
  obtain ⟨i0, hi, hz0, hz1, hz2⟩ := info_parts info_u64
  obtain ⟨ad, cap, rfl⟩ := hI.form
  clear hI hP
  go_enter Tryd.func25, Tryd.ntmps25
  go_wp2_with fail
  go_loopw [5, 6, 7] (fun s b i wr => ∃ k : Nat, k ≤ l.length ∧ i = .int .i64 k ∧ s = .string ⟨#[]⟩ ∧ wr.ownsRow w.heap.size 71 1 b (numsOf 1 (l.take k)).length ((numsOf 1 (l.take k)).map natU) ∧ Below w.heap.size w wr) (fun _ _ i _ => l.length - (intOf i).toNat)
  case atStart => exact ⟨0, Nat.zero_le _, rfl, rfl, World.ownsRow_nil _ _ _ _, Below.refl _ _⟩
  case round =>
    obtain ⟨k, hkl, rfl, rfl, hown, hb⟩ := hrel
    have Ho := Lib.hid hown
    clear hown
    by_cases hlt : k < l.length
    · obtain ⟨b0, off, rfl, hq, hlt0, hc⟩ := (HI.out.below hb (Nat.le_refl _)).at (by omega)
      have hcx := (hc k l[k] (List.getElem?_eq_getElem hlt)).2.1
      have hpx := (HP.out l[k] (List.getElem_mem hlt)).bool rfl
      have hn : numsOf 1 (l.take (k + 1)) = numsOf 1 (l.take k) ++ [uN l[k] % 2 ^ 1] := by
        rw [List.take_succ_eq_append_getElem hlt]; unfold numsOf; rw [List.map_append]; rfl
      have hln : (numsOf 1 (l.take k)).length = k := by simp [numsOf]; omega
      have hu : uN l[k] % 2 ^ 1 = uN l[k] := by unfold uN; omega
      rw [hu] at hn
      have h63 : (numsOf 1 (l.take k)).length + 1 ≤ maxLen := by rw [hln]; unfold maxLen; omega
      have h64 : ((numsOf 1 (l.take k)).length + 1) * 8 ≤ 140737488355328 := by rw [hln]; omega
      generalize l[k] = x at *
      have hin : (k : Int) < (l.length : Int) := by omega
      have hcv := uN_wrap x
      have Hn := Lib.hid hn
      clear hq hc hn hln hu hpx
      go_wp2_with (at_builtin; refine wpList_push rfl _ _ 70 rfl w.heap.size 71 i0 (.int .u64 0) 8 Tryd.underlying70 hi hz0 hz1 hz2 rfl natU (fun _ => rfl) _ _ rfl Ho.out _ _ rfl h63 h64 hb.size (uN x) rfl ?_; intro v' w1 hown' hb' hnn; have Ho' := Lib.hid hown'; clear hown')
      go_roundw
      case rel => exact ⟨k + 1, by omega, by go_num, rfl, by rw [Hn.out]; exact Ho'.out, hb.trans hb'⟩
      case measure => simp [intOf]; omega
    · obtain rfl : k = l.length := by omega
      rw [List.take_length] at Ho
      obtain ⟨ad2, cap2, rfl⟩ := (numsU_nat Ho.out).form
      have HK := Lib.hid (fun w2 (hb2 : Below w.heap.size w w2) h => packOf_any (.slice ad2 (ints (numsOf 1 l)).length cap2) (numsOf 1 l) 1 w2 h (by omega) (by simp [numsOf]; omega) (numsOf_lt 1 l))
      have HO := Lib.hid (numsU_nat Ho.out)
      have hpl : (packed 1 (numsOf 1 l)).length ≤ 20000 := by
        rw [packed, bytesOf_len]
        have : (numsOf 1 l).length = l.length := by simp [numsOf]
        omega
      clear Ho
      generalize hacc : packed 1 (numsOf 1 l) = pk at *
      have Hacc := Lib.hid hacc
      clear hacc
      go_wp2_with fail
      refine (HK.out _ hb HO.out).mono ?_; rintro e w2 ⟨rfl, hb2⟩
      go_wp2_with fail
      go_ret
      exact ⟨ret_of (by
        show Value.string (ByteArray.mk #[] ++ ByteArray.mk pk.toArray) = _
        rw [ByteArray.mk_append_mk, Hacc.out]
        simp), below_trans hb hb2⟩

/-- the document's plain bytes -/
theorem plainOf_any (kind : Int) (v : Value) (l : List Val) (w : World) (hI : IsVals w v l) (hl : l.length ≤ 20000) (h1 : 1 ≤ kind) (h5 : kind ≤ 5) (hP : ∀ x ∈ l, OkP kind x) :
    Calls Tryd.prog 25 #[.int .i64 kind, v] w fun e w' => e = .returned (.string ⟨(plainB kind l).toArray⟩) ∧ Below w.heap.size w w' := by
  by_cases c1 : kind = 1
  · subst c1; exact plainOf_bools v l w hI hl hP
  · by_cases c4 : kind = 4
    · subst c4; exact plainOf_texts v l w hI hl fun x hx => ((hP x hx).text rfl).2
    · by_cases c2 : kind = 2
      · subst c2; rw [plainB_int]; exact plainOf_nums 2 4 (.inl ⟨rfl, rfl⟩) v l w hI hl
      · have c35 : kind = 3 ∨ kind = 5 := by omega
        rw [plainB_long l c35]
        exact plainOf_nums kind 8 (by omega) v l w hI hl
end Go.Proofs.YtddefnnimbjnaaaDoor
