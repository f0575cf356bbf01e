/- The walks of enc.Prefix and the document's PrefixOf. -/
import Derived.Test.YtddefnnimbjnaaaDoorPre1
import Derived.Test.YtddefnnimbjnaaaDoorEncW7
import Derived.Test.YtddefnnimbjnaaaDoorErrsAt
import Derived.Test.YtddefnnimbjnaaaDoorBuildS
import Derived.Deep.RegionHeld3
namespace Go.Proofs.YtddefnnimbjnaaaDoor
set_option linter.unusedVariables false
open Go Go.RowKit Go.ChangeShapes

theorem get_of_data {s : ByteArray} {k : Nat} {c : UInt8} (h : s.data.toList[k]? = some c) : ∃ h' : k < s.size, s[k] = c := by
  obtain ⟨h1, h2⟩ := List.getElem?_eq_some_iff.1 h
  exact ⟨by simpa using h1, h2⟩
theorem data_get {s : ByteArray} {k : Nat} (h : k < s.size) : s.data.toList[k]? = some s[k] := by
  rw [List.getElem?_eq_getElem (by simpa using h)]; rfl

set_option maxRecDepth 100000 in
set_option maxHeartbeats 1000000 in
theorem prefix_many (v : Value) (l : List ByteArray) (w : World) (a : Addr) (hI : IsStrs w v l) (hE : w.cell? ⟨0, 0, none⟩ = some (.iface 173 (.pointer (some a)))) (h : 20000 < l.length) :
    Calls Tryd.prog 26 #[v] w fun e w' => e = .returned (.tuple #[.string ⟨#[]⟩, .iface 173 (.pointer (some a))]) ∧ Below w.heap.size w w' := by
  obtain ⟨ad, cap, rfl⟩ := hI.form
  have d1 : decide ((20000 : Int) < (l.length : Int)) = true := by simp; omega
  clear hI
  go_enter Tryd.func26, Tryd.ntmps26
  go_wp2_with fail
  go_quiet (fail)
  go_wp2_with fail
  go_ret2
  exact ⟨rfl, below_drewN (Below.refl _ _) _⟩

set_option maxRecDepth 100000 in
set_option maxHeartbeats 1000000 in
theorem prefix_long (v : Value) (l : List ByteArray) (w : World) (a : Addr) (hI : IsStrs w v l) (hE : w.cell? ⟨0, 0, none⟩ = some (.iface 173 (.pointer (some a)))) (h : l.length ≤ 20000) (hF : ∀ x ∈ l, x.size ≤ maxLen)
    (i : Nat) (x : ByteArray) (hx : l[i]? = some x) (hn : 100 < x.size) (hP : ∀ j y, j < i → l[j]? = some y → y.size ≤ 100) :
    Calls Tryd.prog 26 #[v] w fun e w' => e = .returned (.tuple #[.string ⟨#[]⟩, .iface 173 (.pointer (some a))]) ∧ Below w.heap.size w w' := by
  have HI := Lib.hid hI; have HX := Lib.hid hx; have HP := Lib.hid hP
  have hil : i < l.length := (List.getElem?_eq_some_iff.1 hx).1
  have hxm := hF x (List.mem_of_getElem? hx)
  unfold maxLen at hxm
  obtain ⟨ad, cap, rfl⟩ := hI.form
  have d1 : decide ((20000 : Int) < (l.length : Int)) = false := by simp; omega
  clear hI hx hP hF
  go_enter Tryd.func26, Tryd.ntmps26
  go_wp2_with fail
  go_loop [17] (fun j => ∃ k : Nat, k ≤ i ∧ j = .int .i64 (k : Nat)) (fun j => l.length - (intOf j).toNat)
  case atStart => exact ⟨0, Nat.zero_le _, rfl⟩
  case round =>
    obtain ⟨k, hk, rfl⟩ := hrel
    have hlt : k < l.length := by omega
    obtain ⟨b0, off, rfl, hq, hlt0, hc⟩ := HI.out.at (by omega)
    have hin : (k : Int) < (l.length : Int) := by omega
    by_cases hki : k < i
    · have hcx := hc k l[k] (List.getElem?_eq_getElem hlt)
      have hpx := HP.out k l[k] hki (List.getElem?_eq_getElem hlt)
      generalize l[k] = y at *
      have d2 : decide ((100 : Int) < (y.size : Int)) = false := by simp; omega
      clear hq hc
      go_wp2_with fail
      go_round
      case rel => exact ⟨k + 1, by omega, by go_num⟩
      case measure => simp [intOf]; omega
    · obtain rfl : k = i := by omega
      have hcx := hc k x HX.out
      have d2 : decide ((100 : Int) < (x.size : Int)) = true := by simp; omega
      clear hq hc
      go_wp2_with fail
      go_quiet (fail)
      go_wp2_with fail
      go_ret2
      exact ⟨rfl, below_drewN (Below.refl _ _) _⟩

set_option maxRecDepth 100000 in
set_option maxHeartbeats 4000000 in
theorem prefix_ok (v : Value) (l : List ByteArray) (w : World) (hI : IsStrs w v l) (h : l.length ≤ 20000) (hP : ∀ x ∈ l, x.size ≤ 100) :
    Calls Tryd.prog 26 #[v] w fun e w' => e = .returned (.tuple #[.string ⟨(prefixB [] (bytesL l)).toArray⟩, .nilIface]) ∧ Below w.heap.size w w' := by
  have HBd := Lib.hid (BuildAt.fresh w)
  have HI := Lib.hid hI; have HP := Lib.hid hP
  obtain ⟨ad, cap, rfl⟩ := hI.form
  have d1 : decide ((20000 : Int) < (l.length : Int)) = false := by simp; omega
  clear hI hP
  go_enter Tryd.func26, Tryd.ntmps26
  go_wp2_with fail
  go_loop [17] (fun j => ∃ k : Nat, k ≤ l.length ∧ j = .int .i64 (k : Nat)) (fun j => l.length - (intOf j).toNat)
  case atStart => exact ⟨0, Nat.zero_le _, rfl⟩
  case round =>
    obtain ⟨k, hk, rfl⟩ := hrel
    by_cases hlt : k < l.length
    · obtain ⟨b0, off, rfl, hq, hlt0, hc⟩ := HI.out.at (by omega)
      have hin : (k : Int) < (l.length : Int) := by omega
      have hcx := hc k l[k] (List.getElem?_eq_getElem hlt)
      have hpx := HP.out l[k] (List.getElem_mem hlt)
      generalize l[k] = y at *
      have d2 : decide ((100 : Int) < (y.size : Int)) = false := by simp; omega
      clear hq hc
      go_wp2_with fail
      go_round
      case rel => exact ⟨k + 1, by omega, by go_num⟩
      case measure => simp [intOf]; omega
    · obtain rfl : k = l.length := by omega
      clear hk hlt
      go_wp2_with fail
      go_loopw [7, 28] (fun la j wr => ∃ (k : Nat) (last : ByteArray), k ≤ l.length ∧ j = .int .i64 (k : Nat) ∧ la = .string last ∧ last.size ≤ 100 ∧ last.data.toList = lastOr [] (bytesL (l.take k)) ∧ BuildAt w.heap.size w.heap.size (prefixB [] (bytesL (l.take k))) wr ∧ Below w.heap.size w wr) (fun _ j _ => l.length - (intOf j).toNat)
      case atStart => exact ⟨0, ⟨#[]⟩, Nat.zero_le _, rfl, rfl, by decide, rfl, HBd.out, (Below.refl _ _).alloc (Nat.le_refl _) _⟩
      case round =>
        obtain ⟨k, last, hkl, rfl, rfl, hls, hla, hbd, hb⟩ := hrel
        have Hbd := Lib.hid hbd; have Hb := Lib.hid hb; have Hla := Lib.hid hla
        clear hbd hb hla
        by_cases hlt : k < l.length
        · obtain ⟨b0, off, rfl, hq, hlt0, hc⟩ := (HI.out.below Hb.out (Nat.le_refl _)).at (by omega)
          have hin : (k : Int) < (l.length : Int) := by omega
          have hcx := hc k l[k] (List.getElem?_eq_getElem hlt)
          have hpx := HP.out l[k] (List.getElem_mem hlt)
          have hn : bytesL (l.take (k + 1)) = bytesL (l.take k) ++ [l[k].data.toList] := by
            rw [List.take_succ_eq_append_getElem hlt]; unfold bytesL; rw [List.map_append]; rfl
          have htl := prefixB_len (bytesL (l.take k)) [] (fun s hs => by
            obtain ⟨y, hy, rfl⟩ := List.mem_map.1 hs
            rw [size_data]; exact HP.out y (List.mem_of_mem_take hy))
          have htk : (bytesL (l.take k)).length ≤ 20000 := by unfold bytesL; rw [List.length_map, List.length_take]; omega
          generalize l[k] = s at *
          have hpr : prefixB [] (bytesL (l.take (k + 1))) = prefixB [] (bytesL (l.take k)) ++ onePre last.data.toList s.data.toList := by rw [hn, prefixB_snoc, Hla.out]
          have hlr : s.data.toList = lastOr [] (bytesL (l.take (k + 1))) := by rw [hn, lastOr_snoc]
          have hll : (prefixB [] (bytesL (l.take k))).length ≤ 2040000 := by omega
          have Hpr := Lib.hid hpr; have Hlr := Lib.hid hlr
          clear hq hc hn htl htk hpr hlr
          have hle := lcp_le s.data.toList last.data.toList
          rw [size_data, size_data] at hle
          have Hat := Lib.hid (lcp_at s.data.toList last.data.toList)
          have Hst := Lib.hid (lcp_stop s.data.toList last.data.toList)
          have Hone := Lib.hid (show onePre last.data.toList s.data.toList = seven (lcp s.data.toList last.data.toList) ++ textOf ((s.extract (lcp s.data.toList last.data.toList) s.size).data.toList) by rw [ext_to_end]; rfl)
          generalize lcp s.data.toList last.data.toList = L at *
          obtain ⟨hle1, hle2⟩ := hle
          go_wp2_with fail
          obtain ⟨wo, hwo⟩ : ∃ wo : World, wo = wr := ⟨_, rfl⟩
          subst hwo
          go_loopw [10] (fun q w2 => ∃ j n : Nat, j ≤ L ∧ q = .int .i64 (j : Nat) ∧ w2 = wo.drewN n) (fun q _ => L - (intOf q).toNat)
          case atStart => exact ⟨0, 0, Nat.zero_le _, rfl, rfl⟩
          case round =>
            obtain ⟨j, n, hj, rfl, rfl⟩ := hrel
            by_cases hjl : j < L
            · obtain ⟨c, e1, e2⟩ := Hat.out j hjl
              obtain ⟨g1, e1⟩ := get_of_data e1
              obtain ⟨g2, e2⟩ := get_of_data e2
              have hee : (((s[j]).toNat : Int) == ((last[j]).toNat : Int)) = true := by rw [e1, e2]; simp
              have i1 : (j : Int) < (s.size : Int) := by omega
              have i2 : (j : Int) < (last.size : Int) := by omega
              clear e1 e2
              go_wp2_with fail
              go_quiet (fail)
              go_wp2_with fail
              go_roundw
              case rel => exact ⟨j + 1, _, by omega, by go_num, rfl⟩
              case measure => simp [intOf]; omega
            · obtain rfl : j = L := by omega
              have hcase : (decide (j < s.size) = false) ∨ (((j : Int) < (s.size : Int)) ∧ decide (j < last.size) = false) ∨ (∃ (g1 : j < s.size) (g2 : j < last.size), (j : Int) < (s.size : Int) ∧ (j : Int) < (last.size : Int) ∧ (((s[j]).toNat : Int) == ((last[j]).toNat : Int)) = false) := by
                by_cases g1 : j < s.size
                · by_cases g2 : j < last.size
                  · refine .inr (.inr ⟨g1, g2, by omega, by omega, ?_⟩)
                    have := Hst.out _ _ (data_get g1) (data_get g2)
                    rw [beq_eq_false_iff_ne]
                    intro he
                    exact this (UInt8.toNat_inj.1 (by omega))
                  · exact .inr (.inl ⟨by omega, by simp; omega⟩)
                · exact .inl (by simp; omega)
              have HU := Lib.hid (fun w2 => uvarint_any ((j : Nat) : Int) w2 (by omega) (by omega))
              have HT := Lib.hid (fun w2 => text_any (s.extract j s.size) w2 (by rw [ByteArray.size_extract]; omega))
              have hw64 : IntKind.u64.wrap ((j : Nat) : Int) = ((j : Nat) : Int) := by rw [IntKind.wrap_u64]; omega
              have hs7 := seven_len (show j < 18446744073709551616 by omega)
              have hst : (textOf (s.extract j s.size).data.toList).length ≤ 101 := by
                rw [ext_to_end, textOf_len _ (by rw [List.length_drop, size_data]; omega), List.length_drop, size_data]; omega
              rw [Int.toNat_natCast] at HU
              generalize hT7 : textOf (s.extract j s.size).data.toList = t7 at *
              generalize hS7 : seven j = s7 at *
              have HT7 := Lib.hid hT7; have HS7 := Lib.hid hS7
              clear hjl hT7 hS7
              rcases hcase with i1 | ⟨i1, i2⟩ | ⟨g1, g2, i1, i2, i3⟩
              all_goals
                go_wp2_with fail
                go_quiet (fail)
                go_wp2_with fail
                have hadd : ¬ 9223372036854775807 < s7.length + t7.length := by omega
                go_region_held3 (fun w' => True) (trivial)
                  (first
                  | (go_at_call 52; (with_reducible refine (HU.out _).mono ?_); rintro e w1 ⟨rfl, hb1⟩
                     have hb1 : Below wo.heap.size wo w1 := (below_drewN (Below.refl wo.heap.size wo) _).trans (hb1.mono (by simp)))
                  | (go_at_call 53; (with_reducible refine (HT.out _).mono ?_); rintro e w2 ⟨rfl, hb2⟩
                     have hb2 := below_trans hb1 hb2)
                  | (go_at_call 51
                     have hB2 := Hbd.out.below hb2
                     rw [show (ByteArray.mk s7.toArray ++ ByteArray.mk t7.toArray) = ⟨(s7 ++ t7).toArray⟩ from ByteArray.mk_append_mk _ _]
                     refine (writeString_any w.heap.size w.heap.size _ (s7 ++ t7) w2 hB2 (by rw [List.length_append]; omega) (by have := hb2.size; have := Hb.out.size; omega)).mono ?_; rintro e w3 ⟨rfl, hB3, hb3, hk3⟩))
                have HB3 := Lib.hid hB3
                have Hb3 := Lib.hid (((Hb.out.trans (hb2.mono Hb.out.size)).trans hb3))
                clear hB3 hb3 hk3 hb2 hb1 hB2
                go_wp2_with fail
                go_roundw
                case rel => exact ⟨k + 1, s, by omega, by go_num, rfl, hpx, Hlr.out, by rw [Hpr.out, Hone.out]; exact HB3.out, Hb3.out⟩
                case measure => simp [intOf]; omega
        · obtain rfl : k = l.length := by omega
          rw [List.take_length] at Hbd
          have HS := Lib.hid (fun w3 h h3 => builderString_any w.heap.size w.heap.size (prefixB [] (bytesL l)) w3 h h3)
          go_wp2_with fail
          refine (HS.out _ Hbd.out Hb.out.size).mono ?_; rintro e w3 ⟨rfl, hb3⟩
          go_wp2_with fail
          go_ret2
          exact ⟨rfl, Hb.out.trans hb3⟩

set_option maxRecDepth 100000 in
set_option maxHeartbeats 4000000 in
theorem prefixOf_any (v : Value) (l : List ByteArray) (w : World) (hI : IsStrs w v l) (h : l.length ≤ 20000) (hP : ∀ x ∈ l, x.size ≤ 100) :
    Calls Tryd.prog 28 #[v] w fun e w' => e = .returned (.string ⟨(prefixB [] (bytesL l)).toArray⟩) ∧ Below w.heap.size w w' := by
  have HI := Lib.hid hI; have HP := Lib.hid hP
  obtain ⟨ad, cap, rfl⟩ := hI.form
  clear hI hP
  go_enter Tryd.func28, Tryd.ntmps28
  go_wp2_with fail
  go_loopw [3, 4, 5] (fun o la j wr => ∃ (k : Nat) (last : ByteArray), k ≤ l.length ∧ j = .int .i64 (k : Nat) ∧ la = .string last ∧ last.size ≤ 100 ∧ last.data.toList = lastOr [] (bytesL (l.take k)) ∧ o = .string ⟨(prefixB [] (bytesL (l.take k))).toArray⟩ ∧ Below w.heap.size w wr) (fun _ _ j _ => l.length - (intOf j).toNat)
  case atStart => exact ⟨0, ⟨#[]⟩, Nat.zero_le _, rfl, rfl, by decide, rfl, rfl, Below.refl _ _⟩
  case round =>
    obtain ⟨k, last, hkl, rfl, rfl, hls, hla, rfl, hb⟩ := hrel
    have Hb := Lib.hid hb; have Hla := Lib.hid hla
    clear hb hla
    by_cases hlt : k < l.length
    · obtain ⟨b0, off, rfl, hq, hlt0, hc⟩ := (HI.out.below Hb.out (Nat.le_refl _)).at (by omega)
      have hin : (k : Int) < (l.length : Int) := by omega
      have hcx := hc k l[k] (List.getElem?_eq_getElem hlt)
      have hpx := HP.out l[k] (List.getElem_mem hlt)
      have hn : bytesL (l.take (k + 1)) = bytesL (l.take k) ++ [l[k].data.toList] := by
        rw [List.take_succ_eq_append_getElem hlt]; unfold bytesL; rw [List.map_append]; rfl
      have htl := prefixB_len (bytesL (l.take k)) [] (fun s hs => by
        obtain ⟨y, hy, rfl⟩ := List.mem_map.1 hs
        rw [size_data]; exact HP.out y (List.mem_of_mem_take hy))
      have htk : (bytesL (l.take k)).length ≤ 20000 := by unfold bytesL; rw [List.length_map, List.length_take]; omega
      generalize l[k] = s at *
      have hpr : prefixB [] (bytesL (l.take (k + 1))) = prefixB [] (bytesL (l.take k)) ++ onePre last.data.toList s.data.toList := by rw [hn, prefixB_snoc, Hla.out]
      have hlr : s.data.toList = lastOr [] (bytesL (l.take (k + 1))) := by rw [hn, lastOr_snoc]
      have hll : (prefixB [] (bytesL (l.take k))).length ≤ 2040000 := by omega
      have Hpr := Lib.hid hpr; have Hlr := Lib.hid hlr
      clear hq hc hn htl htk hpr hlr
      have hle := lcp_le s.data.toList last.data.toList
      rw [size_data, size_data] at hle
      have Hat := Lib.hid (lcp_at s.data.toList last.data.toList)
      have Hst := Lib.hid (lcp_stop s.data.toList last.data.toList)
      have Hone := Lib.hid (show onePre last.data.toList s.data.toList = seven (lcp s.data.toList last.data.toList) ++ textOf ((s.extract (lcp s.data.toList last.data.toList) s.size).data.toList) by rw [ext_to_end]; rfl)
      generalize lcp s.data.toList last.data.toList = L at *
      generalize prefixB [] (bytesL (l.take k)) = acc at *
      obtain ⟨hle1, hle2⟩ := hle
      go_wp2_with fail
      obtain ⟨wo, hwo⟩ : ∃ wo : World, wo = wr := ⟨_, rfl⟩
      subst hwo
      go_loopw [6] (fun q w2 => ∃ j n : Nat, j ≤ L ∧ q = .int .i64 (j : Nat) ∧ w2 = wo.drewN n) (fun q _ => L - (intOf q).toNat)
      case atStart => exact ⟨0, 0, Nat.zero_le _, rfl, rfl⟩
      case round =>
        obtain ⟨j, n, hj, rfl, rfl⟩ := hrel
        by_cases hjl : j < L
        · obtain ⟨c, e1, e2⟩ := Hat.out j hjl
          obtain ⟨g1, e1⟩ := get_of_data e1
          obtain ⟨g2, e2⟩ := get_of_data e2
          have hee : (((s[j]).toNat : Int) == ((last[j]).toNat : Int)) = true := by rw [e1, e2]; simp
          have i1 : (j : Int) < (s.size : Int) := by omega
          have i2 : (j : Int) < (last.size : Int) := by omega
          clear e1 e2
          go_wp2_with fail
          go_quiet (fail)
          go_wp2_with fail
          go_roundw
          case rel => exact ⟨j + 1, _, by omega, by go_num, rfl⟩
          case measure => simp [intOf]; omega
        · obtain rfl : j = L := by omega
          have hcase : (decide (j < s.size) = false) ∨ (((j : Int) < (s.size : Int)) ∧ decide (j < last.size) = false) ∨ (∃ (g1 : j < s.size) (g2 : j < last.size), (j : Int) < (s.size : Int) ∧ (j : Int) < (last.size : Int) ∧ (((s[j]).toNat : Int) == ((last[j]).toNat : Int)) = false) := by
            by_cases g1 : j < s.size
            · by_cases g2 : j < last.size
              · refine .inr (.inr ⟨g1, g2, by omega, by omega, ?_⟩)
                have := Hst.out _ _ (data_get g1) (data_get g2)
                rw [beq_eq_false_iff_ne]
                intro he
                exact this (UInt8.toNat_inj.1 (by omega))
              · exact .inr (.inl ⟨by omega, by simp; omega⟩)
            · exact .inl (by simp; omega)
          have HU := Lib.hid (fun w2 => sevenOf_any ((j : Nat) : Int) w2 (by omega) (by omega))
          have HT := Lib.hid (fun w2 => long_any (s.extract j s.size) w2 (by rw [ByteArray.size_extract]; omega))
          have hw64 : IntKind.u64.wrap ((j : Nat) : Int) = ((j : Nat) : Int) := by rw [IntKind.wrap_u64]; omega
          have hs7 := seven_len (show j < 18446744073709551616 by omega)
          have hst : (textOf (s.extract j s.size).data.toList).length ≤ 101 := by
            rw [ext_to_end, textOf_len _ (by rw [List.length_drop, size_data]; omega), List.length_drop, size_data]; omega
          rw [Int.toNat_natCast] at HU
          generalize textOf (s.extract j s.size).data.toList = t7 at *
          generalize seven j = s7 at *
          have hadd1 : ¬ 9223372036854775807 < acc.length + s7.length := by omega
          have hadd2 : ¬ 9223372036854775807 < acc.length + s7.length + t7.length := by omega
          clear hjl
          rcases hcase with i1 | ⟨i1, i2⟩ | ⟨g1, g2, i1, i2, i3⟩
          all_goals
            go_wp2_with fail
            go_quiet (fail)
            go_wp2_with fail
            go_region_held3 (fun w' => w'.cell? ⟨b0, off + k, none⟩ = some (.string s)) (first | exact hcx | exact hc1 | exact hc2)
              (first
              | (go_at_call 55; (with_reducible refine (HU.out _).mono ?_); rintro e w1 ⟨rfl, hb1⟩
                 have hb1 : Below wo.heap.size wo w1 := (below_drewN (Below.refl wo.heap.size wo) _).trans (hb1.mono (by simp))
                 have hc1 : w1.cell? ⟨b0, off + k, none⟩ = some (.string s) := (hb1.cell (p := ⟨b0, off + k, none⟩) hlt0).trans hcx)
              | (go_at_call 49; (with_reducible refine (HT.out _).mono ?_); rintro e w2 ⟨rfl, hb2⟩
                 have hb2 := below_trans hb1 hb2
                 have hc2 : w2.cell? ⟨b0, off + k, none⟩ = some (.string s) := (hb2.cell (p := ⟨b0, off + k, none⟩) hlt0).trans hcx))
            go_wp2_with fail
            go_roundw
            case rel => exact ⟨k + 1, s, by omega, by go_num, rfl, hpx, Hlr.out, by rw [Hpr.out, Hone.out, ← List.append_assoc]; exact (by rw [ByteArray.mk_append_mk, ByteArray.mk_append_mk]), Hb.out.trans (hb2.mono Hb.out.size)⟩
            case measure => simp [intOf]; omega
    · obtain rfl : k = l.length := by omega
      go_wp2_with fail
      go_ret
      exact ⟨ret_of (by rw [List.take_length]; rfl), Hb.out⟩
end Go.Proofs.YtddefnnimbjnaaaDoor
