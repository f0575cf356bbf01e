/- Merged texts: Pre1, PreW1, StrArgs. -/
import Derived.Test.YtapiabmmfmfaeaaGreatDoorMEnc
import Derived.Test.YtapiabmmfmfaeaaGreatDoorMRef
import Derived.Test.YtapiabmmfmfaeaaGreatDoorMErr
import Derived.Deep.RegionHeld3
import Derived.SliceStrings
import Derived.OpenShut
/- Chapter 3 in plain Lean: texts by what they have in common; slices of texts in memory. -/
namespace Go.Proofs.YtapiabmmfmfaeaaGreatDoor
set_option maxHeartbeats 4000000
set_option linter.unusedVariables false
open Go Go.RowKit Go.ChangeShapes
def lcp:List UInt8 → List UInt8 → Nat
 | a :: x,b :: y=>if a = b then lcp x y + 1 else 0
 | _,_=>0
theorem lcp_le:∀ x y,lcp x y ≤ x.length ∧ lcp x y ≤ y.length
 | [],_=>by simp [lcp]
 | _ :: _,[]=>by simp [lcp]
 | a :: x,b :: y=>by
  have:=lcp_le x y
  unfold lcp
  split <;> simp <;> omega
theorem lcp_at:∀ (x y:List UInt8) (k:Nat),k < lcp x y → ∃ c,x[k]? = some c ∧ y[k]? = some c
 | [],_,k,h=>by simp [lcp] at h
 | _ :: _,[],k,h=>by simp [lcp] at h
 | a :: x,b :: y,k,h=>by
  unfold lcp at h
  split at h
  ·subst_vars
   cases k with
   | zero=>exact ⟨_,rfl,rfl⟩
   | succ k=>simpa using lcp_at x y k (by omega)
  ·omega
theorem lcp_stop:∀ (x y:List UInt8) (c d:UInt8),x[lcp x y]? = some c → y[lcp x y]? = some d → c ≠ d
 | [],_,c,d,h,_=>by simp at h
 | _ :: _,[],c,d,_,h=>by simp at h
 | a :: x,b :: y,c,d,h1,h2=>by
  unfold lcp at h1 h2
  split at h1
  ·rw [if_pos (by assumption)] at h2
   exact lcp_stop x y c d (by simpa using h1) (by simpa using h2)
  ·rw [if_neg (by assumption)] at h2
   simp at h1 h2
   subst h1 h2
   assumption
def onePre (last s:List UInt8):List UInt8:=seven (lcp s last) ++ textOf (s.drop (lcp s last))
def prefixB:List UInt8 → List (List UInt8) → List UInt8
 | _,[]=>[]
 | last,s :: l=>onePre last s ++ prefixB s l
def lastOr:List UInt8 → List (List UInt8) → List UInt8
 | p,[]=>p
 | _,s :: l=>lastOr s l
theorem lastOr_snoc (s:List UInt8):∀ (l:List (List UInt8)) (p:List UInt8),lastOr p (l ++ [s]) = s
 | [],_=>rfl
 | a :: l,p=>by rw [List.cons_append,lastOr,lastOr_snoc s l]
theorem prefixB_snoc (s:List UInt8):∀ (l:List (List UInt8)) (p:List UInt8),prefixB p (l ++ [s]) = prefixB p l ++ onePre (lastOr p l) s
 | [],p=>by simp [prefixB,lastOr]
 | a :: l,p=>by rw [List.cons_append,prefixB,prefixB_snoc s l,prefixB,lastOr,List.append_assoc]
theorem onePre_len (last s:List UInt8) (h:s.length ≤ 100):(onePre last s).length ≤ 102:=by
 have h1:=(lcp_le s last).1
 unfold onePre
 rw [List.length_append,textOf_len _ (by rw [List.length_drop];omega),seven_lt (by omega),List.length_drop]
 simp;omega
theorem prefixB_len:∀ (l:List (List UInt8)) (p:List UInt8),(∀ s ∈ l,s.length ≤ 100) → (prefixB p l).length ≤ 102 * l.length
 | [],p,_=>by simp [prefixB]
 | a :: l,p,h=>by
  have h1:=onePre_len p a (h a (by simp))
  have h2:=prefixB_len l a fun s hs=>h s (by simp [hs])
  rw [prefixB,List.length_append,List.length_cons]
  omega
def IsStrs (w:World) (v:Value) (l:List ByteArray):Prop :=
 (l = [] ∧ ∃ ad cap,v = .slice ad 0 cap) ∨ (∃ b off cap,v = .slice (some ⟨b,off,none⟩) l.length cap ∧ b < w.heap.size ∧ ∀ (j:Nat) (x:ByteArray),l[j]? = some x → w.cell? ⟨b,off + j,none⟩ = some (.string x))
theorem IsStrs.below {w w':World} {v:Value} {l:List ByteArray} {B:Nat} (h:IsStrs w v l) (hb:Below B w w') (hB:w.heap.size ≤ B):IsStrs w' v l:=by
 rcases h with h | ⟨b,off,cap,rfl,hlt,hc⟩
 ·exact .inl h
 ·exact .inr ⟨b,off,cap,rfl,by have:=hb.size;omega,fun j x hj=>(hb.cell (p:=⟨b,off + j,none⟩) (by show b < B;omega)).trans (hc j x hj)⟩
theorem IsStrs.form {w:World} {v:Value} {l:List ByteArray} (h:IsStrs w v l):∃ ad cap,v = .slice ad l.length cap:=by
 rcases h with ⟨rfl,h⟩ | ⟨b,off,cap,rfl,_⟩
 ·exact h
 ·exact ⟨_,_,rfl⟩
theorem IsStrs.at {w:World} {ad:Option Addr} {n cap:Nat} {l:List ByteArray} (h:IsStrs w (.slice ad n cap) l) (hl:0 < l.length) :
  ∃ b off,ad = some ⟨b,off,none⟩ ∧ n = l.length ∧ b < w.heap.size ∧ ∀ (j:Nat) (x:ByteArray),l[j]? = some x → w.cell? ⟨b,off + j,none⟩ = some (.string x):=by
 rcases h with ⟨rfl,_⟩ | ⟨b,off,cap',he,hlt,hc⟩
 ·simp at hl
 ·injection he with e1 e2 e3
  exact ⟨b,off,e1,e2,hlt,hc⟩
def strV (s:ByteArray):Value:=.string s
theorem IsStrs.of_own {w:World} {B:Nat} {e:TypeId} {v:Value} {l:List ByteArray} (h:w.ownsRow B e 1 v l.length (l.map strV)):IsStrs w v l:=by
 rcases h.2 with ⟨rfl,h0⟩ | ⟨g,cap,cur,rfl,_,hg,_,_,_,_⟩
 ·exact .inl ⟨List.eq_nil_of_length_eq_zero h0,none,0,rfl⟩
 ·refine .inr ⟨g,0,cap,rfl,(Array.getElem?_eq_some_iff.1 hg).1,fun j x hj=>?_⟩
  have hlt:j < l.length:=(List.getElem?_eq_some_iff.1 hj).1
  have:=h.cellAt j (by omega)
  rw [Nat.zero_add,this]
  simp [hj,strV]
def bytesL (l:List ByteArray):List (List UInt8):=l.map fun x=>x.data.toList
theorem ext_to_end (s:ByteArray) (a:Nat):(s.extract a s.size).data.toList = s.data.toList.drop a:=by
 rw [ba_extract]
 simp only []
 rw [List.take_of_length_le (by simp)]
end Go.Proofs.YtapiabmmfmfaeaaGreatDoor
/- The walks of enc.Prefix and the document's PrefixOf. -/
namespace Go.Proofs.YtapiabmmfmfaeaaGreatDoor
set_option maxHeartbeats 4000000
set_option linter.unusedVariables false
open Go Go.RowKit Go.ChangeShapes
theorem get_of_data {s:ByteArray} {k:Nat} {c:UInt8} (h:s.data.toList[k]? = some c):∃ h':k < s.size,s[k] = c:=by
 obtain ⟨h1,h2⟩:=List.getElem?_eq_some_iff.1 h
 exact ⟨by simpa using h1,h2⟩
theorem data_get {s:ByteArray} {k:Nat} (h:k < s.size):s.data.toList[k]? = some s[k]:=by
 rw [List.getElem?_eq_getElem (by simpa using h)];rfl
set_option maxRecDepth 100000 in
theorem prefix_ok (v : Value) (l : List ByteArray) (w : World) (hI : IsStrs w v l) (h : l.length ≤ 20000) (hP : ∀ x ∈ l, x.size ≤ 100) :
    Calls Tryz.prog 83 #[v] w fun e w' => e = .returned (.tuple #[.string ⟨(prefixB [] (bytesL l)).toArray⟩, .nilIface]) ∧ Below w.heap.size w w' := by
  have HBd := Lib.hid (BuildAt.fresh w)
  have HI := Lib.hid hI; have HP := Lib.hid hP
  obtain ⟨ad, cap, rfl⟩ := hI.form
  have d1 : decide ((20000 : Int) < (l.length : Int)) = false := by simp; omega
  clear hI hP
  go_enter Tryz.func83, Tryz.ntmps83
  go_wp2_with fail
  go_loop [17] (fun j => ∃ k : Nat, k ≤ l.length ∧ j = .int .i64 (k : Nat)) (fun j => l.length - (intOf j).toNat)
  case atStart => exact ⟨0, Nat.zero_le _, rfl⟩
  case round =>
    obtain ⟨k, hk, rfl⟩ := hrel
    by_cases hlt : k < l.length
    · obtain ⟨b0, off, rfl, hq, hlt0, hc⟩ := HI.out.at (by omega)
      have hin : (k : Int) < (l.length : Int) := by omega
      have hcx := hc k l[k] (List.getElem?_eq_getElem hlt)
      have hpx := HP.out l[k] (List.getElem_mem hlt)
      generalize l[k] = y at *
      have d2 : decide ((100 : Int) < (y.size : Int)) = false := by simp; omega
      clear hq hc
      go_wp2_with fail
      go_round
      case rel => exact ⟨k + 1, by omega, by go_num⟩
      case measure => simp [intOf]; omega
    · obtain rfl : k = l.length := by omega
      clear hk hlt
      go_wp2_with fail
      go_loopw [7, 28] (fun la j wr => ∃ (k : Nat) (last : ByteArray), k ≤ l.length ∧ j = .int .i64 (k : Nat) ∧ la = .string last ∧ last.size ≤ 100 ∧ last.data.toList = lastOr [] (bytesL (l.take k)) ∧ BuildAt w.heap.size w.heap.size (prefixB [] (bytesL (l.take k))) wr ∧ Below w.heap.size w wr) (fun _ j _ => l.length - (intOf j).toNat)
      case atStart => exact ⟨0, ⟨#[]⟩, Nat.zero_le _, rfl, rfl, by decide, rfl, HBd.out, (Below.refl _ _).alloc (Nat.le_refl _) _⟩
      case round =>
        obtain ⟨k, last, hkl, rfl, rfl, hls, hla, hbd, hb⟩ := hrel
        have Hbd := Lib.hid hbd; have Hb := Lib.hid hb; have Hla := Lib.hid hla
        clear hbd hb hla
        by_cases hlt : k < l.length
        · obtain ⟨b0, off, rfl, hq, hlt0, hc⟩ := (HI.out.below Hb.out (Nat.le_refl _)).at (by omega)
          have hin : (k : Int) < (l.length : Int) := by omega
          have hcx := hc k l[k] (List.getElem?_eq_getElem hlt)
          have hpx := HP.out l[k] (List.getElem_mem hlt)
          have hn : bytesL (l.take (k + 1)) = bytesL (l.take k) ++ [l[k].data.toList] := by
            rw [List.take_succ_eq_append_getElem hlt]; unfold bytesL; rw [List.map_append]; rfl
          have htl := prefixB_len (bytesL (l.take k)) [] (fun s hs => by
            obtain ⟨y, hy, rfl⟩ := List.mem_map.1 hs
            rw [size_data]; exact HP.out y (List.mem_of_mem_take hy))
          have htk : (bytesL (l.take k)).length ≤ 20000 := by unfold bytesL; rw [List.length_map, List.length_take]; omega
          generalize l[k] = s at *
          have hpr : prefixB [] (bytesL (l.take (k + 1))) = prefixB [] (bytesL (l.take k)) ++ onePre last.data.toList s.data.toList := by rw [hn, prefixB_snoc, Hla.out]
          have hlr : s.data.toList = lastOr [] (bytesL (l.take (k + 1))) := by rw [hn, lastOr_snoc]
          have hll : (prefixB [] (bytesL (l.take k))).length ≤ 2040000 := by omega
          have Hpr := Lib.hid hpr; have Hlr := Lib.hid hlr
          clear hq hc hn htl htk hpr hlr
          have hle := lcp_le s.data.toList last.data.toList
          rw [size_data, size_data] at hle
          have Hat := Lib.hid (lcp_at s.data.toList last.data.toList)
          have Hst := Lib.hid (lcp_stop s.data.toList last.data.toList)
          have Hone := Lib.hid (show onePre last.data.toList s.data.toList = seven (lcp s.data.toList last.data.toList) ++ textOf ((s.extract (lcp s.data.toList last.data.toList) s.size).data.toList) by rw [ext_to_end]; rfl)
          generalize lcp s.data.toList last.data.toList = L at *
          obtain ⟨hle1, hle2⟩ := hle
          go_wp2_with fail
          obtain ⟨wo, hwo⟩ : ∃ wo : World, wo = wr := ⟨_, rfl⟩
          subst hwo
          go_loopw [10] (fun q w2 => ∃ j n : Nat, j ≤ L ∧ q = .int .i64 (j : Nat) ∧ w2 = wo.drewN n) (fun q _ => L - (intOf q).toNat)
          case atStart => exact ⟨0, 0, Nat.zero_le _, rfl, rfl⟩
          case round =>
            obtain ⟨j, n, hj, rfl, rfl⟩ := hrel
            by_cases hjl : j < L
            · obtain ⟨c, e1, e2⟩ := Hat.out j hjl
              obtain ⟨g1, e1⟩ := get_of_data e1
              obtain ⟨g2, e2⟩ := get_of_data e2
              have hee : (((s[j]).toNat : Int) == ((last[j]).toNat : Int)) = true := by rw [e1, e2]; simp
              have i1 : (j : Int) < (s.size : Int) := by omega
              have i2 : (j : Int) < (last.size : Int) := by omega
              clear e1 e2
              go_wp2_with fail
              go_quiet (fail)
              go_wp2_with fail
              go_roundw
              case rel => exact ⟨j + 1, _, by omega, by go_num, rfl⟩
              case measure => simp [intOf]; omega
            · obtain rfl : j = L := by omega
              have hcase : (decide (j < s.size) = false) ∨ (((j : Int) < (s.size : Int)) ∧ decide (j < last.size) = false) ∨ (∃ (g1 : j < s.size) (g2 : j < last.size), (j : Int) < (s.size : Int) ∧ (j : Int) < (last.size : Int) ∧ (((s[j]).toNat : Int) == ((last[j]).toNat : Int)) = false) := by
                by_cases g1 : j < s.size
                · by_cases g2 : j < last.size
                  · refine .inr (.inr ⟨g1, g2, by omega, by omega, ?_⟩)
                    have := Hst.out _ _ (data_get g1) (data_get g2)
                    rw [beq_eq_false_iff_ne]
                    intro he
                    exact this (UInt8.toNat_inj.1 (by omega))
                  · exact .inr (.inl ⟨by omega, by simp; omega⟩)
                · exact .inl (by simp; omega)
              have HU := Lib.hid (fun w2 => uvarint_any ((j : Nat) : Int) w2 (by omega) (by omega))
              have HT := Lib.hid (fun w2 => text_any (s.extract j s.size) w2 (by rw [ByteArray.size_extract]; omega))
              have hw64 : IntKind.u64.wrap ((j : Nat) : Int) = ((j : Nat) : Int) := by rw [IntKind.wrap_u64]; omega
              have hs7 := seven_len (show j < 18446744073709551616 by omega)
              have hst : (textOf (s.extract j s.size).data.toList).length ≤ 101 := by
                rw [ext_to_end, textOf_len _ (by rw [List.length_drop, size_data]; omega), List.length_drop, size_data]; omega
              rw [Int.toNat_natCast] at HU
              generalize hT7 : textOf (s.extract j s.size).data.toList = t7 at *
              generalize hS7 : seven j = s7 at *
              have HT7 := Lib.hid hT7; have HS7 := Lib.hid hS7
              clear hjl hT7 hS7
              rcases hcase with i1 | ⟨i1, i2⟩ | ⟨g1, g2, i1, i2, i3⟩
              all_goals
                go_wp2_with fail
                go_quiet (fail)
                go_wp2_with fail
                have hadd : ¬ 9223372036854775807 < s7.length + t7.length := by omega
                go_region_held3 (fun w' => True) (trivial)
                  (first
                  | (go_at_call 72; (with_reducible refine (HU.out _).mono ?_); rintro e w1 ⟨rfl, hb1⟩
                     have hb1 : Below wo.heap.size wo w1 := (below_drewN (Below.refl wo.heap.size wo) _).trans (hb1.mono (by simp)))
                  | (go_at_call 70; (with_reducible refine (HT.out _).mono ?_); rintro e w2 ⟨rfl, hb2⟩
                     have hb2 := below_trans hb1 hb2)
                  | (go_at_call 99
                     have hB2 := Hbd.out.below hb2
                     rw [show (ByteArray.mk s7.toArray ++ ByteArray.mk t7.toArray) = ⟨(s7 ++ t7).toArray⟩ from ByteArray.mk_append_mk _ _]
                     refine (writeString_any w.heap.size w.heap.size _ (s7 ++ t7) w2 hB2 (by rw [List.length_append]; omega) (by have := hb2.size; have := Hb.out.size; omega)).mono ?_; rintro e w3 ⟨rfl, hB3, hb3, hk3⟩))
                have HB3 := Lib.hid hB3
                have Hb3 := Lib.hid (((Hb.out.trans (hb2.mono Hb.out.size)).trans hb3))
                clear hB3 hb3 hk3 hb2 hb1 hB2
                go_wp2_with fail
                go_roundw
                case rel => exact ⟨k + 1, s, by omega, by go_num, rfl, hpx, Hlr.out, by rw [Hpr.out, Hone.out]; exact HB3.out, Hb3.out⟩
                case measure => simp [intOf]; omega
        · obtain rfl : k = l.length := by omega
          rw [List.take_length] at Hbd
          have HS := Lib.hid (fun w3 h h3 => builderString_any w.heap.size w.heap.size (prefixB [] (bytesL l)) w3 h h3)
          go_wp2_with fail
          refine (HS.out _ Hbd.out Hb.out.size).mono ?_; rintro e w3 ⟨rfl, hb3⟩
          go_wp2_with fail
          go_ret2
          exact ⟨rfl, Hb.out.trans hb3⟩
set_option maxRecDepth 100000 in
theorem prefixOf_any (v : Value) (l : List ByteArray) (w : World) (hI : IsStrs w v l) (h : l.length ≤ 20000) (hP : ∀ x ∈ l, x.size ≤ 100) :
    Calls Tryz.prog 90 #[v] w fun e w' => e = .returned (.string ⟨(prefixB [] (bytesL l)).toArray⟩) ∧ Below w.heap.size w w' := by
  have HI := Lib.hid hI; have HP := Lib.hid hP
  obtain ⟨ad, cap, rfl⟩ := hI.form
  clear hI hP
  go_enter Tryz.func90, Tryz.ntmps90
  go_wp2_with fail
  go_loopw [3, 4, 5] (fun o la j wr => ∃ (k : Nat) (last : ByteArray), k ≤ l.length ∧ j = .int .i64 (k : Nat) ∧ la = .string last ∧ last.size ≤ 100 ∧ last.data.toList = lastOr [] (bytesL (l.take k)) ∧ o = .string ⟨(prefixB [] (bytesL (l.take k))).toArray⟩ ∧ Below w.heap.size w wr) (fun _ _ j _ => l.length - (intOf j).toNat)
  case atStart => exact ⟨0, ⟨#[]⟩, Nat.zero_le _, rfl, rfl, by decide, rfl, rfl, Below.refl _ _⟩
  case round =>
    obtain ⟨k, last, hkl, rfl, rfl, hls, hla, rfl, hb⟩ := hrel
    have Hb := Lib.hid hb; have Hla := Lib.hid hla
    clear hb hla
    by_cases hlt : k < l.length
    · obtain ⟨b0, off, rfl, hq, hlt0, hc⟩ := (HI.out.below Hb.out (Nat.le_refl _)).at (by omega)
      have hin : (k : Int) < (l.length : Int) := by omega
      have hcx := hc k l[k] (List.getElem?_eq_getElem hlt)
      have hpx := HP.out l[k] (List.getElem_mem hlt)
      have hn : bytesL (l.take (k + 1)) = bytesL (l.take k) ++ [l[k].data.toList] := by
        rw [List.take_succ_eq_append_getElem hlt]; unfold bytesL; rw [List.map_append]; rfl
      have htl := prefixB_len (bytesL (l.take k)) [] (fun s hs => by
        obtain ⟨y, hy, rfl⟩ := List.mem_map.1 hs
        rw [size_data]; exact HP.out y (List.mem_of_mem_take hy))
      have htk : (bytesL (l.take k)).length ≤ 20000 := by unfold bytesL; rw [List.length_map, List.length_take]; omega
      generalize l[k] = s at *
      have hpr : prefixB [] (bytesL (l.take (k + 1))) = prefixB [] (bytesL (l.take k)) ++ onePre last.data.toList s.data.toList := by rw [hn, prefixB_snoc, Hla.out]
      have hlr : s.data.toList = lastOr [] (bytesL (l.take (k + 1))) := by rw [hn, lastOr_snoc]
      have hll : (prefixB [] (bytesL (l.take k))).length ≤ 2040000 := by omega
      have Hpr := Lib.hid hpr; have Hlr := Lib.hid hlr
      clear hq hc hn htl htk hpr hlr
      have hle := lcp_le s.data.toList last.data.toList
      rw [size_data, size_data] at hle
      have Hat := Lib.hid (lcp_at s.data.toList last.data.toList)
      have Hst := Lib.hid (lcp_stop s.data.toList last.data.toList)
      have Hone := Lib.hid (show onePre last.data.toList s.data.toList = seven (lcp s.data.toList last.data.toList) ++ textOf ((s.extract (lcp s.data.toList last.data.toList) s.size).data.toList) by rw [ext_to_end]; rfl)
      generalize lcp s.data.toList last.data.toList = L at *
      generalize prefixB [] (bytesL (l.take k)) = acc at *
      obtain ⟨hle1, hle2⟩ := hle
      go_wp2_with fail
      obtain ⟨wo, hwo⟩ : ∃ wo : World, wo = wr := ⟨_, rfl⟩
      subst hwo
      go_loopw [6] (fun q w2 => ∃ j n : Nat, j ≤ L ∧ q = .int .i64 (j : Nat) ∧ w2 = wo.drewN n) (fun q _ => L - (intOf q).toNat)
      case atStart => exact ⟨0, 0, Nat.zero_le _, rfl, rfl⟩
      case round =>
        obtain ⟨j, n, hj, rfl, rfl⟩ := hrel
        by_cases hjl : j < L
        · obtain ⟨c, e1, e2⟩ := Hat.out j hjl
          obtain ⟨g1, e1⟩ := get_of_data e1
          obtain ⟨g2, e2⟩ := get_of_data e2
          have hee : (((s[j]).toNat : Int) == ((last[j]).toNat : Int)) = true := by rw [e1, e2]; simp
          have i1 : (j : Int) < (s.size : Int) := by omega
          have i2 : (j : Int) < (last.size : Int) := by omega
          clear e1 e2
          go_wp2_with fail
          go_quiet (fail)
          go_wp2_with fail
          go_roundw
          case rel => exact ⟨j + 1, _, by omega, by go_num, rfl⟩
          case measure => simp [intOf]; omega
        · obtain rfl : j = L := by omega
          have hcase : (decide (j < s.size) = false) ∨ (((j : Int) < (s.size : Int)) ∧ decide (j < last.size) = false) ∨ (∃ (g1 : j < s.size) (g2 : j < last.size), (j : Int) < (s.size : Int) ∧ (j : Int) < (last.size : Int) ∧ (((s[j]).toNat : Int) == ((last[j]).toNat : Int)) = false) := by
            by_cases g1 : j < s.size
            · by_cases g2 : j < last.size
              · refine .inr (.inr ⟨g1, g2, by omega, by omega, ?_⟩)
                have := Hst.out _ _ (data_get g1) (data_get g2)
                rw [beq_eq_false_iff_ne]
                intro he
                exact this (UInt8.toNat_inj.1 (by omega))
              · exact .inr (.inl ⟨by omega, by simp; omega⟩)
            · exact .inl (by simp; omega)
          have HU := Lib.hid (fun w2 => sevenOf_any ((j : Nat) : Int) w2 (by omega) (by omega))
          have HT := Lib.hid (fun w2 => long_any (s.extract j s.size) w2 (by rw [ByteArray.size_extract]; omega))
          have hw64 : IntKind.u64.wrap ((j : Nat) : Int) = ((j : Nat) : Int) := by rw [IntKind.wrap_u64]; omega
          have hs7 := seven_len (show j < 18446744073709551616 by omega)
          have hst : (textOf (s.extract j s.size).data.toList).length ≤ 101 := by
            rw [ext_to_end, textOf_len _ (by rw [List.length_drop, size_data]; omega), List.length_drop, size_data]; omega
          rw [Int.toNat_natCast] at HU
          generalize textOf (s.extract j s.size).data.toList = t7 at *
          generalize seven j = s7 at *
          have hadd1 : ¬ 9223372036854775807 < acc.length + s7.length := by omega
          have hadd2 : ¬ 9223372036854775807 < acc.length + s7.length + t7.length := by omega
          clear hjl
          rcases hcase with i1 | ⟨i1, i2⟩ | ⟨g1, g2, i1, i2, i3⟩
          all_goals
            go_wp2_with fail
            go_quiet (fail)
            go_wp2_with fail
            go_region_held3 (fun w' => w'.cell? ⟨b0, off + k, none⟩ = some (.string s)) (first | exact hcx | exact hc1 | exact hc2)
              (first
              | (go_at_call 119; (with_reducible refine (HU.out _).mono ?_); rintro e w1 ⟨rfl, hb1⟩
                 have hb1 : Below wo.heap.size wo w1 := (below_drewN (Below.refl wo.heap.size wo) _).trans (hb1.mono (by simp))
                 have hc1 : w1.cell? ⟨b0, off + k, none⟩ = some (.string s) := (hb1.cell (p := ⟨b0, off + k, none⟩) hlt0).trans hcx)
              | (go_at_call 115; (with_reducible refine (HT.out _).mono ?_); rintro e w2 ⟨rfl, hb2⟩
                 have hb2 := below_trans hb1 hb2
                 have hc2 : w2.cell? ⟨b0, off + k, none⟩ = some (.string s) := (hb2.cell (p := ⟨b0, off + k, none⟩) hlt0).trans hcx))
            go_wp2_with fail
            go_roundw
            case rel => exact ⟨k + 1, s, by omega, by go_num, rfl, hpx, Hlr.out, by rw [Hpr.out, Hone.out, ← List.append_assoc]; exact (by rw [ByteArray.mk_append_mk, ByteArray.mk_append_mk]), Hb.out.trans (hb2.mono Hb.out.size)⟩
            case measure => simp [intOf]; omega
    · obtain rfl : k = l.length := by omega
      go_wp2_with fail
      go_ret
      exact ⟨ret_of (by rw [List.take_length]; rfl), Hb.out⟩
end Go.Proofs.YtapiabmmfmfaeaaGreatDoor
/- Arguments that are texts, opened. -/
namespace Go.Proofs.YtapiabmmfmfaeaaGreatDoor
set_option maxHeartbeats 4000000
set_option linter.unusedVariables false
open Go Go.RowKit Go.ChangeShapes Go.WideShapes Go.ChangeAt
end Go.Proofs.YtapiabmmfmfaeaaGreatDoor
