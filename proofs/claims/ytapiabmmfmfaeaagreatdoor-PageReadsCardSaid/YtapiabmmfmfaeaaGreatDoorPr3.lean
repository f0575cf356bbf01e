/- The walks of the document's bodyOf and levelsOf. -/
import Derived.Test.YtapiabmmfmfaeaaGreatDoorPr2
import Derived.Test.YtapiabmmfmfaeaaGreatDoorMReadsO
namespace Go.Proofs.YtapiabmmfmfaeaaGreatDoor
set_option maxHeartbeats 4000000
set_option linter.unusedVariables false
open Go Go.RowKit Go.ChangeShapes
def bodyOfV:BodyR → Value
 | .text=>.tuple #[.string ⟨#[]⟩,.int .i64 0,.int .i64 1]
 | .sum=>.tuple #[.string ⟨#[]⟩,.int .i64 0,.int .i64 7]
 | .ok b used=>.tuple #[.string ⟨b.toArray⟩,.int .i64 (used:Nat),.int .i64 0]
theorem retO_text {r:BodyR} (h:r = .text):Ending.returned (.tuple #[.string ⟨#[]⟩,.int .i64 0,.int .i64 1]) = .returned (bodyOfV r):=by rw [h];rfl
set_option maxRecDepth 100000 in
theorem bodyOf_any (s:ByteArray) (hs:s.size ≤ 100000000) (w:World) :
  Calls Tryz.prog 25 #[.string s] w fun e w'=>e = .returned (bodyOfV (bodyR s.data.toList)) ∧ Below w.heap.size w w':=by
 have Hls:=Lib.hid (ba_len s)
 by_cases h0:s.size = 0
 ·have hie:s.toList.isEmpty = true:=by rw [empty_beq'];simpa using h0
  have HR:=Lib.hid (bodyR_nil (L:=s.data.toList) (Hls.out.trans h0))
  clear h0
  go_enter Tryz.func25,Tryz.ntmps25
  go_wp2_with fail
  go_ret3
  exact ⟨retO_text HR.out,Below.refl _ _⟩
 have hie:s.toList.isEmpty = false:=by rw [empty_beq',decide_eq_false_iff_not];exact h0
 have hs0:0 < s.size:=by omega
 clear h0
 have hg0:s.data.toList[0]? = some (s[0]'hs0):=by rw [List.getElem?_eq_getElem (by rw [Hls.out];exact hs0)];rfl
 by_cases h80:s[0]'hs0 = 80
 case neg =>
  have HR:=Lib.hid (bodyR_mark hg0 h80)
  have hn:((s[0].toNat:Int) != 80) = true:=by
   rw [bne_iff_ne]
   intro e
   have e':s[0].toNat = 80:=by omega
   exact h80 (UInt8.toNat_inj.1 e')
  clear h80 hg0
  go_enter Tryz.func25,Tryz.ntmps25
  go_wp2_with fail
  go_ret3
  exact ⟨retO_text HR.out,Below.refl _ _⟩
 have hn:((s[0].toNat:Int) != 80) = false:=by rw [h80];rfl
 rw [h80] at hg0
 have HG:=Lib.hid hg0
 have hs1:(s.extract 1 s.size).size ≤ maxLen:=by rw [ByteArray.size_extract];unfold maxLen;omega
 have hxl:=bext_list s 1
 clear hg0 h80
 cases hr:readU (s.data.toList.drop 1) with
 | none =>
  have HR:=Lib.hid (bodyR_1 HG.out hr)
  have HS:=Lib.hid (fun w1=>readSeven_none (s.extract 1 s.size) w1 hs1 (by rw [hxl];exact hr))
  clear hr hs1 hxl
  go_enter Tryz.func25,Tryz.ntmps25
  go_wp2_with fail
  refine (HS.out _).mono ?_;rintro e w1 ⟨rfl,rfl⟩
  go_wp2_with fail
  go_ret3
  exact ⟨retO_text HR.out,Below.refl _ _⟩
 | some y =>
  obtain ⟨n,k⟩:=y
  have HS:=Lib.hid (fun w1=>readSeven_some (s.extract 1 s.size) w1 hs1 (by rw [hxl];exact hr))
  obtain ⟨hn64,hk0,hkl,hk10⟩:=readU_lt hr
  rw [List.length_drop,Hls.out] at hkl
  have Hr:=Lib.hid hr
  have hk0':((k:Int) == 0) = false:=by rw [beq_eq_false_iff_ne];omega
  clear hr hs1 hxl
  by_cases h2:200000 < n
  ·have HR:=Lib.hid (bodyR_2 HG.out Hr.out (.inl h2))
   have h2':decide ((200000:Int) < (n:Int)) = true:=by simp;omega
   clear h2
   go_enter Tryz.func25,Tryz.ntmps25
   go_wp2_with fail
   refine (HS.out _).mono ?_;rintro e w1 ⟨rfl,rfl⟩
   go_wp2_with fail
   go_ret3
   exact ⟨retO_text HR.out,Below.refl _ _⟩
  have h2':decide ((200000:Int) < (n:Int)) = false:=by simp;omega
  have h2n:n ≤ 200000:=by omega
  by_cases h3:s.size < 5 + k + n
  ·have HR:=Lib.hid (bodyR_2 HG.out Hr.out (.inr (by rw [Hls.out];exact h3)))
   have h3':(s.size:Int) < (n:Int) + (k:Int) + 5:=by omega
   clear h3 h2
   go_enter Tryz.func25,Tryz.ntmps25
   go_wp2_with fail
   refine (HS.out _).mono ?_;rintro e w1 ⟨rfl,rfl⟩
   go_wp2_with fail
   go_ret3
   exact ⟨retO_text HR.out,Below.refl _ _⟩
  have h3':¬ (s.size:Int) < (n:Int) + (k:Int) + 5:=by omega
  have HR:=Lib.hid (bodyR_3 HG.out Hr.out h2 (by rw [Hls.out];exact h3))
  have HX1:Hid ((s.extract (k + 1) s.size).data.toList = s.data.toList.drop (1 + k)):=Lib.hid (by rw [bext_list s (k + 1),Nat.add_comm])
  have HX2:Hid ((s.extract (k + 5) (n + k + 5)).data.toList = (s.data.toList.drop (5 + k)).take n):=Lib.hid (by rw [ba_extract,show n + k + 5 - (k + 5) = n by omega,Nat.add_comm])
  have HF:=Lib.hid (fun w1=>readLittle_any (s.extract (k + 1) s.size) 4 w1 (by decide) (by rw [ByteArray.size_extract];omega) (by rw [ByteArray.size_extract];unfold maxLen;omega))
  have HC:=Lib.hid (fun w1=>remainder_any (s.extract (k + 5) (n + k + 5)) w1 (by rw [ByteArray.size_extract];omega))
  have hk5:(k:Int) + 5 ≤ (s.size:Int):=by omega
  have hxl:unlittle ((s.extract (k + 1) s.size).data.toList.take 4) < 4294967296:=by
   refine Nat.lt_of_lt_of_le (unlittle_lt _) ?_
   have h4:((s.extract (k + 1) s.size).data.toList.take 4).length ≤ 4:=by simp;omega
   exact Nat.pow_le_pow_right (by decide) h4
  have hyl:=crc_lt (s.extract (k + 5) (n + k + 5)).data.toList
  have HQ:=Lib.hid (show bodyR s.data.toList = if unlittle ((s.extract (k + 1) s.size).data.toList.take 4) = crc (s.extract (k + 5) (n + k + 5)).data.toList then .ok ((s.extract (k + 5) (n + k + 5)).data.toList) (5 + k + n) else .sum from by rw [HX1.out,HX2.out];exact HR.out)
  clear HR HX1 HX2
  generalize unlittle ((s.extract (k + 1) s.size).data.toList.take 4) = x at *
  generalize crc (s.extract (k + 5) (n + k + 5)).data.toList = y at *
  clear h2 h3
  go_enter Tryz.func25,Tryz.ntmps25
  go_wp2_with fail
  refine (HS.out _).mono ?_;rintro e w1 ⟨rfl,rfl⟩
  go_wp2_with fail
  refine (HF.out _).mono ?_;rintro e w2 ⟨rfl,rfl⟩
  go_wp2_with fail
  refine (HC.out _).mono ?_;rintro e w3 ⟨rfl,rfl⟩
  by_cases h4:x = y
  ·subst h4
   have hq:((x:Int) != (x:Int)) = false:=by simp
   go_wp2_with fail
   go_ret3
   refine ⟨?_,Below.refl _ _⟩
   rw [HQ.out];first | rw [if_pos rfl] | rw [if_pos trivial]
   show _ = Ending.returned (.tuple #[.string ⟨_⟩,_,_])
   rw [ba_ext rfl]
   rw [show ((5 + k + n:Nat):Int) = (n:Int) + (k:Int) + 5 by omega]
   exact ret_of (by go_num)
  ·have hq:((x:Int) != (y:Int)) = true:=by rw [bne_iff_ne];omega
   have HS2:=Lib.hid (show bodyR s.data.toList = .sum by rw [HQ.out,if_neg h4])
   clear h4 HQ
   go_wp2_with fail
   go_ret3
   exact ⟨by rw [HS2.out];rfl,Below.refl _ _⟩
theorem bodyOf_text (s:ByteArray) (hs:s.size ≤ 100000000) (w:World) (h:bodyR s.data.toList = .text):Calls Tryz.prog 25 #[.string s] w fun e w'=>e = .returned (.tuple #[.string ⟨#[]⟩,.int .i64 0,.int .i64 1]) ∧ Below w.heap.size w w' :=
 (bodyOf_any s hs w).mono fun e w' ⟨a,b⟩=>⟨by rw [a,h];rfl,b⟩
theorem bodyOf_sum (s:ByteArray) (hs:s.size ≤ 100000000) (w:World) (h:bodyR s.data.toList = .sum):Calls Tryz.prog 25 #[.string s] w fun e w'=>e = .returned (.tuple #[.string ⟨#[]⟩,.int .i64 0,.int .i64 7]) ∧ Below w.heap.size w w' :=
 (bodyOf_any s hs w).mono fun e w' ⟨a,b⟩=>⟨by rw [a,h];rfl,b⟩
theorem bodyOf_ok (s:ByteArray) (hs:s.size ≤ 100000000) (w:World) {b:List UInt8} {used:Nat} (h:bodyR s.data.toList = .ok b used) (sb:ByteArray) (hsb:sb.data.toList = b) :
  Calls Tryz.prog 25 #[.string s] w fun e w'=>e = .returned (.tuple #[.string sb,.int .i64 (used:Nat),.int .i64 0]) ∧ Below w.heap.size w w' :=
 (bodyOf_any s hs w).mono fun e w' ⟨a,b⟩=>⟨by rw [a,h];show Ending.returned (.tuple #[.string ⟨_⟩,_,_]) = _;rw [ba_ext hsb],b⟩
def LoRet (B:Nat) (r:Option (List Nat × Nat)) (e:Ending) (w':World):Prop:=match r with
 | none=>e = .returned (.tuple #[.slice none 0 0,.int .i64 0])
 | some x=>∃ u,e = .returned (.tuple #[u,.int .i64 (x.2:Nat)]) ∧ w'.ownsRow B 3 1 u x.1.length (x.1.map natV)
theorem LoRet.bad {B:Nat} {r:Option (List Nat × Nat)} {w':World} (h:r = none):LoRet B r (.returned (.tuple #[.slice none 0 0,.int .i64 0])) w':=by rw [h];exact rfl
theorem LoRet.good {B k:Nat} {r:Option (List Nat × Nat)} {l:List Nat} {u:Value} {w':World} (h:r = some (l,k)) (ho:w'.ownsRow B 3 1 u l.length (l.map natV)):LoRet B r (.returned (.tuple #[u,.int .i64 (k:Nat)])) w':=by rw [h];exact ⟨u,rfl,ho⟩
theorem readLong_ba (s:ByteArray) (w:World) (hs:s.size ≤ maxLen) {t:List UInt8} {k:Nat} (h:readT s.data.toList = some (t,k)) (st:ByteArray) (hst:st.data.toList = t) :
  Calls Tryz.prog 28 #[.string s] w fun e w'=>e = .returned (.tuple #[.string st,.int .i64 (k:Int)]) ∧ w' = w :=
 (readLong_some s w hs h).mono fun e w' ⟨a,b⟩=>⟨by rw [a,ba_ext hst],b⟩
set_option maxRecDepth 100000 in
theorem levelsOf_any (s:ByteArray) (hs:s.size ≤ 200000) (m:Int) (m0:0 ≤ m) (m40:m ≤ 40) (n:Nat) (hn:n ≤ 20000) (w:World) :
  Calls Tryz.prog 27 #[.string s,.int .i64 m,.int .i64 (n:Nat)] w fun e w'=>LoRet w.heap.size (levR m n s.data.toList) e w' ∧ Below w.heap.size w w':=by
 have Hls:=Lib.hid (ba_len s)
 cases hr:readT s.data.toList with
 | none =>
  have HR:=Lib.hid (levR_1 (m:=m) (n:=n) hr)
  have HS:=Lib.hid (fun w1=>readLong_none s w1 (by unfold maxLen;omega) hr)
  clear hr
  go_enter Tryz.func27,Tryz.ntmps27
  go_wp2_with fail
  refine (HS.out _).mono ?_;rintro e w1 ⟨rfl,rfl⟩
  go_wp2_with fail
  go_ret2
  exact ⟨LoRet.bad HR.out,Below.refl _ _⟩
 | some y =>
  obtain ⟨t,k⟩:=y
  obtain ⟨st,hst⟩:∃ st:ByteArray,st.data.toList = t:=⟨⟨t.toArray⟩,by simp⟩
  have HS:=Lib.hid (fun w1=>readLong_ba s w1 (by unfold maxLen;omega) hr st hst)
  obtain ⟨hk,ht⟩:=readT_le hr
  obtain ⟨e1,e2,_,e3⟩:=readT_inv hr
  have hkp:0 < k:=by rw [e2];unfold textOf;rw [List.length_append];have:=seven_pos t.length;omega
  rw [Hls.out] at hk
  have Hr:=Lib.hid hr
  obtain ⟨mn,rfl⟩:=Int.eq_ofNat_of_zero_le m0
  have HW:=Lib.hid (fun w1=>show Calls Tryz.prog 58 #[.int .u64 ((mn:Nat):Int)] w1 fun e w'=>e = .returned (.int .i64 ((lwd ((mn:Nat):Int):Nat):Int)) ∧ w' = w1 from widthOf_any mn (by omega) w1)
  have HN:=Lib.hid (fun w1=>readRunsOf_any st (lwd ((mn:Nat):Int)) n w1 (by have:=lwd_le m0 m40;omega) hn (by rw [← ba_len st,hst];rw [Hls.out] at ht;omega))
  rw [hst] at HN
  have hk0:((k:Int) == 0) = false:=by rw [beq_eq_false_iff_ne];omega
  have hsl:t.length = st.size:=by rw [← hst,ba_len]
  have Hst:=Lib.hid hsl
  have hmn:mn ≤ 40:=by omega
  clear hr hst hsl e1 e2 e3 ht m0 m40
  cases hr2:readR (lwd ((mn:Nat):Int)) n t with
  | none =>
   rw [hr2] at HN
   have HR:=Lib.hid (levR_2 Hr.out hr2)
   have HN2:=Lib.hid (fun w1=>show Calls Tryz.prog 57 _ w1 fun e w'=>e = .returned (.tuple #[.slice none 0 0,.int .i64 (-1)]) ∧ Below w1.heap.size w1 w' from HN.out w1)
   generalize lwd ((mn:Nat):Int) = lw at *
   have hz:(((-1:Int)) != (st.size:Int)) = true:=by rw [bne_iff_ne];omega
   clear hr2 HN
   go_enter Tryz.func27,Tryz.ntmps27
   go_wp2_with fail
   refine (HS.out _).mono ?_;rintro e w1 ⟨rfl,rfl⟩
   go_wp2_with fail
   refine (HW.out _).mono ?_;rintro e w2 ⟨rfl,rfl⟩
   go_wp2_with fail
   refine (HN2.out _).mono ?_;rintro e w3 ⟨rfl,hb⟩
   go_wp2_with fail
   go_ret2
   exact ⟨LoRet.bad HR.out,hb⟩
  | some z =>
   obtain ⟨l,j⟩:=z
   rw [hr2] at HN
   have HN2:=Lib.hid (fun w1=>show Calls Tryz.prog 57 _ w1 fun e w'=>(∃ u,e = .returned (.tuple #[u,.int .i64 (j:Nat)]) ∧ w'.ownsRow w1.heap.size 3 1 u l.length (l.map natV)) ∧ Below w1.heap.size w1 w' from HN.out w1)
   have HR:=Lib.hid (levR_3 Hr.out hr2)
   rw [Hst.out] at HR
   generalize lwd ((mn:Nat):Int) = lw at *
   clear hr2 HN
   go_enter Tryz.func27,Tryz.ntmps27
   go_wp2_with fail
   refine (HS.out _).mono ?_;rintro e w1 ⟨rfl,rfl⟩
   go_wp2_with fail
   refine (HW.out _).mono ?_;rintro e w2 ⟨rfl,rfl⟩
   go_wp2_with fail
   refine (HN2.out _).mono ?_;rintro e w3 ⟨⟨u,rfl,hu⟩,hb⟩
   have HU:=Lib.hid hu
   clear hu
   by_cases hj:j = st.size
   ·have hz:((j:Int) != (st.size:Int)) = false:=by rw [hj];simp
    have HR2:=Lib.hid (HR.out.trans (if_pos hj))
    clear hj HR
    go_wp2_with fail
    go_ret2
    exact ⟨LoRet.good HR2.out HU.out,hb⟩
   ·have hz:((j:Int) != (st.size:Int)) = true:=by rw [bne_iff_ne];omega
    have HR2:=Lib.hid (HR.out.trans (if_neg hj))
    clear hj HR
    go_wp2_with fail
    go_ret2
    exact ⟨LoRet.bad HR2.out,hb⟩
theorem levelsOf_none (s:ByteArray) (hs:s.size ≤ 200000) (m:Int) (m0:0 ≤ m) (m40:m ≤ 40) (n:Nat) (hn:n ≤ 20000) (w:World) (h:levR m n s.data.toList = none) :
  Calls Tryz.prog 27 #[.string s,.int .i64 m,.int .i64 (n:Nat)] w fun e w'=>e = .returned (.tuple #[.slice none 0 0,.int .i64 0]) ∧ Below w.heap.size w w' :=
 (levelsOf_any s hs m m0 m40 n hn w).mono fun e w' ⟨a,b⟩=>⟨by rw [h] at a;exact a,b⟩
theorem levelsOf_some (s:ByteArray) (hs:s.size ≤ 200000) (m:Int) (m0:0 ≤ m) (m40:m ≤ 40) (n:Nat) (hn:n ≤ 20000) (w:World) {l:List Nat} {k:Nat} (h:levR m n s.data.toList = some (l,k)) :
  Calls Tryz.prog 27 #[.string s,.int .i64 m,.int .i64 (n:Nat)] w fun e w'=>(∃ u,e = .returned (.tuple #[u,.int .i64 (k:Nat)]) ∧ w'.ownsRow w.heap.size 3 1 u l.length (l.map natV)) ∧ Below w.heap.size w w' :=
 (levelsOf_any s hs m m0 m40 n hn w).mono fun e w' ⟨a,b⟩=>⟨by rw [h] at a;exact a,b⟩
end Go.Proofs.YtapiabmmfmfaeaaGreatDoor
