/- The walks of page.body and page.levels. -/
import Derived.Test.YtapiabmmfmfaeaaGreatDoorPr1
import Derived.Test.YtapiabmmfmfaeaaGreatDoorMWire
import Derived.Test.YtapiabmmfmfaeaaGreatDoorMBits
import Derived.Test.YtapiabmmfmfaeaaGreatDoorMSum
namespace Go.Proofs.YtapiabmmfmfaeaaGreatDoor
set_option maxHeartbeats 4000000
set_option linter.unusedVariables false
open Go Go.RowKit Go.ChangeShapes
def bodyV (e1 e7:Value):BodyR → Value
 | .text=>.tuple #[.string ⟨#[]⟩,.int .i64 0,e1]
 | .sum=>.tuple #[.string ⟨#[]⟩,.int .i64 0,e7]
 | .ok b used=>.tuple #[.string ⟨b.toArray⟩,.int .i64 (used:Nat),.nilIface]
theorem bodyR_nil {L:List UInt8} (h:L.length = 0):bodyR L = .text:=by
 cases L with
 | nil=>rfl
 | cons c t=>simp at h
theorem bodyR_cons (c:UInt8) (t:List UInt8):bodyR (c :: t) = if c ≠ 80 then .text else match readU t with
  | none=>.text
  | some (n,k)=>if 200000 < n then .text else if t.length + 1 < 5 + k + n then .text else
   if unlittle ((t.drop k).take 4) = crc ((t.drop (4 + k)).take n) then .ok ((t.drop (4 + k)).take n) (5 + k + n) else .sum:=by
 rfl
theorem bodyR_mark {L:List UInt8} {c:UInt8} (h:L[0]? = some c) (hc:c ≠ 80):bodyR L = .text:=by
 cases L with
 | nil=>rfl
 | cons d t =>
  simp at h;subst h
  rw [bodyR_cons,if_pos hc]
theorem bodyR_1 {L:List UInt8} (h:L[0]? = some 80) (h1:readU (L.drop 1) = none):bodyR L = .text:=by
 cases L with
 | nil=>rfl
 | cons d t =>
  simp at h;subst h
  simp at h1
  rw [bodyR_cons,if_neg (by decide),h1]
theorem bodyR_2 {L:List UInt8} {n k:Nat} (h:L[0]? = some 80) (h1:readU (L.drop 1) = some (n,k)) (h2:200000 < n ∨ L.length < 5 + k + n):bodyR L = .text:=by
 cases L with
 | nil=>rfl
 | cons d t =>
  simp at h;subst h
  simp at h1
  rw [bodyR_cons,if_neg (by decide),h1];simp only
  rcases h2 with h2 | h2
  ·rw [if_pos h2]
  ·split
   ·rfl
   ·rw [if_pos (by simpa using h2)]
theorem bodyR_3 {L:List UInt8} {n k:Nat} (h:L[0]? = some 80) (h1:readU (L.drop 1) = some (n,k)) (h2:¬ 200000 < n) (h3:¬ L.length < 5 + k + n) :
  bodyR L = if unlittle ((L.drop (1 + k)).take 4) = crc ((L.drop (5 + k)).take n) then .ok ((L.drop (5 + k)).take n) (5 + k + n) else .sum:=by
 cases L with
 | nil=>simp at h
 | cons d t =>
  simp at h;subst h
  simp at h1
  have e1:(80 :: t:List UInt8).drop (1 + k) = t.drop k:=by rw [Nat.add_comm,List.drop_succ_cons]
  have e2:(80 :: t:List UInt8).drop (5 + k) = t.drop (4 + k):=by rw [show 5 + k = (4 + k) + 1 by omega,List.drop_succ_cons]
  rw [e1,e2,bodyR_cons,if_neg (by decide),h1];simp only
  rw [if_neg h2,if_neg (by simpa using h3)]
theorem ba_len (s:ByteArray):s.data.toList.length = s.size:=by simp
theorem ba_ext {a:ByteArray} {l:List UInt8} (h:a.data.toList = l):(⟨l.toArray⟩:ByteArray) = a:=by
 subst h
 cases a
 simp
theorem ret_none_text {e1 e7:Value} {r:BodyR} (h:r = .text):Ending.returned (.tuple #[.string ⟨#[]⟩,.int .i64 0,e1]) = .returned (bodyV e1 e7 r):=by rw [h];rfl
set_option maxRecDepth 100000 in
theorem body_any (s:ByteArray) (hs:s.size ≤ 1000000) (w:World) (adr:Nat → Addr) (hE:ErrsAt w adr [1,7]) :
  Calls Tryz.prog 16 #[.string s] w fun e w'=>e = .returned (bodyV (.iface 211 (.pointer (some (adr 1)))) (.iface 211 (.pointer (some (adr 7)))) (bodyR s.data.toList)) ∧ Below w.heap.size w w':=by
 have e1:=hE.cell 1 (by decide)
 have e7:=hE.cell 7 (by decide)
 have hg1:gErr 1 < w.heap.size:=block_lt_of_cell e1
 have hg7:gErr 7 < w.heap.size:=block_lt_of_cell e7
 unfold gErr at e1 e7 hg1 hg7
 have HK1:=Lib.hid (fun (w1:World) (h:Below w.heap.size w w1)=>((bcell h).1 _ 0 hg1).trans e1)
 have HK7:=Lib.hid (fun (w1:World) (h:Below w.heap.size w w1)=>((bcell h).1 _ 0 hg7).trans e7)
 have Hls:=Lib.hid (ba_len s)
 have hz0:0 < w.heap.size:=by omega
 clear hE e7 hg7
 by_cases h0:s.size = 0
 ·have hie:s.toList.isEmpty = true:=by rw [empty_beq'];simpa using h0
  have HR:=Lib.hid (bodyR_nil (L:=s.data.toList) (Hls.out.trans h0))
  clear h0
  go_enter Tryz.func16,Tryz.ntmps16
  go_wp2_with fail
  go_quiet (fail)
  go_wp2_with fail
  go_ret3
  exact ⟨ret_none_text HR.out,below_drewN (Below.refl _ _) _⟩
 have hie:s.toList.isEmpty = false:=by rw [empty_beq',decide_eq_false_iff_not];exact h0
 have hs0:0 < s.size:=by omega
 clear h0
 have hg0:s.data.toList[0]? = some (s[0]'hs0):=by rw [List.getElem?_eq_getElem (by rw [Hls.out];exact hs0)];rfl
 by_cases h80:s[0]'hs0 = 80
 case neg =>
  have HR:=Lib.hid (bodyR_mark hg0 h80)
  have hn:((s[0].toNat:Int) != 80) = true:=by
   rw [bne_iff_ne]
   intro e
   have e':s[0].toNat = 80:=by omega
   exact h80 (UInt8.toNat_inj.1 e')
  clear h80 hg0
  go_enter Tryz.func16,Tryz.ntmps16
  go_wp2_with fail
  go_quiet (fail)
  go_wp2_with fail
  go_ret3
  exact ⟨ret_none_text HR.out,below_drewN (Below.refl _ _) _⟩
 have hn:((s[0].toNat:Int) != 80) = false:=by rw [h80];rfl
 rw [h80] at hg0
 have HG:=Lib.hid hg0
 have hs1:(s.extract 1 s.size).size ≤ maxLen:=by rw [ByteArray.size_extract];unfold maxLen;omega
 have hxl:=bext_list s 1
 clear hg0 h80
 cases hr:readU (s.data.toList.drop 1) with
 | none =>
  have HR:=Lib.hid (bodyR_1 HG.out hr)
  have HS:=Lib.hid (readUvarint_none (s.extract 1 s.size) _ w hs1 e1 (by rw [hxl];exact hr))
  clear hr hs1 hxl e1
  go_enter Tryz.func16,Tryz.ntmps16
  go_wp2_with fail
  refine HS.out.mono ?_;rintro e w1 ⟨rfl,hb1⟩
  have e1:=HK1.out _ hb1
  go_wp2_with fail
  go_quiet (fail)
  go_wp2_with fail
  go_ret3
  exact ⟨ret_none_text HR.out,below_drewN hb1 _⟩
 | some y =>
  obtain ⟨n,k⟩:=y
  have HS:=Lib.hid (readUvarint_some (s.extract 1 s.size) _ w hs1 e1 (by rw [hxl];exact hr))
  obtain ⟨hn64,hk0,hkl,hk10⟩:=readU_lt hr
  rw [List.length_drop,Hls.out] at hkl
  have Hr:=Lib.hid hr
  clear hr hs1 hxl e1
  by_cases h2:200000 < n
  ·have HR:=Lib.hid (bodyR_2 HG.out Hr.out (.inl h2))
   have h2':decide ((200000:Int) < (n:Int)) = true:=by simp;omega
   clear h2
   go_enter Tryz.func16,Tryz.ntmps16
   go_wp2_with fail
   refine HS.out.mono ?_;rintro e w1 ⟨rfl,hb1⟩
   have e1:=HK1.out _ hb1
   go_wp2_with fail
   go_quiet (fail)
   go_wp2_with fail
   go_ret3
   exact ⟨ret_none_text HR.out,below_drewN hb1 _⟩
  have h2':decide ((200000:Int) < (n:Int)) = false:=by simp;omega
  have h2n:n ≤ 200000:=by omega
  by_cases h3:s.size < 5 + k + n
  ·have HR:=Lib.hid (bodyR_2 HG.out Hr.out (.inr (by rw [Hls.out];exact h3)))
   have h3':(s.size:Int) < 5 + (k:Int) + (n:Int):=by omega
   clear h3 h2
   go_enter Tryz.func16,Tryz.ntmps16
   go_wp2_with fail
   refine HS.out.mono ?_;rintro e w1 ⟨rfl,hb1⟩
   have e1:=HK1.out _ hb1
   go_wp2_with fail
   go_quiet (fail)
   go_wp2_with fail
   go_ret3
   exact ⟨ret_none_text HR.out,below_drewN hb1 _⟩
  have h3':¬ (s.size:Int) < 5 + (k:Int) + (n:Int):=by omega
  have HR:=Lib.hid (bodyR_3 HG.out Hr.out h2 (by rw [Hls.out];exact h3))
  have HX1:Hid ((s.extract (1 + k) s.size).data.toList = s.data.toList.drop (1 + k)):=Lib.hid (bext_list s (1 + k))
  have HX2:Hid ((s.extract (5 + k) (5 + k + n)).data.toList = (s.data.toList.drop (5 + k)).take n):=Lib.hid (by rw [ba_extract,Nat.add_sub_cancel_left])
  have HF:=Lib.hid (fun w1=>readFixed_ok (s.extract (1 + k) s.size) 4 w1 (by decide) (by decide) (by rw [ByteArray.size_extract];omega) (by rw [ByteArray.size_extract];unfold maxLen;omega))
  have HC:=Lib.hid (fun w1=>sum_any (s.extract (5 + k) (5 + k + n)) w1 (by rw [ByteArray.size_extract];omega))
  have hxl:unlittle ((s.extract (1 + k) s.size).data.toList.take 4) < 4294967296:=by
   refine Nat.lt_of_lt_of_le (unlittle_lt _) ?_
   have h4:((s.extract (1 + k) s.size).data.toList.take 4).length ≤ 4:=by simp;omega
   exact Nat.pow_le_pow_right (by decide) h4
  have hyl:=crc_lt (s.extract (5 + k) (5 + k + n)).data.toList
  have HQ:=Lib.hid (show bodyR s.data.toList = if unlittle ((s.extract (1 + k) s.size).data.toList.take 4) = crc (s.extract (5 + k) (5 + k + n)).data.toList then .ok ((s.extract (5 + k) (5 + k + n)).data.toList) (5 + k + n) else .sum from by rw [HX1.out,HX2.out];exact HR.out)
  clear HR HX1 HX2
  generalize unlittle ((s.extract (1 + k) s.size).data.toList.take 4) = x at *
  generalize crc (s.extract (5 + k) (5 + k + n)).data.toList = y at *
  have hmx:((x:Nat):Int) % 4294967296 = ((x:Nat):Int):=by omega
  have hk5:(5:Int) + (k:Int) ≤ (s.size:Int):=by omega
  clear h2 h3
  go_enter Tryz.func16,Tryz.ntmps16
  go_wp2_with fail
  refine HS.out.mono ?_;rintro e w1 ⟨rfl,hb1⟩
  have e1:=HK1.out _ hb1
  go_wp2_with fail
  refine (HF.out _).mono ?_;rintro e w2 ⟨rfl,rfl⟩
  go_wp2_with fail
  refine (HC.out _).mono ?_;rintro e w3 ⟨rfl,hb3⟩
  have Hb3:=Lib.hid (hb1.trans (hb3.mono hb1.size))
  have e7:=HK7.out _ Hb3.out
  clear hb3 hb1 e1
  by_cases h4:x = y
  ·subst h4
   have hq:((x:Int) != (x:Int)) = false:=by simp
   go_wp2_with fail
   go_ret3
   refine ⟨?_,Hb3.out⟩
   rw [HQ.out];first | rw [if_pos rfl] | rw [if_pos trivial]
   show _ = Ending.returned (.tuple #[.string ⟨_⟩,_,_])
   rw [ba_ext rfl]
   exact ret_of (by go_num)
  ·have hq:((x:Int) != (y:Int)) = true:=by rw [bne_iff_ne];omega
   have HS2:=Lib.hid (show bodyR s.data.toList = .sum by rw [HQ.out,if_neg h4])
   clear h4 HQ
   go_wp2_with fail
   go_quiet (fail)
   go_wp2_with fail
   go_ret3
   exact ⟨by rw [HS2.out];rfl,below_drewN Hb3.out _⟩
theorem body_text (s:ByteArray) (hs:s.size ≤ 1000000) (w:World) (adr:Nat → Addr) (hE:ErrsAt w adr [1,7]) (h:bodyR s.data.toList = .text) :
  Calls Tryz.prog 16 #[.string s] w fun e w'=>e = .returned (.tuple #[.string ⟨#[]⟩,.int .i64 0,.iface 211 (.pointer (some (adr 1)))]) ∧ Below w.heap.size w w' :=
 (body_any s hs w adr hE).mono fun e w' ⟨a,b⟩=>⟨by rw [a,h];rfl,b⟩
theorem body_sum (s:ByteArray) (hs:s.size ≤ 1000000) (w:World) (adr:Nat → Addr) (hE:ErrsAt w adr [1,7]) (h:bodyR s.data.toList = .sum) :
  Calls Tryz.prog 16 #[.string s] w fun e w'=>e = .returned (.tuple #[.string ⟨#[]⟩,.int .i64 0,.iface 211 (.pointer (some (adr 7)))]) ∧ Below w.heap.size w w' :=
 (body_any s hs w adr hE).mono fun e w' ⟨a,b⟩=>⟨by rw [a,h];rfl,b⟩
theorem body_ok (s:ByteArray) (hs:s.size ≤ 1000000) (w:World) (adr:Nat → Addr) (hE:ErrsAt w adr [1,7]) {b:List UInt8} {used:Nat} (h:bodyR s.data.toList = .ok b used) (sb:ByteArray) (hsb:sb.data.toList = b) :
  Calls Tryz.prog 16 #[.string s] w fun e w'=>e = .returned (.tuple #[.string sb,.int .i64 (used:Nat),.nilIface]) ∧ Below w.heap.size w w' :=
 (body_any s hs w adr hE).mono fun e w' ⟨a,b⟩=>⟨by rw [a,h];show Ending.returned (.tuple #[.string ⟨_⟩,_,_]) = _;rw [ba_ext hsb],b⟩
theorem bodyR_len {L b:List UInt8} {used:Nat} (h:bodyR L = .ok b used):b.length ≤ 200000 ∧ used ≤ L.length ∧ b.length + 5 < used:=by
 cases L with
 | nil=>cases h
 | cons c t =>
  rw [bodyR_cons] at h
  split at h
  ·cases h
  ·split at h
   ·cases h
   ·rename_i n k hu
    split at h
    ·cases h
    ·split at h
     ·cases h
     ·split at h
      ·obtain ⟨-,hk,hkl,-⟩:=readU_lt hu
       injection h with h1 h2
       subst h1 h2
       simp only [List.length_take,List.length_drop,List.length_cons]
       omega
      ·cases h
theorem readText_ba (s:ByteArray) (T:TypeId) (x:Value) (w:World) (hs:s.size ≤ maxLen) (hev:w.cell? ⟨1,0,none⟩ = some (.iface T x)) {t:List UInt8} {k:Nat} (h:readT s.data.toList = some (t,k)) (st:ByteArray) (hst:st.data.toList = t) :
  Calls Tryz.prog 19 #[.string s] w fun e w'=>e = .returned (.tuple #[.string st,.int .i64 (k:Nat),.nilIface]) ∧ Below w.heap.size w w' :=
 (readText_some s T x w hs hev h).mono fun e w' ⟨a,b⟩=>⟨by rw [a,ba_ext hst],b⟩
def LvRet (B:Nat) (r:Option (List Nat × Nat)) (z:Nat) (e:Ending) (w':World):Prop :=
 match r with
 | none=>∃ (u:Value) (k:Nat),k ≤ z ∧ e = .returned (.tuple #[u,.int .i64 (k:Nat),.bool false])
 | some x=>∃ u,e = .returned (.tuple #[u,.int .i64 (x.2:Nat),.bool true]) ∧ w'.ownsRow B 3 1 u x.1.length (x.1.map natV)
theorem LvRet.bad {B z k:Nat} {r:Option (List Nat × Nat)} {u:Value} {w':World} (h:r = none) (hk:k ≤ z):LvRet B r z (.returned (.tuple #[u,.int .i64 (k:Nat),.bool false])) w':=by rw [h];exact ⟨u,k,hk,rfl⟩
theorem LvRet.good {B z k:Nat} {r:Option (List Nat × Nat)} {l:List Nat} {u:Value} {w':World} (h:r = some (l,k)) (ho:w'.ownsRow B 3 1 u l.length (l.map natV)):LvRet B r z (.returned (.tuple #[u,.int .i64 (k:Nat),.bool true])) w':=by rw [h];exact ⟨u,rfl,ho⟩
theorem own_base {w:World} {B B' n s:Nat} {e:TypeId} {v:Value} {xs:List Value} (h:w.ownsRow B e s v n xs) (hB:B' ≤ B):w.ownsRow B' e s v n xs:=by
 refine ⟨h.1,?_⟩
 rcases h.2 with h0 | ⟨g,cap,cur,hv,h1,h2,h3⟩
 ·exact .inl h0
 ·exact .inr ⟨g,cap,cur,hv,Nat.le_trans hB h1,h2,h3⟩
theorem levR_1 {m:Int} {n:Nat} {L:List UInt8} (h:readT L = none):levR m n L = none:=by unfold levR;rw [h]
theorem levR_2 {m:Int} {n k:Nat} {L t:List UInt8} (h:readT L = some (t,k)) (h2:readR (lwd m) n t = none):levR m n L = none:=by unfold levR;rw [h];simp only;rw [h2]
theorem levR_3 {m:Int} {n k j:Nat} {L t:List UInt8} {l:List Nat} (h:readT L = some (t,k)) (h2:readR (lwd m) n t = some (l,j)):levR m n L = if j = t.length then some (l,k) else none:=by unfold levR;rw [h];simp only;rw [h2]
set_option maxRecDepth 100000 in
theorem levels_any (s:ByteArray) (hs:s.size ≤ 200000) (m:Int) (m0:0 ≤ m) (m40:m ≤ 40) (n:Nat) (hn:n ≤ 20000) (w:World) (adr:Nat → Addr) (hE:ErrsAt w adr [1]) :
  Calls Tryz.prog 18 #[.string s,.int .i64 m,.int .i64 (n:Nat)] w fun e w'=>LvRet w.heap.size (levR m n s.data.toList) s.size e w' ∧ Below w.heap.size w w':=by
 have e1:=hE.cell 1 (by decide)
 have hg1:gErr 1 < w.heap.size:=block_lt_of_cell e1
 unfold gErr at e1 hg1
 have HK1:=Lib.hid (fun (w1:World) (h:Below w.heap.size w w1)=>((bcell h).1 _ 0 hg1).trans e1)
 have Hls:=Lib.hid (ba_len s)
 clear hE
 cases hr:readT s.data.toList with
 | none =>
  have HR:=Lib.hid (levR_1 (m:=m) (n:=n) hr)
  have HS:=Lib.hid (readText_none s _ _ w (by unfold maxLen;omega) e1 hr)
  clear hr e1
  go_enter Tryz.func18,Tryz.ntmps18
  go_wp2_with fail
  refine HS.out.mono ?_;rintro e w1 ⟨rfl,hb1⟩
  go_wp2_with fail
  go_ret3
  exact ⟨LvRet.bad (k:=0) HR.out (Nat.zero_le _),hb1⟩
 | some y =>
  obtain ⟨t,k⟩:=y
  obtain ⟨st,hst⟩:∃ st:ByteArray,st.data.toList = t:=⟨⟨t.toArray⟩,by simp⟩
  have HS:=Lib.hid (readText_ba s _ _ w (by unfold maxLen;omega) e1 hr st hst)
  obtain ⟨hk,ht⟩:=readT_le hr
  rw [Hls.out] at hk
  have Hr:=Lib.hid hr
  have HW:=Lib.hid (fun w1=>show Calls Tryz.prog 45 #[.int .i64 m] w1 fun e w'=>e = .returned (.int .i64 ((lwd m:Nat):Int)) ∧ w' = w1 from width_any m (by omega) (by omega) w1)
  have HN:=Lib.hid (fun w1 (h:Below w.heap.size w w1)=>readRuns_any st (lwd m) n _ _ w1 (by have:=lwd_le m0 m40;omega) hn (by rw [← ba_len st,hst];rw [Hls.out] at ht;omega) (HK1.out w1 h))
  clear hr e1
  rw [hst] at HN
  have hsl:t.length = st.size:=by rw [← hst,ba_len]
  have Hst:=Lib.hid hsl
  clear hst hsl
  cases hr2:readR (lwd m) n t with
  | none =>
   rw [hr2] at HN
   have HR:=Lib.hid (levR_2 Hr.out hr2)
   go_enter Tryz.func18,Tryz.ntmps18
   go_wp2_with fail
   refine HS.out.mono ?_;rintro e w1 ⟨rfl,hb1⟩
   have Hb1:=Lib.hid hb1
   clear hb1
   go_wp2_with fail
   refine (HW.out _).mono ?_;rintro e w2 ⟨rfl,rfl⟩
   go_wp2_with fail
   refine (HN.out _ Hb1.out).mono ?_;rintro e w3 ⟨hret,hb3⟩
   have hret:e = .returned (.tuple #[.slice none 0 0,.int .i64 0,.iface 211 (.pointer (some (adr 1)))]):=hret
   subst hret
   clear hr2
   go_wp2_with fail
   go_ret3
   exact ⟨LvRet.bad HR.out hk,Hb1.out.trans (hb3.mono Hb1.out.size)⟩
  | some z =>
   obtain ⟨l,j⟩:=z
   rw [hr2] at HN
   have HR:=Lib.hid (levR_3 Hr.out hr2)
   go_enter Tryz.func18,Tryz.ntmps18
   go_wp2_with fail
   refine HS.out.mono ?_;rintro e w1 ⟨rfl,hb1⟩
   have Hb1:=Lib.hid hb1
   clear hb1
   go_wp2_with fail
   refine (HW.out _).mono ?_;rintro e w2 ⟨rfl,rfl⟩
   go_wp2_with fail
   refine (HN.out _ Hb1.out).mono ?_;rintro e w3 ⟨hret,hb3⟩
   obtain ⟨u,rfl,hu⟩:=hret
   have Hu:=Lib.hid hu;have Hb3:=Lib.hid (Hb1.out.trans (hb3.mono Hb1.out.size))
   clear hr2 hu hb3
   rw [Hst.out] at HR
   by_cases hj:j = st.size
   ·have hj':((j:Int) == (st.size:Int)) = true:=by rw [beq_iff_eq];omega
    rw [if_pos hj] at HR
    clear hj
    go_wp2_with fail
    go_ret3
    exact ⟨LvRet.good HR.out (own_base Hu.out Hb1.out.size),Hb3.out⟩
   ·have hj':((j:Int) == (st.size:Int)) = false:=by rw [beq_eq_false_iff_ne];omega
    rw [if_neg hj] at HR
    clear hj
    go_wp2_with fail
    go_ret3
    exact ⟨LvRet.bad HR.out hk,Hb3.out⟩
theorem levels_none (s:ByteArray) (hs:s.size ≤ 200000) (m:Int) (m0:0 ≤ m) (m40:m ≤ 40) (n:Nat) (hn:n ≤ 20000) (w:World) (adr:Nat → Addr) (hE:ErrsAt w adr [1]) (h:levR m n s.data.toList = none) :
  Calls Tryz.prog 18 #[.string s,.int .i64 m,.int .i64 (n:Nat)] w fun e w'=>(∃ (u:Value) (k:Nat),k ≤ s.size ∧ e = .returned (.tuple #[u,.int .i64 (k:Nat),.bool false])) ∧ Below w.heap.size w w' :=
 (levels_any s hs m m0 m40 n hn w adr hE).mono fun e w' ⟨a,b⟩=>⟨by rw [h] at a;exact a,b⟩
theorem levels_some (s:ByteArray) (hs:s.size ≤ 200000) (m:Int) (m0:0 ≤ m) (m40:m ≤ 40) (n:Nat) (hn:n ≤ 20000) (w:World) (adr:Nat → Addr) (hE:ErrsAt w adr [1]) {l:List Nat} {k:Nat} (h:levR m n s.data.toList = some (l,k)) :
  Calls Tryz.prog 18 #[.string s,.int .i64 m,.int .i64 (n:Nat)] w fun e w'=>(∃ u:Value,e = .returned (.tuple #[u,.int .i64 (k:Nat),.bool true]) ∧ w'.ownsRow w.heap.size 3 1 u l.length (l.map natV)) ∧ Below w.heap.size w w' :=
 (levels_any s hs m m0 m40 n hn w adr hE).mono fun e w' ⟨a,b⟩=>⟨by rw [h] at a;exact a,b⟩
theorem levels_free (s:ByteArray) (hs:s.size ≤ 200000) (m:Int) (m0:0 ≤ m) (m40:m ≤ 40) (n:Nat) (hn:n ≤ 20000) (w:World) (adr:Nat → Addr) (hE:ErrsAt w adr [1]) :
  Calls Tryz.prog 18 #[.string s,.int .i64 m,.int .i64 (n:Nat)] w fun e w'=>(∃ (u:Value) (k:Nat) (o:Bool),e = .returned (.tuple #[u,.int .i64 (k:Nat),.bool o])) ∧ Below w.heap.size w w':=by
 cases h:levR m n s.data.toList with
 | none=>exact (levels_none s hs m m0 m40 n hn w adr hE h).mono fun e w' ⟨⟨u,k,_,a⟩,b⟩=>⟨⟨u,k,false,a⟩,b⟩
 | some x=>exact (levels_some s hs m m0 m40 n hn w adr hE (l:=x.1) (k:=x.2) h).mono fun e w' ⟨⟨u,a,_⟩,b⟩=>⟨⟨u,x.2,true,a⟩,b⟩
end Go.Proofs.YtapiabmmfmfaeaaGreatDoor
