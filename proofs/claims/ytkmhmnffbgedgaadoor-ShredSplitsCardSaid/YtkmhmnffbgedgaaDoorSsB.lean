/- The walk of the statement ShredSplits. Written by gen_ss.py. -/
import Derived.Test.YtkmhmnffbgedgaaDoorSsA
import Derived.Test.YtkmhmnffbgedgaaDoorDv1
import Derived.Test.YtkmhmnffbgedgaaDoorShE
import Derived.Test.YtkmhmnffbgedgaaDoorSameN
import Derived.Test.YtkmhmnffbgedgaaDoorWgC
import Derived.Test.YtkmhmnffbgedgaaDoorMCe
import Derived.Test.YtkmhmnffbgedgaaDoorTv3
import Derived.Test.YtkmhmnffbgedgaaDoorWk6
namespace Go.Proofs.YtkmhmnffbgedgaaDoor
set_option maxHeartbeats 64000000
set_option linter.unusedVariables false
set_option linter.unusedSimpArgs false
open Go Go.RowKit Go.ChangeShapes
theorem badDt_allS (n:Nd):∀ (l:List Dt) (i:Nat),badDt n l i = .nil → ∀ d ∈ l,datE n false d = 0
 | [],_,_,d,h=>by cases h
 | a :: r,i,h,d,hd=>by
  simp only [badDt] at h
  split at h
  ·rename_i h0
   rcases List.mem_cons.1 hd with rfl | hd
   ·exact h0
   ·exact badDt_allS n r (i + 1) h d hd
  ·cases h
theorem shredErr_nilS {n:Nd} {l:List Dt} (h:shredErr n l = .nil):validE n = 0 ∧ ∀ d ∈ l,datE n false d = 0:=by
 unfold shredErr at h
 split at h
 ·cases h
 ·rename_i h0
  split at h
  ·cases h
  ·exact ⟨Classical.not_not.1 h0,badDt_allS n l 0 h⟩
theorem lsd_atS {B g n c:Nat} {w:World} {LO:List (Lvf × Value)} (h:w.ownsRow B 24 5 (.slice (some ⟨g,0,none⟩) n c) LO.length (LO.flatMap lfC)) (k:Nat) (p:Lvf × Value) (hk:LO[k]? = some p) (pa:Option Addr) (pm pc:Nat) (hp:p.2 = .slice pa pm pc) :
  ∀ j v,(#[.int .i64 p.1.id,.int .i64 p.1.kind,.int .i64 p.1.mr,.int .i64 p.1.md,.slice pa pm pc]:Array Value)[j]? = some v → w.cell? ⟨g,k * 5 + j,none⟩ = some v:=by
 intro j v hj
 have hj5:j < 5:=by have:=(Array.getElem?_eq_some_iff.1 hj).1;simpa using this
 have hkl:=(List.getElem?_eq_some_iff.1 hk).1
 obtain ⟨g2,cap,cur,e1,_,h2,_,h4⟩:=own_rowS h (by omega)
 injection e1 with e1
 injection e1 with e1
 injection e1 with e1
 subst e1
 rw [rowc h2]
 refine h4 _ _ ?_
 rw [flat_atK lfC 5 (fun _=>rfl) LO k p hk j hj5,← hj]
 have e:lfC p = [.int .i64 p.1.id,.int .i64 p.1.kind,.int .i64 p.1.mr,.int .i64 p.1.md,p.2]:=by unfold lfC;rw [hp];rfl
 rw [e,hp]
 simp
set_option maxRecDepth 100000 in
theorem splits_any (n:Nd) (la lb:List Dt) (at_:Int) (u va vb:Value) (w:World) (adr:Nat → Addr) (hE:ErrsAt w adr [2,3,4,5,6]) (hN:IsNds (· < w.heap.size) w u n.sub) (hO:∀ x ∈ nodes n,x.Ok1)
    (hA:IsDts (· < w.heap.size) w va la) (h88a:la.length * 88 ≤ 140737488355328) (hDA:∀ y ∈ dtsL la,y.Ok1) (hB:IsDts (· < w.heap.size) w vb lb) (h88b:lb.length * 88 ≤ 140737488355328) (hDB:∀ y ∈ dtsL lb,y.Ok1) (hat0:-9223372036854775808 ≤ at_) (hat1:at_ < 9223372036854775808) :
    Calls Tryd.prog 4 #[.agg (ndA n u),va,vb,.int .i64 at_] w fun e w'=>e = .returned (.bool true) ∧ Below w.heap.size w w':=by
  have HN:=Lib.hid (fun (w1:World) (h:Below w.heap.size w w1)=>(hN.under h).mono (Q:=(· < w1.heap.size)) fun b hb _=>Nat.lt_of_lt_of_le hb h.size)
  have HA:=Lib.hid (fun (w1:World) (h:Below w.heap.size w w1)=>(hA.under h).mono (Q:=(· < w1.heap.size)) fun b hb _=>Nat.lt_of_lt_of_le hb h.size)
  have HB:=Lib.hid (fun (w1:World) (h:Below w.heap.size w w1)=>(hB.under h).mono (Q:=(· < w1.heap.size)) fun b hb _=>Nat.lt_of_lt_of_le hb h.size)
  have HTW:=Lib.hid (fun (w1:World) (h:Below w.heap.size w w1)=>twins_any w1 adr ((hE.below h).sub (by decide)))
  have HTM:=Lib.hid (fun (w1:World) (h:Below w.heap.size w w1)=>tame_any n u w1 (HN.out w1 h) hO)
  have HLA:=Lib.hid (fun (w1:World) (h:Below w.heap.size w w1)=>light_gen la va w1 (HA.out w1 h) hDA h88a)
  have HLB:=Lib.hid (fun (w1:World) (h:Below w.heap.size w w1)=>light_gen lb vb w1 (HB.out w1 h) hDB h88b)
  have HON:=Lib.hid (fun (w1:World) (h:Below w.heap.size w w1)=>ownNode_any n u w1 (HN.out w1 h) hO)
  have HOA:=Lib.hid (fun (w1:World) (h:Below w.heap.size w w1)=>ownDataO_of la (fun x _=>ownDatum_any x) va w1 (HA.out w1 h) hDA h88a)
  have HOB:=Lib.hid (fun (w1:World) (h:Below w.heap.size w w1)=>ownDataO_of lb (fun x _=>ownDatum_any x) vb w1 (HB.out w1 h) hDB h88b)
  have hDab:∀ y ∈ dtsL (la ++ lb),y.Ok1:=fun y hy=>by
    obtain ⟨z,hz,hyz⟩:=mem_dtsL hy
    rcases List.mem_append.1 hz with hz | hz
    · exact hDA y (dtsL_mem hz hyz)
    · exact hDB y (dtsL_mem hz hyz)
  have HDAB:=Lib.hid hDab;have HDA:=Lib.hid hDA;have HDB:=Lib.hid hDB;have HO:=Lib.hid hO
  have HSH:=Lib.hid (fun (l:List Dt) (hD:∀ y ∈ dtsL l,y.Ok1) (hwt:shredErr n l = .nil → wgtL l ≤ 6000) (w1:World) (h:Below w.heap.size w w1) (x y:Value) (hx:IsNds (· < w1.heap.size) w1 x n.sub) (hy:IsDts (· < w1.heap.size) w1 y l) =>
    (shred_any adr n l x y w1 ((hE.below h).sub (by decide)) hx hO hy hD (fun hz j=>by have:=shAll_len n l j;have:=hwt hz;omega) (fun hz d hd=>by have:=wgtL_mem hd;have:=hwt hz;omega)).mono fun e w' h=>shredRet_form h)
  have HLV:=Lib.hid (fun (hv:validE n = 0) (w1:World) (h:Below w.heap.size w w1)=>leavesOf_any n u w1 (HN.out w1 h) hO (valid_facts hv).1 (valid_shaped hv))
  have HEB:=Lib.hid (fun (w1:World) (h:Below w.heap.size w w1)=>hE.below h)
  have HWP:=Lib.hid (fun (w1:World) (h:Below w.heap.size w w1) (d:Dt) (id:Int) (x y z:Value) (hx:IsNds (· < w1.heap.size) w1 x n.sub) (hy:IsDts (· < w1.heap.size) w1 y d.l) (hz:IsDts (· < w1.heap.size) w1 z d.f) (hD:∀ y ∈ dts d,y.Ok1)=>walkP_any adr n d id x y z w1 ((hE.below h).sub (by decide)) hx hO hy hz hD)
  obtain ⟨au,cu,rfl⟩:=hN.form
  obtain ⟨aa,ca,rfl⟩:=hA.form
  obtain ⟨ab,cb,rfl⟩:=hB.form
  obtain ⟨ns,hns⟩:∃ ns,n.sub.length = ns:=⟨_,rfl⟩
  obtain ⟨na,hna⟩:∃ na,la.length = na:=⟨_,rfl⟩
  obtain ⟨nb,hnb⟩:∃ nb,lb.length = nb:=⟨_,rfl⟩
  unfold OwnRet at HON
  unfold OwnLO at HOA HOB
  rw [hns] at HTM HON HLV ⊢
  rw [hna] at HLA HOA h88a ⊢
  rw [hnb] at HLB HOB h88b ⊢
  have HNA:=Lib.hid hna;have HNB:=Lib.hid hnb
  clear hE hN hO hA hB hDA hDB hns hna hnb hDab
  have hbw:=(Below.refl w.heap.size w).alloc (Nat.le_refl _) (.cells #[.int .i64 n.id,.string n.name,.int .i64 n.rep,.int .i64 n.kind,.slice au ns cu] 47)
  have rA:=heap_alloc_new w (.cells #[.int .i64 n.id,.string n.name,.int .i64 n.rep,.int .i64 n.kind,.slice au ns cu] 47)
  unfold ndA at *
  go_enter Tryd.func4,Tryd.ntmps4
  go_upto_region 1 with fail
  generalize (w.alloc (.cells #[.int .i64 n.id,.string n.name,.int .i64 n.rep,.int .i64 n.kind,.slice au ns cu] 47)) = w1 at *
  have HW:=Lib.hid hbw;have RA:=Lib.hid rA
  clear hbw rA
  go_wp2_with fail
  refine (HTW.out w1 HW.out).mono ?_;rintro e w2 ⟨rfl,hb2⟩
  replace RA:=Lib.hid (row_keep hb2 RA.out);replace HW:=Lib.hid (HW.out.trans (hb2.mono HW.out.size))
  clear hb2 HTW
  have cA:=rowc RA.out
  go_wp2_with fail
  refine (HTM.out w2 HW.out).mono ?_;rintro e w3 ⟨b,rfl,hb3⟩
  replace RA:=Lib.hid (row_keep hb3 RA.out);replace HW:=Lib.hid (HW.out.trans (hb3.mono HW.out.size))
  clear hb3 cA HTM
  cases b with
  | false =>
    go_wp2_with fail
    go_ret
    exact ⟨rfl,HW.out⟩
  | true =>
  go_wp2_with fail
  refine (HLA.out w3 HW.out).mono ?_;rintro e w4 ⟨qa,hqa,rfl,hb4⟩
  replace RA:=Lib.hid (row_keep hb4 RA.out);replace HW:=Lib.hid (HW.out.trans (hb4.mono HW.out.size))
  have HQA:=Lib.hid hqa
  clear hb4 HLA hqa
  obtain ⟨b,hb⟩:∃ b,(decide (na ≤ 150) && decide (qa ≤ 3000)) = b:=⟨_,rfl⟩
  rw [hb]
  cases b with
  | false =>
    clear hb
    go_wp2_with fail
    go_ret
    exact ⟨rfl,HW.out⟩
  | true =>
  simp only [Bool.and_eq_true,decide_eq_true_eq] at hb
  obtain ⟨ha150,ha3000⟩:=hb
  go_wp2_with fail
  refine (HLB.out w4 HW.out).mono ?_;rintro e w5 ⟨qb,hqb,rfl,hb5⟩
  replace RA:=Lib.hid (row_keep hb5 RA.out);replace HW:=Lib.hid (HW.out.trans (hb5.mono HW.out.size))
  have HQB:=Lib.hid hqb
  clear hb5 HLB hqb
  obtain ⟨b,hb⟩:∃ b,(decide (nb ≤ 150) && decide (qb ≤ 3000)) = b:=⟨_,rfl⟩
  rw [hb]
  cases b with
  | false =>
    clear hb
    go_wp2_with fail
    go_ret
    exact ⟨rfl,HW.out⟩
  | true =>
  simp only [Bool.and_eq_true,decide_eq_true_eq] at hb
  obtain ⟨hb150,hb3000⟩:=hb
  by_cases h100:100 < na + nb
  · have d100:(100:Int) < (na:Int) + (nb:Int):=by omega
    have e100:wrap64 ((na:Int) + (nb:Int)) = (na:Int) + (nb:Int):=by unfold wrap64;omega
    clear h100
    go_wp2_with fail
    go_ret
    exact ⟨rfl,HW.out⟩
  have d100:¬ (100:Int) < (na:Int) + (nb:Int):=by omega
  have hwtA:shredErr n la = .nil → wgtL la ≤ 3000:=fun hz=>by
    have h1:=wgtL_cap (good_small (shredErr_nilS hz).1).1 (good_small (shredErr_nilS hz).1).2 (by rw [HNA.out];omega) (shredErr_nilS hz).2
    have:=HQA.out h1;omega
  have hwtB:shredErr n lb = .nil → wgtL lb ≤ 3000:=fun hz=>by
    have h1:=wgtL_cap (good_small (shredErr_nilS hz).1).1 (good_small (shredErr_nilS hz).1).2 (by rw [HNB.out];omega) (shredErr_nilS hz).2
    have:=HQB.out h1;omega
  have hwtZ:shredErr n (la ++ lb) = .nil → wgtL (la ++ lb) ≤ 6000:=fun hz=>by
    have h0:=(shredErr_nilS hz).1
    have hsa:∀ d ∈ la,datE n false d = 0:=fun d hd=>(shredErr_nilS hz).2 d (List.mem_append_left _ hd)
    have hsb:∀ d ∈ lb,datE n false d = 0:=fun d hd=>(shredErr_nilS hz).2 d (List.mem_append_right _ hd)
    have h1:=wgtL_cap (good_small h0).1 (good_small h0).2 (by rw [HNA.out];omega) hsa
    have h2:=wgtL_cap (good_small h0).1 (good_small h0).2 (by rw [HNB.out];omega) hsb
    have:=HQA.out h1;have:=HQB.out h2
    rw [wgtL_app];omega
  have HSA:=Lib.hid (HSH.out la HDA.out (fun hz=>by have:=hwtA hz;omega));have HSB:=Lib.hid (HSH.out lb HDB.out (fun hz=>by have:=hwtB hz;omega));have HSZ:=Lib.hid (HSH.out (la ++ lb) HDAB.out hwtZ)
  have HWA:=Lib.hid hwtA;have HWB:=Lib.hid hwtB;have HWZ:=Lib.hid hwtZ
  have hn100:na + nb ≤ 100:=by omega
  clear h100 ha150 ha3000 hb150 hb3000 hwtA hwtB hwtZ HSH HQA HQB h88a h88b
  have e100:wrap64 ((na:Int) + (nb:Int)) = (na:Int) + (nb:Int):=by unfold wrap64;omega
  have cA:=rowc RA.out
  go_wp2_with fail
  refine (HON.out w5 HW.out).mono ?_;rintro e w6 ⟨a6,c6,rfl,hn6,hb6⟩
  replace RA:=Lib.hid (row_keep hb6 RA.out);replace HW:=Lib.hid (HW.out.trans (hb6.mono HW.out.size))
  have HN6:=Lib.hid hn6
  clear hb6 hn6 cA d100 e100
  go_wp2_with fail
  refine (HOA.out w6 HW.out).mono ?_;rintro e w7 ⟨a7,c7,LT,rfl,hm7,ho7,hs7,hb7⟩
  replace RA:=Lib.hid (row_keep hb7 RA.out);replace HW:=Lib.hid (HW.out.trans (hb7.mono HW.out.size))
  have hnx:IsNds (· < w7.heap.size) w7 (.slice a6 ns c6) n.sub:=(HN6.out.keep hb7.size fun b _ hl=>hb7.block b hl).mono fun b _ hl=>hl
  have hdx:IsDts (· < w7.heap.size) w7 (.slice a7 na c7) la:=by
    have h5:=dts_of_own (P:=(· < w7.heap.size)) (own_len ho7 (by rw [← HNA.out,← hm7,List.length_map])) (fun b hb=>(ho7.lt b hb).2) (fun p hp=>⟨(hs7 p hp).1.mono (fun b _ hl=>hl),(hs7 p hp).2.mono (fun b _ hl=>hl)⟩)
    rw [hm7] at h5;exact h5
  have HNX:=Lib.hid hnx;have HDX:=Lib.hid hdx
  clear hb7 hm7 ho7 hs7 hnx hdx HN6
  go_wp2_with fail
  refine (HSA.out w7 HW.out _ _ HNX.out HDX.out).mono ?_;rintro e w8 ⟨hb8,av,am,ac,ue1,rfl,hr1⟩
  replace RA:=Lib.hid (row_keep hb8 RA.out);replace HW:=Lib.hid (HW.out.trans (hb8.mono HW.out.size))
  have HR1:=Lib.hid hr1
  clear hb8 hr1 HSA HNX HDX
  have cA:=rowc RA.out
  go_wp2_with fail
  refine (HON.out w8 HW.out).mono ?_;rintro e w6 ⟨a6,c6,rfl,hn6,hb6⟩
  replace RA:=Lib.hid (row_keep hb6 RA.out);replace HW:=Lib.hid (HW.out.trans (hb6.mono HW.out.size))
  have HK1:=Lib.hid hb6
  have HN6:=Lib.hid hn6
  clear hb6 hn6 cA
  go_wp2_with fail
  refine (HOB.out w6 HW.out).mono ?_;rintro e w7b ⟨a7,c7,LT,rfl,hm7,ho7,hs7,hb7⟩
  replace RA:=Lib.hid (row_keep hb7 RA.out);replace HW:=Lib.hid (HW.out.trans (hb7.mono HW.out.size))
  replace HK1:=Lib.hid (HK1.out.trans (hb7.mono HK1.out.size))
  have hnx:IsNds (· < w7b.heap.size) w7b (.slice a6 ns c6) n.sub:=(HN6.out.keep hb7.size fun b _ hl=>hb7.block b hl).mono fun b _ hl=>hl
  have hdx:IsDts (· < w7b.heap.size) w7b (.slice a7 nb c7) lb:=by
    have h5:=dts_of_own (P:=(· < w7b.heap.size)) (own_len ho7 (by rw [← HNB.out,← hm7,List.length_map])) (fun b hb=>(ho7.lt b hb).2) (fun p hp=>⟨(hs7 p hp).1.mono (fun b _ hl=>hl),(hs7 p hp).2.mono (fun b _ hl=>hl)⟩)
    rw [hm7] at h5;exact h5
  have HNX:=Lib.hid hnx;have HDX:=Lib.hid hdx
  clear hb7 hm7 ho7 hs7 hnx hdx HN6
  go_wp2_with fail
  refine (HSB.out w7b HW.out _ _ HNX.out HDX.out).mono ?_;rintro e w9 ⟨hb9,bv,bm,bc,ue2,rfl,hr2⟩
  replace RA:=Lib.hid (row_keep hb9 RA.out);replace HW:=Lib.hid (HW.out.trans (hb9.mono HW.out.size))
  replace HK1:=Lib.hid (HK1.out.trans (hb9.mono HK1.out.size))
  have hgw9:w.heap.size < w9.heap.size:=row_lt RA.out
  have HR2:=Lib.hid hr2
  clear hb9 hr2 HSB HNX HDX
  go_wp2_with fail
  refine (HOA.out w9 HW.out).mono ?_;rintro e wa ⟨a7,c7,LA,rfl,hm7,ho7,hs7,hb7⟩
  replace RA:=Lib.hid (row_keep hb7 RA.out);replace HW:=Lib.hid (HW.out.trans (hb7.mono HW.out.size))
  have HK2:=Lib.hid hb7
  have HMA:=Lib.hid hm7;have HOW:=Lib.hid ho7;have HSW:=Lib.hid hs7
  clear hb7 hm7 ho7 hs7
  go_wp2_with fail
  refine (HOB.out wa HW.out).mono ?_;rintro e wb ⟨a8,c8,LC,rfl,hm8,ho8,hs8,hb8⟩
  replace RA:=Lib.hid (row_keep hb8 RA.out);replace HW:=Lib.hid (HW.out.trans (hb8.mono HW.out.size))
  have hln7:LA.length = na:=by rw [← HNA.out,← HMA.out,List.length_map]
  have hln8:LC.length = nb:=by rw [← HNB.out,← hm8,List.length_map]
  have h7lt:=fun b hb=>HOW.out.lt b hb
  have hw9:w9.heap.size ≤ wa.heap.size:=HK2.out.size
  have hsa:∀ p ∈ LA,IsDts (fun b=>True ∧ (Value.slice a7 na c7).ownBlock ≠ some b) wb p.2.1 p.1.l ∧ IsDts (fun b=>True ∧ (Value.slice a7 na c7).ownBlock ≠ some b) wb p.2.2 p.1.f:=fun p hp =>
    ⟨((HSW.out p hp).1.keep hb8.size fun b _ hl=>hb8.block b hl).mono fun b hb _=>⟨trivial,hb.2⟩,((HSW.out p hp).2.keep hb8.size fun b _ hl=>hb8.block b hl).mono fun b hb _=>⟨trivial,hb.2⟩⟩
  have hsc:∀ p ∈ LC,IsDts (fun b=>True ∧ (Value.slice a7 na c7).ownBlock ≠ some b) wb p.2.1 p.1.l ∧ IsDts (fun b=>True ∧ (Value.slice a7 na c7).ownBlock ≠ some b) wb p.2.2 p.1.f:=fun p hp =>
    ⟨(hs8 p hp).1.mono fun b hb _=>⟨trivial,fun e=>by have:=(h7lt b e).2;have:=hb.1;omega⟩,(hs8 p hp).2.mono fun b hb _=>⟨trivial,fun e=>by have:=(h7lt b e).2;have:=hb.1;omega⟩⟩
  have HSA2:=Lib.hid hsa;have HSC2:=Lib.hid hsc
  have HOA2:=Lib.hid (own_len (own_blw HOW.out hb8) hln7);have HOC2:=Lib.hid (own_len ho8 hln8)
  have HM2:=Lib.hid (show (LA ++ LC).map Prod.fst = la ++ lb by rw [List.map_append,HMA.out,hm8])
  have HL2:=Lib.hid (show (LA ++ LC).length = na + nb by rw [List.length_append,hln7,hln8])
  replace HK2:=Lib.hid (HK2.out.trans (hb8.mono HK2.out.size))
  have hwbz:w9.heap.size ≤ wb.heap.size:=HK2.out.size
  have h88c:(LA.length + LC.length) * 88 ≤ 140737488355328:=by omega
  clear hb8 hm8 ho8 hs8 hsa hsc HMA HOW HSW h7lt hw9 hln7 hln8
  go_upto_region 8 with (at_builtin;refine wpList_appD rfl _ _ rfl w9.heap.size _ LA rfl HOA2.out wa.heap.size _ LC rfl HOC2.out h88c hwbz ?_;intro v' wc hown hgr hq;rw [HL2.out] at hown;obtain ⟨a9,c9,rfl⟩:=own_form hown;have HOZ:=Lib.hid hown;have HGZ:=Lib.hid hgr;clear hown hgr hq)
  try simp only [Act.put,List.getElem_toArray,List.getElem_cons_succ,List.getElem_cons_zero,List.setIfInBounds_toArray,List.set_cons_zero,List.set_cons_succ]
  have hbg:Below w9.heap.size wb wc:=(Below.refl w9.heap.size wb).grown HGZ.out hwbz (fun k hk=>(HOA2.out.lt k hk).1)
  have hzz:wb.heap.size ≤ wc.heap.size:=HGZ.out.size
  have hboth:IsDts (· < wc.heap.size) wc (.slice a9 (na + nb) c9) (la ++ lb):=by
    have h:=dts_two (P:=fun _=>True) hzz (own_len HOZ.out HL2.out) HGZ.out (fun _ _=>trivial) HSA2.out HSC2.out
    rw [HM2.out] at h
    exact h.mono fun b _ hl=>hl
  have HBOTH:=Lib.hid hboth
  have HK3:=Lib.hid (HK2.out.trans hbg)
  replace RA:=Lib.hid ((hbg.block w.heap.size hgw9).trans RA.out);replace HW:=Lib.hid (HW.out.trans (hbg.mono (Nat.le_of_lt hgw9)))
  clear hboth hbg hzz hwbz h88c HOZ HGZ HSA2 HSC2 HOA2 HOC2 HM2 HL2 HK2 HOA HOB
  have cA:=rowc RA.out
  go_wp2_with fail
  refine (HON.out wc HW.out).mono ?_;rintro e wd ⟨a6,c6,rfl,hn6,hb6⟩
  replace RA:=Lib.hid (row_keep hb6 RA.out);replace HW:=Lib.hid (HW.out.trans (hb6.mono HW.out.size));replace HK3:=Lib.hid (HK3.out.trans (hb6.mono HK3.out.size))
  have hnx:IsNds (· < wd.heap.size) wd (.slice a6 ns c6) n.sub:=hn6.mono fun b _ hl=>hl
  have hdx:IsDts (· < wd.heap.size) wd (.slice a9 (na + nb) c9) (la ++ lb):=(HBOTH.out.under hb6).mono fun b _ hl=>hl
  have HNX:=Lib.hid hnx;have HDX:=Lib.hid hdx
  clear hb6 hn6 cA hnx hdx HBOTH
  go_wp2_with fail
  refine (HSZ.out wd HW.out _ _ HNX.out HDX.out).mono ?_;rintro e we ⟨hbe,zv,zm,zc,ue3,rfl,hr3⟩
  replace RA:=Lib.hid (row_keep hbe RA.out);replace HW:=Lib.hid (HW.out.trans (hbe.mono HW.out.size));replace HK3:=Lib.hid (HK3.out.trans (hbe.mono HK3.out.size))
  have HDE:=Lib.hid ((HDX.out.under hbe).mono (Q:=(· < we.heap.size)) fun b _ hl=>hl)
  have HR3:=Lib.hid hr3
  clear hbe hr3 HSZ HNX HDX
  rcases HR1.out with ⟨g1,h1,m1,ic1,rm1⟩ | ⟨g1,T1,p1,h1⟩
  case inr =>
    subst h1
    go_wp2_with fail
    go_ret
    exact ⟨rfl,HW.out⟩
  subst h1
  rcases HR2.out with ⟨g2,h2,m2,ic2,rm2⟩ | ⟨g2,T2,p2,h2⟩
  case inr =>
    subst h2
    go_wp2_with fail
    go_ret
    exact ⟨rfl,HW.out⟩
  subst h2
  rcases HR3.out with ⟨g3,h3,m3,ic3,rm3⟩ | ⟨g3,T3,p3,h3⟩
  case inr =>
    subst h3
    go_wp2_with fail
    go_ret
    exact ⟨rfl,HW.out⟩
  subst h3
  have hv:=(shredErr_nilS g1).1
  have HV:=Lib.hid hv
  have HGA:=Lib.hid (shredErr_nilS g1).2;have HGB:=Lib.hid (shredErr_nilS g2).2;have HGAB:=Lib.hid (shredErr_nilS g3).2
  have HWA3:=Lib.hid (HWA.out g1);have HWB3:=Lib.hid (HWB.out g2);have HWZ6:=Lib.hid (HWZ.out g3)
  obtain ⟨nL,hnL⟩:∃ nL,(leavesN n).length = nL:=⟨_,rfl⟩
  rw [shCols_len,hnL] at m1 m2 m3
  subst m3 m2 m1
  have hpos:1 ≤ am ∧ am ≤ 40:=by
    have h1:=leaves_len (valid_root hv).1
    have h2:=lvs_pos n (valid_shapes hv)
    have h3:=lvs_le.1 n
    have h4:=(good_small hv).1
    omega
  have HNZ:=Lib.hid (show (la ++ lb).length = na + nb by rw [List.length_append,HNA.out,HNB.out])
  generalize hnz:na + nb = nz at *
  clear hnz
  have cA:=rowc RA.out
  go_wp2_with fail
  refine (HLV.out hv we HW.out).mono ?_;rintro e wf ⟨vL,LO,rfl,hr,hm,hb2⟩
  replace RA:=Lib.hid (row_keep hb2 RA.out);replace HW:=Lib.hid (HW.out.trans (hb2.mono HW.out.size));replace HK3:=Lib.hid (HK3.out.trans (hb2.mono HK3.out.size))
  have HDF:=Lib.hid ((HDE.out.under hb2).mono (Q:=(· < wf.heap.size)) fun b hb hl=>hl)
  have hk1:=HK1.out;have hk3:=HK3.out
  have ic1':IsCols wf (.slice av am ac) (shCols n la):=ic1.below (hk1.trans (hk3.mono hk1.size)) (Nat.le_refl _)
  have ic2':IsCols wf (.slice bv am bc) (shCols n lb):=ic2.below hk3 (Nat.le_refl _)
  have ic3':IsCols wf (.slice zv am zc) (shCols n (la ++ lb)):=ic3.below hb2 (Nat.le_refl _)
  have rm3':=rm3.below hb2
  have HM:=Lib.hid hm;have HLS:=Lib.hid hr
  have hnLO:LO.length = am:=by rw [← hnL,← hm,List.length_map]
  obtain ⟨gL,cL,curL,hvL,hgL1,hgL2,hgL3,hgL4⟩:=own_rowS hr.1 (by rw [hnLO];omega)
  rw [hnLO] at hvL
  subst hvL
  have hgLs:gL < wf.heap.size:=row_lt hgL2
  have hcl:∀ l:List Dt,(shCols n l).length = am:=fun l=>by rw [shCols_len,hnL]
  obtain ⟨bx,ox,h1,-,hbx,hatx⟩:=ic1'.at (by rw [hcl];omega)
  obtain ⟨by_,oy,h2,-,hby,haty⟩:=ic2'.at (by rw [hcl];omega)
  obtain ⟨bz,oz,h3,-,hbz,hatz⟩:=ic3'.at (by rw [hcl];omega)
  subst h1 h2 h3
  have hroom:=(rm3' bz oz am zc rfl).2
  rw [hcl] at hroom
  have HATX:=Lib.hid hatx;have HATY:=Lib.hid haty;have HATZ:=Lib.hid hatz;have HROOM:=Lib.hid hroom
  have HNLL:=Lib.hid hnLO;have HLN2:=Lib.hid hnL
  have hpos1:=hpos.1;have hpos2:=hpos.2
  have hgwf:w.heap.size < wf.heap.size:=row_lt RA.out
  clear hr hm hb2 cA HLV HDE HK1 HK3 hk1 hk3 ic1 ic2 ic3 ic1' ic2' ic3' rm1 rm2 rm3 rm3' hnLO hgL1 hgL2 hgL3 hgL4 hnL hcl hatx haty hatz hroom hpos HR1 HR2 HR3 HWA HWB HWZ g1 g2 g3 hv
  go_wp2_with fail
  go_loopw [18] (fun i wr=>∃ k:Nat,k ≤ am ∧ i = .int .i64 (k:Nat) ∧ Hid (Below wf.heap.size wf wr)) (fun i _=>am - (intOf i).toNat)
  case atStart=>exact ⟨0,Nat.zero_le _,rfl,Below.refl _ _⟩
  case round =>
    obtain ⟨k,hk,rfl,HBr⟩:=hrel
    obtain ⟨wq,hwq⟩:∃ x,x = wr:=⟨_,rfl⟩
    subst hwq
    as_aux_lemma =>
    by_cases hlt:k < am
    case neg =>
      obtain rfl:k = am:=Nat.le_antisymm hk (Nat.le_of_not_lt hlt)
      have dk:decide (k < k) = false:=by simp
      clear hlt hk
      go_wp2_with fail
      go_ret
      exact ⟨rfl,HW.out.trans (HBr.out.mono HW.out.size)⟩
    have hkl:k < LO.length:=by rw [HNLL.out];exact hlt
    obtain ⟨p,hp⟩:∃ p,LO[k]? = some p:=⟨_,List.getElem?_eq_getElem hkl⟩
    have hf:(leavesN n)[k]? = some p.1:=by rw [← HM.out,List.getElem?_map,hp];rfl
    obtain ⟨way,hwf,hwq,hway⟩:=way_all HV.out hf
    have hwa:=hway la HGA.out;have hwb:=hway lb HGB.out;have hwz:=hway (la ++ lb) HGAB.out
    have cfa:=col_facts HV.out HO.out hwq hwf hwa HGA.out HDA.out (by have:=HWA3.out;omega)
    have cfb:=col_facts HV.out HO.out hwq hwf hwb HGB.out HDB.out (by have:=HWB3.out;omega)
    have cfz:=col_facts HV.out HO.out hwq hwf hwz HGAB.out HDAB.out (by have:=HWZ6.out;omega)
    have hlo:=lf_ok HV.out HO.out hwq hwf hwa
    have hjn:=col_join hwa hwb hwz
    have hla:=shCol_len n la k;have hlb:=shCol_len n lb k;have hlz:=shCol_len n (la ++ lb) k
    have hwalk:=fun (d:Dt) (hd:datE n false d = 0)=>walk_facts HV.out hwq hwf hd
    have hlsr:=HLS.out.below HBr.out
    have hpo:=hlsr.2 p (List.mem_of_getElem? hp)
    obtain ⟨pn,hpn⟩:∃ pn,p.1.path.length = pn:=⟨_,rfl⟩
    rw [hpn] at hpo
    obtain ⟨pa,pm,pc,hpv,hpm⟩:=own_k hpo
    subst hpm
    rw [hpv] at hpo
    have hcp:=lsd_atS (own_len hlsr.1 rfl) k p hp pa pm pc hpv
    have hpn40:p.1.path.length ≤ 100:=by
      have h1:=hwa.path
      have h2:=hwa.short
      rw [h1];unfold idsOf;rw [List.length_map];omega
    have hpi:IsInts wq (.slice pa pm pc) p.1.path:=IsInts_of_own (by rw [hpn];exact hpo)
    have hkL:k < (leavesN n).length:=by rw [HLN2.out];exact hlt
    obtain ⟨p1,q1,d1,i1,i2,i3,hcx⟩:=(HATX.out k _ (shCols_at hkL)).below HBr.out (Nat.le_refl _) hbx
    obtain ⟨p2,q2,d2,i4,i5,i6,hcy⟩:=(HATY.out k _ (shCols_at hkL)).below HBr.out (Nat.le_refl _) hby
    obtain ⟨p3,q3,d3,i7,i8,i9,hcz⟩:=(HATZ.out k _ (shCols_at hkL)).below HBr.out (Nat.le_refl _) hbz
    have hr1:roomV p3 ∧ roomV q3:=by
      have e1:wf.cell? ⟨bz,oz + k * 4 + 1,none⟩ = some p3:=by rw [← HBr.out.cell (p:=⟨bz,oz + k * 4 + 1,none⟩) hbz];exact hcz 1 _ rfl
      have e2:wf.cell? ⟨bz,oz + k * 4 + 2,none⟩ = some q3:=by rw [← HBr.out.cell (p:=⟨bz,oz + k * 4 + 2,none⟩) hbz];exact hcz 2 _ rfl
      exact ⟨(HROOM.out k hlt).1 _ e1,(HROOM.out k hlt).2 _ e2⟩
    generalize shCol n la k = cA at *
    generalize shCol n lb k = cB at *
    generalize shCol n (la ++ lb) k = cZ at *
    obtain ⟨xa1,xac1,rfl⟩:=i1.form;obtain ⟨xa2,xac2,rfl⟩:=i2.form;obtain ⟨xa3,xac3,rfl⟩:=i3.form
    obtain ⟨ya1,yac1,rfl⟩:=i4.form;obtain ⟨ya2,yac2,rfl⟩:=i5.form;obtain ⟨ya3,yac3,rfl⟩:=i6.form
    obtain ⟨za1,zac1,rfl⟩:=i7.form;obtain ⟨za2,zac2,rfl⟩:=i8.form;obtain ⟨za3,zac3,rfl⟩:=i9.form
    have hroomZ:RoomCol (.agg #[.int .i64 cZ.id,.slice za1 cZ.rep.length zac1,.slice za2 cZ.df.length zac2,.slice za3 cZ.vals.length zac3]):=room_col hr1.1 hr1.2
    unfold colA at hcx hcy hcz
    have hbq:=HBr.out
    have hqz:=HBr.out.size
    have HQW:=Lib.hid (HW.out.trans (hbq.mono HW.out.size))
    have HLC:=Lib.hid (show ∀ w1,Below wq.heap.size wq w1 → ∀ j v,(#[.int .i64 p.1.id,.int .i64 p.1.kind,.int .i64 p.1.mr,.int .i64 p.1.md,.slice pa pm pc]:Array Value)[j]? = some v → w1.cell? ⟨gL,k * 5 + j,none⟩ = some v from fun w1 h j v hj=>(h.cell (p:=⟨gL,k * 5 + j,none⟩) (Nat.lt_of_lt_of_le hgLs hqz)).trans (hcp j v hj))
    have HXC:=Lib.hid (show ∀ w1,Below wq.heap.size wq w1 → ∀ j v,(#[.int .i64 cA.id,.slice xa1 cA.rep.length xac1,.slice xa2 cA.df.length xac2,.slice xa3 cA.vals.length xac3]:Array Value)[j]? = some v → w1.cell? ⟨bx,ox + k * 4 + j,none⟩ = some v from fun w1 h j v hj=>(h.cell (p:=⟨bx,ox + k * 4 + j,none⟩) (Nat.lt_of_lt_of_le hbx hqz)).trans (hcx j v hj))
    have HYC:=Lib.hid (show ∀ w1,Below wq.heap.size wq w1 → ∀ j v,(#[.int .i64 cB.id,.slice ya1 cB.rep.length yac1,.slice ya2 cB.df.length yac2,.slice ya3 cB.vals.length yac3]:Array Value)[j]? = some v → w1.cell? ⟨by_,oy + k * 4 + j,none⟩ = some v from fun w1 h j v hj=>(h.cell (p:=⟨by_,oy + k * 4 + j,none⟩) (Nat.lt_of_lt_of_le hby hqz)).trans (hcy j v hj))
    have HZC:=Lib.hid (show ∀ w1,Below wq.heap.size wq w1 → ∀ j v,(#[.int .i64 cZ.id,.slice za1 cZ.rep.length zac1,.slice za2 cZ.df.length zac2,.slice za3 cZ.vals.length zac3]:Array Value)[j]? = some v → w1.cell? ⟨bz,oz + k * 4 + j,none⟩ = some v from fun w1 h j v hj=>(h.cell (p:=⟨bz,oz + k * 4 + j,none⟩) (Nat.lt_of_lt_of_le hbz hqz)).trans (hcz j v hj))
    have HIA:=Lib.hid (show ∀ w1,Below wq.heap.size wq w1 → IsCol w1 (.agg #[.int .i64 cA.id,.slice xa1 cA.rep.length xac1,.slice xa2 cA.df.length xac2,.slice xa3 cA.vals.length xac3]) cA from fun w1 h=>⟨_,_,_,rfl,i1.below h (Nat.le_refl _),i2.below h (Nat.le_refl _),i3.below h (Nat.le_refl _)⟩)
    have HIB:=Lib.hid (show ∀ w1,Below wq.heap.size wq w1 → IsCol w1 (.agg #[.int .i64 cB.id,.slice ya1 cB.rep.length yac1,.slice ya2 cB.df.length yac2,.slice ya3 cB.vals.length yac3]) cB from fun w1 h=>⟨_,_,_,rfl,i4.below h (Nat.le_refl _),i5.below h (Nat.le_refl _),i6.below h (Nat.le_refl _)⟩)
    have HIZ:=Lib.hid (show ∀ w1,Below wq.heap.size wq w1 → IsCol w1 (.agg #[.int .i64 cZ.id,.slice za1 cZ.rep.length zac1,.slice za2 cZ.df.length zac2,.slice za3 cZ.vals.length zac3]) cZ from fun w1 h=>⟨_,_,_,rfl,i7.below h (Nat.le_refl _),i8.below h (Nat.le_refl _),i9.below h (Nat.le_refl _)⟩)
    have HZV:=Lib.hid (show ∀ w1,Below wq.heap.size wq w1 → IsVals w1 (.slice za3 cZ.vals.length zac3) cZ.vals from fun w1 h=>i9.below h (Nat.le_refl _))
    have HEW:=Lib.hid (fun (w1:World) (h:Below wq.heap.size wq w1)=>HEB.out w1 (HQW.out.trans (h.mono HQW.out.size)))
    have HOLF:=Lib.hid (fun (w1:World) (h:Below wq.heap.size wq w1)=>ownLeaf_any (lfOf p.1) (.agg #[.int .i64 p.1.id,.int .i64 p.1.kind,.int .i64 p.1.mr,.int .i64 p.1.md,.slice pa pm pc]) w1 ⟨.slice pa pm pc,rfl,hpi.below h (Nat.le_refl _)⟩ hpn40)
    have HJ17:=Lib.hid (fun (w1:World) (h:Below wq.heap.size wq w1) (vf v2:Value) (h1:IsLf w1 vf (lfOf p.1)) (h2:IsCols w1 v2 [cA,cB])=>join_two (lfOf p.1) cA cB cZ vf v2 w1 adr ((HEW.out w1 h).sub (by decide)) h1 h2 hlo.1 cfa.ok cfb.ok cfa.nil cfb.nil hjn (by have:=HWA3.out;have:=HWB3.out;omega))
    have HSC:=Lib.hid (fun (v1 v2:Value) (w1:World) (h1:IsCol w1 v1 cZ) (h2:IsCol w1 v2 cZ)=>sameColN cZ v1 v2 w1 h1 h2 (by have:=HWZ6.out;omega) (by have:=HWZ6.out;omega) (by have:=HWZ6.out;unfold maxLen;omega))
    have hcz2:countC cZ.rep = nz:=by rw [cfz.many,HNZ.out]
    have HCT:=Lib.hid (fun (v1:Value) (w1:World) (h1:IsCol w1 v1 cZ)=>(show Calls Tryd.prog 20 #[v1] w1 fun e w'=>e = .returned (.int .i64 ((nz:Nat):Int)) ∧ Below w1.heap.size w1 w' from by rw [← hcz2];exact count_any cZ v1 w1 h1 (by have:=HWZ6.out;omega)))
    have HVZ:=Lib.hid cfz.vals
    have HSV:=Lib.hid (fun (v1:Value) (w1:World) (h:Below wq.heap.size wq w1) (h1:IsVals w1 v1 cZ.vals)=>sameValues_any v1 (.slice za3 cZ.vals.length zac3) cZ.vals cZ.vals w1 h1 (HZV.out w1 h) (by have:=HWZ6.out;unfold maxLen;omega) (by have:=HWZ6.out;unfold maxLen;omega))
    have HWK:=Lib.hid hwalk
    have HZL:=Lib.hid (show cZ.vals.length ≤ 6000 by have:=HWZ6.out;omega)
    have HPT:=Lib.hid (fun (m:Nat) (hm:m ≤ nz)=>(show ∃ x0:Nat,x0 ≤ cZ.rep.length ∧ (∀ (w1:World),Below wq.heap.size wq w1 → ∀ vf,IsLf w1 vf (lfOf p.1) → Calls Tryd.prog 24 #[vf,.agg #[.int .i64 cZ.id,.slice za1 cZ.rep.length zac1,.slice za2 cZ.df.length zac2,.slice za3 cZ.vals.length zac3],.int .i64 0,.int .i64 (m:Nat)] w1 (ColRet (cutC (lfOf p.1) cZ 0 x0) w1)) ∧
        (∀ (w1:World),Below wq.heap.size wq w1 → ∀ vf,IsLf w1 vf (lfOf p.1) → Calls Tryd.prog 24 #[vf,.agg #[.int .i64 cZ.id,.slice za1 cZ.rep.length zac1,.slice za2 cZ.df.length zac2,.slice za3 cZ.vals.length zac3],.int .i64 (m:Nat),.int .i64 ((nz:Nat):Int)] w1 (ColRet (cutC (lfOf p.1) cZ x0 cZ.rep.length) w1)) ∧
        (∀ (w1:World),Below wq.heap.size wq w1 → ∀ vf v2,IsLf w1 vf (lfOf p.1) → IsCols w1 v2 [cutC (lfOf p.1) cZ 0 x0,cutC (lfOf p.1) cZ x0 cZ.rep.length] → Calls Tryd.prog 9 #[vf,v2] w1 (ColRet cZ w1)) from by
      obtain ⟨x0,hx0⟩:=marks_some cZ.rep (m:=m) (by rw [hcz2];exact hm)
      have hz0:=marks_zero (l:=cZ.rep) (by have:=(right_of cfz.nil).2;simpa using this)
      have hze:(marksOf cZ.rep)[nz]? = some cZ.rep.length:=by rw [← hcz2];exact marks_end _
      have hx1:=marks_le' hz0 hx0 (Nat.zero_le _)
      have hx2:=marks_le' hx0 hze hm
      have hlr:cZ.rep.length ≤ 6000:=by have:=HWZ6.out;omega
      refine ⟨x0,hx2.1,fun w1 h vf h1=>?_,fun w1 h vf h1=>?_,fun w1 h vf v2 h1 h2=>?_⟩
      · exact part_two (lfOf p.1) cZ 0 m 0 x0 vf _ w1 adr ((HEW.out w1 h).sub (by decide)) h1 (HIZ.out w1 h) hroomZ hlo.1 cfz.ok cfz.nil (by omega) (Nat.zero_le _) hz0 hx0 hx1.1 hx1.2
      · exact part_two (lfOf p.1) cZ m (nz) x0 cZ.rep.length vf _ w1 adr ((HEW.out w1 h).sub (by decide)) h1 (HIZ.out w1 h) hroomZ hlo.1 cfz.ok cfz.nil (by omega) hm hx0 hze hx2.1 (Nat.le_refl _)
      · exact join_two (lfOf p.1) _ _ cZ vf v2 w1 adr ((HEW.out w1 h).sub (by decide)) h1 h2 hlo.1 (cut_ok cfz.ok _ _) (cut_ok cfz.ok _ _) (cut_nil cfz.right hz0 hx0 (Nat.zero_le _)) (cut_nil cfz.right hx0 hze hm) (cut_join cfz.right hx2.1) (by have h1:=cut_len (lfOf p.1) cZ 0 x0;have h2:=cut_len (lfOf p.1) cZ x0 cZ.rep.length;omega)))
    have Hlt:=Lib.hid hlt
    have hin:(k:Int) < (am:Int):=Int.ofNat_lt.2 hlt
    have dk:decide (k < am) = true:=decide_eq_true hlt
    have RAq:=Lib.hid (row_keep hbq RA.out)
    have HDQ:=Lib.hid ((HDF.out.under hbq).mono (Q:=(· < wq.heap.size)) fun b hb hl=>hl)
    clear hkl hp hf hwf hwq hway hwa hwb hwz cfa cfb cfz hlo hjn hla hlb hlz hwalk hlsr hpo hpv hcp hpn hpn40 hpi hkL hcx hcy hcz i1 i2 i3 i4 i5 i6 i7 i8 i9 hr1 hroomZ hbq hcz2 hlt hk
    go_upto_region 17 with fail
    go_cut [19,20] (fun s19 s20 wx=>∃ gj:Nat,s19 = .pointer (some ⟨gj,0,none⟩) ∧ s20 = .nilIface ∧ ∃ (jPa:Option Addr) (jPm jPc:Nat) (jQa:Option Addr) (jQm jQc:Nat) (jVa:Option Addr) (jVm jVc:Nat),Hid (VarAt wq wx gj cZ jPa jPm jPc jQa jQm jQc jVa jVm jVc))
    case first =>
      clear HDAB HDA HDB HO HEB HWP HN HA HB HON HNA HNB LT LA LC HV HGA HGB HGAB HWA3 HWB3 HWZ6 hn100 HNZ RA HW HDF HM HLS hgLs hbx hby hbz HATX HATY HATZ HROOM HNLL HLN2 hpos1 hpos2 hgwf HBr HQW HZC HIZ HZV HEW HSC HCT HVZ HSV HWK HZL HPT Hlt RAq HDQ hat0 hat1 hqz
      as_aux_lemma =>
        have HS:=Lib.hid (show ∀ w',Below wq.heap.size wq w' → ((∀ j v,(#[.int .i64 p.1.id,.int .i64 p.1.kind,.int .i64 p.1.mr,.int .i64 p.1.md,.slice pa pm pc]:Array Value)[j]? = some v → w'.cell? ⟨gL,k * 5 + j,none⟩ = some v) ∧ (∀ j v,(#[.int .i64 cA.id,.slice xa1 cA.rep.length xac1,.slice xa2 cA.df.length xac2,.slice xa3 cA.vals.length xac3]:Array Value)[j]? = some v → w'.cell? ⟨bx,ox + k * 4 + j,none⟩ = some v) ∧ (∀ j v,(#[.int .i64 cB.id,.slice ya1 cB.rep.length yac1,.slice ya2 cB.df.length yac2,.slice ya3 cB.vals.length yac3]:Array Value)[j]? = some v → w'.cell? ⟨by_,oy + k * 4 + j,none⟩ = some v)) from fun w' h=>⟨HLC.out w' h,HXC.out w' h,HYC.out w' h⟩)
        refine AnyE.region (S:=fun w'=>(∀ j v,(#[.int .i64 p.1.id,.int .i64 p.1.kind,.int .i64 p.1.mr,.int .i64 p.1.md,.slice pa pm pc]:Array Value)[j]? = some v → w'.cell? ⟨gL,k * 5 + j,none⟩ = some v) ∧ (∀ j v,(#[.int .i64 cA.id,.slice xa1 cA.rep.length xac1,.slice xa2 cA.df.length xac2,.slice xa3 cA.vals.length xac3]:Array Value)[j]? = some v → w'.cell? ⟨bx,ox + k * 4 + j,none⟩ = some v) ∧ (∀ j v,(#[.int .i64 cB.id,.slice ya1 cB.rep.length yac1,.slice ya2 cB.df.length yac2,.slice ya3 cB.vals.length yac3]:Array Value)[j]? = some v → w'.cell? ⟨by_,oy + k * 4 + j,none⟩ = some v)) (E:=[14,17,19,20]) (by kernel_rfl) ?_
        have hbd:=(Below.refl wq.heap.size wq).drew
        have HBX:=Lib.hid hbd;have HBX0:wq.heap.size ≤ wq.drew.heap.size:=hbd.size
        clear hbd
        generalize wq.drew = wd at *
        have hS:=(HS.out wd HBX.out:(fun w'=>(∀ j v,(#[.int .i64 p.1.id,.int .i64 p.1.kind,.int .i64 p.1.mr,.int .i64 p.1.md,.slice pa pm pc]:Array Value)[j]? = some v → w'.cell? ⟨gL,k * 5 + j,none⟩ = some v) ∧ (∀ j v,(#[.int .i64 cA.id,.slice xa1 cA.rep.length xac1,.slice xa2 cA.df.length xac2,.slice xa3 cA.vals.length xac3]:Array Value)[j]? = some v → w'.cell? ⟨bx,ox + k * 4 + j,none⟩ = some v) ∧ (∀ j v,(#[.int .i64 cB.id,.slice ya1 cB.rep.length yac1,.slice ya2 cB.df.length yac2,.slice ya3 cB.vals.length yac3]:Array Value)[j]? = some v → w'.cell? ⟨by_,oy + k * 4 + j,none⟩ = some v)) wd)
        refine AnyE.takeL (i:=0) (v:=?_) rfl (by kernel_rfl) (by kernel_rfl) (by kernel_rfl) (by kernel_rfl) (by kernel_rfl) (fun _ _ _ h=>h) (Or.inl ⟨by rfl,?_⟩) hS ?_
        rotate_left
        focus (intro wq hSq;obtain ⟨hS1,hS2,hS3⟩:=hSq;go_simp;with_reducible rfl)
        try simp only [Act.put,List.getElem_toArray,List.getElem_cons_succ,List.getElem_cons_zero,List.setIfInBounds_toArray,List.set_cons_zero,List.set_cons_succ]
        refine AnyE.takeL (i:=1) (v:=?_) rfl (by kernel_rfl) (by kernel_rfl) (by kernel_rfl) (by kernel_rfl) (by kernel_rfl) (fun _ _ _ h=>h) (Or.inl ⟨by rfl,?_⟩) hS ?_
        rotate_left
        focus (intro wq hSq;obtain ⟨hS1,hS2,hS3⟩:=hSq;go_simp;with_reducible rfl)
        try simp only [Act.put,List.getElem_toArray,List.getElem_cons_succ,List.getElem_cons_zero,List.setIfInBounds_toArray,List.set_cons_zero,List.set_cons_succ]
        refine AnyE.takeL (i:=2) (v:=?_) rfl (by kernel_rfl) (by kernel_rfl) (by kernel_rfl) (by kernel_rfl) (by kernel_rfl) (fun _ _ _ h=>h) (Or.inl ⟨by rfl,?_⟩) hS ?_
        rotate_left
        focus (intro wq hSq;obtain ⟨hS1,hS2,hS3⟩:=hSq;go_simp;with_reducible rfl)
        try simp only [Act.put,List.getElem_toArray,List.getElem_cons_succ,List.getElem_cons_zero,List.setIfInBounds_toArray,List.set_cons_zero,List.set_cons_succ]
        refine AnyE.takeL (i:=3) (v:=.agg #[.int .i64 p.1.id,.int .i64 p.1.kind,.int .i64 p.1.mr,.int .i64 p.1.md,.slice pa pm pc]) rfl (by kernel_rfl) (by kernel_rfl) (by kernel_rfl) (by kernel_rfl) (by kernel_rfl) (fun _ _ _ h=>h) (yields_load 24 _ rfl rfl gL (k * 5) rfl #[.int .i64 p.1.id,.int .i64 p.1.kind,.int .i64 p.1.mr,.int .i64 p.1.md,.slice pa pm pc] _ (fun w h=>h.1) Tryd.underlying24 rfl (by kernel_rfl)) hS ?_
        try simp only [Act.put,List.getElem_toArray,List.getElem_cons_succ,List.getElem_cons_zero,List.setIfInBounds_toArray,List.set_cons_zero,List.set_cons_succ]
        refine AnyE.takeL (i:=5) (v:=?_) rfl (by kernel_rfl) (by kernel_rfl) (by kernel_rfl) (by kernel_rfl) (by kernel_rfl) (fun _ _ _ h=>h) (Or.inl ⟨by rfl,?_⟩) hS ?_
        rotate_left
        focus (intro wq hSq;obtain ⟨hS1,hS2,hS3⟩:=hSq;go_simp;with_reducible rfl)
        try simp only [Act.put,List.getElem_toArray,List.getElem_cons_succ,List.getElem_cons_zero,List.setIfInBounds_toArray,List.set_cons_zero,List.set_cons_succ]
        refine AnyE.takeL (i:=6) (v:=?_) rfl (by kernel_rfl) (by kernel_rfl) (by kernel_rfl) (by kernel_rfl) (by kernel_rfl) (fun _ _ _ h=>h) (Or.inl ⟨by rfl,?_⟩) hS ?_
        rotate_left
        focus (intro wq hSq;obtain ⟨hS1,hS2,hS3⟩:=hSq;go_simp;with_reducible rfl)
        try simp only [Act.put,List.getElem_toArray,List.getElem_cons_succ,List.getElem_cons_zero,List.setIfInBounds_toArray,List.set_cons_zero,List.set_cons_succ]
        refine AnyE.takeL (i:=7) (v:=?_) rfl (by kernel_rfl) (by kernel_rfl) (by kernel_rfl) (by kernel_rfl) (by kernel_rfl) (fun _ _ _ h=>h) (Or.inl ⟨by rfl,?_⟩) hS ?_
        rotate_left
        focus (intro wq hSq;obtain ⟨hS1,hS2,hS3⟩:=hSq;go_simp;with_reducible rfl)
        try simp only [Act.put,List.getElem_toArray,List.getElem_cons_succ,List.getElem_cons_zero,List.setIfInBounds_toArray,List.set_cons_zero,List.set_cons_succ]
        refine AnyE.takeL (i:=8) (v:=.agg #[.int .i64 cA.id,.slice xa1 cA.rep.length xac1,.slice xa2 cA.df.length xac2,.slice xa3 cA.vals.length xac3]) rfl (by kernel_rfl) (by kernel_rfl) (by kernel_rfl) (by kernel_rfl) (by kernel_rfl) (fun _ _ _ h=>h) (yields_load 32 _ rfl rfl bx (ox + k * 4) rfl #[.int .i64 cA.id,.slice xa1 cA.rep.length xac1,.slice xa2 cA.df.length xac2,.slice xa3 cA.vals.length xac3] _ (fun w h=>h.2.1) Tryd.underlying32 rfl (by kernel_rfl)) hS ?_
        try simp only [Act.put,List.getElem_toArray,List.getElem_cons_succ,List.getElem_cons_zero,List.setIfInBounds_toArray,List.set_cons_zero,List.set_cons_succ]
        refine AnyE.takeL (i:=9) (v:=?_) rfl (by kernel_rfl) (by kernel_rfl) (by kernel_rfl) (by kernel_rfl) (by kernel_rfl) (fun _ _ _ h=>h) (Or.inl ⟨by rfl,?_⟩) hS ?_
        rotate_left
        focus (intro wq hSq;obtain ⟨hS1,hS2,hS3⟩:=hSq;go_simp;with_reducible rfl)
        try simp only [Act.put,List.getElem_toArray,List.getElem_cons_succ,List.getElem_cons_zero,List.setIfInBounds_toArray,List.set_cons_zero,List.set_cons_succ]
        refine AnyE.takeL (i:=10) (v:=?_) rfl (by kernel_rfl) (by kernel_rfl) (by kernel_rfl) (by kernel_rfl) (by kernel_rfl) (fun _ _ _ h=>h) (Or.inl ⟨by rfl,?_⟩) hS ?_
        rotate_left
        focus (intro wq hSq;obtain ⟨hS1,hS2,hS3⟩:=hSq;go_simp;with_reducible rfl)
        try simp only [Act.put,List.getElem_toArray,List.getElem_cons_succ,List.getElem_cons_zero,List.setIfInBounds_toArray,List.set_cons_zero,List.set_cons_succ]
        refine AnyE.takeL (i:=11) (v:=?_) rfl (by kernel_rfl) (by kernel_rfl) (by kernel_rfl) (by kernel_rfl) (by kernel_rfl) (fun _ _ _ h=>h) (Or.inl ⟨by rfl,?_⟩) hS ?_
        rotate_left
        focus (intro wq hSq;obtain ⟨hS1,hS2,hS3⟩:=hSq;go_simp;with_reducible rfl)
        try simp only [Act.put,List.getElem_toArray,List.getElem_cons_succ,List.getElem_cons_zero,List.setIfInBounds_toArray,List.set_cons_zero,List.set_cons_succ]
        refine AnyE.takeL (i:=12) (v:=.agg #[.int .i64 cB.id,.slice ya1 cB.rep.length yac1,.slice ya2 cB.df.length yac2,.slice ya3 cB.vals.length yac3]) rfl (by kernel_rfl) (by kernel_rfl) (by kernel_rfl) (by kernel_rfl) (by kernel_rfl) (fun _ _ _ h=>h) (yields_load 32 _ rfl rfl by_ (oy + k * 4) rfl #[.int .i64 cB.id,.slice ya1 cB.rep.length yac1,.slice ya2 cB.df.length yac2,.slice ya3 cB.vals.length yac3] _ (fun w h=>h.2.2) Tryd.underlying32 rfl (by kernel_rfl)) hS ?_
        try simp only [Act.put,List.getElem_toArray,List.getElem_cons_succ,List.getElem_cons_zero,List.setIfInBounds_toArray,List.set_cons_zero,List.set_cons_succ]
        refine AnyE.three (i:=4) (j:=13) (k:=18) (by kernel_rfl) rfl rfl rfl rfl rfl rfl ?_ ?_ ?_
        · intro K hK
          simp only [List.getElem_toArray,List.getElem_cons_succ,List.getElem_cons_zero]
          go_simp
          refine (HOLF.out wd HBX.out).mono ?_;rintro e wn1 ⟨⟨uf,rfl,hlf⟩,hb⟩
          replace HBX:=Lib.hid (HBX.out.trans (hb.mono HBX0));replace HBX0:=Nat.le_trans HBX0 hb.size
          have HLF:=Lib.hid hlf
          refine hK _ _ (fun _=>HS.out _ HBX.out) ?_
          clear hK K hS hlf hb
          try simp only [Act.put,List.getElem_toArray,List.getElem_cons_succ,List.getElem_cons_zero,List.setIfInBounds_toArray,List.set_cons_zero,List.set_cons_succ]
          have hS:=(HS.out wn1 HBX.out:(fun w'=>(∀ j v,(#[.int .i64 p.1.id,.int .i64 p.1.kind,.int .i64 p.1.mr,.int .i64 p.1.md,.slice pa pm pc]:Array Value)[j]? = some v → w'.cell? ⟨gL,k * 5 + j,none⟩ = some v) ∧ (∀ j v,(#[.int .i64 cA.id,.slice xa1 cA.rep.length xac1,.slice xa2 cA.df.length xac2,.slice xa3 cA.vals.length xac3]:Array Value)[j]? = some v → w'.cell? ⟨bx,ox + k * 4 + j,none⟩ = some v) ∧ (∀ j v,(#[.int .i64 cB.id,.slice ya1 cB.rep.length yac1,.slice ya2 cB.df.length yac2,.slice ya3 cB.vals.length yac3]:Array Value)[j]? = some v → w'.cell? ⟨by_,oy + k * 4 + j,none⟩ = some v)) wn1)
          refine AnyE.two (i:=13) (j:=18) (by kernel_rfl) rfl rfl rfl rfl ?_ ?_
          · intro K hK
            simp only [List.getElem_toArray,List.getElem_cons_succ,List.getElem_cons_zero]
            refine wp_cols2 _ _ rfl _ _ _ _ _ _ _ _ rfl rfl ?_
            have hb:=(Below.refl wn1.heap.size wn1).alloc (Nat.le_refl _) (.cells #[.int .i64 cA.id,.slice xa1 cA.rep.length xac1,.slice xa2 cA.df.length xac2,.slice xa3 cA.vals.length xac3,.int .i64 cB.id,.slice ya1 cB.rep.length yac1,.slice ya2 cB.df.length yac2,.slice ya3 cB.vals.length yac3] 32)
            have hgl:=heap_alloc_new wn1 (.cells #[.int .i64 cA.id,.slice xa1 cA.rep.length xac1,.slice xa2 cA.df.length xac2,.slice xa3 cA.vals.length xac3,.int .i64 cB.id,.slice ya1 cB.rep.length yac1,.slice ya2 cB.df.length yac2,.slice ya3 cB.vals.length yac3] 32)
            have hbq:=HBX.out.trans (hb.mono HBX0)
            have htw:=cols_two hgl (HIA.out _ hbq) (HIB.out _ hbq)
            replace HBX:=Lib.hid (HBX.out.trans (hb.mono HBX0));replace HBX0:=Nat.le_trans HBX0 hb.size
            replace HLF:=Lib.hid (HLF.out.below hb (Nat.le_refl _))
            have HTW:=Lib.hid htw
            refine hK _ _ (fun _=>HS.out _ HBX.out) ?_
            clear hK K hS hgl htw hbq hb
            try simp only [Act.put,List.getElem_toArray,List.getElem_cons_succ,List.getElem_cons_zero,List.setIfInBounds_toArray,List.set_cons_zero,List.set_cons_succ]
            generalize wn1.alloc (.cells #[.int .i64 cA.id,.slice xa1 cA.rep.length xac1,.slice xa2 cA.df.length xac2,.slice xa3 cA.vals.length xac3,.int .i64 cB.id,.slice ya1 cB.rep.length yac1,.slice ya2 cB.df.length yac2,.slice ya3 cB.vals.length yac3] 32) = wn2 at *
            generalize wn1.heap.size = gtw at *
            have hS:=(HS.out wn2 HBX.out:(fun w'=>(∀ j v,(#[.int .i64 p.1.id,.int .i64 p.1.kind,.int .i64 p.1.mr,.int .i64 p.1.md,.slice pa pm pc]:Array Value)[j]? = some v → w'.cell? ⟨gL,k * 5 + j,none⟩ = some v) ∧ (∀ j v,(#[.int .i64 cA.id,.slice xa1 cA.rep.length xac1,.slice xa2 cA.df.length xac2,.slice xa3 cA.vals.length xac3]:Array Value)[j]? = some v → w'.cell? ⟨bx,ox + k * 4 + j,none⟩ = some v) ∧ (∀ j v,(#[.int .i64 cB.id,.slice ya1 cB.rep.length yac1,.slice ya2 cB.df.length yac2,.slice ya3 cB.vals.length yac3]:Array Value)[j]? = some v → w'.cell? ⟨by_,oy + k * 4 + j,none⟩ = some v)) wn2)
            refine AnyE.two (i:=14) (j:=18) (by kernel_rfl) rfl rfl rfl rfl ?_ ?_
            · intro K hK
              simp only [List.getElem_toArray,List.getElem_cons_succ,List.getElem_cons_zero]
              go_simp
              refine (HJ17.out wn2 HBX.out _ _ HLF.out HTW.out).mono ?_;rintro e wn3 ⟨jPa,jPm,jPc,jQa,jQm,jQc,jVa,jVm,jVc,rfl,hjc,hb⟩
              have hjq:=hjc.base HBX0
              replace HBX:=Lib.hid (HBX.out.trans (hb.mono HBX0));replace HBX0:=Nat.le_trans HBX0 hb.size
              replace HLF:=Lib.hid (HLF.out.below hb (Nat.le_refl _))
              replace HTW:=Lib.hid (HTW.out.below hb (Nat.le_refl _))
              have HJC:=Lib.hid hjq
              refine hK _ _ (fun h=>absurd h (by decide)) ?_
              clear hK K hS hjc hjq hb
              try simp only [Act.put,List.getElem_toArray,List.getElem_cons_succ,List.getElem_cons_zero,List.setIfInBounds_toArray,List.set_cons_zero,List.set_cons_succ]
              have hS:=(HS.out wn3 HBX.out:(fun w'=>(∀ j v,(#[.int .i64 p.1.id,.int .i64 p.1.kind,.int .i64 p.1.mr,.int .i64 p.1.md,.slice pa pm pc]:Array Value)[j]? = some v → w'.cell? ⟨gL,k * 5 + j,none⟩ = some v) ∧ (∀ j v,(#[.int .i64 cA.id,.slice xa1 cA.rep.length xac1,.slice xa2 cA.df.length xac2,.slice xa3 cA.vals.length xac3]:Array Value)[j]? = some v → w'.cell? ⟨bx,ox + k * 4 + j,none⟩ = some v) ∧ (∀ j v,(#[.int .i64 cB.id,.slice ya1 cB.rep.length yac1,.slice ya2 cB.df.length yac2,.slice ya3 cB.vals.length yac3]:Array Value)[j]? = some v → w'.cell? ⟨by_,oy + k * 4 + j,none⟩ = some v)) wn3)
              refine AnyE.takeL (i:=15) (v:=?_) rfl (by kernel_rfl) (by kernel_rfl) (by kernel_rfl) (by kernel_rfl) (by kernel_rfl) (fun _ _ _ h=>h) (Or.inl ⟨by rfl,?_⟩) hS ?_
              rotate_left
              focus (intro wq hSq;obtain ⟨hS1,hS2,hS3⟩:=hSq;go_simp;with_reducible rfl)
              try simp only [Act.put,List.getElem_toArray,List.getElem_cons_succ,List.getElem_cons_zero,List.setIfInBounds_toArray,List.set_cons_zero,List.set_cons_succ]
              refine AnyE.takeP (i:=17) (v:=?_) rfl (by kernel_rfl) (by kernel_rfl) (by kernel_rfl) (by kernel_rfl) (fun _ _ _ h=>h) (Or.inl ⟨by rfl,?_⟩) ?_
              rotate_left
              focus (intro wq hSq;go_simp;with_reducible rfl)
              try simp only [Act.put,List.getElem_toArray,List.getElem_cons_succ,List.getElem_cons_zero,List.setIfInBounds_toArray,List.set_cons_zero,List.set_cons_succ]
              refine AnyE.takeL (i:=16) (v:=?_) rfl (by kernel_rfl) (by kernel_rfl) (by kernel_rfl) (by kernel_rfl) (by kernel_rfl) (fun _ _ _ h=>h) (Or.inl ⟨by rfl,?_⟩) hS ?_
              rotate_left
              focus (intro wq hSq;obtain ⟨hS1,hS2,hS3⟩:=hSq;go_simp;with_reducible rfl)
              try simp only [Act.put,List.getElem_toArray,List.getElem_cons_succ,List.getElem_cons_zero,List.setIfInBounds_toArray,List.set_cons_zero,List.set_cons_succ]
              refine AnyE.one (i:=18) (by kernel_rfl) rfl rfl ?_
              intro K hK
              simp only [List.getElem_toArray,List.getElem_cons_succ,List.getElem_cons_zero]
              go_simp
              have hb:=(Below.refl wn3.heap.size wn3).alloc (Nat.le_refl _) (.cells #[.int .i64 0,.slice none 0 0,.slice none 0 0,.slice none 0 0] 32)
              have hgv:=heap_alloc_new wn3 (.cells #[.int .i64 0,.slice none 0 0,.slice none 0 0,.slice none 0 0] 32)
              have hgvz:wq.heap.size ≤ wn3.heap.size:=HBX0
              replace HBX:=Lib.hid (HBX.out.trans (hb.mono HBX0));replace HBX0:=Nat.le_trans HBX0 hb.size
              replace HJC:=Lib.hid (HJC.out.belowS hb)
              have HRV:=Lib.hid hgv
              refine hK _ _ (fun _=>HS.out _ HBX.out) ?_
              clear hK K hS hgv hb
              try simp only [Act.put,List.getElem_toArray,List.getElem_cons_succ,List.getElem_cons_zero,List.setIfInBounds_toArray,List.set_cons_zero,List.set_cons_succ]
              generalize wn3.alloc (.cells #[.int .i64 0,.slice none 0 0,.slice none 0 0,.slice none 0 0] 32) = wn4 at *
              generalize wn3.heap.size = gv at *
              have hS:=(HS.out wn4 HBX.out:(fun w'=>(∀ j v,(#[.int .i64 p.1.id,.int .i64 p.1.kind,.int .i64 p.1.mr,.int .i64 p.1.md,.slice pa pm pc]:Array Value)[j]? = some v → w'.cell? ⟨gL,k * 5 + j,none⟩ = some v) ∧ (∀ j v,(#[.int .i64 cA.id,.slice xa1 cA.rep.length xac1,.slice xa2 cA.df.length xac2,.slice xa3 cA.vals.length xac3]:Array Value)[j]? = some v → w'.cell? ⟨bx,ox + k * 4 + j,none⟩ = some v) ∧ (∀ j v,(#[.int .i64 cB.id,.slice ya1 cB.rep.length yac1,.slice ya2 cB.df.length yac2,.slice ya3 cB.vals.length yac3]:Array Value)[j]? = some v → w'.cell? ⟨by_,oy + k * 4 + j,none⟩ = some v)) wn4)
              refine AnyE.one (i:=19) (by kernel_rfl) rfl rfl ?_
              intro K hK
              simp only [List.getElem_toArray,List.getElem_cons_succ,List.getElem_cons_zero]
              refine wp_store_part rfl 32 _ _ rfl gv 0 #[.int .i64 0,.slice none 0 0,.slice none 0 0,.slice none 0 0] 32 #[.int .i64 cZ.id,.slice jPa jPm jPc,.slice jQa jQm jQc,.slice jVa jVm jVc] rfl rfl HRV.out (by kernel_rfl) (by simp [Value.oneCell']) (Nat.le_of_ble_eq_true rfl) #[.int .i64 cZ.id,.slice jPa jPm jPc,.slice jQa jQm jQc,.slice jVa jVm jVc] rfl ?_;intro w9 r9 ho9 hb9 hz9
              refine hK _ _ (fun h=>absurd h (by decide)) ?_
              clear hK K hS
              try simp only [Act.put,List.getElem_toArray,List.getElem_cons_succ,List.getElem_cons_zero,List.setIfInBounds_toArray,List.set_cons_zero,List.set_cons_succ]
              have HV9:=Lib.hid (VarAt.store HJC.out HRV.out r9 ho9 hb9 HBX.out hgvz)
              clear r9 ho9 hb9 hz9 HJC HRV HBX HBX0 HLF HTW
              refine AnyE.one (i:=20) (by kernel_rfl) rfl rfl ?_
              intro K hK
              simp only [List.getElem_toArray,List.getElem_cons_succ,List.getElem_cons_zero]
              go_simp
              refine hK _ _ (fun h=>absurd h (by decide)) ?_
              clear hK K
              try simp only [Act.put,List.getElem_toArray,List.getElem_cons_succ,List.getElem_cons_zero,List.setIfInBounds_toArray,List.set_cons_zero,List.set_cons_succ]
              refine AnyE.done (by kernel_rfl) ?_ _
              go_wp2_with fail
              go_meet
              exact ⟨gv,rfl,rfl,jPa,jPm,jPc,jQa,jQm,jQc,jVa,jVm,jVc,HV9⟩
            · intro K hK
              simp only [List.getElem_toArray,List.getElem_cons_succ,List.getElem_cons_zero]
              go_simp
              have hb:=(Below.refl wn2.heap.size wn2).alloc (Nat.le_refl _) (.cells #[.int .i64 0,.slice none 0 0,.slice none 0 0,.slice none 0 0] 32)
              have hgv:=heap_alloc_new wn2 (.cells #[.int .i64 0,.slice none 0 0,.slice none 0 0,.slice none 0 0] 32)
              have hgvz:wq.heap.size ≤ wn2.heap.size:=HBX0
              replace HBX:=Lib.hid (HBX.out.trans (hb.mono HBX0));replace HBX0:=Nat.le_trans HBX0 hb.size
              replace HLF:=Lib.hid (HLF.out.below hb (Nat.le_refl _))
              replace HTW:=Lib.hid (HTW.out.below hb (Nat.le_refl _))
              have HRV:=Lib.hid hgv
              refine hK _ _ (fun _=>HS.out _ HBX.out) ?_
              clear hK K hS hgv hb
              try simp only [Act.put,List.getElem_toArray,List.getElem_cons_succ,List.getElem_cons_zero,List.setIfInBounds_toArray,List.set_cons_zero,List.set_cons_succ]
              generalize wn2.alloc (.cells #[.int .i64 0,.slice none 0 0,.slice none 0 0,.slice none 0 0] 32) = wn5 at *
              generalize wn2.heap.size = gv at *
              have hS:=(HS.out wn5 HBX.out:(fun w'=>(∀ j v,(#[.int .i64 p.1.id,.int .i64 p.1.kind,.int .i64 p.1.mr,.int .i64 p.1.md,.slice pa pm pc]:Array Value)[j]? = some v → w'.cell? ⟨gL,k * 5 + j,none⟩ = some v) ∧ (∀ j v,(#[.int .i64 cA.id,.slice xa1 cA.rep.length xac1,.slice xa2 cA.df.length xac2,.slice xa3 cA.vals.length xac3]:Array Value)[j]? = some v → w'.cell? ⟨bx,ox + k * 4 + j,none⟩ = some v) ∧ (∀ j v,(#[.int .i64 cB.id,.slice ya1 cB.rep.length yac1,.slice ya2 cB.df.length yac2,.slice ya3 cB.vals.length yac3]:Array Value)[j]? = some v → w'.cell? ⟨by_,oy + k * 4 + j,none⟩ = some v)) wn5)
              refine AnyE.one (i:=14) (by kernel_rfl) rfl rfl ?_
              intro K hK
              simp only [List.getElem_toArray,List.getElem_cons_succ,List.getElem_cons_zero]
              go_simp
              refine (HJ17.out wn5 HBX.out _ _ HLF.out HTW.out).mono ?_;rintro e wn6 ⟨jPa,jPm,jPc,jQa,jQm,jQc,jVa,jVm,jVc,rfl,hjc,hb⟩
              have hjq:=hjc.base HBX0
              replace HBX:=Lib.hid (HBX.out.trans (hb.mono HBX0));replace HBX0:=Nat.le_trans HBX0 hb.size
              replace HLF:=Lib.hid (HLF.out.below hb (Nat.le_refl _))
              replace HTW:=Lib.hid (HTW.out.below hb (Nat.le_refl _))
              replace HRV:=Lib.hid (row_keep hb HRV.out)
              have HJC:=Lib.hid hjq
              refine hK _ _ (fun h=>absurd h (by decide)) ?_
              clear hK K hS hjc hjq hb
              try simp only [Act.put,List.getElem_toArray,List.getElem_cons_succ,List.getElem_cons_zero,List.setIfInBounds_toArray,List.set_cons_zero,List.set_cons_succ]
              have hS:=(HS.out wn6 HBX.out:(fun w'=>(∀ j v,(#[.int .i64 p.1.id,.int .i64 p.1.kind,.int .i64 p.1.mr,.int .i64 p.1.md,.slice pa pm pc]:Array Value)[j]? = some v → w'.cell? ⟨gL,k * 5 + j,none⟩ = some v) ∧ (∀ j v,(#[.int .i64 cA.id,.slice xa1 cA.rep.length xac1,.slice xa2 cA.df.length xac2,.slice xa3 cA.vals.length xac3]:Array Value)[j]? = some v → w'.cell? ⟨bx,ox + k * 4 + j,none⟩ = some v) ∧ (∀ j v,(#[.int .i64 cB.id,.slice ya1 cB.rep.length yac1,.slice ya2 cB.df.length yac2,.slice ya3 cB.vals.length yac3]:Array Value)[j]? = some v → w'.cell? ⟨by_,oy + k * 4 + j,none⟩ = some v)) wn6)
              refine AnyE.takeL (i:=15) (v:=?_) rfl (by kernel_rfl) (by kernel_rfl) (by kernel_rfl) (by kernel_rfl) (by kernel_rfl) (fun _ _ _ h=>h) (Or.inl ⟨by rfl,?_⟩) hS ?_
              rotate_left
              focus (intro wq hSq;obtain ⟨hS1,hS2,hS3⟩:=hSq;go_simp;with_reducible rfl)
              try simp only [Act.put,List.getElem_toArray,List.getElem_cons_succ,List.getElem_cons_zero,List.setIfInBounds_toArray,List.set_cons_zero,List.set_cons_succ]
              refine AnyE.takeP (i:=17) (v:=?_) rfl (by kernel_rfl) (by kernel_rfl) (by kernel_rfl) (by kernel_rfl) (fun _ _ _ h=>h) (Or.inl ⟨by rfl,?_⟩) ?_
              rotate_left
              focus (intro wq hSq;go_simp;with_reducible rfl)
              try simp only [Act.put,List.getElem_toArray,List.getElem_cons_succ,List.getElem_cons_zero,List.setIfInBounds_toArray,List.set_cons_zero,List.set_cons_succ]
              refine AnyE.takeL (i:=16) (v:=?_) rfl (by kernel_rfl) (by kernel_rfl) (by kernel_rfl) (by kernel_rfl) (by kernel_rfl) (fun _ _ _ h=>h) (Or.inl ⟨by rfl,?_⟩) hS ?_
              rotate_left
              focus (intro wq hSq;obtain ⟨hS1,hS2,hS3⟩:=hSq;go_simp;with_reducible rfl)
              try simp only [Act.put,List.getElem_toArray,List.getElem_cons_succ,List.getElem_cons_zero,List.setIfInBounds_toArray,List.set_cons_zero,List.set_cons_succ]
              refine AnyE.one (i:=19) (by kernel_rfl) rfl rfl ?_
              intro K hK
              simp only [List.getElem_toArray,List.getElem_cons_succ,List.getElem_cons_zero]
              refine wp_store_part rfl 32 _ _ rfl gv 0 #[.int .i64 0,.slice none 0 0,.slice none 0 0,.slice none 0 0] 32 #[.int .i64 cZ.id,.slice jPa jPm jPc,.slice jQa jQm jQc,.slice jVa jVm jVc] rfl rfl HRV.out (by kernel_rfl) (by simp [Value.oneCell']) (Nat.le_of_ble_eq_true rfl) #[.int .i64 cZ.id,.slice jPa jPm jPc,.slice jQa jQm jQc,.slice jVa jVm jVc] rfl ?_;intro w9 r9 ho9 hb9 hz9
              refine hK _ _ (fun h=>absurd h (by decide)) ?_
              clear hK K hS
              try simp only [Act.put,List.getElem_toArray,List.getElem_cons_succ,List.getElem_cons_zero,List.setIfInBounds_toArray,List.set_cons_zero,List.set_cons_succ]
              have HV9:=Lib.hid (VarAt.store HJC.out HRV.out r9 ho9 hb9 HBX.out hgvz)
              clear r9 ho9 hb9 hz9 HJC HRV HBX HBX0 HLF HTW
              refine AnyE.one (i:=20) (by kernel_rfl) rfl rfl ?_
              intro K hK
              simp only [List.getElem_toArray,List.getElem_cons_succ,List.getElem_cons_zero]
              go_simp
              refine hK _ _ (fun h=>absurd h (by decide)) ?_
              clear hK K
              try simp only [Act.put,List.getElem_toArray,List.getElem_cons_succ,List.getElem_cons_zero,List.setIfInBounds_toArray,List.set_cons_zero,List.set_cons_succ]
              refine AnyE.done (by kernel_rfl) ?_ _
              go_wp2_with fail
              go_meet
              exact ⟨gv,rfl,rfl,jPa,jPm,jPc,jQa,jQm,jQc,jVa,jVm,jVc,HV9⟩
          · intro K hK
            simp only [List.getElem_toArray,List.getElem_cons_succ,List.getElem_cons_zero]
            go_simp
            have hb:=(Below.refl wn1.heap.size wn1).alloc (Nat.le_refl _) (.cells #[.int .i64 0,.slice none 0 0,.slice none 0 0,.slice none 0 0] 32)
            have hgv:=heap_alloc_new wn1 (.cells #[.int .i64 0,.slice none 0 0,.slice none 0 0,.slice none 0 0] 32)
            have hgvz:wq.heap.size ≤ wn1.heap.size:=HBX0
            replace HBX:=Lib.hid (HBX.out.trans (hb.mono HBX0));replace HBX0:=Nat.le_trans HBX0 hb.size
            replace HLF:=Lib.hid (HLF.out.below hb (Nat.le_refl _))
            have HRV:=Lib.hid hgv
            refine hK _ _ (fun _=>HS.out _ HBX.out) ?_
            clear hK K hS hgv hb
            try simp only [Act.put,List.getElem_toArray,List.getElem_cons_succ,List.getElem_cons_zero,List.setIfInBounds_toArray,List.set_cons_zero,List.set_cons_succ]
            generalize wn1.alloc (.cells #[.int .i64 0,.slice none 0 0,.slice none 0 0,.slice none 0 0] 32) = wn7 at *
            generalize wn1.heap.size = gv at *
            have hS:=(HS.out wn7 HBX.out:(fun w'=>(∀ j v,(#[.int .i64 p.1.id,.int .i64 p.1.kind,.int .i64 p.1.mr,.int .i64 p.1.md,.slice pa pm pc]:Array Value)[j]? = some v → w'.cell? ⟨gL,k * 5 + j,none⟩ = some v) ∧ (∀ j v,(#[.int .i64 cA.id,.slice xa1 cA.rep.length xac1,.slice xa2 cA.df.length xac2,.slice xa3 cA.vals.length xac3]:Array Value)[j]? = some v → w'.cell? ⟨bx,ox + k * 4 + j,none⟩ = some v) ∧ (∀ j v,(#[.int .i64 cB.id,.slice ya1 cB.rep.length yac1,.slice ya2 cB.df.length yac2,.slice ya3 cB.vals.length yac3]:Array Value)[j]? = some v → w'.cell? ⟨by_,oy + k * 4 + j,none⟩ = some v)) wn7)
            refine AnyE.one (i:=13) (by kernel_rfl) rfl rfl ?_
            intro K hK
            simp only [List.getElem_toArray,List.getElem_cons_succ,List.getElem_cons_zero]
            refine wp_cols2 _ _ rfl _ _ _ _ _ _ _ _ rfl rfl ?_
            have hb:=(Below.refl wn7.heap.size wn7).alloc (Nat.le_refl _) (.cells #[.int .i64 cA.id,.slice xa1 cA.rep.length xac1,.slice xa2 cA.df.length xac2,.slice xa3 cA.vals.length xac3,.int .i64 cB.id,.slice ya1 cB.rep.length yac1,.slice ya2 cB.df.length yac2,.slice ya3 cB.vals.length yac3] 32)
            have hgl:=heap_alloc_new wn7 (.cells #[.int .i64 cA.id,.slice xa1 cA.rep.length xac1,.slice xa2 cA.df.length xac2,.slice xa3 cA.vals.length xac3,.int .i64 cB.id,.slice ya1 cB.rep.length yac1,.slice ya2 cB.df.length yac2,.slice ya3 cB.vals.length yac3] 32)
            have hbq:=HBX.out.trans (hb.mono HBX0)
            have htw:=cols_two hgl (HIA.out _ hbq) (HIB.out _ hbq)
            replace HBX:=Lib.hid (HBX.out.trans (hb.mono HBX0));replace HBX0:=Nat.le_trans HBX0 hb.size
            replace HLF:=Lib.hid (HLF.out.below hb (Nat.le_refl _))
            replace HRV:=Lib.hid (row_keep hb HRV.out)
            have HTW:=Lib.hid htw
            refine hK _ _ (fun _=>HS.out _ HBX.out) ?_
            clear hK K hS hgl htw hbq hb
            try simp only [Act.put,List.getElem_toArray,List.getElem_cons_succ,List.getElem_cons_zero,List.setIfInBounds_toArray,List.set_cons_zero,List.set_cons_succ]
            generalize wn7.alloc (.cells #[.int .i64 cA.id,.slice xa1 cA.rep.length xac1,.slice xa2 cA.df.length xac2,.slice xa3 cA.vals.length xac3,.int .i64 cB.id,.slice ya1 cB.rep.length yac1,.slice ya2 cB.df.length yac2,.slice ya3 cB.vals.length yac3] 32) = wn8 at *
            generalize wn7.heap.size = gtw at *
            have hS:=(HS.out wn8 HBX.out:(fun w'=>(∀ j v,(#[.int .i64 p.1.id,.int .i64 p.1.kind,.int .i64 p.1.mr,.int .i64 p.1.md,.slice pa pm pc]:Array Value)[j]? = some v → w'.cell? ⟨gL,k * 5 + j,none⟩ = some v) ∧ (∀ j v,(#[.int .i64 cA.id,.slice xa1 cA.rep.length xac1,.slice xa2 cA.df.length xac2,.slice xa3 cA.vals.length xac3]:Array Value)[j]? = some v → w'.cell? ⟨bx,ox + k * 4 + j,none⟩ = some v) ∧ (∀ j v,(#[.int .i64 cB.id,.slice ya1 cB.rep.length yac1,.slice ya2 cB.df.length yac2,.slice ya3 cB.vals.length yac3]:Array Value)[j]? = some v → w'.cell? ⟨by_,oy + k * 4 + j,none⟩ = some v)) wn8)
            refine AnyE.one (i:=14) (by kernel_rfl) rfl rfl ?_
            intro K hK
            simp only [List.getElem_toArray,List.getElem_cons_succ,List.getElem_cons_zero]
            go_simp
            refine (HJ17.out wn8 HBX.out _ _ HLF.out HTW.out).mono ?_;rintro e wn9 ⟨jPa,jPm,jPc,jQa,jQm,jQc,jVa,jVm,jVc,rfl,hjc,hb⟩
            have hjq:=hjc.base HBX0
            replace HBX:=Lib.hid (HBX.out.trans (hb.mono HBX0));replace HBX0:=Nat.le_trans HBX0 hb.size
            replace HLF:=Lib.hid (HLF.out.below hb (Nat.le_refl _))
            replace HTW:=Lib.hid (HTW.out.below hb (Nat.le_refl _))
            replace HRV:=Lib.hid (row_keep hb HRV.out)
            have HJC:=Lib.hid hjq
            refine hK _ _ (fun h=>absurd h (by decide)) ?_
            clear hK K hS hjc hjq hb
            try simp only [Act.put,List.getElem_toArray,List.getElem_cons_succ,List.getElem_cons_zero,List.setIfInBounds_toArray,List.set_cons_zero,List.set_cons_succ]
            have hS:=(HS.out wn9 HBX.out:(fun w'=>(∀ j v,(#[.int .i64 p.1.id,.int .i64 p.1.kind,.int .i64 p.1.mr,.int .i64 p.1.md,.slice pa pm pc]:Array Value)[j]? = some v → w'.cell? ⟨gL,k * 5 + j,none⟩ = some v) ∧ (∀ j v,(#[.int .i64 cA.id,.slice xa1 cA.rep.length xac1,.slice xa2 cA.df.length xac2,.slice xa3 cA.vals.length xac3]:Array Value)[j]? = some v → w'.cell? ⟨bx,ox + k * 4 + j,none⟩ = some v) ∧ (∀ j v,(#[.int .i64 cB.id,.slice ya1 cB.rep.length yac1,.slice ya2 cB.df.length yac2,.slice ya3 cB.vals.length yac3]:Array Value)[j]? = some v → w'.cell? ⟨by_,oy + k * 4 + j,none⟩ = some v)) wn9)
            refine AnyE.takeL (i:=15) (v:=?_) rfl (by kernel_rfl) (by kernel_rfl) (by kernel_rfl) (by kernel_rfl) (by kernel_rfl) (fun _ _ _ h=>h) (Or.inl ⟨by rfl,?_⟩) hS ?_
            rotate_left
            focus (intro wq hSq;obtain ⟨hS1,hS2,hS3⟩:=hSq;go_simp;with_reducible rfl)
            try simp only [Act.put,List.getElem_toArray,List.getElem_cons_succ,List.getElem_cons_zero,List.setIfInBounds_toArray,List.set_cons_zero,List.set_cons_succ]
            refine AnyE.takeP (i:=17) (v:=?_) rfl (by kernel_rfl) (by kernel_rfl) (by kernel_rfl) (by kernel_rfl) (fun _ _ _ h=>h) (Or.inl ⟨by rfl,?_⟩) ?_
            rotate_left
            focus (intro wq hSq;go_simp;with_reducible rfl)
            try simp only [Act.put,List.getElem_toArray,List.getElem_cons_succ,List.getElem_cons_zero,List.setIfInBounds_toArray,List.set_cons_zero,List.set_cons_succ]
            refine AnyE.takeL (i:=16) (v:=?_) rfl (by kernel_rfl) (by kernel_rfl) (by kernel_rfl) (by kernel_rfl) (by kernel_rfl) (fun _ _ _ h=>h) (Or.inl ⟨by rfl,?_⟩) hS ?_
            rotate_left
            focus (intro wq hSq;obtain ⟨hS1,hS2,hS3⟩:=hSq;go_simp;with_reducible rfl)
            try simp only [Act.put,List.getElem_toArray,List.getElem_cons_succ,List.getElem_cons_zero,List.setIfInBounds_toArray,List.set_cons_zero,List.set_cons_succ]
            refine AnyE.one (i:=19) (by kernel_rfl) rfl rfl ?_
            intro K hK
            simp only [List.getElem_toArray,List.getElem_cons_succ,List.getElem_cons_zero]
            refine wp_store_part rfl 32 _ _ rfl gv 0 #[.int .i64 0,.slice none 0 0,.slice none 0 0,.slice none 0 0] 32 #[.int .i64 cZ.id,.slice jPa jPm jPc,.slice jQa jQm jQc,.slice jVa jVm jVc] rfl rfl HRV.out (by kernel_rfl) (by simp [Value.oneCell']) (Nat.le_of_ble_eq_true rfl) #[.int .i64 cZ.id,.slice jPa jPm jPc,.slice jQa jQm jQc,.slice jVa jVm jVc] rfl ?_;intro w9 r9 ho9 hb9 hz9
            refine hK _ _ (fun h=>absurd h (by decide)) ?_
            clear hK K hS
            try simp only [Act.put,List.getElem_toArray,List.getElem_cons_succ,List.getElem_cons_zero,List.setIfInBounds_toArray,List.set_cons_zero,List.set_cons_succ]
            have HV9:=Lib.hid (VarAt.store HJC.out HRV.out r9 ho9 hb9 HBX.out hgvz)
            clear r9 ho9 hb9 hz9 HJC HRV HBX HBX0 HLF HTW
            refine AnyE.one (i:=20) (by kernel_rfl) rfl rfl ?_
            intro K hK
            simp only [List.getElem_toArray,List.getElem_cons_succ,List.getElem_cons_zero]
            go_simp
            refine hK _ _ (fun h=>absurd h (by decide)) ?_
            clear hK K
            try simp only [Act.put,List.getElem_toArray,List.getElem_cons_succ,List.getElem_cons_zero,List.setIfInBounds_toArray,List.set_cons_zero,List.set_cons_succ]
            refine AnyE.done (by kernel_rfl) ?_ _
            go_wp2_with fail
            go_meet
            exact ⟨gv,rfl,rfl,jPa,jPm,jPc,jQa,jQm,jQc,jVa,jVm,jVc,HV9⟩
        · intro K hK
          simp only [List.getElem_toArray,List.getElem_cons_succ,List.getElem_cons_zero]
          refine wp_cols2 _ _ rfl _ _ _ _ _ _ _ _ rfl rfl ?_
          have hb:=(Below.refl wd.heap.size wd).alloc (Nat.le_refl _) (.cells #[.int .i64 cA.id,.slice xa1 cA.rep.length xac1,.slice xa2 cA.df.length xac2,.slice xa3 cA.vals.length xac3,.int .i64 cB.id,.slice ya1 cB.rep.length yac1,.slice ya2 cB.df.length yac2,.slice ya3 cB.vals.length yac3] 32)
          have hgl:=heap_alloc_new wd (.cells #[.int .i64 cA.id,.slice xa1 cA.rep.length xac1,.slice xa2 cA.df.length xac2,.slice xa3 cA.vals.length xac3,.int .i64 cB.id,.slice ya1 cB.rep.length yac1,.slice ya2 cB.df.length yac2,.slice ya3 cB.vals.length yac3] 32)
          have hbq:=HBX.out.trans (hb.mono HBX0)
          have htw:=cols_two hgl (HIA.out _ hbq) (HIB.out _ hbq)
          replace HBX:=Lib.hid (HBX.out.trans (hb.mono HBX0));replace HBX0:=Nat.le_trans HBX0 hb.size
          have HTW:=Lib.hid htw
          refine hK _ _ (fun _=>HS.out _ HBX.out) ?_
          clear hK K hS hgl htw hbq hb
          try simp only [Act.put,List.getElem_toArray,List.getElem_cons_succ,List.getElem_cons_zero,List.setIfInBounds_toArray,List.set_cons_zero,List.set_cons_succ]
          generalize wd.alloc (.cells #[.int .i64 cA.id,.slice xa1 cA.rep.length xac1,.slice xa2 cA.df.length xac2,.slice xa3 cA.vals.length xac3,.int .i64 cB.id,.slice ya1 cB.rep.length yac1,.slice ya2 cB.df.length yac2,.slice ya3 cB.vals.length yac3] 32) = wn10 at *
          generalize wd.heap.size = gtw at *
          have hS:=(HS.out wn10 HBX.out:(fun w'=>(∀ j v,(#[.int .i64 p.1.id,.int .i64 p.1.kind,.int .i64 p.1.mr,.int .i64 p.1.md,.slice pa pm pc]:Array Value)[j]? = some v → w'.cell? ⟨gL,k * 5 + j,none⟩ = some v) ∧ (∀ j v,(#[.int .i64 cA.id,.slice xa1 cA.rep.length xac1,.slice xa2 cA.df.length xac2,.slice xa3 cA.vals.length xac3]:Array Value)[j]? = some v → w'.cell? ⟨bx,ox + k * 4 + j,none⟩ = some v) ∧ (∀ j v,(#[.int .i64 cB.id,.slice ya1 cB.rep.length yac1,.slice ya2 cB.df.length yac2,.slice ya3 cB.vals.length yac3]:Array Value)[j]? = some v → w'.cell? ⟨by_,oy + k * 4 + j,none⟩ = some v)) wn10)
          refine AnyE.two (i:=4) (j:=18) (by kernel_rfl) rfl rfl rfl rfl ?_ ?_
          · intro K hK
            simp only [List.getElem_toArray,List.getElem_cons_succ,List.getElem_cons_zero]
            go_simp
            refine (HOLF.out wn10 HBX.out).mono ?_;rintro e wn11 ⟨⟨uf,rfl,hlf⟩,hb⟩
            replace HBX:=Lib.hid (HBX.out.trans (hb.mono HBX0));replace HBX0:=Nat.le_trans HBX0 hb.size
            replace HTW:=Lib.hid (HTW.out.below hb (Nat.le_refl _))
            have HLF:=Lib.hid hlf
            refine hK _ _ (fun _=>HS.out _ HBX.out) ?_
            clear hK K hS hlf hb
            try simp only [Act.put,List.getElem_toArray,List.getElem_cons_succ,List.getElem_cons_zero,List.setIfInBounds_toArray,List.set_cons_zero,List.set_cons_succ]
            have hS:=(HS.out wn11 HBX.out:(fun w'=>(∀ j v,(#[.int .i64 p.1.id,.int .i64 p.1.kind,.int .i64 p.1.mr,.int .i64 p.1.md,.slice pa pm pc]:Array Value)[j]? = some v → w'.cell? ⟨gL,k * 5 + j,none⟩ = some v) ∧ (∀ j v,(#[.int .i64 cA.id,.slice xa1 cA.rep.length xac1,.slice xa2 cA.df.length xac2,.slice xa3 cA.vals.length xac3]:Array Value)[j]? = some v → w'.cell? ⟨bx,ox + k * 4 + j,none⟩ = some v) ∧ (∀ j v,(#[.int .i64 cB.id,.slice ya1 cB.rep.length yac1,.slice ya2 cB.df.length yac2,.slice ya3 cB.vals.length yac3]:Array Value)[j]? = some v → w'.cell? ⟨by_,oy + k * 4 + j,none⟩ = some v)) wn11)
            refine AnyE.two (i:=14) (j:=18) (by kernel_rfl) rfl rfl rfl rfl ?_ ?_
            · intro K hK
              simp only [List.getElem_toArray,List.getElem_cons_succ,List.getElem_cons_zero]
              go_simp
              refine (HJ17.out wn11 HBX.out _ _ HLF.out HTW.out).mono ?_;rintro e wn12 ⟨jPa,jPm,jPc,jQa,jQm,jQc,jVa,jVm,jVc,rfl,hjc,hb⟩
              have hjq:=hjc.base HBX0
              replace HBX:=Lib.hid (HBX.out.trans (hb.mono HBX0));replace HBX0:=Nat.le_trans HBX0 hb.size
              replace HLF:=Lib.hid (HLF.out.below hb (Nat.le_refl _))
              replace HTW:=Lib.hid (HTW.out.below hb (Nat.le_refl _))
              have HJC:=Lib.hid hjq
              refine hK _ _ (fun h=>absurd h (by decide)) ?_
              clear hK K hS hjc hjq hb
              try simp only [Act.put,List.getElem_toArray,List.getElem_cons_succ,List.getElem_cons_zero,List.setIfInBounds_toArray,List.set_cons_zero,List.set_cons_succ]
              have hS:=(HS.out wn12 HBX.out:(fun w'=>(∀ j v,(#[.int .i64 p.1.id,.int .i64 p.1.kind,.int .i64 p.1.mr,.int .i64 p.1.md,.slice pa pm pc]:Array Value)[j]? = some v → w'.cell? ⟨gL,k * 5 + j,none⟩ = some v) ∧ (∀ j v,(#[.int .i64 cA.id,.slice xa1 cA.rep.length xac1,.slice xa2 cA.df.length xac2,.slice xa3 cA.vals.length xac3]:Array Value)[j]? = some v → w'.cell? ⟨bx,ox + k * 4 + j,none⟩ = some v) ∧ (∀ j v,(#[.int .i64 cB.id,.slice ya1 cB.rep.length yac1,.slice ya2 cB.df.length yac2,.slice ya3 cB.vals.length yac3]:Array Value)[j]? = some v → w'.cell? ⟨by_,oy + k * 4 + j,none⟩ = some v)) wn12)
              refine AnyE.takeL (i:=15) (v:=?_) rfl (by kernel_rfl) (by kernel_rfl) (by kernel_rfl) (by kernel_rfl) (by kernel_rfl) (fun _ _ _ h=>h) (Or.inl ⟨by rfl,?_⟩) hS ?_
              rotate_left
              focus (intro wq hSq;obtain ⟨hS1,hS2,hS3⟩:=hSq;go_simp;with_reducible rfl)
              try simp only [Act.put,List.getElem_toArray,List.getElem_cons_succ,List.getElem_cons_zero,List.setIfInBounds_toArray,List.set_cons_zero,List.set_cons_succ]
              refine AnyE.takeP (i:=17) (v:=?_) rfl (by kernel_rfl) (by kernel_rfl) (by kernel_rfl) (by kernel_rfl) (fun _ _ _ h=>h) (Or.inl ⟨by rfl,?_⟩) ?_
              rotate_left
              focus (intro wq hSq;go_simp;with_reducible rfl)
              try simp only [Act.put,List.getElem_toArray,List.getElem_cons_succ,List.getElem_cons_zero,List.setIfInBounds_toArray,List.set_cons_zero,List.set_cons_succ]
              refine AnyE.takeL (i:=16) (v:=?_) rfl (by kernel_rfl) (by kernel_rfl) (by kernel_rfl) (by kernel_rfl) (by kernel_rfl) (fun _ _ _ h=>h) (Or.inl ⟨by rfl,?_⟩) hS ?_
              rotate_left
              focus (intro wq hSq;obtain ⟨hS1,hS2,hS3⟩:=hSq;go_simp;with_reducible rfl)
              try simp only [Act.put,List.getElem_toArray,List.getElem_cons_succ,List.getElem_cons_zero,List.setIfInBounds_toArray,List.set_cons_zero,List.set_cons_succ]
              refine AnyE.one (i:=18) (by kernel_rfl) rfl rfl ?_
              intro K hK
              simp only [List.getElem_toArray,List.getElem_cons_succ,List.getElem_cons_zero]
              go_simp
              have hb:=(Below.refl wn12.heap.size wn12).alloc (Nat.le_refl _) (.cells #[.int .i64 0,.slice none 0 0,.slice none 0 0,.slice none 0 0] 32)
              have hgv:=heap_alloc_new wn12 (.cells #[.int .i64 0,.slice none 0 0,.slice none 0 0,.slice none 0 0] 32)
              have hgvz:wq.heap.size ≤ wn12.heap.size:=HBX0
              replace HBX:=Lib.hid (HBX.out.trans (hb.mono HBX0));replace HBX0:=Nat.le_trans HBX0 hb.size
              replace HJC:=Lib.hid (HJC.out.belowS hb)
              have HRV:=Lib.hid hgv
              refine hK _ _ (fun _=>HS.out _ HBX.out) ?_
              clear hK K hS hgv hb
              try simp only [Act.put,List.getElem_toArray,List.getElem_cons_succ,List.getElem_cons_zero,List.setIfInBounds_toArray,List.set_cons_zero,List.set_cons_succ]
              generalize wn12.alloc (.cells #[.int .i64 0,.slice none 0 0,.slice none 0 0,.slice none 0 0] 32) = wn13 at *
              generalize wn12.heap.size = gv at *
              have hS:=(HS.out wn13 HBX.out:(fun w'=>(∀ j v,(#[.int .i64 p.1.id,.int .i64 p.1.kind,.int .i64 p.1.mr,.int .i64 p.1.md,.slice pa pm pc]:Array Value)[j]? = some v → w'.cell? ⟨gL,k * 5 + j,none⟩ = some v) ∧ (∀ j v,(#[.int .i64 cA.id,.slice xa1 cA.rep.length xac1,.slice xa2 cA.df.length xac2,.slice xa3 cA.vals.length xac3]:Array Value)[j]? = some v → w'.cell? ⟨bx,ox + k * 4 + j,none⟩ = some v) ∧ (∀ j v,(#[.int .i64 cB.id,.slice ya1 cB.rep.length yac1,.slice ya2 cB.df.length yac2,.slice ya3 cB.vals.length yac3]:Array Value)[j]? = some v → w'.cell? ⟨by_,oy + k * 4 + j,none⟩ = some v)) wn13)
              refine AnyE.one (i:=19) (by kernel_rfl) rfl rfl ?_
              intro K hK
              simp only [List.getElem_toArray,List.getElem_cons_succ,List.getElem_cons_zero]
              refine wp_store_part rfl 32 _ _ rfl gv 0 #[.int .i64 0,.slice none 0 0,.slice none 0 0,.slice none 0 0] 32 #[.int .i64 cZ.id,.slice jPa jPm jPc,.slice jQa jQm jQc,.slice jVa jVm jVc] rfl rfl HRV.out (by kernel_rfl) (by simp [Value.oneCell']) (Nat.le_of_ble_eq_true rfl) #[.int .i64 cZ.id,.slice jPa jPm jPc,.slice jQa jQm jQc,.slice jVa jVm jVc] rfl ?_;intro w9 r9 ho9 hb9 hz9
              refine hK _ _ (fun h=>absurd h (by decide)) ?_
              clear hK K hS
              try simp only [Act.put,List.getElem_toArray,List.getElem_cons_succ,List.getElem_cons_zero,List.setIfInBounds_toArray,List.set_cons_zero,List.set_cons_succ]
              have HV9:=Lib.hid (VarAt.store HJC.out HRV.out r9 ho9 hb9 HBX.out hgvz)
              clear r9 ho9 hb9 hz9 HJC HRV HBX HBX0 HLF HTW
              refine AnyE.one (i:=20) (by kernel_rfl) rfl rfl ?_
              intro K hK
              simp only [List.getElem_toArray,List.getElem_cons_succ,List.getElem_cons_zero]
              go_simp
              refine hK _ _ (fun h=>absurd h (by decide)) ?_
              clear hK K
              try simp only [Act.put,List.getElem_toArray,List.getElem_cons_succ,List.getElem_cons_zero,List.setIfInBounds_toArray,List.set_cons_zero,List.set_cons_succ]
              refine AnyE.done (by kernel_rfl) ?_ _
              go_wp2_with fail
              go_meet
              exact ⟨gv,rfl,rfl,jPa,jPm,jPc,jQa,jQm,jQc,jVa,jVm,jVc,HV9⟩
            · intro K hK
              simp only [List.getElem_toArray,List.getElem_cons_succ,List.getElem_cons_zero]
              go_simp
              have hb:=(Below.refl wn11.heap.size wn11).alloc (Nat.le_refl _) (.cells #[.int .i64 0,.slice none 0 0,.slice none 0 0,.slice none 0 0] 32)
              have hgv:=heap_alloc_new wn11 (.cells #[.int .i64 0,.slice none 0 0,.slice none 0 0,.slice none 0 0] 32)
              have hgvz:wq.heap.size ≤ wn11.heap.size:=HBX0
              replace HBX:=Lib.hid (HBX.out.trans (hb.mono HBX0));replace HBX0:=Nat.le_trans HBX0 hb.size
              replace HLF:=Lib.hid (HLF.out.below hb (Nat.le_refl _))
              replace HTW:=Lib.hid (HTW.out.below hb (Nat.le_refl _))
              have HRV:=Lib.hid hgv
              refine hK _ _ (fun _=>HS.out _ HBX.out) ?_
              clear hK K hS hgv hb
              try simp only [Act.put,List.getElem_toArray,List.getElem_cons_succ,List.getElem_cons_zero,List.setIfInBounds_toArray,List.set_cons_zero,List.set_cons_succ]
              generalize wn11.alloc (.cells #[.int .i64 0,.slice none 0 0,.slice none 0 0,.slice none 0 0] 32) = wn14 at *
              generalize wn11.heap.size = gv at *
              have hS:=(HS.out wn14 HBX.out:(fun w'=>(∀ j v,(#[.int .i64 p.1.id,.int .i64 p.1.kind,.int .i64 p.1.mr,.int .i64 p.1.md,.slice pa pm pc]:Array Value)[j]? = some v → w'.cell? ⟨gL,k * 5 + j,none⟩ = some v) ∧ (∀ j v,(#[.int .i64 cA.id,.slice xa1 cA.rep.length xac1,.slice xa2 cA.df.length xac2,.slice xa3 cA.vals.length xac3]:Array Value)[j]? = some v → w'.cell? ⟨bx,ox + k * 4 + j,none⟩ = some v) ∧ (∀ j v,(#[.int .i64 cB.id,.slice ya1 cB.rep.length yac1,.slice ya2 cB.df.length yac2,.slice ya3 cB.vals.length yac3]:Array Value)[j]? = some v → w'.cell? ⟨by_,oy + k * 4 + j,none⟩ = some v)) wn14)
              refine AnyE.one (i:=14) (by kernel_rfl) rfl rfl ?_
              intro K hK
              simp only [List.getElem_toArray,List.getElem_cons_succ,List.getElem_cons_zero]
              go_simp
              refine (HJ17.out wn14 HBX.out _ _ HLF.out HTW.out).mono ?_;rintro e wn15 ⟨jPa,jPm,jPc,jQa,jQm,jQc,jVa,jVm,jVc,rfl,hjc,hb⟩
              have hjq:=hjc.base HBX0
              replace HBX:=Lib.hid (HBX.out.trans (hb.mono HBX0));replace HBX0:=Nat.le_trans HBX0 hb.size
              replace HLF:=Lib.hid (HLF.out.below hb (Nat.le_refl _))
              replace HTW:=Lib.hid (HTW.out.below hb (Nat.le_refl _))
              replace HRV:=Lib.hid (row_keep hb HRV.out)
              have HJC:=Lib.hid hjq
              refine hK _ _ (fun h=>absurd h (by decide)) ?_
              clear hK K hS hjc hjq hb
              try simp only [Act.put,List.getElem_toArray,List.getElem_cons_succ,List.getElem_cons_zero,List.setIfInBounds_toArray,List.set_cons_zero,List.set_cons_succ]
              have hS:=(HS.out wn15 HBX.out:(fun w'=>(∀ j v,(#[.int .i64 p.1.id,.int .i64 p.1.kind,.int .i64 p.1.mr,.int .i64 p.1.md,.slice pa pm pc]:Array Value)[j]? = some v → w'.cell? ⟨gL,k * 5 + j,none⟩ = some v) ∧ (∀ j v,(#[.int .i64 cA.id,.slice xa1 cA.rep.length xac1,.slice xa2 cA.df.length xac2,.slice xa3 cA.vals.length xac3]:Array Value)[j]? = some v → w'.cell? ⟨bx,ox + k * 4 + j,none⟩ = some v) ∧ (∀ j v,(#[.int .i64 cB.id,.slice ya1 cB.rep.length yac1,.slice ya2 cB.df.length yac2,.slice ya3 cB.vals.length yac3]:Array Value)[j]? = some v → w'.cell? ⟨by_,oy + k * 4 + j,none⟩ = some v)) wn15)
              refine AnyE.takeL (i:=15) (v:=?_) rfl (by kernel_rfl) (by kernel_rfl) (by kernel_rfl) (by kernel_rfl) (by kernel_rfl) (fun _ _ _ h=>h) (Or.inl ⟨by rfl,?_⟩) hS ?_
              rotate_left
              focus (intro wq hSq;obtain ⟨hS1,hS2,hS3⟩:=hSq;go_simp;with_reducible rfl)
              try simp only [Act.put,List.getElem_toArray,List.getElem_cons_succ,List.getElem_cons_zero,List.setIfInBounds_toArray,List.set_cons_zero,List.set_cons_succ]
              refine AnyE.takeP (i:=17) (v:=?_) rfl (by kernel_rfl) (by kernel_rfl) (by kernel_rfl) (by kernel_rfl) (fun _ _ _ h=>h) (Or.inl ⟨by rfl,?_⟩) ?_
              rotate_left
              focus (intro wq hSq;go_simp;with_reducible rfl)
              try simp only [Act.put,List.getElem_toArray,List.getElem_cons_succ,List.getElem_cons_zero,List.setIfInBounds_toArray,List.set_cons_zero,List.set_cons_succ]
              refine AnyE.takeL (i:=16) (v:=?_) rfl (by kernel_rfl) (by kernel_rfl) (by kernel_rfl) (by kernel_rfl) (by kernel_rfl) (fun _ _ _ h=>h) (Or.inl ⟨by rfl,?_⟩) hS ?_
              rotate_left
              focus (intro wq hSq;obtain ⟨hS1,hS2,hS3⟩:=hSq;go_simp;with_reducible rfl)
              try simp only [Act.put,List.getElem_toArray,List.getElem_cons_succ,List.getElem_cons_zero,List.setIfInBounds_toArray,List.set_cons_zero,List.set_cons_succ]
              refine AnyE.one (i:=19) (by kernel_rfl) rfl rfl ?_
              intro K hK
              simp only [List.getElem_toArray,List.getElem_cons_succ,List.getElem_cons_zero]
              refine wp_store_part rfl 32 _ _ rfl gv 0 #[.int .i64 0,.slice none 0 0,.slice none 0 0,.slice none 0 0] 32 #[.int .i64 cZ.id,.slice jPa jPm jPc,.slice jQa jQm jQc,.slice jVa jVm jVc] rfl rfl HRV.out (by kernel_rfl) (by simp [Value.oneCell']) (Nat.le_of_ble_eq_true rfl) #[.int .i64 cZ.id,.slice jPa jPm jPc,.slice jQa jQm jQc,.slice jVa jVm jVc] rfl ?_;intro w9 r9 ho9 hb9 hz9
              refine hK _ _ (fun h=>absurd h (by decide)) ?_
              clear hK K hS
              try simp only [Act.put,List.getElem_toArray,List.getElem_cons_succ,List.getElem_cons_zero,List.setIfInBounds_toArray,List.set_cons_zero,List.set_cons_succ]
              have HV9:=Lib.hid (VarAt.store HJC.out HRV.out r9 ho9 hb9 HBX.out hgvz)
              clear r9 ho9 hb9 hz9 HJC HRV HBX HBX0 HLF HTW
              refine AnyE.one (i:=20) (by kernel_rfl) rfl rfl ?_
              intro K hK
              simp only [List.getElem_toArray,List.getElem_cons_succ,List.getElem_cons_zero]
              go_simp
              refine hK _ _ (fun h=>absurd h (by decide)) ?_
              clear hK K
              try simp only [Act.put,List.getElem_toArray,List.getElem_cons_succ,List.getElem_cons_zero,List.setIfInBounds_toArray,List.set_cons_zero,List.set_cons_succ]
              refine AnyE.done (by kernel_rfl) ?_ _
              go_wp2_with fail
              go_meet
              exact ⟨gv,rfl,rfl,jPa,jPm,jPc,jQa,jQm,jQc,jVa,jVm,jVc,HV9⟩
          · intro K hK
            simp only [List.getElem_toArray,List.getElem_cons_succ,List.getElem_cons_zero]
            go_simp
            have hb:=(Below.refl wn10.heap.size wn10).alloc (Nat.le_refl _) (.cells #[.int .i64 0,.slice none 0 0,.slice none 0 0,.slice none 0 0] 32)
            have hgv:=heap_alloc_new wn10 (.cells #[.int .i64 0,.slice none 0 0,.slice none 0 0,.slice none 0 0] 32)
            have hgvz:wq.heap.size ≤ wn10.heap.size:=HBX0
            replace HBX:=Lib.hid (HBX.out.trans (hb.mono HBX0));replace HBX0:=Nat.le_trans HBX0 hb.size
            replace HTW:=Lib.hid (HTW.out.below hb (Nat.le_refl _))
            have HRV:=Lib.hid hgv
            refine hK _ _ (fun _=>HS.out _ HBX.out) ?_
            clear hK K hS hgv hb
            try simp only [Act.put,List.getElem_toArray,List.getElem_cons_succ,List.getElem_cons_zero,List.setIfInBounds_toArray,List.set_cons_zero,List.set_cons_succ]
            generalize wn10.alloc (.cells #[.int .i64 0,.slice none 0 0,.slice none 0 0,.slice none 0 0] 32) = wn16 at *
            generalize wn10.heap.size = gv at *
            have hS:=(HS.out wn16 HBX.out:(fun w'=>(∀ j v,(#[.int .i64 p.1.id,.int .i64 p.1.kind,.int .i64 p.1.mr,.int .i64 p.1.md,.slice pa pm pc]:Array Value)[j]? = some v → w'.cell? ⟨gL,k * 5 + j,none⟩ = some v) ∧ (∀ j v,(#[.int .i64 cA.id,.slice xa1 cA.rep.length xac1,.slice xa2 cA.df.length xac2,.slice xa3 cA.vals.length xac3]:Array Value)[j]? = some v → w'.cell? ⟨bx,ox + k * 4 + j,none⟩ = some v) ∧ (∀ j v,(#[.int .i64 cB.id,.slice ya1 cB.rep.length yac1,.slice ya2 cB.df.length yac2,.slice ya3 cB.vals.length yac3]:Array Value)[j]? = some v → w'.cell? ⟨by_,oy + k * 4 + j,none⟩ = some v)) wn16)
            refine AnyE.one (i:=4) (by kernel_rfl) rfl rfl ?_
            intro K hK
            simp only [List.getElem_toArray,List.getElem_cons_succ,List.getElem_cons_zero]
            go_simp
            refine (HOLF.out wn16 HBX.out).mono ?_;rintro e wn17 ⟨⟨uf,rfl,hlf⟩,hb⟩
            replace HBX:=Lib.hid (HBX.out.trans (hb.mono HBX0));replace HBX0:=Nat.le_trans HBX0 hb.size
            replace HTW:=Lib.hid (HTW.out.below hb (Nat.le_refl _))
            replace HRV:=Lib.hid (row_keep hb HRV.out)
            have HLF:=Lib.hid hlf
            refine hK _ _ (fun _=>HS.out _ HBX.out) ?_
            clear hK K hS hlf hb
            try simp only [Act.put,List.getElem_toArray,List.getElem_cons_succ,List.getElem_cons_zero,List.setIfInBounds_toArray,List.set_cons_zero,List.set_cons_succ]
            have hS:=(HS.out wn17 HBX.out:(fun w'=>(∀ j v,(#[.int .i64 p.1.id,.int .i64 p.1.kind,.int .i64 p.1.mr,.int .i64 p.1.md,.slice pa pm pc]:Array Value)[j]? = some v → w'.cell? ⟨gL,k * 5 + j,none⟩ = some v) ∧ (∀ j v,(#[.int .i64 cA.id,.slice xa1 cA.rep.length xac1,.slice xa2 cA.df.length xac2,.slice xa3 cA.vals.length xac3]:Array Value)[j]? = some v → w'.cell? ⟨bx,ox + k * 4 + j,none⟩ = some v) ∧ (∀ j v,(#[.int .i64 cB.id,.slice ya1 cB.rep.length yac1,.slice ya2 cB.df.length yac2,.slice ya3 cB.vals.length yac3]:Array Value)[j]? = some v → w'.cell? ⟨by_,oy + k * 4 + j,none⟩ = some v)) wn17)
            refine AnyE.one (i:=14) (by kernel_rfl) rfl rfl ?_
            intro K hK
            simp only [List.getElem_toArray,List.getElem_cons_succ,List.getElem_cons_zero]
            go_simp
            refine (HJ17.out wn17 HBX.out _ _ HLF.out HTW.out).mono ?_;rintro e wn18 ⟨jPa,jPm,jPc,jQa,jQm,jQc,jVa,jVm,jVc,rfl,hjc,hb⟩
            have hjq:=hjc.base HBX0
            replace HBX:=Lib.hid (HBX.out.trans (hb.mono HBX0));replace HBX0:=Nat.le_trans HBX0 hb.size
            replace HLF:=Lib.hid (HLF.out.below hb (Nat.le_refl _))
            replace HTW:=Lib.hid (HTW.out.below hb (Nat.le_refl _))
            replace HRV:=Lib.hid (row_keep hb HRV.out)
            have HJC:=Lib.hid hjq
            refine hK _ _ (fun h=>absurd h (by decide)) ?_
            clear hK K hS hjc hjq hb
            try simp only [Act.put,List.getElem_toArray,List.getElem_cons_succ,List.getElem_cons_zero,List.setIfInBounds_toArray,List.set_cons_zero,List.set_cons_succ]
            have hS:=(HS.out wn18 HBX.out:(fun w'=>(∀ j v,(#[.int .i64 p.1.id,.int .i64 p.1.kind,.int .i64 p.1.mr,.int .i64 p.1.md,.slice pa pm pc]:Array Value)[j]? = some v → w'.cell? ⟨gL,k * 5 + j,none⟩ = some v) ∧ (∀ j v,(#[.int .i64 cA.id,.slice xa1 cA.rep.length xac1,.slice xa2 cA.df.length xac2,.slice xa3 cA.vals.length xac3]:Array Value)[j]? = some v → w'.cell? ⟨bx,ox + k * 4 + j,none⟩ = some v) ∧ (∀ j v,(#[.int .i64 cB.id,.slice ya1 cB.rep.length yac1,.slice ya2 cB.df.length yac2,.slice ya3 cB.vals.length yac3]:Array Value)[j]? = some v → w'.cell? ⟨by_,oy + k * 4 + j,none⟩ = some v)) wn18)
            refine AnyE.takeL (i:=15) (v:=?_) rfl (by kernel_rfl) (by kernel_rfl) (by kernel_rfl) (by kernel_rfl) (by kernel_rfl) (fun _ _ _ h=>h) (Or.inl ⟨by rfl,?_⟩) hS ?_
            rotate_left
            focus (intro wq hSq;obtain ⟨hS1,hS2,hS3⟩:=hSq;go_simp;with_reducible rfl)
            try simp only [Act.put,List.getElem_toArray,List.getElem_cons_succ,List.getElem_cons_zero,List.setIfInBounds_toArray,List.set_cons_zero,List.set_cons_succ]
            refine AnyE.takeP (i:=17) (v:=?_) rfl (by kernel_rfl) (by kernel_rfl) (by kernel_rfl) (by kernel_rfl) (fun _ _ _ h=>h) (Or.inl ⟨by rfl,?_⟩) ?_
            rotate_left
            focus (intro wq hSq;go_simp;with_reducible rfl)
            try simp only [Act.put,List.getElem_toArray,List.getElem_cons_succ,List.getElem_cons_zero,List.setIfInBounds_toArray,List.set_cons_zero,List.set_cons_succ]
            refine AnyE.takeL (i:=16) (v:=?_) rfl (by kernel_rfl) (by kernel_rfl) (by kernel_rfl) (by kernel_rfl) (by kernel_rfl) (fun _ _ _ h=>h) (Or.inl ⟨by rfl,?_⟩) hS ?_
            rotate_left
            focus (intro wq hSq;obtain ⟨hS1,hS2,hS3⟩:=hSq;go_simp;with_reducible rfl)
            try simp only [Act.put,List.getElem_toArray,List.getElem_cons_succ,List.getElem_cons_zero,List.setIfInBounds_toArray,List.set_cons_zero,List.set_cons_succ]
            refine AnyE.one (i:=19) (by kernel_rfl) rfl rfl ?_
            intro K hK
            simp only [List.getElem_toArray,List.getElem_cons_succ,List.getElem_cons_zero]
            refine wp_store_part rfl 32 _ _ rfl gv 0 #[.int .i64 0,.slice none 0 0,.slice none 0 0,.slice none 0 0] 32 #[.int .i64 cZ.id,.slice jPa jPm jPc,.slice jQa jQm jQc,.slice jVa jVm jVc] rfl rfl HRV.out (by kernel_rfl) (by simp [Value.oneCell']) (Nat.le_of_ble_eq_true rfl) #[.int .i64 cZ.id,.slice jPa jPm jPc,.slice jQa jQm jQc,.slice jVa jVm jVc] rfl ?_;intro w9 r9 ho9 hb9 hz9
            refine hK _ _ (fun h=>absurd h (by decide)) ?_
            clear hK K hS
            try simp only [Act.put,List.getElem_toArray,List.getElem_cons_succ,List.getElem_cons_zero,List.setIfInBounds_toArray,List.set_cons_zero,List.set_cons_succ]
            have HV9:=Lib.hid (VarAt.store HJC.out HRV.out r9 ho9 hb9 HBX.out hgvz)
            clear r9 ho9 hb9 hz9 HJC HRV HBX HBX0 HLF HTW
            refine AnyE.one (i:=20) (by kernel_rfl) rfl rfl ?_
            intro K hK
            simp only [List.getElem_toArray,List.getElem_cons_succ,List.getElem_cons_zero]
            go_simp
            refine hK _ _ (fun h=>absurd h (by decide)) ?_
            clear hK K
            try simp only [Act.put,List.getElem_toArray,List.getElem_cons_succ,List.getElem_cons_zero,List.setIfInBounds_toArray,List.set_cons_zero,List.set_cons_succ]
            refine AnyE.done (by kernel_rfl) ?_ _
            go_wp2_with fail
            go_meet
            exact ⟨gv,rfl,rfl,jPa,jPm,jPc,jQa,jQm,jQc,jVa,jVm,jVc,HV9⟩
        · intro K hK
          simp only [List.getElem_toArray,List.getElem_cons_succ,List.getElem_cons_zero]
          go_simp
          have hb:=(Below.refl wd.heap.size wd).alloc (Nat.le_refl _) (.cells #[.int .i64 0,.slice none 0 0,.slice none 0 0,.slice none 0 0] 32)
          have hgv:=heap_alloc_new wd (.cells #[.int .i64 0,.slice none 0 0,.slice none 0 0,.slice none 0 0] 32)
          have hgvz:wq.heap.size ≤ wd.heap.size:=HBX0
          replace HBX:=Lib.hid (HBX.out.trans (hb.mono HBX0));replace HBX0:=Nat.le_trans HBX0 hb.size
          have HRV:=Lib.hid hgv
          refine hK _ _ (fun _=>HS.out _ HBX.out) ?_
          clear hK K hS hgv hb
          try simp only [Act.put,List.getElem_toArray,List.getElem_cons_succ,List.getElem_cons_zero,List.setIfInBounds_toArray,List.set_cons_zero,List.set_cons_succ]
          generalize wd.alloc (.cells #[.int .i64 0,.slice none 0 0,.slice none 0 0,.slice none 0 0] 32) = wn19 at *
          generalize wd.heap.size = gv at *
          have hS:=(HS.out wn19 HBX.out:(fun w'=>(∀ j v,(#[.int .i64 p.1.id,.int .i64 p.1.kind,.int .i64 p.1.mr,.int .i64 p.1.md,.slice pa pm pc]:Array Value)[j]? = some v → w'.cell? ⟨gL,k * 5 + j,none⟩ = some v) ∧ (∀ j v,(#[.int .i64 cA.id,.slice xa1 cA.rep.length xac1,.slice xa2 cA.df.length xac2,.slice xa3 cA.vals.length xac3]:Array Value)[j]? = some v → w'.cell? ⟨bx,ox + k * 4 + j,none⟩ = some v) ∧ (∀ j v,(#[.int .i64 cB.id,.slice ya1 cB.rep.length yac1,.slice ya2 cB.df.length yac2,.slice ya3 cB.vals.length yac3]:Array Value)[j]? = some v → w'.cell? ⟨by_,oy + k * 4 + j,none⟩ = some v)) wn19)
          refine AnyE.two (i:=4) (j:=13) (by kernel_rfl) rfl rfl rfl rfl ?_ ?_
          · intro K hK
            simp only [List.getElem_toArray,List.getElem_cons_succ,List.getElem_cons_zero]
            go_simp
            refine (HOLF.out wn19 HBX.out).mono ?_;rintro e wn20 ⟨⟨uf,rfl,hlf⟩,hb⟩
            replace HBX:=Lib.hid (HBX.out.trans (hb.mono HBX0));replace HBX0:=Nat.le_trans HBX0 hb.size
            replace HRV:=Lib.hid (row_keep hb HRV.out)
            have HLF:=Lib.hid hlf
            refine hK _ _ (fun _=>HS.out _ HBX.out) ?_
            clear hK K hS hlf hb
            try simp only [Act.put,List.getElem_toArray,List.getElem_cons_succ,List.getElem_cons_zero,List.setIfInBounds_toArray,List.set_cons_zero,List.set_cons_succ]
            have hS:=(HS.out wn20 HBX.out:(fun w'=>(∀ j v,(#[.int .i64 p.1.id,.int .i64 p.1.kind,.int .i64 p.1.mr,.int .i64 p.1.md,.slice pa pm pc]:Array Value)[j]? = some v → w'.cell? ⟨gL,k * 5 + j,none⟩ = some v) ∧ (∀ j v,(#[.int .i64 cA.id,.slice xa1 cA.rep.length xac1,.slice xa2 cA.df.length xac2,.slice xa3 cA.vals.length xac3]:Array Value)[j]? = some v → w'.cell? ⟨bx,ox + k * 4 + j,none⟩ = some v) ∧ (∀ j v,(#[.int .i64 cB.id,.slice ya1 cB.rep.length yac1,.slice ya2 cB.df.length yac2,.slice ya3 cB.vals.length yac3]:Array Value)[j]? = some v → w'.cell? ⟨by_,oy + k * 4 + j,none⟩ = some v)) wn20)
            refine AnyE.one (i:=13) (by kernel_rfl) rfl rfl ?_
            intro K hK
            simp only [List.getElem_toArray,List.getElem_cons_succ,List.getElem_cons_zero]
            refine wp_cols2 _ _ rfl _ _ _ _ _ _ _ _ rfl rfl ?_
            have hb:=(Below.refl wn20.heap.size wn20).alloc (Nat.le_refl _) (.cells #[.int .i64 cA.id,.slice xa1 cA.rep.length xac1,.slice xa2 cA.df.length xac2,.slice xa3 cA.vals.length xac3,.int .i64 cB.id,.slice ya1 cB.rep.length yac1,.slice ya2 cB.df.length yac2,.slice ya3 cB.vals.length yac3] 32)
            have hgl:=heap_alloc_new wn20 (.cells #[.int .i64 cA.id,.slice xa1 cA.rep.length xac1,.slice xa2 cA.df.length xac2,.slice xa3 cA.vals.length xac3,.int .i64 cB.id,.slice ya1 cB.rep.length yac1,.slice ya2 cB.df.length yac2,.slice ya3 cB.vals.length yac3] 32)
            have hbq:=HBX.out.trans (hb.mono HBX0)
            have htw:=cols_two hgl (HIA.out _ hbq) (HIB.out _ hbq)
            replace HBX:=Lib.hid (HBX.out.trans (hb.mono HBX0));replace HBX0:=Nat.le_trans HBX0 hb.size
            replace HLF:=Lib.hid (HLF.out.below hb (Nat.le_refl _))
            replace HRV:=Lib.hid (row_keep hb HRV.out)
            have HTW:=Lib.hid htw
            refine hK _ _ (fun _=>HS.out _ HBX.out) ?_
            clear hK K hS hgl htw hbq hb
            try simp only [Act.put,List.getElem_toArray,List.getElem_cons_succ,List.getElem_cons_zero,List.setIfInBounds_toArray,List.set_cons_zero,List.set_cons_succ]
            generalize wn20.alloc (.cells #[.int .i64 cA.id,.slice xa1 cA.rep.length xac1,.slice xa2 cA.df.length xac2,.slice xa3 cA.vals.length xac3,.int .i64 cB.id,.slice ya1 cB.rep.length yac1,.slice ya2 cB.df.length yac2,.slice ya3 cB.vals.length yac3] 32) = wn21 at *
            generalize wn20.heap.size = gtw at *
            have hS:=(HS.out wn21 HBX.out:(fun w'=>(∀ j v,(#[.int .i64 p.1.id,.int .i64 p.1.kind,.int .i64 p.1.mr,.int .i64 p.1.md,.slice pa pm pc]:Array Value)[j]? = some v → w'.cell? ⟨gL,k * 5 + j,none⟩ = some v) ∧ (∀ j v,(#[.int .i64 cA.id,.slice xa1 cA.rep.length xac1,.slice xa2 cA.df.length xac2,.slice xa3 cA.vals.length xac3]:Array Value)[j]? = some v → w'.cell? ⟨bx,ox + k * 4 + j,none⟩ = some v) ∧ (∀ j v,(#[.int .i64 cB.id,.slice ya1 cB.rep.length yac1,.slice ya2 cB.df.length yac2,.slice ya3 cB.vals.length yac3]:Array Value)[j]? = some v → w'.cell? ⟨by_,oy + k * 4 + j,none⟩ = some v)) wn21)
            refine AnyE.one (i:=14) (by kernel_rfl) rfl rfl ?_
            intro K hK
            simp only [List.getElem_toArray,List.getElem_cons_succ,List.getElem_cons_zero]
            go_simp
            refine (HJ17.out wn21 HBX.out _ _ HLF.out HTW.out).mono ?_;rintro e wn22 ⟨jPa,jPm,jPc,jQa,jQm,jQc,jVa,jVm,jVc,rfl,hjc,hb⟩
            have hjq:=hjc.base HBX0
            replace HBX:=Lib.hid (HBX.out.trans (hb.mono HBX0));replace HBX0:=Nat.le_trans HBX0 hb.size
            replace HLF:=Lib.hid (HLF.out.below hb (Nat.le_refl _))
            replace HTW:=Lib.hid (HTW.out.below hb (Nat.le_refl _))
            replace HRV:=Lib.hid (row_keep hb HRV.out)
            have HJC:=Lib.hid hjq
            refine hK _ _ (fun h=>absurd h (by decide)) ?_
            clear hK K hS hjc hjq hb
            try simp only [Act.put,List.getElem_toArray,List.getElem_cons_succ,List.getElem_cons_zero,List.setIfInBounds_toArray,List.set_cons_zero,List.set_cons_succ]
            have hS:=(HS.out wn22 HBX.out:(fun w'=>(∀ j v,(#[.int .i64 p.1.id,.int .i64 p.1.kind,.int .i64 p.1.mr,.int .i64 p.1.md,.slice pa pm pc]:Array Value)[j]? = some v → w'.cell? ⟨gL,k * 5 + j,none⟩ = some v) ∧ (∀ j v,(#[.int .i64 cA.id,.slice xa1 cA.rep.length xac1,.slice xa2 cA.df.length xac2,.slice xa3 cA.vals.length xac3]:Array Value)[j]? = some v → w'.cell? ⟨bx,ox + k * 4 + j,none⟩ = some v) ∧ (∀ j v,(#[.int .i64 cB.id,.slice ya1 cB.rep.length yac1,.slice ya2 cB.df.length yac2,.slice ya3 cB.vals.length yac3]:Array Value)[j]? = some v → w'.cell? ⟨by_,oy + k * 4 + j,none⟩ = some v)) wn22)
            refine AnyE.takeL (i:=15) (v:=?_) rfl (by kernel_rfl) (by kernel_rfl) (by kernel_rfl) (by kernel_rfl) (by kernel_rfl) (fun _ _ _ h=>h) (Or.inl ⟨by rfl,?_⟩) hS ?_
            rotate_left
            focus (intro wq hSq;obtain ⟨hS1,hS2,hS3⟩:=hSq;go_simp;with_reducible rfl)
            try simp only [Act.put,List.getElem_toArray,List.getElem_cons_succ,List.getElem_cons_zero,List.setIfInBounds_toArray,List.set_cons_zero,List.set_cons_succ]
            refine AnyE.takeP (i:=17) (v:=?_) rfl (by kernel_rfl) (by kernel_rfl) (by kernel_rfl) (by kernel_rfl) (fun _ _ _ h=>h) (Or.inl ⟨by rfl,?_⟩) ?_
            rotate_left
            focus (intro wq hSq;go_simp;with_reducible rfl)
            try simp only [Act.put,List.getElem_toArray,List.getElem_cons_succ,List.getElem_cons_zero,List.setIfInBounds_toArray,List.set_cons_zero,List.set_cons_succ]
            refine AnyE.takeL (i:=16) (v:=?_) rfl (by kernel_rfl) (by kernel_rfl) (by kernel_rfl) (by kernel_rfl) (by kernel_rfl) (fun _ _ _ h=>h) (Or.inl ⟨by rfl,?_⟩) hS ?_
            rotate_left
            focus (intro wq hSq;obtain ⟨hS1,hS2,hS3⟩:=hSq;go_simp;with_reducible rfl)
            try simp only [Act.put,List.getElem_toArray,List.getElem_cons_succ,List.getElem_cons_zero,List.setIfInBounds_toArray,List.set_cons_zero,List.set_cons_succ]
            refine AnyE.one (i:=19) (by kernel_rfl) rfl rfl ?_
            intro K hK
            simp only [List.getElem_toArray,List.getElem_cons_succ,List.getElem_cons_zero]
            refine wp_store_part rfl 32 _ _ rfl gv 0 #[.int .i64 0,.slice none 0 0,.slice none 0 0,.slice none 0 0] 32 #[.int .i64 cZ.id,.slice jPa jPm jPc,.slice jQa jQm jQc,.slice jVa jVm jVc] rfl rfl HRV.out (by kernel_rfl) (by simp [Value.oneCell']) (Nat.le_of_ble_eq_true rfl) #[.int .i64 cZ.id,.slice jPa jPm jPc,.slice jQa jQm jQc,.slice jVa jVm jVc] rfl ?_;intro w9 r9 ho9 hb9 hz9
            refine hK _ _ (fun h=>absurd h (by decide)) ?_
            clear hK K hS
            try simp only [Act.put,List.getElem_toArray,List.getElem_cons_succ,List.getElem_cons_zero,List.setIfInBounds_toArray,List.set_cons_zero,List.set_cons_succ]
            have HV9:=Lib.hid (VarAt.store HJC.out HRV.out r9 ho9 hb9 HBX.out hgvz)
            clear r9 ho9 hb9 hz9 HJC HRV HBX HBX0 HLF HTW
            refine AnyE.one (i:=20) (by kernel_rfl) rfl rfl ?_
            intro K hK
            simp only [List.getElem_toArray,List.getElem_cons_succ,List.getElem_cons_zero]
            go_simp
            refine hK _ _ (fun h=>absurd h (by decide)) ?_
            clear hK K
            try simp only [Act.put,List.getElem_toArray,List.getElem_cons_succ,List.getElem_cons_zero,List.setIfInBounds_toArray,List.set_cons_zero,List.set_cons_succ]
            refine AnyE.done (by kernel_rfl) ?_ _
            go_wp2_with fail
            go_meet
            exact ⟨gv,rfl,rfl,jPa,jPm,jPc,jQa,jQm,jQc,jVa,jVm,jVc,HV9⟩
          · intro K hK
            simp only [List.getElem_toArray,List.getElem_cons_succ,List.getElem_cons_zero]
            refine wp_cols2 _ _ rfl _ _ _ _ _ _ _ _ rfl rfl ?_
            have hb:=(Below.refl wn19.heap.size wn19).alloc (Nat.le_refl _) (.cells #[.int .i64 cA.id,.slice xa1 cA.rep.length xac1,.slice xa2 cA.df.length xac2,.slice xa3 cA.vals.length xac3,.int .i64 cB.id,.slice ya1 cB.rep.length yac1,.slice ya2 cB.df.length yac2,.slice ya3 cB.vals.length yac3] 32)
            have hgl:=heap_alloc_new wn19 (.cells #[.int .i64 cA.id,.slice xa1 cA.rep.length xac1,.slice xa2 cA.df.length xac2,.slice xa3 cA.vals.length xac3,.int .i64 cB.id,.slice ya1 cB.rep.length yac1,.slice ya2 cB.df.length yac2,.slice ya3 cB.vals.length yac3] 32)
            have hbq:=HBX.out.trans (hb.mono HBX0)
            have htw:=cols_two hgl (HIA.out _ hbq) (HIB.out _ hbq)
            replace HBX:=Lib.hid (HBX.out.trans (hb.mono HBX0));replace HBX0:=Nat.le_trans HBX0 hb.size
            replace HRV:=Lib.hid (row_keep hb HRV.out)
            have HTW:=Lib.hid htw
            refine hK _ _ (fun _=>HS.out _ HBX.out) ?_
            clear hK K hS hgl htw hbq hb
            try simp only [Act.put,List.getElem_toArray,List.getElem_cons_succ,List.getElem_cons_zero,List.setIfInBounds_toArray,List.set_cons_zero,List.set_cons_succ]
            generalize wn19.alloc (.cells #[.int .i64 cA.id,.slice xa1 cA.rep.length xac1,.slice xa2 cA.df.length xac2,.slice xa3 cA.vals.length xac3,.int .i64 cB.id,.slice ya1 cB.rep.length yac1,.slice ya2 cB.df.length yac2,.slice ya3 cB.vals.length yac3] 32) = wn23 at *
            generalize wn19.heap.size = gtw at *
            have hS:=(HS.out wn23 HBX.out:(fun w'=>(∀ j v,(#[.int .i64 p.1.id,.int .i64 p.1.kind,.int .i64 p.1.mr,.int .i64 p.1.md,.slice pa pm pc]:Array Value)[j]? = some v → w'.cell? ⟨gL,k * 5 + j,none⟩ = some v) ∧ (∀ j v,(#[.int .i64 cA.id,.slice xa1 cA.rep.length xac1,.slice xa2 cA.df.length xac2,.slice xa3 cA.vals.length xac3]:Array Value)[j]? = some v → w'.cell? ⟨bx,ox + k * 4 + j,none⟩ = some v) ∧ (∀ j v,(#[.int .i64 cB.id,.slice ya1 cB.rep.length yac1,.slice ya2 cB.df.length yac2,.slice ya3 cB.vals.length yac3]:Array Value)[j]? = some v → w'.cell? ⟨by_,oy + k * 4 + j,none⟩ = some v)) wn23)
            refine AnyE.one (i:=4) (by kernel_rfl) rfl rfl ?_
            intro K hK
            simp only [List.getElem_toArray,List.getElem_cons_succ,List.getElem_cons_zero]
            go_simp
            refine (HOLF.out wn23 HBX.out).mono ?_;rintro e wn24 ⟨⟨uf,rfl,hlf⟩,hb⟩
            replace HBX:=Lib.hid (HBX.out.trans (hb.mono HBX0));replace HBX0:=Nat.le_trans HBX0 hb.size
            replace HTW:=Lib.hid (HTW.out.below hb (Nat.le_refl _))
            replace HRV:=Lib.hid (row_keep hb HRV.out)
            have HLF:=Lib.hid hlf
            refine hK _ _ (fun _=>HS.out _ HBX.out) ?_
            clear hK K hS hlf hb
            try simp only [Act.put,List.getElem_toArray,List.getElem_cons_succ,List.getElem_cons_zero,List.setIfInBounds_toArray,List.set_cons_zero,List.set_cons_succ]
            have hS:=(HS.out wn24 HBX.out:(fun w'=>(∀ j v,(#[.int .i64 p.1.id,.int .i64 p.1.kind,.int .i64 p.1.mr,.int .i64 p.1.md,.slice pa pm pc]:Array Value)[j]? = some v → w'.cell? ⟨gL,k * 5 + j,none⟩ = some v) ∧ (∀ j v,(#[.int .i64 cA.id,.slice xa1 cA.rep.length xac1,.slice xa2 cA.df.length xac2,.slice xa3 cA.vals.length xac3]:Array Value)[j]? = some v → w'.cell? ⟨bx,ox + k * 4 + j,none⟩ = some v) ∧ (∀ j v,(#[.int .i64 cB.id,.slice ya1 cB.rep.length yac1,.slice ya2 cB.df.length yac2,.slice ya3 cB.vals.length yac3]:Array Value)[j]? = some v → w'.cell? ⟨by_,oy + k * 4 + j,none⟩ = some v)) wn24)
            refine AnyE.one (i:=14) (by kernel_rfl) rfl rfl ?_
            intro K hK
            simp only [List.getElem_toArray,List.getElem_cons_succ,List.getElem_cons_zero]
            go_simp
            refine (HJ17.out wn24 HBX.out _ _ HLF.out HTW.out).mono ?_;rintro e wn25 ⟨jPa,jPm,jPc,jQa,jQm,jQc,jVa,jVm,jVc,rfl,hjc,hb⟩
            have hjq:=hjc.base HBX0
            replace HBX:=Lib.hid (HBX.out.trans (hb.mono HBX0));replace HBX0:=Nat.le_trans HBX0 hb.size
            replace HLF:=Lib.hid (HLF.out.below hb (Nat.le_refl _))
            replace HTW:=Lib.hid (HTW.out.below hb (Nat.le_refl _))
            replace HRV:=Lib.hid (row_keep hb HRV.out)
            have HJC:=Lib.hid hjq
            refine hK _ _ (fun h=>absurd h (by decide)) ?_
            clear hK K hS hjc hjq hb
            try simp only [Act.put,List.getElem_toArray,List.getElem_cons_succ,List.getElem_cons_zero,List.setIfInBounds_toArray,List.set_cons_zero,List.set_cons_succ]
            have hS:=(HS.out wn25 HBX.out:(fun w'=>(∀ j v,(#[.int .i64 p.1.id,.int .i64 p.1.kind,.int .i64 p.1.mr,.int .i64 p.1.md,.slice pa pm pc]:Array Value)[j]? = some v → w'.cell? ⟨gL,k * 5 + j,none⟩ = some v) ∧ (∀ j v,(#[.int .i64 cA.id,.slice xa1 cA.rep.length xac1,.slice xa2 cA.df.length xac2,.slice xa3 cA.vals.length xac3]:Array Value)[j]? = some v → w'.cell? ⟨bx,ox + k * 4 + j,none⟩ = some v) ∧ (∀ j v,(#[.int .i64 cB.id,.slice ya1 cB.rep.length yac1,.slice ya2 cB.df.length yac2,.slice ya3 cB.vals.length yac3]:Array Value)[j]? = some v → w'.cell? ⟨by_,oy + k * 4 + j,none⟩ = some v)) wn25)
            refine AnyE.takeL (i:=15) (v:=?_) rfl (by kernel_rfl) (by kernel_rfl) (by kernel_rfl) (by kernel_rfl) (by kernel_rfl) (fun _ _ _ h=>h) (Or.inl ⟨by rfl,?_⟩) hS ?_
            rotate_left
            focus (intro wq hSq;obtain ⟨hS1,hS2,hS3⟩:=hSq;go_simp;with_reducible rfl)
            try simp only [Act.put,List.getElem_toArray,List.getElem_cons_succ,List.getElem_cons_zero,List.setIfInBounds_toArray,List.set_cons_zero,List.set_cons_succ]
            refine AnyE.takeP (i:=17) (v:=?_) rfl (by kernel_rfl) (by kernel_rfl) (by kernel_rfl) (by kernel_rfl) (fun _ _ _ h=>h) (Or.inl ⟨by rfl,?_⟩) ?_
            rotate_left
            focus (intro wq hSq;go_simp;with_reducible rfl)
            try simp only [Act.put,List.getElem_toArray,List.getElem_cons_succ,List.getElem_cons_zero,List.setIfInBounds_toArray,List.set_cons_zero,List.set_cons_succ]
            refine AnyE.takeL (i:=16) (v:=?_) rfl (by kernel_rfl) (by kernel_rfl) (by kernel_rfl) (by kernel_rfl) (by kernel_rfl) (fun _ _ _ h=>h) (Or.inl ⟨by rfl,?_⟩) hS ?_
            rotate_left
            focus (intro wq hSq;obtain ⟨hS1,hS2,hS3⟩:=hSq;go_simp;with_reducible rfl)
            try simp only [Act.put,List.getElem_toArray,List.getElem_cons_succ,List.getElem_cons_zero,List.setIfInBounds_toArray,List.set_cons_zero,List.set_cons_succ]
            refine AnyE.one (i:=19) (by kernel_rfl) rfl rfl ?_
            intro K hK
            simp only [List.getElem_toArray,List.getElem_cons_succ,List.getElem_cons_zero]
            refine wp_store_part rfl 32 _ _ rfl gv 0 #[.int .i64 0,.slice none 0 0,.slice none 0 0,.slice none 0 0] 32 #[.int .i64 cZ.id,.slice jPa jPm jPc,.slice jQa jQm jQc,.slice jVa jVm jVc] rfl rfl HRV.out (by kernel_rfl) (by simp [Value.oneCell']) (Nat.le_of_ble_eq_true rfl) #[.int .i64 cZ.id,.slice jPa jPm jPc,.slice jQa jQm jQc,.slice jVa jVm jVc] rfl ?_;intro w9 r9 ho9 hb9 hz9
            refine hK _ _ (fun h=>absurd h (by decide)) ?_
            clear hK K hS
            try simp only [Act.put,List.getElem_toArray,List.getElem_cons_succ,List.getElem_cons_zero,List.setIfInBounds_toArray,List.set_cons_zero,List.set_cons_succ]
            have HV9:=Lib.hid (VarAt.store HJC.out HRV.out r9 ho9 hb9 HBX.out hgvz)
            clear r9 ho9 hb9 hz9 HJC HRV HBX HBX0 HLF HTW
            refine AnyE.one (i:=20) (by kernel_rfl) rfl rfl ?_
            intro K hK
            simp only [List.getElem_toArray,List.getElem_cons_succ,List.getElem_cons_zero]
            go_simp
            refine hK _ _ (fun h=>absurd h (by decide)) ?_
            clear hK K
            try simp only [Act.put,List.getElem_toArray,List.getElem_cons_succ,List.getElem_cons_zero,List.setIfInBounds_toArray,List.set_cons_zero,List.set_cons_succ]
            refine AnyE.done (by kernel_rfl) ?_ _
            go_wp2_with fail
            go_meet
            exact ⟨gv,rfl,rfl,jPa,jPm,jPc,jQa,jQm,jQc,jVa,jVm,jVc,HV9⟩
    case rest =>
      obtain ⟨gj,hs19,hs20,jPa,jPm,jPc,jQa,jQm,jQc,jVa,jVm,jVc,HVJ⟩:=hcut
      subst hs19 hs20
      obtain ⟨w17,hw17⟩:∃ x,x = wc:=⟨_,rfl⟩
      subst hw17
      as_aux_lemma =>
      have hb17:=HVJ.out.2.2.1
      go_upto_region 18 with fail
      have HS:=Lib.hid (show ∀ w',Below w17.heap.size w17 w' → ((∀ j_1,w'.cell? ⟨gj,j_1,none⟩ = (#[.int .i64 cZ.id,.slice jPa jPm jPc,.slice jQa jQm jQc,.slice jVa jVm jVc]:Array Value)[j_1]?) ∧ (∀ j v,(#[.int .i64 cZ.id,.slice za1 cZ.rep.length zac1,.slice za2 cZ.df.length zac2,.slice za3 cZ.vals.length zac3]:Array Value)[j]? = some v → w'.cell? ⟨bz,oz + k * 4 + j,none⟩ = some v)) from fun w' h=>⟨rowc (row_keep h HVJ.out.1),HZC.out w' (hb17.trans (h.mono hb17.size))⟩)
      refine AnyE.region (S:=fun w'=>(∀ j_1,w'.cell? ⟨gj,j_1,none⟩ = (#[.int .i64 cZ.id,.slice jPa jPm jPc,.slice jQa jQm jQc,.slice jVa jVm jVc]:Array Value)[j_1]?) ∧ (∀ j v,(#[.int .i64 cZ.id,.slice za1 cZ.rep.length zac1,.slice za2 cZ.df.length zac2,.slice za3 cZ.vals.length zac3]:Array Value)[j]? = some v → w'.cell? ⟨bz,oz + k * 4 + j,none⟩ = some v)) (E:=[]) (by kernel_rfl) ?_
      have hbd:=(Below.refl w17.heap.size w17).drew
      have HBX:=Lib.hid hbd;have HBX0:w17.heap.size ≤ w17.drew.heap.size:=hbd.size
      clear hbd
      generalize w17.drew = wd at *
      have hS:=(HS.out wd HBX.out:(fun w'=>(∀ j_1,w'.cell? ⟨gj,j_1,none⟩ = (#[.int .i64 cZ.id,.slice jPa jPm jPc,.slice jQa jQm jQc,.slice jVa jVm jVc]:Array Value)[j_1]?) ∧ (∀ j v,(#[.int .i64 cZ.id,.slice za1 cZ.rep.length zac1,.slice za2 cZ.df.length zac2,.slice za3 cZ.vals.length zac3]:Array Value)[j]? = some v → w'.cell? ⟨bz,oz + k * 4 + j,none⟩ = some v)) wd)
      refine AnyE.takeL (i:=0) (v:=?_) rfl (by kernel_rfl) (by kernel_rfl) (by kernel_rfl) (by kernel_rfl) (by kernel_rfl) (fun _ _ _ h=>h) (Or.inl ⟨by rfl,?_⟩) hS ?_
      rotate_left
      focus (intro wq hSq;obtain ⟨hS1,hS2⟩:=hSq;go_simp;with_reducible rfl)
      try simp only [Act.put,List.getElem_toArray,List.getElem_cons_succ,List.getElem_cons_zero,List.setIfInBounds_toArray,List.set_cons_zero,List.set_cons_succ]
      refine AnyE.takeL (i:=1) (v:=?_) rfl (by kernel_rfl) (by kernel_rfl) (by kernel_rfl) (by kernel_rfl) (by kernel_rfl) (fun _ _ _ h=>h) (Or.inl ⟨by rfl,?_⟩) hS ?_
      rotate_left
      focus (intro wq hSq;obtain ⟨hS1,hS2⟩:=hSq;go_simp;with_reducible rfl)
      try simp only [Act.put,List.getElem_toArray,List.getElem_cons_succ,List.getElem_cons_zero,List.setIfInBounds_toArray,List.set_cons_zero,List.set_cons_succ]
      refine AnyE.takeL (i:=2) (v:=?_) rfl (by kernel_rfl) (by kernel_rfl) (by kernel_rfl) (by kernel_rfl) (by kernel_rfl) (fun _ _ _ h=>h) (Or.inl ⟨by rfl,?_⟩) hS ?_
      rotate_left
      focus (intro wq hSq;obtain ⟨hS1,hS2⟩:=hSq;go_simp;with_reducible rfl)
      try simp only [Act.put,List.getElem_toArray,List.getElem_cons_succ,List.getElem_cons_zero,List.setIfInBounds_toArray,List.set_cons_zero,List.set_cons_succ]
      refine AnyE.takeL (i:=3) (v:=.agg #[.int .i64 cZ.id,.slice jPa jPm jPc,.slice jQa jQm jQc,.slice jVa jVm jVc]) rfl (by kernel_rfl) (by kernel_rfl) (by kernel_rfl) (by kernel_rfl) (by kernel_rfl) (fun _ _ _ h=>h) (yields_load 32 _ rfl rfl gj (0) rfl #[.int .i64 cZ.id,.slice jPa jPm jPc,.slice jQa jQm jQc,.slice jVa jVm jVc] _ (fun w h=>fun j v hj=>by rw [Nat.zero_add];exact (h.1 j).trans hj) Tryd.underlying32 rfl (by kernel_rfl)) hS ?_
      try simp only [Act.put,List.getElem_toArray,List.getElem_cons_succ,List.getElem_cons_zero,List.setIfInBounds_toArray,List.set_cons_zero,List.set_cons_succ]
      refine AnyE.takeL (i:=4) (v:=?_) rfl (by kernel_rfl) (by kernel_rfl) (by kernel_rfl) (by kernel_rfl) (by kernel_rfl) (fun _ _ _ h=>h) (Or.inl ⟨by rfl,?_⟩) hS ?_
      rotate_left
      focus (intro wq hSq;obtain ⟨hS1,hS2⟩:=hSq;go_simp;with_reducible rfl)
      try simp only [Act.put,List.getElem_toArray,List.getElem_cons_succ,List.getElem_cons_zero,List.setIfInBounds_toArray,List.set_cons_zero,List.set_cons_succ]
      refine AnyE.takeL (i:=5) (v:=?_) rfl (by kernel_rfl) (by kernel_rfl) (by kernel_rfl) (by kernel_rfl) (by kernel_rfl) (fun _ _ _ h=>h) (Or.inl ⟨by rfl,?_⟩) hS ?_
      rotate_left
      focus (intro wq hSq;obtain ⟨hS1,hS2⟩:=hSq;go_simp;with_reducible rfl)
      try simp only [Act.put,List.getElem_toArray,List.getElem_cons_succ,List.getElem_cons_zero,List.setIfInBounds_toArray,List.set_cons_zero,List.set_cons_succ]
      refine AnyE.takeL (i:=6) (v:=?_) rfl (by kernel_rfl) (by kernel_rfl) (by kernel_rfl) (by kernel_rfl) (by kernel_rfl) (fun _ _ _ h=>h) (Or.inl ⟨by rfl,?_⟩) hS ?_
      rotate_left
      focus (intro wq hSq;obtain ⟨hS1,hS2⟩:=hSq;go_simp;with_reducible rfl)
      try simp only [Act.put,List.getElem_toArray,List.getElem_cons_succ,List.getElem_cons_zero,List.setIfInBounds_toArray,List.set_cons_zero,List.set_cons_succ]
      refine AnyE.takeL (i:=7) (v:=.agg #[.int .i64 cZ.id,.slice za1 cZ.rep.length zac1,.slice za2 cZ.df.length zac2,.slice za3 cZ.vals.length zac3]) rfl (by kernel_rfl) (by kernel_rfl) (by kernel_rfl) (by kernel_rfl) (by kernel_rfl) (fun _ _ _ h=>h) (yields_load 32 _ rfl rfl bz (oz + k * 4) rfl #[.int .i64 cZ.id,.slice za1 cZ.rep.length zac1,.slice za2 cZ.df.length zac2,.slice za3 cZ.vals.length zac3] _ (fun w h=>h.2) Tryd.underlying32 rfl (by kernel_rfl)) hS ?_
      try simp only [Act.put,List.getElem_toArray,List.getElem_cons_succ,List.getElem_cons_zero,List.setIfInBounds_toArray,List.set_cons_zero,List.set_cons_succ]
      refine AnyE.oneGS (i:=8) (by kernel_rfl) rfl (by rfl) ?_
      intro K hK
      simp only [List.getElem_toArray,List.getElem_cons_succ,List.getElem_cons_zero]
      go_simp
      refine (HSC.out _ _ wd (HVJ.out.2.1.below HBX.out (Nat.le_refl _)) (HIZ.out wd (hb17.trans (HBX.out.mono hb17.size)))).mono ?_;rintro e wn81 ⟨rfl,hb⟩
      replace HBX:=Lib.hid (HBX.out.trans (hb.mono HBX0));replace HBX0:=Nat.le_trans HBX0 hb.size
      refine hK _ _ (fun _=>HS.out _ HBX.out) ?_
      clear hK K hS hb
      try simp only [Act.put,List.getElem_toArray,List.getElem_cons_succ,List.getElem_cons_zero,List.setIfInBounds_toArray,List.set_cons_zero,List.set_cons_succ]
      have hS:=(HS.out wn81 HBX.out:(fun w'=>(∀ j_1,w'.cell? ⟨gj,j_1,none⟩ = (#[.int .i64 cZ.id,.slice jPa jPm jPc,.slice jQa jQm jQc,.slice jVa jVm jVc]:Array Value)[j_1]?) ∧ (∀ j v,(#[.int .i64 cZ.id,.slice za1 cZ.rep.length zac1,.slice za2 cZ.df.length zac2,.slice za3 cZ.vals.length zac3]:Array Value)[j]? = some v → w'.cell? ⟨bz,oz + k * 4 + j,none⟩ = some v)) wn81)
      refine AnyE.takeL (i:=9) (v:=?_) rfl (by kernel_rfl) (by kernel_rfl) (by kernel_rfl) (by kernel_rfl) (by kernel_rfl) (fun _ _ _ h=>h) (Or.inl ⟨by rfl,?_⟩) hS ?_
      rotate_left
      focus (intro wq hSq;obtain ⟨hS1,hS2⟩:=hSq;go_simp;with_reducible rfl)
      try simp only [Act.put,List.getElem_toArray,List.getElem_cons_succ,List.getElem_cons_zero,List.setIfInBounds_toArray,List.set_cons_zero,List.set_cons_succ]
      refine AnyE.takeL (i:=10) (v:=?_) rfl (by kernel_rfl) (by kernel_rfl) (by kernel_rfl) (by kernel_rfl) (by kernel_rfl) (fun _ _ _ h=>h) (Or.inl ⟨by rfl,?_⟩) hS ?_
      rotate_left
      focus (intro wq hSq;obtain ⟨hS1,hS2⟩:=hSq;go_simp;with_reducible rfl)
      try simp only [Act.put,List.getElem_toArray,List.getElem_cons_succ,List.getElem_cons_zero,List.setIfInBounds_toArray,List.set_cons_zero,List.set_cons_succ]
      refine AnyE.takeL (i:=11) (v:=?_) rfl (by kernel_rfl) (by kernel_rfl) (by kernel_rfl) (by kernel_rfl) (by kernel_rfl) (fun _ _ _ h=>h) (Or.inl ⟨by rfl,?_⟩) hS ?_
      rotate_left
      focus (intro wq hSq;obtain ⟨hS1,hS2⟩:=hSq;go_simp;with_reducible rfl)
      try simp only [Act.put,List.getElem_toArray,List.getElem_cons_succ,List.getElem_cons_zero,List.setIfInBounds_toArray,List.set_cons_zero,List.set_cons_succ]
      refine AnyE.takeL (i:=12) (v:=?_) rfl (by kernel_rfl) (by kernel_rfl) (by kernel_rfl) (by kernel_rfl) (by kernel_rfl) (fun _ _ _ h=>h) (Or.inl ⟨by rfl,?_⟩) hS ?_
      rotate_left
      focus (intro wq hSq;obtain ⟨hS1,hS2⟩:=hSq;go_simp;with_reducible rfl)
      try simp only [Act.put,List.getElem_toArray,List.getElem_cons_succ,List.getElem_cons_zero,List.setIfInBounds_toArray,List.set_cons_zero,List.set_cons_succ]
      refine AnyE.takeL (i:=13) (v:=?_) rfl (by kernel_rfl) (by kernel_rfl) (by kernel_rfl) (by kernel_rfl) (by kernel_rfl) (fun _ _ _ h=>h) (Or.inl ⟨by rfl,?_⟩) hS ?_
      rotate_left
      focus (intro wq hSq;obtain ⟨hS1,hS2⟩:=hSq;go_simp;with_reducible rfl)
      try simp only [Act.put,List.getElem_toArray,List.getElem_cons_succ,List.getElem_cons_zero,List.setIfInBounds_toArray,List.set_cons_zero,List.set_cons_succ]
      refine AnyE.takeL (i:=14) (v:=?_) rfl (by kernel_rfl) (by kernel_rfl) (by kernel_rfl) (by kernel_rfl) (by kernel_rfl) (fun _ _ _ h=>h) (Or.inl ⟨by rfl,?_⟩) hS ?_
      rotate_left
      focus (intro wq hSq;obtain ⟨hS1,hS2⟩:=hSq;go_simp;with_reducible rfl)
      try simp only [Act.put,List.getElem_toArray,List.getElem_cons_succ,List.getElem_cons_zero,List.setIfInBounds_toArray,List.set_cons_zero,List.set_cons_succ]
      refine AnyE.takeL (i:=15) (v:=.agg #[.int .i64 cZ.id,.slice za1 cZ.rep.length zac1,.slice za2 cZ.df.length zac2,.slice za3 cZ.vals.length zac3]) rfl (by kernel_rfl) (by kernel_rfl) (by kernel_rfl) (by kernel_rfl) (by kernel_rfl) (fun _ _ _ h=>h) (yields_load 32 _ rfl rfl bz (oz + k * 4) rfl #[.int .i64 cZ.id,.slice za1 cZ.rep.length zac1,.slice za2 cZ.df.length zac2,.slice za3 cZ.vals.length zac3] _ (fun w h=>h.2) Tryd.underlying32 rfl (by kernel_rfl)) hS ?_
      try simp only [Act.put,List.getElem_toArray,List.getElem_cons_succ,List.getElem_cons_zero,List.setIfInBounds_toArray,List.set_cons_zero,List.set_cons_succ]
      refine AnyE.takeL (i:=17) (v:=?_) rfl (by kernel_rfl) (by kernel_rfl) (by kernel_rfl) (by kernel_rfl) (by kernel_rfl) (fun _ _ _ h=>h) (Or.inl ⟨by rfl,?_⟩) hS ?_
      rotate_left
      focus (intro wq hSq;obtain ⟨hS1,hS2⟩:=hSq;go_simp;with_reducible rfl)
      try simp only [Act.put,List.getElem_toArray,List.getElem_cons_succ,List.getElem_cons_zero,List.setIfInBounds_toArray,List.set_cons_zero,List.set_cons_succ]
      refine AnyE.takeL (i:=18) (v:=?_) rfl (by kernel_rfl) (by kernel_rfl) (by kernel_rfl) (by kernel_rfl) (by kernel_rfl) (fun _ _ _ h=>h) (Or.inl ⟨by rfl,?_⟩) hS ?_
      rotate_left
      focus (intro wq hSq;obtain ⟨hS1,hS2⟩:=hSq;go_simp;with_reducible rfl)
      try simp only [Act.put,List.getElem_toArray,List.getElem_cons_succ,List.getElem_cons_zero,List.setIfInBounds_toArray,List.set_cons_zero,List.set_cons_succ]
      refine AnyE.oneGS (i:=16) (by kernel_rfl) rfl (by rfl) ?_
      intro K hK
      simp only [List.getElem_toArray,List.getElem_cons_succ,List.getElem_cons_zero]
      go_simp
      refine (HCT.out _ wn81 (HIZ.out wn81 (hb17.trans (HBX.out.mono hb17.size)))).mono ?_;rintro e w18 ⟨rfl,hb⟩
      replace HBX:=Lib.hid (HBX.out.trans (hb.mono HBX0));replace HBX0:=Nat.le_trans HBX0 hb.size
      refine hK _ _ (fun _=>HS.out _ HBX.out) ?_
      clear hK K hS hb
      try simp only [Act.put,List.getElem_toArray,List.getElem_cons_succ,List.getElem_cons_zero,List.setIfInBounds_toArray,List.set_cons_zero,List.set_cons_succ]
      have hS:=(HS.out w18 HBX.out:(fun w'=>(∀ j_1,w'.cell? ⟨gj,j_1,none⟩ = (#[.int .i64 cZ.id,.slice jPa jPm jPc,.slice jQa jQm jQc,.slice jVa jVm jVc]:Array Value)[j_1]?) ∧ (∀ j v,(#[.int .i64 cZ.id,.slice za1 cZ.rep.length zac1,.slice za2 cZ.df.length zac2,.slice za3 cZ.vals.length zac3]:Array Value)[j]? = some v → w'.cell? ⟨bz,oz + k * 4 + j,none⟩ = some v)) w18)
      refine AnyE.takeL (i:=19) (v:=?_) rfl (by kernel_rfl) (by kernel_rfl) (by kernel_rfl) (by kernel_rfl) (by kernel_rfl) (fun _ _ _ h=>h) (Or.inl ⟨by rfl,?_⟩) hS ?_
      rotate_left
      focus (intro wq hSq;obtain ⟨hS1,hS2⟩:=hSq;go_simp;with_reducible rfl)
      try simp only [Act.put,List.getElem_toArray,List.getElem_cons_succ,List.getElem_cons_zero,List.setIfInBounds_toArray,List.set_cons_zero,List.set_cons_succ]
      refine AnyE.takeL (i:=20) (v:=?_) rfl (by kernel_rfl) (by kernel_rfl) (by kernel_rfl) (by kernel_rfl) (by kernel_rfl) (fun _ _ _ h=>h) (Or.inl ⟨by rfl,?_⟩) hS ?_
      rotate_left
      focus (intro wq hSq;obtain ⟨hS1,hS2⟩:=hSq;go_simp;with_reducible rfl)
      try simp only [Act.put,List.getElem_toArray,List.getElem_cons_succ,List.getElem_cons_zero,List.setIfInBounds_toArray,List.set_cons_zero,List.set_cons_succ]
      refine AnyE.done (by kernel_rfl) ?_ _
      clear hS HS
      replace HVJ:=Lib.hid (HVJ.out.below HBX.out)
      have hb18:=HVJ.out.2.2.1
      clear HBX HBX0 hb17
      go_wp2_with fail
      go_loopw [21,22] (fun s21 i wr=>∃ (r:Nat) (a21:Option Addr) (c21:Nat) (V21:List Val) (n21:Nat),r ≤ nz ∧ i = .int .i64 (r:Nat) ∧ .slice a21 n21 c21 = s21 ∧ Hid (V21 = ((la ++ lb).take r).flatMap (walkV n p.1.id false)) ∧ Hid (V21.length = n21) ∧ Hid (wr.ownsRow w18.heap.size 61 3 (.slice a21 n21 c21) n21 (V21.flatMap valCells)) ∧ Hid (Below w18.heap.size w18 wr)) (fun _ i _=>(nz) - (intOf i).toNat)
      case atStart=>exact ⟨0,none,0,[],0,Nat.zero_le _,rfl,rfl,rfl,rfl,World.ownsRow_nil _ _ _ _,Below.refl _ _⟩
      case round =>
        obtain ⟨r,a21,c21,V21,n21,hr,rfl,hs21,HVL,HVN,HOV,HBy⟩:=hrel
        subst hs21
        obtain ⟨wy,hwy⟩:∃ x,x = wr:=⟨_,rfl⟩
        subst hwy
        have hqy:=hb18.trans (HBy.out.mono hb18.size)
        as_aux_lemma =>
        by_cases hlt2:r < nz
        case pos =>
          as_aux_lemma =>
          obtain ⟨x,hx⟩:∃ x,(la ++ lb)[r]? = some x:=⟨_,List.getElem?_eq_getElem (by rw [HNZ.out];exact hlt2)⟩
          have hxm:x ∈ la ++ lb:=List.mem_of_getElem? hx
          obtain ⟨b0,off,hbe,hPb,hb0,hat⟩:=(HDQ.out.under hqy).at (by rw [HNZ.out];omega)
          obtain ⟨xu,xt,hcx,hu,ht⟩:=hat r x hx
          obtain ⟨xau,xcu,rfl⟩:=hu.form
          obtain ⟨xaf,xcf,rfl⟩:=ht.form
          have hxo:∀ z ∈ dts x,z.Ok1:=fun z hz=>HDAB.out z (dtsL_mem hxm hz)
          have hwk:=HWK.out x (HGAB.out x hxm)
          have hqw:=HQW.out.size
          have hOD:=fun (w1:World) (h:Below wy.heap.size wy w1)=>ownDatum_any x (.slice xau x.l.length xcu) (.slice xaf x.f.length xcf) w1 ((hu.under (h.mono hqy.size)).mono fun b hb _=>Nat.lt_of_lt_of_le hb (Nat.le_trans hqy.size h.size)) ((ht.under (h.mono hqy.size)).mono fun b hb _=>Nat.lt_of_lt_of_le hb (Nat.le_trans hqy.size h.size)) hxo
          have hWP:=fun (w1:World) (h:Below wy.heap.size wy w1) (y1 y2 y3:Value) (h1:IsNds (· < w1.heap.size) w1 y1 n.sub) (h2:IsDts (· < w1.heap.size) w1 y2 x.l) (h3:IsDts (· < w1.heap.size) w1 y3 x.f)=>HWP.out w1 (HQW.out.trans ((hqy.trans (h.mono hqy.size)).mono HQW.out.size)) x p.1.id y1 y2 y3 h1 h2 h3 hxo
          unfold WalkPRet at hWP
          rw [hwk.1,hwk.2,eV_zero] at hWP
          unfold OwnDRet at hOD
          unfold DtAt dtA at hcx
          unfold dtA at hOD hWP
          have hvl:(walkV n p.1.id false x).length + V21.length ≤ 6000:=by
            have h1:((la ++ lb).take (r + 1)).flatMap (walkV n p.1.id false) = V21 ++ walkV n p.1.id false x:=by rw [HVL.out,List.take_add_one,hx,List.flatMap_append];simp
            have h2:(((la ++ lb).take (r + 1)).flatMap (walkV n p.1.id false)).length ≤ cZ.vals.length:=by
              rw [HVZ.out]
              have:la ++ lb = (la ++ lb).take (r + 1) ++ (la ++ lb).drop (r + 1):=(List.take_append_drop _ _).symm
              conv=>rhs;rw [this]
              rw [List.flatMap_append,List.length_append];omega
            rw [h1,List.length_append] at h2
            have:=HZL.out;omega
          have HUPV:=Lib.hid (show ((la ++ lb).take (r + 1)).flatMap (walkV n p.1.id false) = V21 ++ walkV n p.1.id false x by rw [HVL.out,List.take_add_one,hx,List.flatMap_append];simp)
          obtain ⟨R,hR⟩:∃ R,walkV n p.1.id false x = R:=⟨_,rfl⟩
          rw [hR] at hWP hvl HUPV
          obtain ⟨nR,hnR⟩:∃ m,R.length = m:=⟨_,rfl⟩
          rw [hnR] at hWP hvl
          have HNR:=Lib.hid hnR
          clear hR hnR
          have HCX:=Lib.hid hcx;have HOD:=Lib.hid hOD;have HWP2:=Lib.hid hWP;have Hlt2:=Lib.hid hlt2
          have hin2:(r:Int) < ((nz:Nat):Int):=Int.ofNat_lt.2 hlt2
          have dr:decide (r < nz) = true:=decide_eq_true hlt2
          have RAy:=Lib.hid (row_keep hqy RAq.out)
          have e0:wy.cell? ⟨gL,k * 5,none⟩ = some (.int .i64 p.1.id):=HLC.out wy hqy 0 _ rfl
          have HE0:=Lib.hid e0
          have hgLy:gL < wy.heap.size:=block_lt_of_cell e0
          subst hbe
          clear hx hxm hPb hat hcx hu ht hxo hwk hOD hWP hlt2 hr e0
          go_upto_region 24 with fail
          have HS:=Lib.hid (show ∀ w',Below wy.heap.size wy w' → ((∀ j_1,w'.cell? ⟨w.heap.size,j_1,none⟩ = (#[.int .i64 n.id,.string n.name,.int .i64 n.rep,.int .i64 n.kind,.slice au ns cu]:Array Value)[j_1]?) ∧ (∀ j v,(#[.bool x.no,.int .i64 x.v.k,.int .i64 x.v.n,.string x.v.s,.slice xau x.l.length xcu,.slice xaf x.f.length xcf]:Array Value)[j]? = some v → w'.cell? ⟨b0,off + r * 6 + j,none⟩ = some v) ∧ w'.cell? ⟨gL,k * 5,none⟩ = some (.int .i64 p.1.id)) from fun w' h=>⟨rowc (row_keep h RAy.out),fun j v hj=>(h.cell (p:=⟨b0,off + r * 6 + j,none⟩) hb0).trans (HCX.out j v hj),(h.cell (p:=⟨gL,k * 5,none⟩) hgLy).trans HE0.out⟩)
          refine AnyE.region (S:=fun w'=>(∀ j_1,w'.cell? ⟨w.heap.size,j_1,none⟩ = (#[.int .i64 n.id,.string n.name,.int .i64 n.rep,.int .i64 n.kind,.slice au ns cu]:Array Value)[j_1]?) ∧ (∀ j v,(#[.bool x.no,.int .i64 x.v.k,.int .i64 x.v.n,.string x.v.s,.slice xau x.l.length xcu,.slice xaf x.f.length xcf]:Array Value)[j]? = some v → w'.cell? ⟨b0,off + r * 6 + j,none⟩ = some v) ∧ w'.cell? ⟨gL,k * 5,none⟩ = some (.int .i64 p.1.id)) (E:=[12,15,16,17]) (by kernel_rfl) ?_
          have hbd:=(Below.refl wy.heap.size wy).drew
          have HBX:=Lib.hid hbd;have HBX0:wy.heap.size ≤ wy.drew.heap.size:=hbd.size
          clear hbd
          generalize wy.drew = wd at *
          have hS:=(HS.out wd HBX.out:(fun w'=>(∀ j_1,w'.cell? ⟨w.heap.size,j_1,none⟩ = (#[.int .i64 n.id,.string n.name,.int .i64 n.rep,.int .i64 n.kind,.slice au ns cu]:Array Value)[j_1]?) ∧ (∀ j v,(#[.bool x.no,.int .i64 x.v.k,.int .i64 x.v.n,.string x.v.s,.slice xau x.l.length xcu,.slice xaf x.f.length xcf]:Array Value)[j]? = some v → w'.cell? ⟨b0,off + r * 6 + j,none⟩ = some v) ∧ w'.cell? ⟨gL,k * 5,none⟩ = some (.int .i64 p.1.id)) wd)
          refine AnyE.takeL (i:=0) (v:=.agg #[.int .i64 n.id,.string n.name,.int .i64 n.rep,.int .i64 n.kind,.slice au ns cu]) rfl (by kernel_rfl) (by kernel_rfl) (by kernel_rfl) (by kernel_rfl) (by kernel_rfl) (fun _ _ _ h=>h) (yields_load 47 _ rfl rfl w.heap.size (0) rfl #[.int .i64 n.id,.string n.name,.int .i64 n.rep,.int .i64 n.kind,.slice au ns cu] _ (fun w h=>fun j v hj=>by rw [Nat.zero_add];exact (h.1 j).trans hj) Tryd.underlying47 rfl (by kernel_rfl)) hS ?_
          try simp only [Act.put,List.getElem_toArray,List.getElem_cons_succ,List.getElem_cons_zero,List.setIfInBounds_toArray,List.set_cons_zero,List.set_cons_succ]
          refine AnyE.takeL (i:=2) (v:=?_) rfl (by kernel_rfl) (by kernel_rfl) (by kernel_rfl) (by kernel_rfl) (by kernel_rfl) (fun _ _ _ h=>h) (Or.inl ⟨by rfl,?_⟩) hS ?_
          rotate_left
          focus (intro wq hSq;obtain ⟨hS1,hS2,hS3⟩:=hSq;go_simp;with_reducible rfl)
          try simp only [Act.put,List.getElem_toArray,List.getElem_cons_succ,List.getElem_cons_zero,List.setIfInBounds_toArray,List.set_cons_zero,List.set_cons_succ]
          refine AnyE.takeL (i:=3) (v:=?_) rfl (by kernel_rfl) (by kernel_rfl) (by kernel_rfl) (by kernel_rfl) (by kernel_rfl) (fun _ _ _ h=>h) (Or.inl ⟨by rfl,?_⟩) hS ?_
          rotate_left
          focus (intro wq hSq;obtain ⟨hS1,hS2,hS3⟩:=hSq;go_simp;with_reducible rfl)
          try simp only [Act.put,List.getElem_toArray,List.getElem_cons_succ,List.getElem_cons_zero,List.setIfInBounds_toArray,List.set_cons_zero,List.set_cons_succ]
          refine AnyE.takeL (i:=4) (v:=?_) rfl (by kernel_rfl) (by kernel_rfl) (by kernel_rfl) (by kernel_rfl) (by kernel_rfl) (fun _ _ _ h=>h) (Or.inl ⟨by rfl,?_⟩) hS ?_
          rotate_left
          focus (intro wq hSq;obtain ⟨hS1,hS2,hS3⟩:=hSq;go_simp;with_reducible rfl)
          try simp only [Act.put,List.getElem_toArray,List.getElem_cons_succ,List.getElem_cons_zero,List.setIfInBounds_toArray,List.set_cons_zero,List.set_cons_succ]
          refine AnyE.takeL (i:=5) (v:=.agg #[.bool x.no,.int .i64 x.v.k,.int .i64 x.v.n,.string x.v.s,.slice xau x.l.length xcu,.slice xaf x.f.length xcf]) rfl (by kernel_rfl) (by kernel_rfl) (by kernel_rfl) (by kernel_rfl) (by kernel_rfl) (fun _ _ _ h=>h) (yields_load 63 _ rfl rfl b0 (off + r * 6) rfl #[.bool x.no,.int .i64 x.v.k,.int .i64 x.v.n,.string x.v.s,.slice xau x.l.length xcu,.slice xaf x.f.length xcf] _ (fun w h=>h.2.1) Tryd.underlying63 rfl (by kernel_rfl)) hS ?_
          try simp only [Act.put,List.getElem_toArray,List.getElem_cons_succ,List.getElem_cons_zero,List.setIfInBounds_toArray,List.set_cons_zero,List.set_cons_succ]
          refine AnyE.takeL (i:=7) (v:=?_) rfl (by kernel_rfl) (by kernel_rfl) (by kernel_rfl) (by kernel_rfl) (by kernel_rfl) (fun _ _ _ h=>h) (Or.inl ⟨by rfl,?_⟩) hS ?_
          rotate_left
          focus (intro wq hSq;obtain ⟨hS1,hS2,hS3⟩:=hSq;go_simp;with_reducible rfl)
          try simp only [Act.put,List.getElem_toArray,List.getElem_cons_succ,List.getElem_cons_zero,List.setIfInBounds_toArray,List.set_cons_zero,List.set_cons_succ]
          refine AnyE.takeL (i:=8) (v:=?_) rfl (by kernel_rfl) (by kernel_rfl) (by kernel_rfl) (by kernel_rfl) (by kernel_rfl) (fun _ _ _ h=>h) (Or.inl ⟨by rfl,?_⟩) hS ?_
          rotate_left
          focus (intro wq hSq;obtain ⟨hS1,hS2,hS3⟩:=hSq;go_simp;with_reducible rfl)
          try simp only [Act.put,List.getElem_toArray,List.getElem_cons_succ,List.getElem_cons_zero,List.setIfInBounds_toArray,List.set_cons_zero,List.set_cons_succ]
          refine AnyE.takeL (i:=9) (v:=?_) rfl (by kernel_rfl) (by kernel_rfl) (by kernel_rfl) (by kernel_rfl) (by kernel_rfl) (fun _ _ _ h=>h) (Or.inl ⟨by rfl,?_⟩) hS ?_
          rotate_left
          focus (intro wq hSq;obtain ⟨hS1,hS2,hS3⟩:=hSq;go_simp;with_reducible rfl)
          try simp only [Act.put,List.getElem_toArray,List.getElem_cons_succ,List.getElem_cons_zero,List.setIfInBounds_toArray,List.set_cons_zero,List.set_cons_succ]
          refine AnyE.takeL (i:=10) (v:=?_) rfl (by kernel_rfl) (by kernel_rfl) (by kernel_rfl) (by kernel_rfl) (by kernel_rfl) (fun _ _ _ h=>h) (Or.inl ⟨by rfl,?_⟩) hS ?_
          rotate_left
          focus (intro wq hSq;obtain ⟨hS1,hS2,hS3⟩:=hSq;go_simp;with_reducible rfl)
          try simp only [Act.put,List.getElem_toArray,List.getElem_cons_succ,List.getElem_cons_zero,List.setIfInBounds_toArray,List.set_cons_zero,List.set_cons_succ]
          refine AnyE.takeL (i:=11) (v:=?_) rfl (by kernel_rfl) (by kernel_rfl) (by kernel_rfl) (by kernel_rfl) (by kernel_rfl) (fun _ _ _ h=>h) (Or.inl ⟨by rfl,?_⟩) hS ?_
          rotate_left
          focus (intro wq hSq;obtain ⟨hS1,hS2,hS3⟩:=hSq;go_simp;with_reducible rfl)
          try simp only [Act.put,List.getElem_toArray,List.getElem_cons_succ,List.getElem_cons_zero,List.setIfInBounds_toArray,List.set_cons_zero,List.set_cons_succ]
          refine AnyE.one (i:=1) (by kernel_rfl) rfl rfl ?_
          intro K hK
          simp only [List.getElem_toArray,List.getElem_cons_succ,List.getElem_cons_zero]
          go_simp
          refine (HON.out wd (HQW.out.trans ((hqy.trans (HBX.out.mono hqy.size)).mono HQW.out.size))).mono ?_;rintro e wn91 ⟨a6,c6,rfl,hn6,hb⟩
          replace HBX:=Lib.hid (HBX.out.trans (hb.mono HBX0));replace HBX0:=Nat.le_trans HBX0 hb.size
          have HN6:=Lib.hid hn6
          refine hK _ _ (fun _=>HS.out _ HBX.out) ?_
          clear hK K hS hb hn6
          try simp only [Act.put,List.getElem_toArray,List.getElem_cons_succ,List.getElem_cons_zero,List.setIfInBounds_toArray,List.set_cons_zero,List.set_cons_succ]
          have hS:=(HS.out wn91 HBX.out:(fun w'=>(∀ j_1,w'.cell? ⟨w.heap.size,j_1,none⟩ = (#[.int .i64 n.id,.string n.name,.int .i64 n.rep,.int .i64 n.kind,.slice au ns cu]:Array Value)[j_1]?) ∧ (∀ j v,(#[.bool x.no,.int .i64 x.v.k,.int .i64 x.v.n,.string x.v.s,.slice xau x.l.length xcu,.slice xaf x.f.length xcf]:Array Value)[j]? = some v → w'.cell? ⟨b0,off + r * 6 + j,none⟩ = some v) ∧ w'.cell? ⟨gL,k * 5,none⟩ = some (.int .i64 p.1.id)) wn91)
          refine AnyE.one (i:=6) (by kernel_rfl) rfl rfl ?_
          intro K hK
          simp only [List.getElem_toArray,List.getElem_cons_succ,List.getElem_cons_zero]
          go_simp
          refine (HOD.out wn91 HBX.out).mono ?_;rintro e wn92 ⟨a7,c7,a8,c8,rfl,hd7,hd8,hb⟩
          replace HBX:=Lib.hid (HBX.out.trans (hb.mono HBX0));replace HBX0:=Nat.le_trans HBX0 hb.size
          have HN7:=Lib.hid ((HN6.out.keep hb.size fun b _ hl=>hb.block b hl).mono (Q:=(· < wn92.heap.size)) fun b _ hl=>hl);have HD7:=Lib.hid (hd7.mono (Q:=(· < wn92.heap.size)) fun b _ hl=>hl);have HD8:=Lib.hid (hd8.mono (Q:=(· < wn92.heap.size)) fun b _ hl=>hl)
          refine hK _ _ (fun _=>HS.out _ HBX.out) ?_
          clear hK K hS hb hd7 hd8
          try simp only [Act.put,List.getElem_toArray,List.getElem_cons_succ,List.getElem_cons_zero,List.setIfInBounds_toArray,List.set_cons_zero,List.set_cons_succ]
          have hS:=(HS.out wn92 HBX.out:(fun w'=>(∀ j_1,w'.cell? ⟨w.heap.size,j_1,none⟩ = (#[.int .i64 n.id,.string n.name,.int .i64 n.rep,.int .i64 n.kind,.slice au ns cu]:Array Value)[j_1]?) ∧ (∀ j v,(#[.bool x.no,.int .i64 x.v.k,.int .i64 x.v.n,.string x.v.s,.slice xau x.l.length xcu,.slice xaf x.f.length xcf]:Array Value)[j]? = some v → w'.cell? ⟨b0,off + r * 6 + j,none⟩ = some v) ∧ w'.cell? ⟨gL,k * 5,none⟩ = some (.int .i64 p.1.id)) wn92)
          refine AnyE.one (i:=12) (by kernel_rfl) rfl rfl ?_
          intro K hK
          simp only [List.getElem_toArray,List.getElem_cons_succ,List.getElem_cons_zero]
          go_simp
          refine (HWP2.out wn92 HBX.out _ _ _ HN7.out HD7.out HD8.out).mono ?_;rintro e wn93 ⟨v9,rfl,ho9,hb⟩
          obtain ⟨a9,c9,rfl⟩:=own_form ho9
          replace HBX:=Lib.hid (HBX.out.trans (hb.mono HBX0));replace HBX0:=Nat.le_trans HBX0 hb.size
          have HV9:=Lib.hid (IsVals.of_own (own_len ho9 HNR.out))
          refine hK _ _ (fun h=>absurd h (by decide)) ?_
          clear hK K hS hb ho9 HN6 HN7 HD7 HD8
          try simp only [Act.put,List.getElem_toArray,List.getElem_cons_succ,List.getElem_cons_zero,List.setIfInBounds_toArray,List.set_cons_zero,List.set_cons_succ]
          have hS:=(HS.out wn93 HBX.out:(fun w'=>(∀ j_1,w'.cell? ⟨w.heap.size,j_1,none⟩ = (#[.int .i64 n.id,.string n.name,.int .i64 n.rep,.int .i64 n.kind,.slice au ns cu]:Array Value)[j_1]?) ∧ (∀ j v,(#[.bool x.no,.int .i64 x.v.k,.int .i64 x.v.n,.string x.v.s,.slice xau x.l.length xcu,.slice xaf x.f.length xcf]:Array Value)[j]? = some v → w'.cell? ⟨b0,off + r * 6 + j,none⟩ = some v) ∧ w'.cell? ⟨gL,k * 5,none⟩ = some (.int .i64 p.1.id)) wn93)
          refine AnyE.takeL (i:=13) (v:=?_) rfl (by kernel_rfl) (by kernel_rfl) (by kernel_rfl) (by kernel_rfl) (by kernel_rfl) (fun _ _ _ h=>h) (Or.inl ⟨by rfl,?_⟩) hS ?_
          rotate_left
          focus (intro wq hSq;obtain ⟨hS1,hS2,hS3⟩:=hSq;go_simp;with_reducible rfl)
          try simp only [Act.put,List.getElem_toArray,List.getElem_cons_succ,List.getElem_cons_zero,List.setIfInBounds_toArray,List.set_cons_zero,List.set_cons_succ]
          refine AnyE.takeP (i:=15) (v:=?_) rfl (by kernel_rfl) (by kernel_rfl) (by kernel_rfl) (by kernel_rfl) (fun _ _ _ h=>h) (Or.inl ⟨by rfl,?_⟩) ?_
          rotate_left
          focus (intro wq hSq;go_simp;with_reducible rfl)
          try simp only [Act.put,List.getElem_toArray,List.getElem_cons_succ,List.getElem_cons_zero,List.setIfInBounds_toArray,List.set_cons_zero,List.set_cons_succ]
          refine AnyE.takeL (i:=14) (v:=?_) rfl (by kernel_rfl) (by kernel_rfl) (by kernel_rfl) (by kernel_rfl) (by kernel_rfl) (fun _ _ _ h=>h) (Or.inl ⟨by rfl,?_⟩) hS ?_
          rotate_left
          focus (intro wq hSq;obtain ⟨hS1,hS2,hS3⟩:=hSq;go_simp;with_reducible rfl)
          try simp only [Act.put,List.getElem_toArray,List.getElem_cons_succ,List.getElem_cons_zero,List.setIfInBounds_toArray,List.set_cons_zero,List.set_cons_succ]
          refine AnyE.one (i:=16) (by kernel_rfl) rfl rfl ?_
          intro K hK
          simp only [List.getElem_toArray,List.getElem_cons_succ,List.getElem_cons_zero]
          go_simp
          refine hK _ _ (fun h=>absurd h (by decide)) ?_
          clear hK K
          try simp only [Act.put,List.getElem_toArray,List.getElem_cons_succ,List.getElem_cons_zero,List.setIfInBounds_toArray,List.set_cons_zero,List.set_cons_succ]
          refine AnyE.one (i:=17) (by kernel_rfl) rfl rfl ?_
          intro K hK
          simp only [List.getElem_toArray,List.getElem_cons_succ,List.getElem_cons_zero]
          go_simp
          refine hK _ _ (fun h=>absurd h (by decide)) ?_
          clear hK K
          try simp only [Act.put,List.getElem_toArray,List.getElem_cons_succ,List.getElem_cons_zero,List.setIfInBounds_toArray,List.set_cons_zero,List.set_cons_succ]
          refine AnyE.done (by kernel_rfl) ?_ _
          clear hS HS
          have HOV2:=Lib.hid (own_len (own_blw HOV.out HBX.out) HVN.out)
          have hz93:w18.heap.size ≤ wn93.heap.size:=Nat.le_trans HBy.out.size HBX0
          have h8v:(V21.length + R.length) * 32 ≤ 140737488355328:=by have:=HNR.out;omega
          have hvn:=HVN.out
          have HB93:=Lib.hid (show Below w18.heap.size w18 wn93 from HBy.out.trans (HBX.out.mono HBy.out.size))
          clear HBX HBX0 HWP2 HOD HCX HE0 hqy RAy hqw dr hvl
          go_wp2_with (at_builtin;refine wpList_appV rfl _ _ rfl w18.heap.size _ V21 rfl HOV2.out _ R rfl HV9.out h8v hz93 ?_;intro v' w10 ho hg hfm;obtain ⟨ad9,cp9,rfl⟩:=hfm;have HO9:=Lib.hid ho;have HG9:=Lib.hid hg;clear ho hg)
          go_roundw
          case rel =>
            have hbg:Below w18.heap.size wn93 w10:=(Below.refl w18.heap.size wn93).grown HG9.out hz93 (fun k hk=>(HOV2.out.lt k hk).1)
            have hl9:(V21 ++ R).length = n21 + R.length:=by rw [List.length_append,HVN.out]
            have ho9:=HO9.out
            rw [HVN.out,hl9] at ho9
            have HO10:=Lib.hid ho9;have HL9:=Lib.hid hl9;have HB10:=Lib.hid (HB93.out.trans hbg);have HU10:=Lib.hid HUPV.out.symm
            clear hl9 ho9 hbg
            exact ⟨r + 1,ad9,cp9,V21 ++ R,n21 + R.length,Hlt2.out,by go_num,rfl,HU10,HL9,HO10,HB10⟩
          case measure=>have:=Hlt2.out;simp [intOf];omega
        as_aux_lemma =>
        obtain rfl:nz = r:=Nat.le_antisymm (Nat.le_of_not_lt hlt2) hr
        have dr:decide (nz < nz) = false:=by simp
        have hall:V21 = cZ.vals:=by rw [HVL.out,HVZ.out,List.take_of_length_le (by rw [HNZ.out];exact Nat.le_refl _)]
        have hvz:IsVals wy (.slice a21 n21 c21) cZ.vals:=by rw [← hall];exact IsVals.of_own (own_len HOV.out HVN.out)
        have HVY:=Lib.hid hvz
        have HVJ2:=Lib.hid (HVJ.out.below HBy.out)
        have e3:wy.cell? ⟨bz,oz + k * 4 + 3,none⟩ = some (.slice za3 cZ.vals.length zac3):=HZC.out wy hqy 3 _ rfl
        have hsv:sameB cZ.vals cZ.vals = true:=(sameB_iff _ _).2 rfl
        have hcs:=HSV.out (.slice a21 n21 c21) wy hqy HVY.out
        rw [hsv] at hcs
        have HCS:=Lib.hid hcs
        clear hlt2 hr hall hvz hsv hcs HVL HVN HOV
        go_wp2_with fail
        refine HCS.out.mono ?_;rintro e w28 ⟨rfl,hb28⟩
        replace HVJ2:=Lib.hid (HVJ2.out.below hb28)
        have hq28:=HVJ2.out.2.2.1
        clear hb28 HCS HVY e3 hqy HBy dr HVJ hb18
        by_cases hneg:at_ < 0
        · go_wp2_with fail
          go_roundw
          case rel=>exact ⟨k + 1,Hlt.out,by go_num,Lib.hid (HBr.out.trans (hq28.mono HBr.out.size))⟩
          case measure=>have:=Hlt.out;simp [intOf];omega
        obtain ⟨m,rfl⟩:=Int.eq_ofNat_of_zero_le (show 0 ≤ at_ by omega)
        have hm63:m < 9223372036854775808:=by omega
        clear hat0 hat1 hneg
        by_cases hbig:nz < m
        · have hbi:((nz:Nat):Int) < (m:Int):=Int.ofNat_lt.2 hbig
          have db:decide (nz < m) = true:=decide_eq_true hbig
          go_wp2_with fail
          go_roundw
          case rel=>exact ⟨k + 1,Hlt.out,by go_num,Lib.hid (HBr.out.trans (hq28.mono HBr.out.size))⟩
          case measure=>have:=Hlt.out;simp [intOf];omega
        have hbi:¬ ((nz:Nat):Int) < (m:Int):=by omega
        have db:decide (nz < m) = false:=decide_eq_false hbig
        obtain ⟨x0,hx0,hp1,hp2,hp3⟩:=HPT.out m (by omega)
        have HP1:=Lib.hid hp1;have HP2:=Lib.hid hp2;have HP3:=Lib.hid hp3
        clear hp1 hp2 hp3
        generalize cutC (lfOf p.1) cZ 0 x0 = cP at *
        generalize cutC (lfOf p.1) cZ x0 cZ.rep.length = cR at *
        go_upto_region 31 with fail
        go_cut [25,26] (fun sa sb wx=>∃ gp:Nat,sa = .pointer (some ⟨gp,0,none⟩) ∧ sb = .nilIface ∧ ∃ (pPa:Option Addr) (pPm pPc:Nat) (pQa:Option Addr) (pQm pQc:Nat) (pVa:Option Addr) (pVm pVc:Nat),Hid (VarAt w28 wx gp cP pPa pPm pPc pQa pQm pQc pVa pVm pVc))
        case first =>
          as_aux_lemma =>
            have HS:=Lib.hid (show ∀ w',Below w28.heap.size w28 w' → ((∀ j v,(#[.int .i64 p.1.id,.int .i64 p.1.kind,.int .i64 p.1.mr,.int .i64 p.1.md,.slice pa pm pc]:Array Value)[j]? = some v → w'.cell? ⟨gL,k * 5 + j,none⟩ = some v) ∧ (∀ j v,(#[.int .i64 cZ.id,.slice za1 cZ.rep.length zac1,.slice za2 cZ.df.length zac2,.slice za3 cZ.vals.length zac3]:Array Value)[j]? = some v → w'.cell? ⟨bz,oz + k * 4 + j,none⟩ = some v)) from fun w' h=>⟨HLC.out w' (hq28.trans (h.mono hq28.size)),HZC.out w' (hq28.trans (h.mono hq28.size))⟩)
            have HOLF:=Lib.hid (fun (w1:World) (h:Below w28.heap.size w28 w1)=>HOLF.out w1 (hq28.trans (h.mono hq28.size)))
            have HPC:=Lib.hid (fun (w1:World) (h:Below w28.heap.size w28 w1)=>HP1.out w1 (hq28.trans (h.mono hq28.size)))
            refine AnyE.region (S:=fun w'=>(∀ j v,(#[.int .i64 p.1.id,.int .i64 p.1.kind,.int .i64 p.1.mr,.int .i64 p.1.md,.slice pa pm pc]:Array Value)[j]? = some v → w'.cell? ⟨gL,k * 5 + j,none⟩ = some v) ∧ (∀ j v,(#[.int .i64 cZ.id,.slice za1 cZ.rep.length zac1,.slice za2 cZ.df.length zac2,.slice za3 cZ.vals.length zac3]:Array Value)[j]? = some v → w'.cell? ⟨bz,oz + k * 4 + j,none⟩ = some v)) (E:=[10,13,15,16]) (by kernel_rfl) ?_
            have hbd:=(Below.refl w28.heap.size w28).drew
            have HBX:=Lib.hid hbd;have HBX0:w28.heap.size ≤ w28.drew.heap.size:=hbd.size
            clear hbd
            generalize w28.drew = wd at *
            have hS:=(HS.out wd HBX.out:(fun w'=>(∀ j v,(#[.int .i64 p.1.id,.int .i64 p.1.kind,.int .i64 p.1.mr,.int .i64 p.1.md,.slice pa pm pc]:Array Value)[j]? = some v → w'.cell? ⟨gL,k * 5 + j,none⟩ = some v) ∧ (∀ j v,(#[.int .i64 cZ.id,.slice za1 cZ.rep.length zac1,.slice za2 cZ.df.length zac2,.slice za3 cZ.vals.length zac3]:Array Value)[j]? = some v → w'.cell? ⟨bz,oz + k * 4 + j,none⟩ = some v)) wd)
            refine AnyE.takeL (i:=0) (v:=?_) rfl (by kernel_rfl) (by kernel_rfl) (by kernel_rfl) (by kernel_rfl) (by kernel_rfl) (fun _ _ _ h=>h) (Or.inl ⟨by rfl,?_⟩) hS ?_
            rotate_left
            focus (intro wq hSq;obtain ⟨hS1,hS2⟩:=hSq;go_simp;with_reducible rfl)
            try simp only [Act.put,List.getElem_toArray,List.getElem_cons_succ,List.getElem_cons_zero,List.setIfInBounds_toArray,List.set_cons_zero,List.set_cons_succ]
            refine AnyE.takeL (i:=1) (v:=?_) rfl (by kernel_rfl) (by kernel_rfl) (by kernel_rfl) (by kernel_rfl) (by kernel_rfl) (fun _ _ _ h=>h) (Or.inl ⟨by rfl,?_⟩) hS ?_
            rotate_left
            focus (intro wq hSq;obtain ⟨hS1,hS2⟩:=hSq;go_simp;with_reducible rfl)
            try simp only [Act.put,List.getElem_toArray,List.getElem_cons_succ,List.getElem_cons_zero,List.setIfInBounds_toArray,List.set_cons_zero,List.set_cons_succ]
            refine AnyE.takeL (i:=2) (v:=?_) rfl (by kernel_rfl) (by kernel_rfl) (by kernel_rfl) (by kernel_rfl) (by kernel_rfl) (fun _ _ _ h=>h) (Or.inl ⟨by rfl,?_⟩) hS ?_
            rotate_left
            focus (intro wq hSq;obtain ⟨hS1,hS2⟩:=hSq;go_simp;with_reducible rfl)
            try simp only [Act.put,List.getElem_toArray,List.getElem_cons_succ,List.getElem_cons_zero,List.setIfInBounds_toArray,List.set_cons_zero,List.set_cons_succ]
            refine AnyE.takeL (i:=3) (v:=.agg #[.int .i64 p.1.id,.int .i64 p.1.kind,.int .i64 p.1.mr,.int .i64 p.1.md,.slice pa pm pc]) rfl (by kernel_rfl) (by kernel_rfl) (by kernel_rfl) (by kernel_rfl) (by kernel_rfl) (fun _ _ _ h=>h) (yields_load 24 _ rfl rfl gL (k * 5) rfl #[.int .i64 p.1.id,.int .i64 p.1.kind,.int .i64 p.1.mr,.int .i64 p.1.md,.slice pa pm pc] _ (fun w h=>h.1) Tryd.underlying24 rfl (by kernel_rfl)) hS ?_
            try simp only [Act.put,List.getElem_toArray,List.getElem_cons_succ,List.getElem_cons_zero,List.setIfInBounds_toArray,List.set_cons_zero,List.set_cons_succ]
            refine AnyE.takeL (i:=5) (v:=?_) rfl (by kernel_rfl) (by kernel_rfl) (by kernel_rfl) (by kernel_rfl) (by kernel_rfl) (fun _ _ _ h=>h) (Or.inl ⟨by rfl,?_⟩) hS ?_
            rotate_left
            focus (intro wq hSq;obtain ⟨hS1,hS2⟩:=hSq;go_simp;with_reducible rfl)
            try simp only [Act.put,List.getElem_toArray,List.getElem_cons_succ,List.getElem_cons_zero,List.setIfInBounds_toArray,List.set_cons_zero,List.set_cons_succ]
            refine AnyE.takeL (i:=6) (v:=?_) rfl (by kernel_rfl) (by kernel_rfl) (by kernel_rfl) (by kernel_rfl) (by kernel_rfl) (fun _ _ _ h=>h) (Or.inl ⟨by rfl,?_⟩) hS ?_
            rotate_left
            focus (intro wq hSq;obtain ⟨hS1,hS2⟩:=hSq;go_simp;with_reducible rfl)
            try simp only [Act.put,List.getElem_toArray,List.getElem_cons_succ,List.getElem_cons_zero,List.setIfInBounds_toArray,List.set_cons_zero,List.set_cons_succ]
            refine AnyE.takeL (i:=7) (v:=?_) rfl (by kernel_rfl) (by kernel_rfl) (by kernel_rfl) (by kernel_rfl) (by kernel_rfl) (fun _ _ _ h=>h) (Or.inl ⟨by rfl,?_⟩) hS ?_
            rotate_left
            focus (intro wq hSq;obtain ⟨hS1,hS2⟩:=hSq;go_simp;with_reducible rfl)
            try simp only [Act.put,List.getElem_toArray,List.getElem_cons_succ,List.getElem_cons_zero,List.setIfInBounds_toArray,List.set_cons_zero,List.set_cons_succ]
            refine AnyE.takeL (i:=8) (v:=.agg #[.int .i64 cZ.id,.slice za1 cZ.rep.length zac1,.slice za2 cZ.df.length zac2,.slice za3 cZ.vals.length zac3]) rfl (by kernel_rfl) (by kernel_rfl) (by kernel_rfl) (by kernel_rfl) (by kernel_rfl) (fun _ _ _ h=>h) (yields_load 32 _ rfl rfl bz (oz + k * 4) rfl #[.int .i64 cZ.id,.slice za1 cZ.rep.length zac1,.slice za2 cZ.df.length zac2,.slice za3 cZ.vals.length zac3] _ (fun w h=>h.2) Tryd.underlying32 rfl (by kernel_rfl)) hS ?_
            try simp only [Act.put,List.getElem_toArray,List.getElem_cons_succ,List.getElem_cons_zero,List.setIfInBounds_toArray,List.set_cons_zero,List.set_cons_succ]
            refine AnyE.takeL (i:=9) (v:=?_) rfl (by kernel_rfl) (by kernel_rfl) (by kernel_rfl) (by kernel_rfl) (by kernel_rfl) (fun _ _ _ h=>h) (Or.inl ⟨by rfl,?_⟩) hS ?_
            rotate_left
            focus (intro wq hSq;obtain ⟨hS1,hS2⟩:=hSq;go_simp;with_reducible rfl)
            try simp only [Act.put,List.getElem_toArray,List.getElem_cons_succ,List.getElem_cons_zero,List.setIfInBounds_toArray,List.set_cons_zero,List.set_cons_succ]
            refine AnyE.two (i:=4) (j:=14) (by kernel_rfl) rfl rfl rfl rfl ?_ ?_
            · intro K hK
              simp only [List.getElem_toArray,List.getElem_cons_succ,List.getElem_cons_zero]
              go_simp
              refine (HOLF.out wd HBX.out).mono ?_;rintro e wn26 ⟨⟨uf,rfl,hlf⟩,hb⟩
              replace HBX:=Lib.hid (HBX.out.trans (hb.mono HBX0));replace HBX0:=Nat.le_trans HBX0 hb.size
              have HLF:=Lib.hid hlf
              refine hK _ _ (fun _=>HS.out _ HBX.out) ?_
              clear hK K hS hlf hb
              try simp only [Act.put,List.getElem_toArray,List.getElem_cons_succ,List.getElem_cons_zero,List.setIfInBounds_toArray,List.set_cons_zero,List.set_cons_succ]
              have hS:=(HS.out wn26 HBX.out:(fun w'=>(∀ j v,(#[.int .i64 p.1.id,.int .i64 p.1.kind,.int .i64 p.1.mr,.int .i64 p.1.md,.slice pa pm pc]:Array Value)[j]? = some v → w'.cell? ⟨gL,k * 5 + j,none⟩ = some v) ∧ (∀ j v,(#[.int .i64 cZ.id,.slice za1 cZ.rep.length zac1,.slice za2 cZ.df.length zac2,.slice za3 cZ.vals.length zac3]:Array Value)[j]? = some v → w'.cell? ⟨bz,oz + k * 4 + j,none⟩ = some v)) wn26)
              refine AnyE.two (i:=10) (j:=14) (by kernel_rfl) rfl rfl rfl rfl ?_ ?_
              · intro K hK
                simp only [List.getElem_toArray,List.getElem_cons_succ,List.getElem_cons_zero]
                go_simp
                refine (HPC.out wn26 HBX.out _ HLF.out).mono ?_;rintro e wn27 ⟨pPa,pPm,pPc,pQa,pQm,pQc,pVa,pVm,pVc,rfl,hjc,hb⟩
                have hjq:=hjc.base HBX0
                replace HBX:=Lib.hid (HBX.out.trans (hb.mono HBX0));replace HBX0:=Nat.le_trans HBX0 hb.size
                replace HLF:=Lib.hid (HLF.out.below hb (Nat.le_refl _))
                have HJC:=Lib.hid hjq
                refine hK _ _ (fun h=>absurd h (by decide)) ?_
                clear hK K hS hjc hjq hb
                try simp only [Act.put,List.getElem_toArray,List.getElem_cons_succ,List.getElem_cons_zero,List.setIfInBounds_toArray,List.set_cons_zero,List.set_cons_succ]
                have hS:=(HS.out wn27 HBX.out:(fun w'=>(∀ j v,(#[.int .i64 p.1.id,.int .i64 p.1.kind,.int .i64 p.1.mr,.int .i64 p.1.md,.slice pa pm pc]:Array Value)[j]? = some v → w'.cell? ⟨gL,k * 5 + j,none⟩ = some v) ∧ (∀ j v,(#[.int .i64 cZ.id,.slice za1 cZ.rep.length zac1,.slice za2 cZ.df.length zac2,.slice za3 cZ.vals.length zac3]:Array Value)[j]? = some v → w'.cell? ⟨bz,oz + k * 4 + j,none⟩ = some v)) wn27)
                refine AnyE.takeL (i:=11) (v:=?_) rfl (by kernel_rfl) (by kernel_rfl) (by kernel_rfl) (by kernel_rfl) (by kernel_rfl) (fun _ _ _ h=>h) (Or.inl ⟨by rfl,?_⟩) hS ?_
                rotate_left
                focus (intro wq hSq;obtain ⟨hS1,hS2⟩:=hSq;go_simp;with_reducible rfl)
                try simp only [Act.put,List.getElem_toArray,List.getElem_cons_succ,List.getElem_cons_zero,List.setIfInBounds_toArray,List.set_cons_zero,List.set_cons_succ]
                refine AnyE.takeP (i:=13) (v:=?_) rfl (by kernel_rfl) (by kernel_rfl) (by kernel_rfl) (by kernel_rfl) (fun _ _ _ h=>h) (Or.inl ⟨by rfl,?_⟩) ?_
                rotate_left
                focus (intro wq hSq;go_simp;with_reducible rfl)
                try simp only [Act.put,List.getElem_toArray,List.getElem_cons_succ,List.getElem_cons_zero,List.setIfInBounds_toArray,List.set_cons_zero,List.set_cons_succ]
                refine AnyE.takeL (i:=12) (v:=?_) rfl (by kernel_rfl) (by kernel_rfl) (by kernel_rfl) (by kernel_rfl) (by kernel_rfl) (fun _ _ _ h=>h) (Or.inl ⟨by rfl,?_⟩) hS ?_
                rotate_left
                focus (intro wq hSq;obtain ⟨hS1,hS2⟩:=hSq;go_simp;with_reducible rfl)
                try simp only [Act.put,List.getElem_toArray,List.getElem_cons_succ,List.getElem_cons_zero,List.setIfInBounds_toArray,List.set_cons_zero,List.set_cons_succ]
                refine AnyE.one (i:=14) (by kernel_rfl) rfl rfl ?_
                intro K hK
                simp only [List.getElem_toArray,List.getElem_cons_succ,List.getElem_cons_zero]
                go_simp
                have hb:=(Below.refl wn27.heap.size wn27).alloc (Nat.le_refl _) (.cells #[.int .i64 0,.slice none 0 0,.slice none 0 0,.slice none 0 0] 32)
                have hgv:=heap_alloc_new wn27 (.cells #[.int .i64 0,.slice none 0 0,.slice none 0 0,.slice none 0 0] 32)
                have hgvz:w28.heap.size ≤ wn27.heap.size:=HBX0
                replace HBX:=Lib.hid (HBX.out.trans (hb.mono HBX0));replace HBX0:=Nat.le_trans HBX0 hb.size
                replace HJC:=Lib.hid (HJC.out.belowS hb)
                have HRV:=Lib.hid hgv
                refine hK _ _ (fun _=>HS.out _ HBX.out) ?_
                clear hK K hS hgv hb
                try simp only [Act.put,List.getElem_toArray,List.getElem_cons_succ,List.getElem_cons_zero,List.setIfInBounds_toArray,List.set_cons_zero,List.set_cons_succ]
                generalize wn27.alloc (.cells #[.int .i64 0,.slice none 0 0,.slice none 0 0,.slice none 0 0] 32) = wn28 at *
                generalize wn27.heap.size = gv at *
                have hS:=(HS.out wn28 HBX.out:(fun w'=>(∀ j v,(#[.int .i64 p.1.id,.int .i64 p.1.kind,.int .i64 p.1.mr,.int .i64 p.1.md,.slice pa pm pc]:Array Value)[j]? = some v → w'.cell? ⟨gL,k * 5 + j,none⟩ = some v) ∧ (∀ j v,(#[.int .i64 cZ.id,.slice za1 cZ.rep.length zac1,.slice za2 cZ.df.length zac2,.slice za3 cZ.vals.length zac3]:Array Value)[j]? = some v → w'.cell? ⟨bz,oz + k * 4 + j,none⟩ = some v)) wn28)
                refine AnyE.one (i:=15) (by kernel_rfl) rfl rfl ?_
                intro K hK
                simp only [List.getElem_toArray,List.getElem_cons_succ,List.getElem_cons_zero]
                refine wp_store_part rfl 32 _ _ rfl gv 0 #[.int .i64 0,.slice none 0 0,.slice none 0 0,.slice none 0 0] 32 #[.int .i64 cP.id,.slice pPa pPm pPc,.slice pQa pQm pQc,.slice pVa pVm pVc] rfl rfl HRV.out (by kernel_rfl) (by simp [Value.oneCell']) (Nat.le_of_ble_eq_true rfl) #[.int .i64 cP.id,.slice pPa pPm pPc,.slice pQa pQm pQc,.slice pVa pVm pVc] rfl ?_;intro w9 r9 ho9 hb9 hz9
                refine hK _ _ (fun h=>absurd h (by decide)) ?_
                clear hK K hS
                try simp only [Act.put,List.getElem_toArray,List.getElem_cons_succ,List.getElem_cons_zero,List.setIfInBounds_toArray,List.set_cons_zero,List.set_cons_succ]
                have HV9:=Lib.hid (VarAt.store HJC.out HRV.out r9 ho9 hb9 HBX.out hgvz)
                clear r9 ho9 hb9 hz9 HJC HRV HBX HBX0 HLF
                refine AnyE.one (i:=16) (by kernel_rfl) rfl rfl ?_
                intro K hK
                simp only [List.getElem_toArray,List.getElem_cons_succ,List.getElem_cons_zero]
                go_simp
                refine hK _ _ (fun h=>absurd h (by decide)) ?_
                clear hK K
                try simp only [Act.put,List.getElem_toArray,List.getElem_cons_succ,List.getElem_cons_zero,List.setIfInBounds_toArray,List.set_cons_zero,List.set_cons_succ]
                refine AnyE.done (by kernel_rfl) ?_ _
                go_wp2_with fail
                go_meet
                exact ⟨gv,rfl,rfl,pPa,pPm,pPc,pQa,pQm,pQc,pVa,pVm,pVc,HV9⟩
              · intro K hK
                simp only [List.getElem_toArray,List.getElem_cons_succ,List.getElem_cons_zero]
                go_simp
                have hb:=(Below.refl wn26.heap.size wn26).alloc (Nat.le_refl _) (.cells #[.int .i64 0,.slice none 0 0,.slice none 0 0,.slice none 0 0] 32)
                have hgv:=heap_alloc_new wn26 (.cells #[.int .i64 0,.slice none 0 0,.slice none 0 0,.slice none 0 0] 32)
                have hgvz:w28.heap.size ≤ wn26.heap.size:=HBX0
                replace HBX:=Lib.hid (HBX.out.trans (hb.mono HBX0));replace HBX0:=Nat.le_trans HBX0 hb.size
                replace HLF:=Lib.hid (HLF.out.below hb (Nat.le_refl _))
                have HRV:=Lib.hid hgv
                refine hK _ _ (fun _=>HS.out _ HBX.out) ?_
                clear hK K hS hgv hb
                try simp only [Act.put,List.getElem_toArray,List.getElem_cons_succ,List.getElem_cons_zero,List.setIfInBounds_toArray,List.set_cons_zero,List.set_cons_succ]
                generalize wn26.alloc (.cells #[.int .i64 0,.slice none 0 0,.slice none 0 0,.slice none 0 0] 32) = wn29 at *
                generalize wn26.heap.size = gv at *
                have hS:=(HS.out wn29 HBX.out:(fun w'=>(∀ j v,(#[.int .i64 p.1.id,.int .i64 p.1.kind,.int .i64 p.1.mr,.int .i64 p.1.md,.slice pa pm pc]:Array Value)[j]? = some v → w'.cell? ⟨gL,k * 5 + j,none⟩ = some v) ∧ (∀ j v,(#[.int .i64 cZ.id,.slice za1 cZ.rep.length zac1,.slice za2 cZ.df.length zac2,.slice za3 cZ.vals.length zac3]:Array Value)[j]? = some v → w'.cell? ⟨bz,oz + k * 4 + j,none⟩ = some v)) wn29)
                refine AnyE.one (i:=10) (by kernel_rfl) rfl rfl ?_
                intro K hK
                simp only [List.getElem_toArray,List.getElem_cons_succ,List.getElem_cons_zero]
                go_simp
                refine (HPC.out wn29 HBX.out _ HLF.out).mono ?_;rintro e wn30 ⟨pPa,pPm,pPc,pQa,pQm,pQc,pVa,pVm,pVc,rfl,hjc,hb⟩
                have hjq:=hjc.base HBX0
                replace HBX:=Lib.hid (HBX.out.trans (hb.mono HBX0));replace HBX0:=Nat.le_trans HBX0 hb.size
                replace HLF:=Lib.hid (HLF.out.below hb (Nat.le_refl _))
                replace HRV:=Lib.hid (row_keep hb HRV.out)
                have HJC:=Lib.hid hjq
                refine hK _ _ (fun h=>absurd h (by decide)) ?_
                clear hK K hS hjc hjq hb
                try simp only [Act.put,List.getElem_toArray,List.getElem_cons_succ,List.getElem_cons_zero,List.setIfInBounds_toArray,List.set_cons_zero,List.set_cons_succ]
                have hS:=(HS.out wn30 HBX.out:(fun w'=>(∀ j v,(#[.int .i64 p.1.id,.int .i64 p.1.kind,.int .i64 p.1.mr,.int .i64 p.1.md,.slice pa pm pc]:Array Value)[j]? = some v → w'.cell? ⟨gL,k * 5 + j,none⟩ = some v) ∧ (∀ j v,(#[.int .i64 cZ.id,.slice za1 cZ.rep.length zac1,.slice za2 cZ.df.length zac2,.slice za3 cZ.vals.length zac3]:Array Value)[j]? = some v → w'.cell? ⟨bz,oz + k * 4 + j,none⟩ = some v)) wn30)
                refine AnyE.takeL (i:=11) (v:=?_) rfl (by kernel_rfl) (by kernel_rfl) (by kernel_rfl) (by kernel_rfl) (by kernel_rfl) (fun _ _ _ h=>h) (Or.inl ⟨by rfl,?_⟩) hS ?_
                rotate_left
                focus (intro wq hSq;obtain ⟨hS1,hS2⟩:=hSq;go_simp;with_reducible rfl)
                try simp only [Act.put,List.getElem_toArray,List.getElem_cons_succ,List.getElem_cons_zero,List.setIfInBounds_toArray,List.set_cons_zero,List.set_cons_succ]
                refine AnyE.takeP (i:=13) (v:=?_) rfl (by kernel_rfl) (by kernel_rfl) (by kernel_rfl) (by kernel_rfl) (fun _ _ _ h=>h) (Or.inl ⟨by rfl,?_⟩) ?_
                rotate_left
                focus (intro wq hSq;go_simp;with_reducible rfl)
                try simp only [Act.put,List.getElem_toArray,List.getElem_cons_succ,List.getElem_cons_zero,List.setIfInBounds_toArray,List.set_cons_zero,List.set_cons_succ]
                refine AnyE.takeL (i:=12) (v:=?_) rfl (by kernel_rfl) (by kernel_rfl) (by kernel_rfl) (by kernel_rfl) (by kernel_rfl) (fun _ _ _ h=>h) (Or.inl ⟨by rfl,?_⟩) hS ?_
                rotate_left
                focus (intro wq hSq;obtain ⟨hS1,hS2⟩:=hSq;go_simp;with_reducible rfl)
                try simp only [Act.put,List.getElem_toArray,List.getElem_cons_succ,List.getElem_cons_zero,List.setIfInBounds_toArray,List.set_cons_zero,List.set_cons_succ]
                refine AnyE.one (i:=15) (by kernel_rfl) rfl rfl ?_
                intro K hK
                simp only [List.getElem_toArray,List.getElem_cons_succ,List.getElem_cons_zero]
                refine wp_store_part rfl 32 _ _ rfl gv 0 #[.int .i64 0,.slice none 0 0,.slice none 0 0,.slice none 0 0] 32 #[.int .i64 cP.id,.slice pPa pPm pPc,.slice pQa pQm pQc,.slice pVa pVm pVc] rfl rfl HRV.out (by kernel_rfl) (by simp [Value.oneCell']) (Nat.le_of_ble_eq_true rfl) #[.int .i64 cP.id,.slice pPa pPm pPc,.slice pQa pQm pQc,.slice pVa pVm pVc] rfl ?_;intro w9 r9 ho9 hb9 hz9
                refine hK _ _ (fun h=>absurd h (by decide)) ?_
                clear hK K hS
                try simp only [Act.put,List.getElem_toArray,List.getElem_cons_succ,List.getElem_cons_zero,List.setIfInBounds_toArray,List.set_cons_zero,List.set_cons_succ]
                have HV9:=Lib.hid (VarAt.store HJC.out HRV.out r9 ho9 hb9 HBX.out hgvz)
                clear r9 ho9 hb9 hz9 HJC HRV HBX HBX0 HLF
                refine AnyE.one (i:=16) (by kernel_rfl) rfl rfl ?_
                intro K hK
                simp only [List.getElem_toArray,List.getElem_cons_succ,List.getElem_cons_zero]
                go_simp
                refine hK _ _ (fun h=>absurd h (by decide)) ?_
                clear hK K
                try simp only [Act.put,List.getElem_toArray,List.getElem_cons_succ,List.getElem_cons_zero,List.setIfInBounds_toArray,List.set_cons_zero,List.set_cons_succ]
                refine AnyE.done (by kernel_rfl) ?_ _
                go_wp2_with fail
                go_meet
                exact ⟨gv,rfl,rfl,pPa,pPm,pPc,pQa,pQm,pQc,pVa,pVm,pVc,HV9⟩
            · intro K hK
              simp only [List.getElem_toArray,List.getElem_cons_succ,List.getElem_cons_zero]
              go_simp
              have hb:=(Below.refl wd.heap.size wd).alloc (Nat.le_refl _) (.cells #[.int .i64 0,.slice none 0 0,.slice none 0 0,.slice none 0 0] 32)
              have hgv:=heap_alloc_new wd (.cells #[.int .i64 0,.slice none 0 0,.slice none 0 0,.slice none 0 0] 32)
              have hgvz:w28.heap.size ≤ wd.heap.size:=HBX0
              replace HBX:=Lib.hid (HBX.out.trans (hb.mono HBX0));replace HBX0:=Nat.le_trans HBX0 hb.size
              have HRV:=Lib.hid hgv
              refine hK _ _ (fun _=>HS.out _ HBX.out) ?_
              clear hK K hS hgv hb
              try simp only [Act.put,List.getElem_toArray,List.getElem_cons_succ,List.getElem_cons_zero,List.setIfInBounds_toArray,List.set_cons_zero,List.set_cons_succ]
              generalize wd.alloc (.cells #[.int .i64 0,.slice none 0 0,.slice none 0 0,.slice none 0 0] 32) = wn31 at *
              generalize wd.heap.size = gv at *
              have hS:=(HS.out wn31 HBX.out:(fun w'=>(∀ j v,(#[.int .i64 p.1.id,.int .i64 p.1.kind,.int .i64 p.1.mr,.int .i64 p.1.md,.slice pa pm pc]:Array Value)[j]? = some v → w'.cell? ⟨gL,k * 5 + j,none⟩ = some v) ∧ (∀ j v,(#[.int .i64 cZ.id,.slice za1 cZ.rep.length zac1,.slice za2 cZ.df.length zac2,.slice za3 cZ.vals.length zac3]:Array Value)[j]? = some v → w'.cell? ⟨bz,oz + k * 4 + j,none⟩ = some v)) wn31)
              refine AnyE.one (i:=4) (by kernel_rfl) rfl rfl ?_
              intro K hK
              simp only [List.getElem_toArray,List.getElem_cons_succ,List.getElem_cons_zero]
              go_simp
              refine (HOLF.out wn31 HBX.out).mono ?_;rintro e wn32 ⟨⟨uf,rfl,hlf⟩,hb⟩
              replace HBX:=Lib.hid (HBX.out.trans (hb.mono HBX0));replace HBX0:=Nat.le_trans HBX0 hb.size
              replace HRV:=Lib.hid (row_keep hb HRV.out)
              have HLF:=Lib.hid hlf
              refine hK _ _ (fun _=>HS.out _ HBX.out) ?_
              clear hK K hS hlf hb
              try simp only [Act.put,List.getElem_toArray,List.getElem_cons_succ,List.getElem_cons_zero,List.setIfInBounds_toArray,List.set_cons_zero,List.set_cons_succ]
              have hS:=(HS.out wn32 HBX.out:(fun w'=>(∀ j v,(#[.int .i64 p.1.id,.int .i64 p.1.kind,.int .i64 p.1.mr,.int .i64 p.1.md,.slice pa pm pc]:Array Value)[j]? = some v → w'.cell? ⟨gL,k * 5 + j,none⟩ = some v) ∧ (∀ j v,(#[.int .i64 cZ.id,.slice za1 cZ.rep.length zac1,.slice za2 cZ.df.length zac2,.slice za3 cZ.vals.length zac3]:Array Value)[j]? = some v → w'.cell? ⟨bz,oz + k * 4 + j,none⟩ = some v)) wn32)
              refine AnyE.one (i:=10) (by kernel_rfl) rfl rfl ?_
              intro K hK
              simp only [List.getElem_toArray,List.getElem_cons_succ,List.getElem_cons_zero]
              go_simp
              refine (HPC.out wn32 HBX.out _ HLF.out).mono ?_;rintro e wn33 ⟨pPa,pPm,pPc,pQa,pQm,pQc,pVa,pVm,pVc,rfl,hjc,hb⟩
              have hjq:=hjc.base HBX0
              replace HBX:=Lib.hid (HBX.out.trans (hb.mono HBX0));replace HBX0:=Nat.le_trans HBX0 hb.size
              replace HLF:=Lib.hid (HLF.out.below hb (Nat.le_refl _))
              replace HRV:=Lib.hid (row_keep hb HRV.out)
              have HJC:=Lib.hid hjq
              refine hK _ _ (fun h=>absurd h (by decide)) ?_
              clear hK K hS hjc hjq hb
              try simp only [Act.put,List.getElem_toArray,List.getElem_cons_succ,List.getElem_cons_zero,List.setIfInBounds_toArray,List.set_cons_zero,List.set_cons_succ]
              have hS:=(HS.out wn33 HBX.out:(fun w'=>(∀ j v,(#[.int .i64 p.1.id,.int .i64 p.1.kind,.int .i64 p.1.mr,.int .i64 p.1.md,.slice pa pm pc]:Array Value)[j]? = some v → w'.cell? ⟨gL,k * 5 + j,none⟩ = some v) ∧ (∀ j v,(#[.int .i64 cZ.id,.slice za1 cZ.rep.length zac1,.slice za2 cZ.df.length zac2,.slice za3 cZ.vals.length zac3]:Array Value)[j]? = some v → w'.cell? ⟨bz,oz + k * 4 + j,none⟩ = some v)) wn33)
              refine AnyE.takeL (i:=11) (v:=?_) rfl (by kernel_rfl) (by kernel_rfl) (by kernel_rfl) (by kernel_rfl) (by kernel_rfl) (fun _ _ _ h=>h) (Or.inl ⟨by rfl,?_⟩) hS ?_
              rotate_left
              focus (intro wq hSq;obtain ⟨hS1,hS2⟩:=hSq;go_simp;with_reducible rfl)
              try simp only [Act.put,List.getElem_toArray,List.getElem_cons_succ,List.getElem_cons_zero,List.setIfInBounds_toArray,List.set_cons_zero,List.set_cons_succ]
              refine AnyE.takeP (i:=13) (v:=?_) rfl (by kernel_rfl) (by kernel_rfl) (by kernel_rfl) (by kernel_rfl) (fun _ _ _ h=>h) (Or.inl ⟨by rfl,?_⟩) ?_
              rotate_left
              focus (intro wq hSq;go_simp;with_reducible rfl)
              try simp only [Act.put,List.getElem_toArray,List.getElem_cons_succ,List.getElem_cons_zero,List.setIfInBounds_toArray,List.set_cons_zero,List.set_cons_succ]
              refine AnyE.takeL (i:=12) (v:=?_) rfl (by kernel_rfl) (by kernel_rfl) (by kernel_rfl) (by kernel_rfl) (by kernel_rfl) (fun _ _ _ h=>h) (Or.inl ⟨by rfl,?_⟩) hS ?_
              rotate_left
              focus (intro wq hSq;obtain ⟨hS1,hS2⟩:=hSq;go_simp;with_reducible rfl)
              try simp only [Act.put,List.getElem_toArray,List.getElem_cons_succ,List.getElem_cons_zero,List.setIfInBounds_toArray,List.set_cons_zero,List.set_cons_succ]
              refine AnyE.one (i:=15) (by kernel_rfl) rfl rfl ?_
              intro K hK
              simp only [List.getElem_toArray,List.getElem_cons_succ,List.getElem_cons_zero]
              refine wp_store_part rfl 32 _ _ rfl gv 0 #[.int .i64 0,.slice none 0 0,.slice none 0 0,.slice none 0 0] 32 #[.int .i64 cP.id,.slice pPa pPm pPc,.slice pQa pQm pQc,.slice pVa pVm pVc] rfl rfl HRV.out (by kernel_rfl) (by simp [Value.oneCell']) (Nat.le_of_ble_eq_true rfl) #[.int .i64 cP.id,.slice pPa pPm pPc,.slice pQa pQm pQc,.slice pVa pVm pVc] rfl ?_;intro w9 r9 ho9 hb9 hz9
              refine hK _ _ (fun h=>absurd h (by decide)) ?_
              clear hK K hS
              try simp only [Act.put,List.getElem_toArray,List.getElem_cons_succ,List.getElem_cons_zero,List.setIfInBounds_toArray,List.set_cons_zero,List.set_cons_succ]
              have HV9:=Lib.hid (VarAt.store HJC.out HRV.out r9 ho9 hb9 HBX.out hgvz)
              clear r9 ho9 hb9 hz9 HJC HRV HBX HBX0 HLF
              refine AnyE.one (i:=16) (by kernel_rfl) rfl rfl ?_
              intro K hK
              simp only [List.getElem_toArray,List.getElem_cons_succ,List.getElem_cons_zero]
              go_simp
              refine hK _ _ (fun h=>absurd h (by decide)) ?_
              clear hK K
              try simp only [Act.put,List.getElem_toArray,List.getElem_cons_succ,List.getElem_cons_zero,List.setIfInBounds_toArray,List.set_cons_zero,List.set_cons_succ]
              refine AnyE.done (by kernel_rfl) ?_ _
              go_wp2_with fail
              go_meet
              exact ⟨gv,rfl,rfl,pPa,pPm,pPc,pQa,pQm,pQc,pVa,pVm,pVc,HV9⟩
        case rest =>
          obtain ⟨gp,hsa,hsb,pPa,pPm,pPc,pQa,pQm,pQc,pVa,pVm,pVc,HVP⟩:=hcut
          subst hsa hsb
          obtain ⟨w31,hwn⟩:∃ x,x = wc:=⟨_,rfl⟩
          subst hwn
          as_aux_lemma =>
          replace HVJ2:=Lib.hid (HVJ2.out.below HVP.out.2.2.1)
          have hq31:=HVJ2.out.2.2.1
          go_upto_region 32 with fail
          go_cut [27,28] (fun sa sb wx=>∃ gr:Nat,sa = .pointer (some ⟨gr,0,none⟩) ∧ sb = .nilIface ∧ ∃ (rPa:Option Addr) (rPm rPc:Nat) (rQa:Option Addr) (rQm rQc:Nat) (rVa:Option Addr) (rVm rVc:Nat),Hid (VarAt w31 wx gr cR rPa rPm rPc rQa rQm rQc rVa rVm rVc))
          case first =>
            as_aux_lemma =>
              have HS:=Lib.hid (show ∀ w',Below w31.heap.size w31 w' → ((∀ j v,(#[.int .i64 p.1.id,.int .i64 p.1.kind,.int .i64 p.1.mr,.int .i64 p.1.md,.slice pa pm pc]:Array Value)[j]? = some v → w'.cell? ⟨gL,k * 5 + j,none⟩ = some v) ∧ (∀ j v,(#[.int .i64 cZ.id,.slice za1 cZ.rep.length zac1,.slice za2 cZ.df.length zac2,.slice za3 cZ.vals.length zac3]:Array Value)[j]? = some v → w'.cell? ⟨bz,oz + k * 4 + j,none⟩ = some v)) from fun w' h=>⟨HLC.out w' (hq31.trans (h.mono hq31.size)),HZC.out w' (hq31.trans (h.mono hq31.size))⟩)
              have HOLF:=Lib.hid (fun (w1:World) (h:Below w31.heap.size w31 w1)=>HOLF.out w1 (hq31.trans (h.mono hq31.size)))
              have HPC:=Lib.hid (fun (w1:World) (h:Below w31.heap.size w31 w1)=>HP2.out w1 (hq31.trans (h.mono hq31.size)))
              refine AnyE.region (S:=fun w'=>(∀ j v,(#[.int .i64 p.1.id,.int .i64 p.1.kind,.int .i64 p.1.mr,.int .i64 p.1.md,.slice pa pm pc]:Array Value)[j]? = some v → w'.cell? ⟨gL,k * 5 + j,none⟩ = some v) ∧ (∀ j v,(#[.int .i64 cZ.id,.slice za1 cZ.rep.length zac1,.slice za2 cZ.df.length zac2,.slice za3 cZ.vals.length zac3]:Array Value)[j]? = some v → w'.cell? ⟨bz,oz + k * 4 + j,none⟩ = some v)) (E:=[12,15,17,18]) (by kernel_rfl) ?_
              have hbd:=(Below.refl w31.heap.size w31).drew
              have HBX:=Lib.hid hbd;have HBX0:w31.heap.size ≤ w31.drew.heap.size:=hbd.size
              clear hbd
              generalize w31.drew = wd at *
              have hS:=(HS.out wd HBX.out:(fun w'=>(∀ j v,(#[.int .i64 p.1.id,.int .i64 p.1.kind,.int .i64 p.1.mr,.int .i64 p.1.md,.slice pa pm pc]:Array Value)[j]? = some v → w'.cell? ⟨gL,k * 5 + j,none⟩ = some v) ∧ (∀ j v,(#[.int .i64 cZ.id,.slice za1 cZ.rep.length zac1,.slice za2 cZ.df.length zac2,.slice za3 cZ.vals.length zac3]:Array Value)[j]? = some v → w'.cell? ⟨bz,oz + k * 4 + j,none⟩ = some v)) wd)
              refine AnyE.takeL (i:=0) (v:=?_) rfl (by kernel_rfl) (by kernel_rfl) (by kernel_rfl) (by kernel_rfl) (by kernel_rfl) (fun _ _ _ h=>h) (Or.inl ⟨by rfl,?_⟩) hS ?_
              rotate_left
              focus (intro wq hSq;obtain ⟨hS1,hS2⟩:=hSq;go_simp;with_reducible rfl)
              try simp only [Act.put,List.getElem_toArray,List.getElem_cons_succ,List.getElem_cons_zero,List.setIfInBounds_toArray,List.set_cons_zero,List.set_cons_succ]
              refine AnyE.takeL (i:=1) (v:=?_) rfl (by kernel_rfl) (by kernel_rfl) (by kernel_rfl) (by kernel_rfl) (by kernel_rfl) (fun _ _ _ h=>h) (Or.inl ⟨by rfl,?_⟩) hS ?_
              rotate_left
              focus (intro wq hSq;obtain ⟨hS1,hS2⟩:=hSq;go_simp;with_reducible rfl)
              try simp only [Act.put,List.getElem_toArray,List.getElem_cons_succ,List.getElem_cons_zero,List.setIfInBounds_toArray,List.set_cons_zero,List.set_cons_succ]
              refine AnyE.takeL (i:=2) (v:=?_) rfl (by kernel_rfl) (by kernel_rfl) (by kernel_rfl) (by kernel_rfl) (by kernel_rfl) (fun _ _ _ h=>h) (Or.inl ⟨by rfl,?_⟩) hS ?_
              rotate_left
              focus (intro wq hSq;obtain ⟨hS1,hS2⟩:=hSq;go_simp;with_reducible rfl)
              try simp only [Act.put,List.getElem_toArray,List.getElem_cons_succ,List.getElem_cons_zero,List.setIfInBounds_toArray,List.set_cons_zero,List.set_cons_succ]
              refine AnyE.takeL (i:=3) (v:=.agg #[.int .i64 p.1.id,.int .i64 p.1.kind,.int .i64 p.1.mr,.int .i64 p.1.md,.slice pa pm pc]) rfl (by kernel_rfl) (by kernel_rfl) (by kernel_rfl) (by kernel_rfl) (by kernel_rfl) (fun _ _ _ h=>h) (yields_load 24 _ rfl rfl gL (k * 5) rfl #[.int .i64 p.1.id,.int .i64 p.1.kind,.int .i64 p.1.mr,.int .i64 p.1.md,.slice pa pm pc] _ (fun w h=>h.1) Tryd.underlying24 rfl (by kernel_rfl)) hS ?_
              try simp only [Act.put,List.getElem_toArray,List.getElem_cons_succ,List.getElem_cons_zero,List.setIfInBounds_toArray,List.set_cons_zero,List.set_cons_succ]
              refine AnyE.takeL (i:=5) (v:=?_) rfl (by kernel_rfl) (by kernel_rfl) (by kernel_rfl) (by kernel_rfl) (by kernel_rfl) (fun _ _ _ h=>h) (Or.inl ⟨by rfl,?_⟩) hS ?_
              rotate_left
              focus (intro wq hSq;obtain ⟨hS1,hS2⟩:=hSq;go_simp;with_reducible rfl)
              try simp only [Act.put,List.getElem_toArray,List.getElem_cons_succ,List.getElem_cons_zero,List.setIfInBounds_toArray,List.set_cons_zero,List.set_cons_succ]
              refine AnyE.takeL (i:=6) (v:=?_) rfl (by kernel_rfl) (by kernel_rfl) (by kernel_rfl) (by kernel_rfl) (by kernel_rfl) (fun _ _ _ h=>h) (Or.inl ⟨by rfl,?_⟩) hS ?_
              rotate_left
              focus (intro wq hSq;obtain ⟨hS1,hS2⟩:=hSq;go_simp;with_reducible rfl)
              try simp only [Act.put,List.getElem_toArray,List.getElem_cons_succ,List.getElem_cons_zero,List.setIfInBounds_toArray,List.set_cons_zero,List.set_cons_succ]
              refine AnyE.takeL (i:=7) (v:=?_) rfl (by kernel_rfl) (by kernel_rfl) (by kernel_rfl) (by kernel_rfl) (by kernel_rfl) (fun _ _ _ h=>h) (Or.inl ⟨by rfl,?_⟩) hS ?_
              rotate_left
              focus (intro wq hSq;obtain ⟨hS1,hS2⟩:=hSq;go_simp;with_reducible rfl)
              try simp only [Act.put,List.getElem_toArray,List.getElem_cons_succ,List.getElem_cons_zero,List.setIfInBounds_toArray,List.set_cons_zero,List.set_cons_succ]
              refine AnyE.takeL (i:=8) (v:=.agg #[.int .i64 cZ.id,.slice za1 cZ.rep.length zac1,.slice za2 cZ.df.length zac2,.slice za3 cZ.vals.length zac3]) rfl (by kernel_rfl) (by kernel_rfl) (by kernel_rfl) (by kernel_rfl) (by kernel_rfl) (fun _ _ _ h=>h) (yields_load 32 _ rfl rfl bz (oz + k * 4) rfl #[.int .i64 cZ.id,.slice za1 cZ.rep.length zac1,.slice za2 cZ.df.length zac2,.slice za3 cZ.vals.length zac3] _ (fun w h=>h.2) Tryd.underlying32 rfl (by kernel_rfl)) hS ?_
              try simp only [Act.put,List.getElem_toArray,List.getElem_cons_succ,List.getElem_cons_zero,List.setIfInBounds_toArray,List.set_cons_zero,List.set_cons_succ]
              refine AnyE.takeL (i:=9) (v:=?_) rfl (by kernel_rfl) (by kernel_rfl) (by kernel_rfl) (by kernel_rfl) (by kernel_rfl) (fun _ _ _ h=>h) (Or.inl ⟨by rfl,?_⟩) hS ?_
              rotate_left
              focus (intro wq hSq;obtain ⟨hS1,hS2⟩:=hSq;go_simp;with_reducible rfl)
              try simp only [Act.put,List.getElem_toArray,List.getElem_cons_succ,List.getElem_cons_zero,List.setIfInBounds_toArray,List.set_cons_zero,List.set_cons_succ]
              refine AnyE.takeL (i:=10) (v:=?_) rfl (by kernel_rfl) (by kernel_rfl) (by kernel_rfl) (by kernel_rfl) (by kernel_rfl) (fun _ _ _ h=>h) (Or.inl ⟨by rfl,?_⟩) hS ?_
              rotate_left
              focus (intro wq hSq;obtain ⟨hS1,hS2⟩:=hSq;go_simp;with_reducible rfl)
              try simp only [Act.put,List.getElem_toArray,List.getElem_cons_succ,List.getElem_cons_zero,List.setIfInBounds_toArray,List.set_cons_zero,List.set_cons_succ]
              refine AnyE.takeL (i:=11) (v:=?_) rfl (by kernel_rfl) (by kernel_rfl) (by kernel_rfl) (by kernel_rfl) (by kernel_rfl) (fun _ _ _ h=>h) (Or.inl ⟨by rfl,?_⟩) hS ?_
              rotate_left
              focus (intro wq hSq;obtain ⟨hS1,hS2⟩:=hSq;go_simp;with_reducible rfl)
              try simp only [Act.put,List.getElem_toArray,List.getElem_cons_succ,List.getElem_cons_zero,List.setIfInBounds_toArray,List.set_cons_zero,List.set_cons_succ]
              refine AnyE.two (i:=4) (j:=16) (by kernel_rfl) rfl rfl rfl rfl ?_ ?_
              · intro K hK
                simp only [List.getElem_toArray,List.getElem_cons_succ,List.getElem_cons_zero]
                go_simp
                refine (HOLF.out wd HBX.out).mono ?_;rintro e wn34 ⟨⟨uf,rfl,hlf⟩,hb⟩
                replace HBX:=Lib.hid (HBX.out.trans (hb.mono HBX0));replace HBX0:=Nat.le_trans HBX0 hb.size
                have HLF:=Lib.hid hlf
                refine hK _ _ (fun _=>HS.out _ HBX.out) ?_
                clear hK K hS hlf hb
                try simp only [Act.put,List.getElem_toArray,List.getElem_cons_succ,List.getElem_cons_zero,List.setIfInBounds_toArray,List.set_cons_zero,List.set_cons_succ]
                have hS:=(HS.out wn34 HBX.out:(fun w'=>(∀ j v,(#[.int .i64 p.1.id,.int .i64 p.1.kind,.int .i64 p.1.mr,.int .i64 p.1.md,.slice pa pm pc]:Array Value)[j]? = some v → w'.cell? ⟨gL,k * 5 + j,none⟩ = some v) ∧ (∀ j v,(#[.int .i64 cZ.id,.slice za1 cZ.rep.length zac1,.slice za2 cZ.df.length zac2,.slice za3 cZ.vals.length zac3]:Array Value)[j]? = some v → w'.cell? ⟨bz,oz + k * 4 + j,none⟩ = some v)) wn34)
                refine AnyE.two (i:=12) (j:=16) (by kernel_rfl) rfl rfl rfl rfl ?_ ?_
                · intro K hK
                  simp only [List.getElem_toArray,List.getElem_cons_succ,List.getElem_cons_zero]
                  go_simp
                  refine (HPC.out wn34 HBX.out _ HLF.out).mono ?_;rintro e wn35 ⟨rPa,rPm,rPc,rQa,rQm,rQc,rVa,rVm,rVc,rfl,hjc,hb⟩
                  have hjq:=hjc.base HBX0
                  replace HBX:=Lib.hid (HBX.out.trans (hb.mono HBX0));replace HBX0:=Nat.le_trans HBX0 hb.size
                  replace HLF:=Lib.hid (HLF.out.below hb (Nat.le_refl _))
                  have HJC:=Lib.hid hjq
                  refine hK _ _ (fun h=>absurd h (by decide)) ?_
                  clear hK K hS hjc hjq hb
                  try simp only [Act.put,List.getElem_toArray,List.getElem_cons_succ,List.getElem_cons_zero,List.setIfInBounds_toArray,List.set_cons_zero,List.set_cons_succ]
                  have hS:=(HS.out wn35 HBX.out:(fun w'=>(∀ j v,(#[.int .i64 p.1.id,.int .i64 p.1.kind,.int .i64 p.1.mr,.int .i64 p.1.md,.slice pa pm pc]:Array Value)[j]? = some v → w'.cell? ⟨gL,k * 5 + j,none⟩ = some v) ∧ (∀ j v,(#[.int .i64 cZ.id,.slice za1 cZ.rep.length zac1,.slice za2 cZ.df.length zac2,.slice za3 cZ.vals.length zac3]:Array Value)[j]? = some v → w'.cell? ⟨bz,oz + k * 4 + j,none⟩ = some v)) wn35)
                  refine AnyE.takeL (i:=13) (v:=?_) rfl (by kernel_rfl) (by kernel_rfl) (by kernel_rfl) (by kernel_rfl) (by kernel_rfl) (fun _ _ _ h=>h) (Or.inl ⟨by rfl,?_⟩) hS ?_
                  rotate_left
                  focus (intro wq hSq;obtain ⟨hS1,hS2⟩:=hSq;go_simp;with_reducible rfl)
                  try simp only [Act.put,List.getElem_toArray,List.getElem_cons_succ,List.getElem_cons_zero,List.setIfInBounds_toArray,List.set_cons_zero,List.set_cons_succ]
                  refine AnyE.takeP (i:=15) (v:=?_) rfl (by kernel_rfl) (by kernel_rfl) (by kernel_rfl) (by kernel_rfl) (fun _ _ _ h=>h) (Or.inl ⟨by rfl,?_⟩) ?_
                  rotate_left
                  focus (intro wq hSq;go_simp;with_reducible rfl)
                  try simp only [Act.put,List.getElem_toArray,List.getElem_cons_succ,List.getElem_cons_zero,List.setIfInBounds_toArray,List.set_cons_zero,List.set_cons_succ]
                  refine AnyE.takeL (i:=14) (v:=?_) rfl (by kernel_rfl) (by kernel_rfl) (by kernel_rfl) (by kernel_rfl) (by kernel_rfl) (fun _ _ _ h=>h) (Or.inl ⟨by rfl,?_⟩) hS ?_
                  rotate_left
                  focus (intro wq hSq;obtain ⟨hS1,hS2⟩:=hSq;go_simp;with_reducible rfl)
                  try simp only [Act.put,List.getElem_toArray,List.getElem_cons_succ,List.getElem_cons_zero,List.setIfInBounds_toArray,List.set_cons_zero,List.set_cons_succ]
                  refine AnyE.one (i:=16) (by kernel_rfl) rfl rfl ?_
                  intro K hK
                  simp only [List.getElem_toArray,List.getElem_cons_succ,List.getElem_cons_zero]
                  go_simp
                  have hb:=(Below.refl wn35.heap.size wn35).alloc (Nat.le_refl _) (.cells #[.int .i64 0,.slice none 0 0,.slice none 0 0,.slice none 0 0] 32)
                  have hgv:=heap_alloc_new wn35 (.cells #[.int .i64 0,.slice none 0 0,.slice none 0 0,.slice none 0 0] 32)
                  have hgvz:w31.heap.size ≤ wn35.heap.size:=HBX0
                  replace HBX:=Lib.hid (HBX.out.trans (hb.mono HBX0));replace HBX0:=Nat.le_trans HBX0 hb.size
                  replace HJC:=Lib.hid (HJC.out.belowS hb)
                  have HRV:=Lib.hid hgv
                  refine hK _ _ (fun _=>HS.out _ HBX.out) ?_
                  clear hK K hS hgv hb
                  try simp only [Act.put,List.getElem_toArray,List.getElem_cons_succ,List.getElem_cons_zero,List.setIfInBounds_toArray,List.set_cons_zero,List.set_cons_succ]
                  generalize wn35.alloc (.cells #[.int .i64 0,.slice none 0 0,.slice none 0 0,.slice none 0 0] 32) = wn36 at *
                  generalize wn35.heap.size = gv at *
                  have hS:=(HS.out wn36 HBX.out:(fun w'=>(∀ j v,(#[.int .i64 p.1.id,.int .i64 p.1.kind,.int .i64 p.1.mr,.int .i64 p.1.md,.slice pa pm pc]:Array Value)[j]? = some v → w'.cell? ⟨gL,k * 5 + j,none⟩ = some v) ∧ (∀ j v,(#[.int .i64 cZ.id,.slice za1 cZ.rep.length zac1,.slice za2 cZ.df.length zac2,.slice za3 cZ.vals.length zac3]:Array Value)[j]? = some v → w'.cell? ⟨bz,oz + k * 4 + j,none⟩ = some v)) wn36)
                  refine AnyE.one (i:=17) (by kernel_rfl) rfl rfl ?_
                  intro K hK
                  simp only [List.getElem_toArray,List.getElem_cons_succ,List.getElem_cons_zero]
                  refine wp_store_part rfl 32 _ _ rfl gv 0 #[.int .i64 0,.slice none 0 0,.slice none 0 0,.slice none 0 0] 32 #[.int .i64 cR.id,.slice rPa rPm rPc,.slice rQa rQm rQc,.slice rVa rVm rVc] rfl rfl HRV.out (by kernel_rfl) (by simp [Value.oneCell']) (Nat.le_of_ble_eq_true rfl) #[.int .i64 cR.id,.slice rPa rPm rPc,.slice rQa rQm rQc,.slice rVa rVm rVc] rfl ?_;intro w9 r9 ho9 hb9 hz9
                  refine hK _ _ (fun h=>absurd h (by decide)) ?_
                  clear hK K hS
                  try simp only [Act.put,List.getElem_toArray,List.getElem_cons_succ,List.getElem_cons_zero,List.setIfInBounds_toArray,List.set_cons_zero,List.set_cons_succ]
                  have HV9:=Lib.hid (VarAt.store HJC.out HRV.out r9 ho9 hb9 HBX.out hgvz)
                  clear r9 ho9 hb9 hz9 HJC HRV HBX HBX0 HLF
                  refine AnyE.one (i:=18) (by kernel_rfl) rfl rfl ?_
                  intro K hK
                  simp only [List.getElem_toArray,List.getElem_cons_succ,List.getElem_cons_zero]
                  go_simp
                  refine hK _ _ (fun h=>absurd h (by decide)) ?_
                  clear hK K
                  try simp only [Act.put,List.getElem_toArray,List.getElem_cons_succ,List.getElem_cons_zero,List.setIfInBounds_toArray,List.set_cons_zero,List.set_cons_succ]
                  refine AnyE.done (by kernel_rfl) ?_ _
                  go_wp2_with fail
                  go_meet
                  exact ⟨gv,rfl,rfl,rPa,rPm,rPc,rQa,rQm,rQc,rVa,rVm,rVc,HV9⟩
                · intro K hK
                  simp only [List.getElem_toArray,List.getElem_cons_succ,List.getElem_cons_zero]
                  go_simp
                  have hb:=(Below.refl wn34.heap.size wn34).alloc (Nat.le_refl _) (.cells #[.int .i64 0,.slice none 0 0,.slice none 0 0,.slice none 0 0] 32)
                  have hgv:=heap_alloc_new wn34 (.cells #[.int .i64 0,.slice none 0 0,.slice none 0 0,.slice none 0 0] 32)
                  have hgvz:w31.heap.size ≤ wn34.heap.size:=HBX0
                  replace HBX:=Lib.hid (HBX.out.trans (hb.mono HBX0));replace HBX0:=Nat.le_trans HBX0 hb.size
                  replace HLF:=Lib.hid (HLF.out.below hb (Nat.le_refl _))
                  have HRV:=Lib.hid hgv
                  refine hK _ _ (fun _=>HS.out _ HBX.out) ?_
                  clear hK K hS hgv hb
                  try simp only [Act.put,List.getElem_toArray,List.getElem_cons_succ,List.getElem_cons_zero,List.setIfInBounds_toArray,List.set_cons_zero,List.set_cons_succ]
                  generalize wn34.alloc (.cells #[.int .i64 0,.slice none 0 0,.slice none 0 0,.slice none 0 0] 32) = wn37 at *
                  generalize wn34.heap.size = gv at *
                  have hS:=(HS.out wn37 HBX.out:(fun w'=>(∀ j v,(#[.int .i64 p.1.id,.int .i64 p.1.kind,.int .i64 p.1.mr,.int .i64 p.1.md,.slice pa pm pc]:Array Value)[j]? = some v → w'.cell? ⟨gL,k * 5 + j,none⟩ = some v) ∧ (∀ j v,(#[.int .i64 cZ.id,.slice za1 cZ.rep.length zac1,.slice za2 cZ.df.length zac2,.slice za3 cZ.vals.length zac3]:Array Value)[j]? = some v → w'.cell? ⟨bz,oz + k * 4 + j,none⟩ = some v)) wn37)
                  refine AnyE.one (i:=12) (by kernel_rfl) rfl rfl ?_
                  intro K hK
                  simp only [List.getElem_toArray,List.getElem_cons_succ,List.getElem_cons_zero]
                  go_simp
                  refine (HPC.out wn37 HBX.out _ HLF.out).mono ?_;rintro e wn38 ⟨rPa,rPm,rPc,rQa,rQm,rQc,rVa,rVm,rVc,rfl,hjc,hb⟩
                  have hjq:=hjc.base HBX0
                  replace HBX:=Lib.hid (HBX.out.trans (hb.mono HBX0));replace HBX0:=Nat.le_trans HBX0 hb.size
                  replace HLF:=Lib.hid (HLF.out.below hb (Nat.le_refl _))
                  replace HRV:=Lib.hid (row_keep hb HRV.out)
                  have HJC:=Lib.hid hjq
                  refine hK _ _ (fun h=>absurd h (by decide)) ?_
                  clear hK K hS hjc hjq hb
                  try simp only [Act.put,List.getElem_toArray,List.getElem_cons_succ,List.getElem_cons_zero,List.setIfInBounds_toArray,List.set_cons_zero,List.set_cons_succ]
                  have hS:=(HS.out wn38 HBX.out:(fun w'=>(∀ j v,(#[.int .i64 p.1.id,.int .i64 p.1.kind,.int .i64 p.1.mr,.int .i64 p.1.md,.slice pa pm pc]:Array Value)[j]? = some v → w'.cell? ⟨gL,k * 5 + j,none⟩ = some v) ∧ (∀ j v,(#[.int .i64 cZ.id,.slice za1 cZ.rep.length zac1,.slice za2 cZ.df.length zac2,.slice za3 cZ.vals.length zac3]:Array Value)[j]? = some v → w'.cell? ⟨bz,oz + k * 4 + j,none⟩ = some v)) wn38)
                  refine AnyE.takeL (i:=13) (v:=?_) rfl (by kernel_rfl) (by kernel_rfl) (by kernel_rfl) (by kernel_rfl) (by kernel_rfl) (fun _ _ _ h=>h) (Or.inl ⟨by rfl,?_⟩) hS ?_
                  rotate_left
                  focus (intro wq hSq;obtain ⟨hS1,hS2⟩:=hSq;go_simp;with_reducible rfl)
                  try simp only [Act.put,List.getElem_toArray,List.getElem_cons_succ,List.getElem_cons_zero,List.setIfInBounds_toArray,List.set_cons_zero,List.set_cons_succ]
                  refine AnyE.takeP (i:=15) (v:=?_) rfl (by kernel_rfl) (by kernel_rfl) (by kernel_rfl) (by kernel_rfl) (fun _ _ _ h=>h) (Or.inl ⟨by rfl,?_⟩) ?_
                  rotate_left
                  focus (intro wq hSq;go_simp;with_reducible rfl)
                  try simp only [Act.put,List.getElem_toArray,List.getElem_cons_succ,List.getElem_cons_zero,List.setIfInBounds_toArray,List.set_cons_zero,List.set_cons_succ]
                  refine AnyE.takeL (i:=14) (v:=?_) rfl (by kernel_rfl) (by kernel_rfl) (by kernel_rfl) (by kernel_rfl) (by kernel_rfl) (fun _ _ _ h=>h) (Or.inl ⟨by rfl,?_⟩) hS ?_
                  rotate_left
                  focus (intro wq hSq;obtain ⟨hS1,hS2⟩:=hSq;go_simp;with_reducible rfl)
                  try simp only [Act.put,List.getElem_toArray,List.getElem_cons_succ,List.getElem_cons_zero,List.setIfInBounds_toArray,List.set_cons_zero,List.set_cons_succ]
                  refine AnyE.one (i:=17) (by kernel_rfl) rfl rfl ?_
                  intro K hK
                  simp only [List.getElem_toArray,List.getElem_cons_succ,List.getElem_cons_zero]
                  refine wp_store_part rfl 32 _ _ rfl gv 0 #[.int .i64 0,.slice none 0 0,.slice none 0 0,.slice none 0 0] 32 #[.int .i64 cR.id,.slice rPa rPm rPc,.slice rQa rQm rQc,.slice rVa rVm rVc] rfl rfl HRV.out (by kernel_rfl) (by simp [Value.oneCell']) (Nat.le_of_ble_eq_true rfl) #[.int .i64 cR.id,.slice rPa rPm rPc,.slice rQa rQm rQc,.slice rVa rVm rVc] rfl ?_;intro w9 r9 ho9 hb9 hz9
                  refine hK _ _ (fun h=>absurd h (by decide)) ?_
                  clear hK K hS
                  try simp only [Act.put,List.getElem_toArray,List.getElem_cons_succ,List.getElem_cons_zero,List.setIfInBounds_toArray,List.set_cons_zero,List.set_cons_succ]
                  have HV9:=Lib.hid (VarAt.store HJC.out HRV.out r9 ho9 hb9 HBX.out hgvz)
                  clear r9 ho9 hb9 hz9 HJC HRV HBX HBX0 HLF
                  refine AnyE.one (i:=18) (by kernel_rfl) rfl rfl ?_
                  intro K hK
                  simp only [List.getElem_toArray,List.getElem_cons_succ,List.getElem_cons_zero]
                  go_simp
                  refine hK _ _ (fun h=>absurd h (by decide)) ?_
                  clear hK K
                  try simp only [Act.put,List.getElem_toArray,List.getElem_cons_succ,List.getElem_cons_zero,List.setIfInBounds_toArray,List.set_cons_zero,List.set_cons_succ]
                  refine AnyE.done (by kernel_rfl) ?_ _
                  go_wp2_with fail
                  go_meet
                  exact ⟨gv,rfl,rfl,rPa,rPm,rPc,rQa,rQm,rQc,rVa,rVm,rVc,HV9⟩
              · intro K hK
                simp only [List.getElem_toArray,List.getElem_cons_succ,List.getElem_cons_zero]
                go_simp
                have hb:=(Below.refl wd.heap.size wd).alloc (Nat.le_refl _) (.cells #[.int .i64 0,.slice none 0 0,.slice none 0 0,.slice none 0 0] 32)
                have hgv:=heap_alloc_new wd (.cells #[.int .i64 0,.slice none 0 0,.slice none 0 0,.slice none 0 0] 32)
                have hgvz:w31.heap.size ≤ wd.heap.size:=HBX0
                replace HBX:=Lib.hid (HBX.out.trans (hb.mono HBX0));replace HBX0:=Nat.le_trans HBX0 hb.size
                have HRV:=Lib.hid hgv
                refine hK _ _ (fun _=>HS.out _ HBX.out) ?_
                clear hK K hS hgv hb
                try simp only [Act.put,List.getElem_toArray,List.getElem_cons_succ,List.getElem_cons_zero,List.setIfInBounds_toArray,List.set_cons_zero,List.set_cons_succ]
                generalize wd.alloc (.cells #[.int .i64 0,.slice none 0 0,.slice none 0 0,.slice none 0 0] 32) = wn39 at *
                generalize wd.heap.size = gv at *
                have hS:=(HS.out wn39 HBX.out:(fun w'=>(∀ j v,(#[.int .i64 p.1.id,.int .i64 p.1.kind,.int .i64 p.1.mr,.int .i64 p.1.md,.slice pa pm pc]:Array Value)[j]? = some v → w'.cell? ⟨gL,k * 5 + j,none⟩ = some v) ∧ (∀ j v,(#[.int .i64 cZ.id,.slice za1 cZ.rep.length zac1,.slice za2 cZ.df.length zac2,.slice za3 cZ.vals.length zac3]:Array Value)[j]? = some v → w'.cell? ⟨bz,oz + k * 4 + j,none⟩ = some v)) wn39)
                refine AnyE.one (i:=4) (by kernel_rfl) rfl rfl ?_
                intro K hK
                simp only [List.getElem_toArray,List.getElem_cons_succ,List.getElem_cons_zero]
                go_simp
                refine (HOLF.out wn39 HBX.out).mono ?_;rintro e wn40 ⟨⟨uf,rfl,hlf⟩,hb⟩
                replace HBX:=Lib.hid (HBX.out.trans (hb.mono HBX0));replace HBX0:=Nat.le_trans HBX0 hb.size
                replace HRV:=Lib.hid (row_keep hb HRV.out)
                have HLF:=Lib.hid hlf
                refine hK _ _ (fun _=>HS.out _ HBX.out) ?_
                clear hK K hS hlf hb
                try simp only [Act.put,List.getElem_toArray,List.getElem_cons_succ,List.getElem_cons_zero,List.setIfInBounds_toArray,List.set_cons_zero,List.set_cons_succ]
                have hS:=(HS.out wn40 HBX.out:(fun w'=>(∀ j v,(#[.int .i64 p.1.id,.int .i64 p.1.kind,.int .i64 p.1.mr,.int .i64 p.1.md,.slice pa pm pc]:Array Value)[j]? = some v → w'.cell? ⟨gL,k * 5 + j,none⟩ = some v) ∧ (∀ j v,(#[.int .i64 cZ.id,.slice za1 cZ.rep.length zac1,.slice za2 cZ.df.length zac2,.slice za3 cZ.vals.length zac3]:Array Value)[j]? = some v → w'.cell? ⟨bz,oz + k * 4 + j,none⟩ = some v)) wn40)
                refine AnyE.one (i:=12) (by kernel_rfl) rfl rfl ?_
                intro K hK
                simp only [List.getElem_toArray,List.getElem_cons_succ,List.getElem_cons_zero]
                go_simp
                refine (HPC.out wn40 HBX.out _ HLF.out).mono ?_;rintro e wn41 ⟨rPa,rPm,rPc,rQa,rQm,rQc,rVa,rVm,rVc,rfl,hjc,hb⟩
                have hjq:=hjc.base HBX0
                replace HBX:=Lib.hid (HBX.out.trans (hb.mono HBX0));replace HBX0:=Nat.le_trans HBX0 hb.size
                replace HLF:=Lib.hid (HLF.out.below hb (Nat.le_refl _))
                replace HRV:=Lib.hid (row_keep hb HRV.out)
                have HJC:=Lib.hid hjq
                refine hK _ _ (fun h=>absurd h (by decide)) ?_
                clear hK K hS hjc hjq hb
                try simp only [Act.put,List.getElem_toArray,List.getElem_cons_succ,List.getElem_cons_zero,List.setIfInBounds_toArray,List.set_cons_zero,List.set_cons_succ]
                have hS:=(HS.out wn41 HBX.out:(fun w'=>(∀ j v,(#[.int .i64 p.1.id,.int .i64 p.1.kind,.int .i64 p.1.mr,.int .i64 p.1.md,.slice pa pm pc]:Array Value)[j]? = some v → w'.cell? ⟨gL,k * 5 + j,none⟩ = some v) ∧ (∀ j v,(#[.int .i64 cZ.id,.slice za1 cZ.rep.length zac1,.slice za2 cZ.df.length zac2,.slice za3 cZ.vals.length zac3]:Array Value)[j]? = some v → w'.cell? ⟨bz,oz + k * 4 + j,none⟩ = some v)) wn41)
                refine AnyE.takeL (i:=13) (v:=?_) rfl (by kernel_rfl) (by kernel_rfl) (by kernel_rfl) (by kernel_rfl) (by kernel_rfl) (fun _ _ _ h=>h) (Or.inl ⟨by rfl,?_⟩) hS ?_
                rotate_left
                focus (intro wq hSq;obtain ⟨hS1,hS2⟩:=hSq;go_simp;with_reducible rfl)
                try simp only [Act.put,List.getElem_toArray,List.getElem_cons_succ,List.getElem_cons_zero,List.setIfInBounds_toArray,List.set_cons_zero,List.set_cons_succ]
                refine AnyE.takeP (i:=15) (v:=?_) rfl (by kernel_rfl) (by kernel_rfl) (by kernel_rfl) (by kernel_rfl) (fun _ _ _ h=>h) (Or.inl ⟨by rfl,?_⟩) ?_
                rotate_left
                focus (intro wq hSq;go_simp;with_reducible rfl)
                try simp only [Act.put,List.getElem_toArray,List.getElem_cons_succ,List.getElem_cons_zero,List.setIfInBounds_toArray,List.set_cons_zero,List.set_cons_succ]
                refine AnyE.takeL (i:=14) (v:=?_) rfl (by kernel_rfl) (by kernel_rfl) (by kernel_rfl) (by kernel_rfl) (by kernel_rfl) (fun _ _ _ h=>h) (Or.inl ⟨by rfl,?_⟩) hS ?_
                rotate_left
                focus (intro wq hSq;obtain ⟨hS1,hS2⟩:=hSq;go_simp;with_reducible rfl)
                try simp only [Act.put,List.getElem_toArray,List.getElem_cons_succ,List.getElem_cons_zero,List.setIfInBounds_toArray,List.set_cons_zero,List.set_cons_succ]
                refine AnyE.one (i:=17) (by kernel_rfl) rfl rfl ?_
                intro K hK
                simp only [List.getElem_toArray,List.getElem_cons_succ,List.getElem_cons_zero]
                refine wp_store_part rfl 32 _ _ rfl gv 0 #[.int .i64 0,.slice none 0 0,.slice none 0 0,.slice none 0 0] 32 #[.int .i64 cR.id,.slice rPa rPm rPc,.slice rQa rQm rQc,.slice rVa rVm rVc] rfl rfl HRV.out (by kernel_rfl) (by simp [Value.oneCell']) (Nat.le_of_ble_eq_true rfl) #[.int .i64 cR.id,.slice rPa rPm rPc,.slice rQa rQm rQc,.slice rVa rVm rVc] rfl ?_;intro w9 r9 ho9 hb9 hz9
                refine hK _ _ (fun h=>absurd h (by decide)) ?_
                clear hK K hS
                try simp only [Act.put,List.getElem_toArray,List.getElem_cons_succ,List.getElem_cons_zero,List.setIfInBounds_toArray,List.set_cons_zero,List.set_cons_succ]
                have HV9:=Lib.hid (VarAt.store HJC.out HRV.out r9 ho9 hb9 HBX.out hgvz)
                clear r9 ho9 hb9 hz9 HJC HRV HBX HBX0 HLF
                refine AnyE.one (i:=18) (by kernel_rfl) rfl rfl ?_
                intro K hK
                simp only [List.getElem_toArray,List.getElem_cons_succ,List.getElem_cons_zero]
                go_simp
                refine hK _ _ (fun h=>absurd h (by decide)) ?_
                clear hK K
                try simp only [Act.put,List.getElem_toArray,List.getElem_cons_succ,List.getElem_cons_zero,List.setIfInBounds_toArray,List.set_cons_zero,List.set_cons_succ]
                refine AnyE.done (by kernel_rfl) ?_ _
                go_wp2_with fail
                go_meet
                exact ⟨gv,rfl,rfl,rPa,rPm,rPc,rQa,rQm,rQc,rVa,rVm,rVc,HV9⟩
          case rest =>
            obtain ⟨gr,hsa,hsb,rPa,rPm,rPc,rQa,rQm,rQc,rVa,rVm,rVc,HVR⟩:=hcut
            subst hsa hsb
            obtain ⟨w32,hwn⟩:∃ x,x = wc:=⟨_,rfl⟩
            subst hwn
            as_aux_lemma =>
            replace HVJ2:=Lib.hid (HVJ2.out.below HVR.out.2.2.1);replace HVP:=Lib.hid (HVP.out.below HVR.out.2.2.1)
            have hq32:=HVJ2.out.2.2.1
            go_upto_region 33 with fail
            go_cut [29] (fun sa wx=>sa = .nilIface ∧ ∃ (tPa:Option Addr) (tPm tPc:Nat) (tQa:Option Addr) (tQm tQc:Nat) (tVa:Option Addr) (tVm tVc:Nat),Hid (VarAt wq wx gj cZ tPa tPm tPc tQa tQm tQc tVa tVm tVc))
            case first =>
              as_aux_lemma =>
                have HS:=Lib.hid (show ∀ w',Below w32.heap.size w32 w' → ((∀ j v,(#[.int .i64 p.1.id,.int .i64 p.1.kind,.int .i64 p.1.mr,.int .i64 p.1.md,.slice pa pm pc]:Array Value)[j]? = some v → w'.cell? ⟨gL,k * 5 + j,none⟩ = some v) ∧ (∀ j_1,w'.cell? ⟨gp,j_1,none⟩ = (#[.int .i64 cP.id,.slice pPa pPm pPc,.slice pQa pQm pQc,.slice pVa pVm pVc]:Array Value)[j_1]?) ∧ (∀ j_1,w'.cell? ⟨gr,j_1,none⟩ = (#[.int .i64 cR.id,.slice rPa rPm rPc,.slice rQa rQm rQc,.slice rVa rVm rVc]:Array Value)[j_1]?)) from fun w' h=>⟨HLC.out w' (hq32.trans (h.mono hq32.size)),rowc (row_keep h HVP.out.1),rowc (row_keep h HVR.out.1)⟩)
                have HOLF:=Lib.hid (fun (w1:World) (h:Below w32.heap.size w32 w1)=>HOLF.out w1 (hq32.trans (h.mono hq32.size)))
                have HPC:=Lib.hid (fun (w1:World) (h:Below w32.heap.size w32 w1)=>HP3.out w1 (hq32.trans (h.mono hq32.size)))
                refine AnyE.region (S:=fun w'=>(∀ j v,(#[.int .i64 p.1.id,.int .i64 p.1.kind,.int .i64 p.1.mr,.int .i64 p.1.md,.slice pa pm pc]:Array Value)[j]? = some v → w'.cell? ⟨gL,k * 5 + j,none⟩ = some v) ∧ (∀ j_1,w'.cell? ⟨gp,j_1,none⟩ = (#[.int .i64 cP.id,.slice pPa pPm pPc,.slice pQa pQm pQc,.slice pVa pVm pVc]:Array Value)[j_1]?) ∧ (∀ j_1,w'.cell? ⟨gr,j_1,none⟩ = (#[.int .i64 cR.id,.slice rPa rPm rPc,.slice rQa rQm rQc,.slice rVa rVm rVc]:Array Value)[j_1]?)) (E:=[8,11,12,13]) (by kernel_rfl) ?_
                have hbd:=(Below.refl w32.heap.size w32).drew
                have HBX:=Lib.hid hbd;have HBX0:w32.heap.size ≤ w32.drew.heap.size:=hbd.size
                clear hbd
                generalize w32.drew = wd at *
                have hS:=(HS.out wd HBX.out:(fun w'=>(∀ j v,(#[.int .i64 p.1.id,.int .i64 p.1.kind,.int .i64 p.1.mr,.int .i64 p.1.md,.slice pa pm pc]:Array Value)[j]? = some v → w'.cell? ⟨gL,k * 5 + j,none⟩ = some v) ∧ (∀ j_1,w'.cell? ⟨gp,j_1,none⟩ = (#[.int .i64 cP.id,.slice pPa pPm pPc,.slice pQa pQm pQc,.slice pVa pVm pVc]:Array Value)[j_1]?) ∧ (∀ j_1,w'.cell? ⟨gr,j_1,none⟩ = (#[.int .i64 cR.id,.slice rPa rPm rPc,.slice rQa rQm rQc,.slice rVa rVm rVc]:Array Value)[j_1]?)) wd)
                refine AnyE.takeL (i:=0) (v:=?_) rfl (by kernel_rfl) (by kernel_rfl) (by kernel_rfl) (by kernel_rfl) (by kernel_rfl) (fun _ _ _ h=>h) (Or.inl ⟨by rfl,?_⟩) hS ?_
                rotate_left
                focus (intro wq hSq;obtain ⟨hS1,hS2,hS3⟩:=hSq;go_simp;with_reducible rfl)
                try simp only [Act.put,List.getElem_toArray,List.getElem_cons_succ,List.getElem_cons_zero,List.setIfInBounds_toArray,List.set_cons_zero,List.set_cons_succ]
                refine AnyE.takeL (i:=1) (v:=?_) rfl (by kernel_rfl) (by kernel_rfl) (by kernel_rfl) (by kernel_rfl) (by kernel_rfl) (fun _ _ _ h=>h) (Or.inl ⟨by rfl,?_⟩) hS ?_
                rotate_left
                focus (intro wq hSq;obtain ⟨hS1,hS2,hS3⟩:=hSq;go_simp;with_reducible rfl)
                try simp only [Act.put,List.getElem_toArray,List.getElem_cons_succ,List.getElem_cons_zero,List.setIfInBounds_toArray,List.set_cons_zero,List.set_cons_succ]
                refine AnyE.takeL (i:=2) (v:=?_) rfl (by kernel_rfl) (by kernel_rfl) (by kernel_rfl) (by kernel_rfl) (by kernel_rfl) (fun _ _ _ h=>h) (Or.inl ⟨by rfl,?_⟩) hS ?_
                rotate_left
                focus (intro wq hSq;obtain ⟨hS1,hS2,hS3⟩:=hSq;go_simp;with_reducible rfl)
                try simp only [Act.put,List.getElem_toArray,List.getElem_cons_succ,List.getElem_cons_zero,List.setIfInBounds_toArray,List.set_cons_zero,List.set_cons_succ]
                refine AnyE.takeL (i:=3) (v:=.agg #[.int .i64 p.1.id,.int .i64 p.1.kind,.int .i64 p.1.mr,.int .i64 p.1.md,.slice pa pm pc]) rfl (by kernel_rfl) (by kernel_rfl) (by kernel_rfl) (by kernel_rfl) (by kernel_rfl) (fun _ _ _ h=>h) (yields_load 24 _ rfl rfl gL (k * 5) rfl #[.int .i64 p.1.id,.int .i64 p.1.kind,.int .i64 p.1.mr,.int .i64 p.1.md,.slice pa pm pc] _ (fun w h=>h.1) Tryd.underlying24 rfl (by kernel_rfl)) hS ?_
                try simp only [Act.put,List.getElem_toArray,List.getElem_cons_succ,List.getElem_cons_zero,List.setIfInBounds_toArray,List.set_cons_zero,List.set_cons_succ]
                refine AnyE.takeL (i:=5) (v:=.agg #[.int .i64 cP.id,.slice pPa pPm pPc,.slice pQa pQm pQc,.slice pVa pVm pVc]) rfl (by kernel_rfl) (by kernel_rfl) (by kernel_rfl) (by kernel_rfl) (by kernel_rfl) (fun _ _ _ h=>h) (yields_load 32 _ rfl rfl gp (0) rfl #[.int .i64 cP.id,.slice pPa pPm pPc,.slice pQa pQm pQc,.slice pVa pVm pVc] _ (fun w h=>fun j v hj=>by rw [Nat.zero_add];exact (h.2.1 j).trans hj) Tryd.underlying32 rfl (by kernel_rfl)) hS ?_
                try simp only [Act.put,List.getElem_toArray,List.getElem_cons_succ,List.getElem_cons_zero,List.setIfInBounds_toArray,List.set_cons_zero,List.set_cons_succ]
                refine AnyE.takeL (i:=6) (v:=.agg #[.int .i64 cR.id,.slice rPa rPm rPc,.slice rQa rQm rQc,.slice rVa rVm rVc]) rfl (by kernel_rfl) (by kernel_rfl) (by kernel_rfl) (by kernel_rfl) (by kernel_rfl) (fun _ _ _ h=>h) (yields_load 32 _ rfl rfl gr (0) rfl #[.int .i64 cR.id,.slice rPa rPm rPc,.slice rQa rQm rQc,.slice rVa rVm rVc] _ (fun w h=>fun j v hj=>by rw [Nat.zero_add];exact (h.2.2 j).trans hj) Tryd.underlying32 rfl (by kernel_rfl)) hS ?_
                try simp only [Act.put,List.getElem_toArray,List.getElem_cons_succ,List.getElem_cons_zero,List.setIfInBounds_toArray,List.set_cons_zero,List.set_cons_succ]
                refine AnyE.two (i:=4) (j:=7) (by kernel_rfl) rfl rfl rfl rfl ?_ ?_
                · intro K hK
                  simp only [List.getElem_toArray,List.getElem_cons_succ,List.getElem_cons_zero]
                  go_simp
                  refine (HOLF.out wd HBX.out).mono ?_;rintro e wn42 ⟨⟨uf,rfl,hlf⟩,hb⟩
                  replace HBX:=Lib.hid (HBX.out.trans (hb.mono HBX0));replace HBX0:=Nat.le_trans HBX0 hb.size
                  have HLF:=Lib.hid hlf
                  refine hK _ _ (fun _=>HS.out _ HBX.out) ?_
                  clear hK K hS hlf hb
                  try simp only [Act.put,List.getElem_toArray,List.getElem_cons_succ,List.getElem_cons_zero,List.setIfInBounds_toArray,List.set_cons_zero,List.set_cons_succ]
                  have hS:=(HS.out wn42 HBX.out:(fun w'=>(∀ j v,(#[.int .i64 p.1.id,.int .i64 p.1.kind,.int .i64 p.1.mr,.int .i64 p.1.md,.slice pa pm pc]:Array Value)[j]? = some v → w'.cell? ⟨gL,k * 5 + j,none⟩ = some v) ∧ (∀ j_1,w'.cell? ⟨gp,j_1,none⟩ = (#[.int .i64 cP.id,.slice pPa pPm pPc,.slice pQa pQm pQc,.slice pVa pVm pVc]:Array Value)[j_1]?) ∧ (∀ j_1,w'.cell? ⟨gr,j_1,none⟩ = (#[.int .i64 cR.id,.slice rPa rPm rPc,.slice rQa rQm rQc,.slice rVa rVm rVc]:Array Value)[j_1]?)) wn42)
                  refine AnyE.one (i:=7) (by kernel_rfl) rfl rfl ?_
                  intro K hK
                  simp only [List.getElem_toArray,List.getElem_cons_succ,List.getElem_cons_zero]
                  refine wp_cols2 _ _ rfl _ _ _ _ _ _ _ _ rfl rfl ?_
                  have hb:=(Below.refl wn42.heap.size wn42).alloc (Nat.le_refl _) (.cells #[.int .i64 cP.id,.slice pPa pPm pPc,.slice pQa pQm pQc,.slice pVa pVm pVc,.int .i64 cR.id,.slice rPa rPm rPc,.slice rQa rQm rQc,.slice rVa rVm rVc] 32)
                  have hgl:=heap_alloc_new wn42 (.cells #[.int .i64 cP.id,.slice pPa pPm pPc,.slice pQa pQm pQc,.slice pVa pVm pVc,.int .i64 cR.id,.slice rPa rPm rPc,.slice rQa rQm rQc,.slice rVa rVm rVc] 32)
                  have hbq:=HBX.out.trans (hb.mono HBX0)
                  have htw:=cols_two hgl (HVP.out.2.1.below hbq (Nat.le_refl _)) (HVR.out.2.1.below hbq (Nat.le_refl _))
                  replace HBX:=Lib.hid (HBX.out.trans (hb.mono HBX0));replace HBX0:=Nat.le_trans HBX0 hb.size
                  replace HLF:=Lib.hid (HLF.out.below hb (Nat.le_refl _))
                  have HTW:=Lib.hid htw
                  refine hK _ _ (fun _=>HS.out _ HBX.out) ?_
                  clear hK K hS hgl htw hbq hb
                  try simp only [Act.put,List.getElem_toArray,List.getElem_cons_succ,List.getElem_cons_zero,List.setIfInBounds_toArray,List.set_cons_zero,List.set_cons_succ]
                  generalize wn42.alloc (.cells #[.int .i64 cP.id,.slice pPa pPm pPc,.slice pQa pQm pQc,.slice pVa pVm pVc,.int .i64 cR.id,.slice rPa rPm rPc,.slice rQa rQm rQc,.slice rVa rVm rVc] 32) = wn43 at *
                  generalize wn42.heap.size = gtw at *
                  have hS:=(HS.out wn43 HBX.out:(fun w'=>(∀ j v,(#[.int .i64 p.1.id,.int .i64 p.1.kind,.int .i64 p.1.mr,.int .i64 p.1.md,.slice pa pm pc]:Array Value)[j]? = some v → w'.cell? ⟨gL,k * 5 + j,none⟩ = some v) ∧ (∀ j_1,w'.cell? ⟨gp,j_1,none⟩ = (#[.int .i64 cP.id,.slice pPa pPm pPc,.slice pQa pQm pQc,.slice pVa pVm pVc]:Array Value)[j_1]?) ∧ (∀ j_1,w'.cell? ⟨gr,j_1,none⟩ = (#[.int .i64 cR.id,.slice rPa rPm rPc,.slice rQa rQm rQc,.slice rVa rVm rVc]:Array Value)[j_1]?)) wn43)
                  refine AnyE.one (i:=8) (by kernel_rfl) rfl rfl ?_
                  intro K hK
                  simp only [List.getElem_toArray,List.getElem_cons_succ,List.getElem_cons_zero]
                  go_simp
                  refine (HPC.out wn43 HBX.out _ _ HLF.out HTW.out).mono ?_;rintro e wn44 ⟨tPa,tPm,tPc,tQa,tQm,tQc,tVa,tVm,tVc,rfl,hjc,hb⟩
                  have hjq:=hjc.base HBX0
                  replace HBX:=Lib.hid (HBX.out.trans (hb.mono HBX0));replace HBX0:=Nat.le_trans HBX0 hb.size
                  replace HLF:=Lib.hid (HLF.out.below hb (Nat.le_refl _))
                  replace HTW:=Lib.hid (HTW.out.below hb (Nat.le_refl _))
                  have HJC:=Lib.hid hjq
                  refine hK _ _ (fun h=>absurd h (by decide)) ?_
                  clear hK K hS hjc hjq hb
                  try simp only [Act.put,List.getElem_toArray,List.getElem_cons_succ,List.getElem_cons_zero,List.setIfInBounds_toArray,List.set_cons_zero,List.set_cons_succ]
                  have hS:=(HS.out wn44 HBX.out:(fun w'=>(∀ j v,(#[.int .i64 p.1.id,.int .i64 p.1.kind,.int .i64 p.1.mr,.int .i64 p.1.md,.slice pa pm pc]:Array Value)[j]? = some v → w'.cell? ⟨gL,k * 5 + j,none⟩ = some v) ∧ (∀ j_1,w'.cell? ⟨gp,j_1,none⟩ = (#[.int .i64 cP.id,.slice pPa pPm pPc,.slice pQa pQm pQc,.slice pVa pVm pVc]:Array Value)[j_1]?) ∧ (∀ j_1,w'.cell? ⟨gr,j_1,none⟩ = (#[.int .i64 cR.id,.slice rPa rPm rPc,.slice rQa rQm rQc,.slice rVa rVm rVc]:Array Value)[j_1]?)) wn44)
                  refine AnyE.takeL (i:=9) (v:=?_) rfl (by kernel_rfl) (by kernel_rfl) (by kernel_rfl) (by kernel_rfl) (by kernel_rfl) (fun _ _ _ h=>h) (Or.inl ⟨by rfl,?_⟩) hS ?_
                  rotate_left
                  focus (intro wq hSq;obtain ⟨hS1,hS2,hS3⟩:=hSq;go_simp;with_reducible rfl)
                  try simp only [Act.put,List.getElem_toArray,List.getElem_cons_succ,List.getElem_cons_zero,List.setIfInBounds_toArray,List.set_cons_zero,List.set_cons_succ]
                  refine AnyE.takeP (i:=11) (v:=?_) rfl (by kernel_rfl) (by kernel_rfl) (by kernel_rfl) (by kernel_rfl) (fun _ _ _ h=>h) (Or.inl ⟨by rfl,?_⟩) ?_
                  rotate_left
                  focus (intro wq hSq;go_simp;with_reducible rfl)
                  try simp only [Act.put,List.getElem_toArray,List.getElem_cons_succ,List.getElem_cons_zero,List.setIfInBounds_toArray,List.set_cons_zero,List.set_cons_succ]
                  refine AnyE.takeL (i:=10) (v:=?_) rfl (by kernel_rfl) (by kernel_rfl) (by kernel_rfl) (by kernel_rfl) (by kernel_rfl) (fun _ _ _ h=>h) (Or.inl ⟨by rfl,?_⟩) hS ?_
                  rotate_left
                  focus (intro wq hSq;obtain ⟨hS1,hS2,hS3⟩:=hSq;go_simp;with_reducible rfl)
                  try simp only [Act.put,List.getElem_toArray,List.getElem_cons_succ,List.getElem_cons_zero,List.setIfInBounds_toArray,List.set_cons_zero,List.set_cons_succ]
                  refine AnyE.one (i:=12) (by kernel_rfl) rfl rfl ?_
                  intro K hK
                  simp only [List.getElem_toArray,List.getElem_cons_succ,List.getElem_cons_zero]
                  have hrj:=row_keep HBX.out HVJ2.out.1
                  have HRJ:=Lib.hid hrj;clear hrj
                  refine wp_store_part rfl 32 _ _ rfl gj 0 #[.int .i64 cZ.id,.slice jPa jPm jPc,.slice jQa jQm jQc,.slice jVa jVm jVc] 32 #[.int .i64 cZ.id,.slice tPa tPm tPc,.slice tQa tQm tQc,.slice tVa tVm tVc] rfl rfl HRJ.out (by kernel_rfl) (by simp [Value.oneCell']) (Nat.le_of_ble_eq_true rfl) #[.int .i64 cZ.id,.slice tPa tPm tPc,.slice tQa tQm tQc,.slice tVa tVm tVc] rfl ?_;intro w9 r9 ho9 hb9 hz9
                  refine hK _ _ (fun h=>absurd h (by decide)) ?_
                  clear hK K hS
                  try simp only [Act.put,List.getElem_toArray,List.getElem_cons_succ,List.getElem_cons_zero,List.setIfInBounds_toArray,List.set_cons_zero,List.set_cons_succ]
                  have HV9:=Lib.hid (VarAt.store HJC.out HRJ.out r9 ho9 hb9 (hq32.trans (HBX.out.mono hq32.size)) HVJ2.out.2.2.2)
                  clear r9 ho9 hb9 hz9 HJC HRJ HBX HBX0 HLF HTW
                  refine AnyE.one (i:=13) (by kernel_rfl) rfl rfl ?_
                  intro K hK
                  simp only [List.getElem_toArray,List.getElem_cons_succ,List.getElem_cons_zero]
                  go_simp
                  refine hK _ _ (fun h=>absurd h (by decide)) ?_
                  clear hK K
                  try simp only [Act.put,List.getElem_toArray,List.getElem_cons_succ,List.getElem_cons_zero,List.setIfInBounds_toArray,List.set_cons_zero,List.set_cons_succ]
                  refine AnyE.done (by kernel_rfl) ?_ _
                  go_wp2_with fail
                  go_meet
                  exact ⟨rfl,tPa,tPm,tPc,tQa,tQm,tQc,tVa,tVm,tVc,HV9⟩
                · intro K hK
                  simp only [List.getElem_toArray,List.getElem_cons_succ,List.getElem_cons_zero]
                  refine wp_cols2 _ _ rfl _ _ _ _ _ _ _ _ rfl rfl ?_
                  have hb:=(Below.refl wd.heap.size wd).alloc (Nat.le_refl _) (.cells #[.int .i64 cP.id,.slice pPa pPm pPc,.slice pQa pQm pQc,.slice pVa pVm pVc,.int .i64 cR.id,.slice rPa rPm rPc,.slice rQa rQm rQc,.slice rVa rVm rVc] 32)
                  have hgl:=heap_alloc_new wd (.cells #[.int .i64 cP.id,.slice pPa pPm pPc,.slice pQa pQm pQc,.slice pVa pVm pVc,.int .i64 cR.id,.slice rPa rPm rPc,.slice rQa rQm rQc,.slice rVa rVm rVc] 32)
                  have hbq:=HBX.out.trans (hb.mono HBX0)
                  have htw:=cols_two hgl (HVP.out.2.1.below hbq (Nat.le_refl _)) (HVR.out.2.1.below hbq (Nat.le_refl _))
                  replace HBX:=Lib.hid (HBX.out.trans (hb.mono HBX0));replace HBX0:=Nat.le_trans HBX0 hb.size
                  have HTW:=Lib.hid htw
                  refine hK _ _ (fun _=>HS.out _ HBX.out) ?_
                  clear hK K hS hgl htw hbq hb
                  try simp only [Act.put,List.getElem_toArray,List.getElem_cons_succ,List.getElem_cons_zero,List.setIfInBounds_toArray,List.set_cons_zero,List.set_cons_succ]
                  generalize wd.alloc (.cells #[.int .i64 cP.id,.slice pPa pPm pPc,.slice pQa pQm pQc,.slice pVa pVm pVc,.int .i64 cR.id,.slice rPa rPm rPc,.slice rQa rQm rQc,.slice rVa rVm rVc] 32) = wn45 at *
                  generalize wd.heap.size = gtw at *
                  have hS:=(HS.out wn45 HBX.out:(fun w'=>(∀ j v,(#[.int .i64 p.1.id,.int .i64 p.1.kind,.int .i64 p.1.mr,.int .i64 p.1.md,.slice pa pm pc]:Array Value)[j]? = some v → w'.cell? ⟨gL,k * 5 + j,none⟩ = some v) ∧ (∀ j_1,w'.cell? ⟨gp,j_1,none⟩ = (#[.int .i64 cP.id,.slice pPa pPm pPc,.slice pQa pQm pQc,.slice pVa pVm pVc]:Array Value)[j_1]?) ∧ (∀ j_1,w'.cell? ⟨gr,j_1,none⟩ = (#[.int .i64 cR.id,.slice rPa rPm rPc,.slice rQa rQm rQc,.slice rVa rVm rVc]:Array Value)[j_1]?)) wn45)
                  refine AnyE.one (i:=4) (by kernel_rfl) rfl rfl ?_
                  intro K hK
                  simp only [List.getElem_toArray,List.getElem_cons_succ,List.getElem_cons_zero]
                  go_simp
                  refine (HOLF.out wn45 HBX.out).mono ?_;rintro e wn46 ⟨⟨uf,rfl,hlf⟩,hb⟩
                  replace HBX:=Lib.hid (HBX.out.trans (hb.mono HBX0));replace HBX0:=Nat.le_trans HBX0 hb.size
                  replace HTW:=Lib.hid (HTW.out.below hb (Nat.le_refl _))
                  have HLF:=Lib.hid hlf
                  refine hK _ _ (fun _=>HS.out _ HBX.out) ?_
                  clear hK K hS hlf hb
                  try simp only [Act.put,List.getElem_toArray,List.getElem_cons_succ,List.getElem_cons_zero,List.setIfInBounds_toArray,List.set_cons_zero,List.set_cons_succ]
                  have hS:=(HS.out wn46 HBX.out:(fun w'=>(∀ j v,(#[.int .i64 p.1.id,.int .i64 p.1.kind,.int .i64 p.1.mr,.int .i64 p.1.md,.slice pa pm pc]:Array Value)[j]? = some v → w'.cell? ⟨gL,k * 5 + j,none⟩ = some v) ∧ (∀ j_1,w'.cell? ⟨gp,j_1,none⟩ = (#[.int .i64 cP.id,.slice pPa pPm pPc,.slice pQa pQm pQc,.slice pVa pVm pVc]:Array Value)[j_1]?) ∧ (∀ j_1,w'.cell? ⟨gr,j_1,none⟩ = (#[.int .i64 cR.id,.slice rPa rPm rPc,.slice rQa rQm rQc,.slice rVa rVm rVc]:Array Value)[j_1]?)) wn46)
                  refine AnyE.one (i:=8) (by kernel_rfl) rfl rfl ?_
                  intro K hK
                  simp only [List.getElem_toArray,List.getElem_cons_succ,List.getElem_cons_zero]
                  go_simp
                  refine (HPC.out wn46 HBX.out _ _ HLF.out HTW.out).mono ?_;rintro e wn47 ⟨tPa,tPm,tPc,tQa,tQm,tQc,tVa,tVm,tVc,rfl,hjc,hb⟩
                  have hjq:=hjc.base HBX0
                  replace HBX:=Lib.hid (HBX.out.trans (hb.mono HBX0));replace HBX0:=Nat.le_trans HBX0 hb.size
                  replace HLF:=Lib.hid (HLF.out.below hb (Nat.le_refl _))
                  replace HTW:=Lib.hid (HTW.out.below hb (Nat.le_refl _))
                  have HJC:=Lib.hid hjq
                  refine hK _ _ (fun h=>absurd h (by decide)) ?_
                  clear hK K hS hjc hjq hb
                  try simp only [Act.put,List.getElem_toArray,List.getElem_cons_succ,List.getElem_cons_zero,List.setIfInBounds_toArray,List.set_cons_zero,List.set_cons_succ]
                  have hS:=(HS.out wn47 HBX.out:(fun w'=>(∀ j v,(#[.int .i64 p.1.id,.int .i64 p.1.kind,.int .i64 p.1.mr,.int .i64 p.1.md,.slice pa pm pc]:Array Value)[j]? = some v → w'.cell? ⟨gL,k * 5 + j,none⟩ = some v) ∧ (∀ j_1,w'.cell? ⟨gp,j_1,none⟩ = (#[.int .i64 cP.id,.slice pPa pPm pPc,.slice pQa pQm pQc,.slice pVa pVm pVc]:Array Value)[j_1]?) ∧ (∀ j_1,w'.cell? ⟨gr,j_1,none⟩ = (#[.int .i64 cR.id,.slice rPa rPm rPc,.slice rQa rQm rQc,.slice rVa rVm rVc]:Array Value)[j_1]?)) wn47)
                  refine AnyE.takeL (i:=9) (v:=?_) rfl (by kernel_rfl) (by kernel_rfl) (by kernel_rfl) (by kernel_rfl) (by kernel_rfl) (fun _ _ _ h=>h) (Or.inl ⟨by rfl,?_⟩) hS ?_
                  rotate_left
                  focus (intro wq hSq;obtain ⟨hS1,hS2,hS3⟩:=hSq;go_simp;with_reducible rfl)
                  try simp only [Act.put,List.getElem_toArray,List.getElem_cons_succ,List.getElem_cons_zero,List.setIfInBounds_toArray,List.set_cons_zero,List.set_cons_succ]
                  refine AnyE.takeP (i:=11) (v:=?_) rfl (by kernel_rfl) (by kernel_rfl) (by kernel_rfl) (by kernel_rfl) (fun _ _ _ h=>h) (Or.inl ⟨by rfl,?_⟩) ?_
                  rotate_left
                  focus (intro wq hSq;go_simp;with_reducible rfl)
                  try simp only [Act.put,List.getElem_toArray,List.getElem_cons_succ,List.getElem_cons_zero,List.setIfInBounds_toArray,List.set_cons_zero,List.set_cons_succ]
                  refine AnyE.takeL (i:=10) (v:=?_) rfl (by kernel_rfl) (by kernel_rfl) (by kernel_rfl) (by kernel_rfl) (by kernel_rfl) (fun _ _ _ h=>h) (Or.inl ⟨by rfl,?_⟩) hS ?_
                  rotate_left
                  focus (intro wq hSq;obtain ⟨hS1,hS2,hS3⟩:=hSq;go_simp;with_reducible rfl)
                  try simp only [Act.put,List.getElem_toArray,List.getElem_cons_succ,List.getElem_cons_zero,List.setIfInBounds_toArray,List.set_cons_zero,List.set_cons_succ]
                  refine AnyE.one (i:=12) (by kernel_rfl) rfl rfl ?_
                  intro K hK
                  simp only [List.getElem_toArray,List.getElem_cons_succ,List.getElem_cons_zero]
                  have hrj:=row_keep HBX.out HVJ2.out.1
                  have HRJ:=Lib.hid hrj;clear hrj
                  refine wp_store_part rfl 32 _ _ rfl gj 0 #[.int .i64 cZ.id,.slice jPa jPm jPc,.slice jQa jQm jQc,.slice jVa jVm jVc] 32 #[.int .i64 cZ.id,.slice tPa tPm tPc,.slice tQa tQm tQc,.slice tVa tVm tVc] rfl rfl HRJ.out (by kernel_rfl) (by simp [Value.oneCell']) (Nat.le_of_ble_eq_true rfl) #[.int .i64 cZ.id,.slice tPa tPm tPc,.slice tQa tQm tQc,.slice tVa tVm tVc] rfl ?_;intro w9 r9 ho9 hb9 hz9
                  refine hK _ _ (fun h=>absurd h (by decide)) ?_
                  clear hK K hS
                  try simp only [Act.put,List.getElem_toArray,List.getElem_cons_succ,List.getElem_cons_zero,List.setIfInBounds_toArray,List.set_cons_zero,List.set_cons_succ]
                  have HV9:=Lib.hid (VarAt.store HJC.out HRJ.out r9 ho9 hb9 (hq32.trans (HBX.out.mono hq32.size)) HVJ2.out.2.2.2)
                  clear r9 ho9 hb9 hz9 HJC HRJ HBX HBX0 HLF HTW
                  refine AnyE.one (i:=13) (by kernel_rfl) rfl rfl ?_
                  intro K hK
                  simp only [List.getElem_toArray,List.getElem_cons_succ,List.getElem_cons_zero]
                  go_simp
                  refine hK _ _ (fun h=>absurd h (by decide)) ?_
                  clear hK K
                  try simp only [Act.put,List.getElem_toArray,List.getElem_cons_succ,List.getElem_cons_zero,List.setIfInBounds_toArray,List.set_cons_zero,List.set_cons_succ]
                  refine AnyE.done (by kernel_rfl) ?_ _
                  go_wp2_with fail
                  go_meet
                  exact ⟨rfl,tPa,tPm,tPc,tQa,tQm,tQc,tVa,tVm,tVc,HV9⟩
            case rest =>
              obtain ⟨hsa,tPa,tPm,tPc,tQa,tQm,tQc,tVa,tVm,tVc,HVT⟩:=hcut
              subst hsa
              obtain ⟨w33,hwn⟩:∃ x,x = wc:=⟨_,rfl⟩
              subst hwn
              as_aux_lemma =>
              have hq33:=HVT.out.2.2.1
              clear HVJ2 HVP HVR hq28 hq31 hq32
              go_upto_region 34 with fail
              have HS:=Lib.hid (show ∀ w',Below w33.heap.size w33 w' → ((∀ j_1,w'.cell? ⟨gj,j_1,none⟩ = (#[.int .i64 cZ.id,.slice tPa tPm tPc,.slice tQa tQm tQc,.slice tVa tVm tVc]:Array Value)[j_1]?) ∧ (∀ j v,(#[.int .i64 cZ.id,.slice za1 cZ.rep.length zac1,.slice za2 cZ.df.length zac2,.slice za3 cZ.vals.length zac3]:Array Value)[j]? = some v → w'.cell? ⟨bz,oz + k * 4 + j,none⟩ = some v)) from fun w' h=>⟨rowc (row_keep h HVT.out.1),HZC.out w' (hq33.trans (h.mono hq33.size))⟩)
              refine AnyE.region (S:=fun w'=>(∀ j_1,w'.cell? ⟨gj,j_1,none⟩ = (#[.int .i64 cZ.id,.slice tPa tPm tPc,.slice tQa tQm tQc,.slice tVa tVm tVc]:Array Value)[j_1]?) ∧ (∀ j v,(#[.int .i64 cZ.id,.slice za1 cZ.rep.length zac1,.slice za2 cZ.df.length zac2,.slice za3 cZ.vals.length zac3]:Array Value)[j]? = some v → w'.cell? ⟨bz,oz + k * 4 + j,none⟩ = some v)) (E:=[]) (by kernel_rfl) ?_
              have hbd:=(Below.refl w33.heap.size w33).drew
              have HBX:=Lib.hid hbd;have HBX0:w33.heap.size ≤ w33.drew.heap.size:=hbd.size
              clear hbd
              generalize w33.drew = wd at *
              have hS:=(HS.out wd HBX.out:(fun w'=>(∀ j_1,w'.cell? ⟨gj,j_1,none⟩ = (#[.int .i64 cZ.id,.slice tPa tPm tPc,.slice tQa tQm tQc,.slice tVa tVm tVc]:Array Value)[j_1]?) ∧ (∀ j v,(#[.int .i64 cZ.id,.slice za1 cZ.rep.length zac1,.slice za2 cZ.df.length zac2,.slice za3 cZ.vals.length zac3]:Array Value)[j]? = some v → w'.cell? ⟨bz,oz + k * 4 + j,none⟩ = some v)) wd)
              refine AnyE.takeL (i:=0) (v:=?_) rfl (by kernel_rfl) (by kernel_rfl) (by kernel_rfl) (by kernel_rfl) (by kernel_rfl) (fun _ _ _ h=>h) (Or.inl ⟨by rfl,?_⟩) hS ?_
              rotate_left
              focus (intro wq hSq;obtain ⟨hS1,hS2⟩:=hSq;go_simp;with_reducible rfl)
              try simp only [Act.put,List.getElem_toArray,List.getElem_cons_succ,List.getElem_cons_zero,List.setIfInBounds_toArray,List.set_cons_zero,List.set_cons_succ]
              refine AnyE.takeL (i:=1) (v:=?_) rfl (by kernel_rfl) (by kernel_rfl) (by kernel_rfl) (by kernel_rfl) (by kernel_rfl) (fun _ _ _ h=>h) (Or.inl ⟨by rfl,?_⟩) hS ?_
              rotate_left
              focus (intro wq hSq;obtain ⟨hS1,hS2⟩:=hSq;go_simp;with_reducible rfl)
              try simp only [Act.put,List.getElem_toArray,List.getElem_cons_succ,List.getElem_cons_zero,List.setIfInBounds_toArray,List.set_cons_zero,List.set_cons_succ]
              refine AnyE.takeL (i:=2) (v:=?_) rfl (by kernel_rfl) (by kernel_rfl) (by kernel_rfl) (by kernel_rfl) (by kernel_rfl) (fun _ _ _ h=>h) (Or.inl ⟨by rfl,?_⟩) hS ?_
              rotate_left
              focus (intro wq hSq;obtain ⟨hS1,hS2⟩:=hSq;go_simp;with_reducible rfl)
              try simp only [Act.put,List.getElem_toArray,List.getElem_cons_succ,List.getElem_cons_zero,List.setIfInBounds_toArray,List.set_cons_zero,List.set_cons_succ]
              refine AnyE.takeL (i:=3) (v:=?_) rfl (by kernel_rfl) (by kernel_rfl) (by kernel_rfl) (by kernel_rfl) (by kernel_rfl) (fun _ _ _ h=>h) (Or.inl ⟨by rfl,?_⟩) hS ?_
              rotate_left
              focus (intro wq hSq;obtain ⟨hS1,hS2⟩:=hSq;go_simp;with_reducible rfl)
              try simp only [Act.put,List.getElem_toArray,List.getElem_cons_succ,List.getElem_cons_zero,List.setIfInBounds_toArray,List.set_cons_zero,List.set_cons_succ]
              refine AnyE.takeL (i:=4) (v:=?_) rfl (by kernel_rfl) (by kernel_rfl) (by kernel_rfl) (by kernel_rfl) (by kernel_rfl) (fun _ _ _ h=>h) (Or.inl ⟨by rfl,?_⟩) hS ?_
              rotate_left
              focus (intro wq hSq;obtain ⟨hS1,hS2⟩:=hSq;go_simp;with_reducible rfl)
              try simp only [Act.put,List.getElem_toArray,List.getElem_cons_succ,List.getElem_cons_zero,List.setIfInBounds_toArray,List.set_cons_zero,List.set_cons_succ]
              refine AnyE.takeL (i:=5) (v:=?_) rfl (by kernel_rfl) (by kernel_rfl) (by kernel_rfl) (by kernel_rfl) (by kernel_rfl) (fun _ _ _ h=>h) (Or.inl ⟨by rfl,?_⟩) hS ?_
              rotate_left
              focus (intro wq hSq;obtain ⟨hS1,hS2⟩:=hSq;go_simp;with_reducible rfl)
              try simp only [Act.put,List.getElem_toArray,List.getElem_cons_succ,List.getElem_cons_zero,List.setIfInBounds_toArray,List.set_cons_zero,List.set_cons_succ]
              refine AnyE.takeL (i:=6) (v:=?_) rfl (by kernel_rfl) (by kernel_rfl) (by kernel_rfl) (by kernel_rfl) (by kernel_rfl) (fun _ _ _ h=>h) (Or.inl ⟨by rfl,?_⟩) hS ?_
              rotate_left
              focus (intro wq hSq;obtain ⟨hS1,hS2⟩:=hSq;go_simp;with_reducible rfl)
              try simp only [Act.put,List.getElem_toArray,List.getElem_cons_succ,List.getElem_cons_zero,List.setIfInBounds_toArray,List.set_cons_zero,List.set_cons_succ]
              refine AnyE.takeL (i:=7) (v:=?_) rfl (by kernel_rfl) (by kernel_rfl) (by kernel_rfl) (by kernel_rfl) (by kernel_rfl) (fun _ _ _ h=>h) (Or.inl ⟨by rfl,?_⟩) hS ?_
              rotate_left
              focus (intro wq hSq;obtain ⟨hS1,hS2⟩:=hSq;go_simp;with_reducible rfl)
              try simp only [Act.put,List.getElem_toArray,List.getElem_cons_succ,List.getElem_cons_zero,List.setIfInBounds_toArray,List.set_cons_zero,List.set_cons_succ]
              refine AnyE.takeL (i:=8) (v:=?_) rfl (by kernel_rfl) (by kernel_rfl) (by kernel_rfl) (by kernel_rfl) (by kernel_rfl) (fun _ _ _ h=>h) (Or.inl ⟨by rfl,?_⟩) hS ?_
              rotate_left
              focus (intro wq hSq;obtain ⟨hS1,hS2⟩:=hSq;go_simp;with_reducible rfl)
              try simp only [Act.put,List.getElem_toArray,List.getElem_cons_succ,List.getElem_cons_zero,List.setIfInBounds_toArray,List.set_cons_zero,List.set_cons_succ]
              refine AnyE.takeL (i:=9) (v:=?_) rfl (by kernel_rfl) (by kernel_rfl) (by kernel_rfl) (by kernel_rfl) (by kernel_rfl) (fun _ _ _ h=>h) (Or.inl ⟨by rfl,?_⟩) hS ?_
              rotate_left
              focus (intro wq hSq;obtain ⟨hS1,hS2⟩:=hSq;go_simp;with_reducible rfl)
              try simp only [Act.put,List.getElem_toArray,List.getElem_cons_succ,List.getElem_cons_zero,List.setIfInBounds_toArray,List.set_cons_zero,List.set_cons_succ]
              refine AnyE.takeL (i:=10) (v:=?_) rfl (by kernel_rfl) (by kernel_rfl) (by kernel_rfl) (by kernel_rfl) (by kernel_rfl) (fun _ _ _ h=>h) (Or.inl ⟨by rfl,?_⟩) hS ?_
              rotate_left
              focus (intro wq hSq;obtain ⟨hS1,hS2⟩:=hSq;go_simp;with_reducible rfl)
              try simp only [Act.put,List.getElem_toArray,List.getElem_cons_succ,List.getElem_cons_zero,List.setIfInBounds_toArray,List.set_cons_zero,List.set_cons_succ]
              refine AnyE.takeL (i:=11) (v:=.agg #[.int .i64 cZ.id,.slice tPa tPm tPc,.slice tQa tQm tQc,.slice tVa tVm tVc]) rfl (by kernel_rfl) (by kernel_rfl) (by kernel_rfl) (by kernel_rfl) (by kernel_rfl) (fun _ _ _ h=>h) (yields_load 32 _ rfl rfl gj (0) rfl #[.int .i64 cZ.id,.slice tPa tPm tPc,.slice tQa tQm tQc,.slice tVa tVm tVc] _ (fun w h=>fun j v hj=>by rw [Nat.zero_add];exact (h.1 j).trans hj) Tryd.underlying32 rfl (by kernel_rfl)) hS ?_
              try simp only [Act.put,List.getElem_toArray,List.getElem_cons_succ,List.getElem_cons_zero,List.setIfInBounds_toArray,List.set_cons_zero,List.set_cons_succ]
              refine AnyE.takeL (i:=12) (v:=?_) rfl (by kernel_rfl) (by kernel_rfl) (by kernel_rfl) (by kernel_rfl) (by kernel_rfl) (fun _ _ _ h=>h) (Or.inl ⟨by rfl,?_⟩) hS ?_
              rotate_left
              focus (intro wq hSq;obtain ⟨hS1,hS2⟩:=hSq;go_simp;with_reducible rfl)
              try simp only [Act.put,List.getElem_toArray,List.getElem_cons_succ,List.getElem_cons_zero,List.setIfInBounds_toArray,List.set_cons_zero,List.set_cons_succ]
              refine AnyE.takeL (i:=13) (v:=?_) rfl (by kernel_rfl) (by kernel_rfl) (by kernel_rfl) (by kernel_rfl) (by kernel_rfl) (fun _ _ _ h=>h) (Or.inl ⟨by rfl,?_⟩) hS ?_
              rotate_left
              focus (intro wq hSq;obtain ⟨hS1,hS2⟩:=hSq;go_simp;with_reducible rfl)
              try simp only [Act.put,List.getElem_toArray,List.getElem_cons_succ,List.getElem_cons_zero,List.setIfInBounds_toArray,List.set_cons_zero,List.set_cons_succ]
              refine AnyE.takeL (i:=14) (v:=?_) rfl (by kernel_rfl) (by kernel_rfl) (by kernel_rfl) (by kernel_rfl) (by kernel_rfl) (fun _ _ _ h=>h) (Or.inl ⟨by rfl,?_⟩) hS ?_
              rotate_left
              focus (intro wq hSq;obtain ⟨hS1,hS2⟩:=hSq;go_simp;with_reducible rfl)
              try simp only [Act.put,List.getElem_toArray,List.getElem_cons_succ,List.getElem_cons_zero,List.setIfInBounds_toArray,List.set_cons_zero,List.set_cons_succ]
              refine AnyE.takeL (i:=15) (v:=.agg #[.int .i64 cZ.id,.slice za1 cZ.rep.length zac1,.slice za2 cZ.df.length zac2,.slice za3 cZ.vals.length zac3]) rfl (by kernel_rfl) (by kernel_rfl) (by kernel_rfl) (by kernel_rfl) (by kernel_rfl) (fun _ _ _ h=>h) (yields_load 32 _ rfl rfl bz (oz + k * 4) rfl #[.int .i64 cZ.id,.slice za1 cZ.rep.length zac1,.slice za2 cZ.df.length zac2,.slice za3 cZ.vals.length zac3] _ (fun w h=>h.2) Tryd.underlying32 rfl (by kernel_rfl)) hS ?_
              try simp only [Act.put,List.getElem_toArray,List.getElem_cons_succ,List.getElem_cons_zero,List.setIfInBounds_toArray,List.set_cons_zero,List.set_cons_succ]
              refine AnyE.oneGS (i:=16) (by kernel_rfl) rfl (by rfl) ?_
              intro K hK
              simp only [List.getElem_toArray,List.getElem_cons_succ,List.getElem_cons_zero]
              go_simp
              refine (HSC.out _ _ wd (HVT.out.2.1.below HBX.out (Nat.le_refl _)) (HIZ.out wd (hq33.trans (HBX.out.mono hq33.size)))).mono ?_;rintro e w34 ⟨rfl,hb⟩
              replace HBX:=Lib.hid (HBX.out.trans (hb.mono HBX0));replace HBX0:=Nat.le_trans HBX0 hb.size
              refine hK _ _ (fun _=>HS.out _ HBX.out) ?_
              clear hK K hS hb
              try simp only [Act.put,List.getElem_toArray,List.getElem_cons_succ,List.getElem_cons_zero,List.setIfInBounds_toArray,List.set_cons_zero,List.set_cons_succ]
              have hS:=(HS.out w34 HBX.out:(fun w'=>(∀ j_1,w'.cell? ⟨gj,j_1,none⟩ = (#[.int .i64 cZ.id,.slice tPa tPm tPc,.slice tQa tQm tQc,.slice tVa tVm tVc]:Array Value)[j_1]?) ∧ (∀ j v,(#[.int .i64 cZ.id,.slice za1 cZ.rep.length zac1,.slice za2 cZ.df.length zac2,.slice za3 cZ.vals.length zac3]:Array Value)[j]? = some v → w'.cell? ⟨bz,oz + k * 4 + j,none⟩ = some v)) w34)
              refine AnyE.takeL (i:=17) (v:=?_) rfl (by kernel_rfl) (by kernel_rfl) (by kernel_rfl) (by kernel_rfl) (by kernel_rfl) (fun _ _ _ h=>h) (Or.inl ⟨by rfl,?_⟩) hS ?_
              rotate_left
              focus (intro wq hSq;obtain ⟨hS1,hS2⟩:=hSq;go_simp;with_reducible rfl)
              try simp only [Act.put,List.getElem_toArray,List.getElem_cons_succ,List.getElem_cons_zero,List.setIfInBounds_toArray,List.set_cons_zero,List.set_cons_succ]
              refine AnyE.takeL (i:=18) (v:=?_) rfl (by kernel_rfl) (by kernel_rfl) (by kernel_rfl) (by kernel_rfl) (by kernel_rfl) (fun _ _ _ h=>h) (Or.inl ⟨by rfl,?_⟩) hS ?_
              rotate_left
              focus (intro wq hSq;obtain ⟨hS1,hS2⟩:=hSq;go_simp;with_reducible rfl)
              try simp only [Act.put,List.getElem_toArray,List.getElem_cons_succ,List.getElem_cons_zero,List.setIfInBounds_toArray,List.set_cons_zero,List.set_cons_succ]
              refine AnyE.done (by kernel_rfl) ?_ _
              clear hS HS
              have HQ34:=Lib.hid (hq33.trans (HBX.out.mono hq33.size))
              clear HBX HBX0
              go_wp2_with fail
              go_roundw
              case rel=>exact ⟨k + 1,Hlt.out,by go_num,Lib.hid (HBr.out.trans (HQ34.out.mono HBr.out.size))⟩
              case measure=>have:=Hlt.out;simp [intOf];omega
end Go.Proofs.YtkmhmnffbgedgaaDoor
