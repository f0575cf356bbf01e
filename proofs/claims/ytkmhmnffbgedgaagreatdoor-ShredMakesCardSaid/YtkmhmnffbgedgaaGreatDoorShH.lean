/- The walk of the document's ShredOf. Written by gen_shh.py. -/
import Derived.Test.YtkmhmnffbgedgaaGreatDoorShG
import Derived.Test.YtkmhmnffbgedgaaGreatDoorShB
import Derived.Test.YtkmhmnffbgedgaaGreatDoorSo1
import Derived.Test.YtkmhmnffbgedgaaGreatDoorFlatP
import Derived.Test.YtkmhmnffbgedgaaGreatDoorTv3
import Derived.Test.YtkmhmnffbgedgaaGreatDoorSh8
namespace Go.Proofs.YtkmhmnffbgedgaaGreatDoor
set_option maxHeartbeats 32000000
set_option linter.unusedVariables false
set_option linter.unusedSimpArgs false
open Go Go.RowKit Go.ChangeShapes
theorem lsd_at {B g n c:Nat} {w:World} {LO:List (Lvf × Value)} (h:w.ownsRow B 82 5 (.slice (some ⟨g,0,none⟩) n c) LO.length (LO.flatMap lfC)) (k:Nat) (p:Lvf × Value) (hk:LO[k]? = some p) (pa:Option Addr) (pn pc:Nat) (hp:p.2 = .slice pa pn pc) :
  ∀ j v,(#[.int .i64 p.1.id,.int .i64 p.1.kind,.int .i64 p.1.mr,.int .i64 p.1.md,.slice pa pn pc]:Array Value)[j]? = some v → w.cell? ⟨g,k * 5 + j,none⟩ = some v:=by
 intro j v hj
 have hj5:j < 5:=by have:=(Array.getElem?_eq_some_iff.1 hj).1;simpa using this
 have hkl:=(List.getElem?_eq_some_iff.1 hk).1
 obtain ⟨g2,cap,cur,e1,_,h2,_,h4⟩:=own_rowS h (by omega)
 injection e1 with e1
 injection e1 with e1
 injection e1 with e1
 subst e1
 rw [rowc h2]
 refine h4 _ _ ?_
 rw [flat_atK lfC 5 (fun _=>rfl) LO k p hk j hj5,← hj]
 have e:lfC p = [.int .i64 p.1.id,.int .i64 p.1.kind,.int .i64 p.1.mr,.int .i64 p.1.md,p.2]:=by unfold lfC;rw [hp];rfl
 rw [e,hp]
 simp
theorem own_node1 {w:World} {B g ns:Nat} {n:Nd} {au:Option Addr} {cu:Nat} (h:w.heap[g]? = some (.cells #[.int .i64 n.id,.string n.name,.int .i64 n.rep,.int .i64 n.kind,.slice au ns cu] 24 (0,0))) (hB:B ≤ g) :
  w.ownsRow B 24 5 (.slice (some ⟨g,0,none⟩) 1 1) 1 ([(n,Value.slice au ns cu)].flatMap ndC) :=
 ⟨rfl,.inr ⟨g,1,_,rfl,hB,h,Nat.le_refl _,by unfold maxLen;omega,rfl,rfl⟩⟩
theorem ints_back {w:World} {B n:Nat} {v:Value} {l:List Int} (h:w.ownsRow B 3 1 v n (l.flatMap intC)):w.ownsRow B 3 1 v n (l.map iV):=by rw [intC_map] at h;exact h
set_option maxRecDepth 100000 in
theorem shredOf_any (n:Nd) (l:List Dt) (u v:Value) (w:World) (hN:IsNds (· < w.heap.size) w u n.sub) (hO:∀ x ∈ nodes n,x.Ok1) (hL:IsDts (· < w.heap.size) w v l) (hD:∀ y ∈ dtsL l,y.Ok1)
    (hv:validE n = 0) (hd:∀ d ∈ l,datE n false d = 0) (hw:wgtL l ≤ 3000) (hln:l.length ≤ 150):Calls Tryz.prog 13 #[.agg (ndA n u),v] w (OwnCsRet (shCols n l) w):=by
  have HLV:=Lib.hid (fun (w1:World) (h:Below w.heap.size w w1)=>leavesOf_any n u w1 ((hN.under h).mono fun b hb _=>Nat.lt_of_lt_of_le hb h.size) hO (valid_facts hv).1 (valid_shaped hv))
  have HFD:=Lib.hid (fun (id:Int) (w1:World) (h:Below w.heap.size w w1)=>findOfP_any (· < w.heap.size) n u id w1 (hN.under h) hO (fun b hb=>Nat.lt_of_lt_of_le hb h.size))
  have HEN:=Lib.hid (fun (B:Nat) (x:Dt) (hx:x ∈ l) (c:Col) (vc pv:Value) (way:List Nd) (ul uf:Value) (w1:World) (hc:OwnC B w1 vc c) (hB:B ≤ w1.heap.size) (hP:IsNds (· < B) w1 pv (n :: way)) (hs:way.length ≤ 40) (hch:(n :: way) ∈ chs n) (h1:IsDts (· < B) w1 ul x.l) (h2:IsDts (· < B) w1 uf x.f) (hev:even c) (hcl:c.rep.length + (docE (n :: way) x 0 0 0 false).length ≤ 1000000) =>
    (show Calls Tryz.prog 31 #[vc,pv,.int .i64 0,.agg (dtA x ul uf),.int .i64 0,.int .i64 0,.int .i64 0,.bool false] w1 (EntRet B c (docE (n :: way) x 0 0 0 false) w1) from
      entries_any x c vc pv (n :: way) 0 n way ul uf 0 0 0 false w1 hc hB hP rfl (by simp only [List.length_cons];omega) hch h1 h2 hO (fun z hz=>hD z (dtsL_mem hx hz)) (valid_shapes hv) (valid_nodup hv) (hd x hx) (by omega) (by have:=wgtL_mem hx;omega) (by omega) (by have:=wgtL_mem hx;omega) hev hcl))
  have HN:=Lib.hid hN;have HL:=Lib.hid hL;have HV:=Lib.hid hv;have HDD:=Lib.hid hd;have HWG:=Lib.hid hw
  obtain ⟨au,cu,rfl⟩:=hN.form
  obtain ⟨al,cl,rfl⟩:=hL.form
  obtain ⟨ns,hns⟩:∃ ns,n.sub.length = ns:=⟨_,rfl⟩
  obtain ⟨nl,hnl⟩:∃ nl,l.length = nl:=⟨_,rfl⟩
  rw [hns] at HLV HFD HN ⊢;rw [hnl] at HL hln ⊢
  have HNL:=Lib.hid hnl
  clear hN hO hL hD hv hd hw hns hnl
  obtain ⟨i0,hi,hz0,hz1,hz2⟩:=info_parts nd_info3
  obtain ⟨i1,hj,hy0,hy1,hy2⟩:=info_parts col_info3
  have hbw:=(Below.refl w.heap.size w).alloc (Nat.le_refl _) (.cells #[.int .i64 n.id,.string n.name,.int .i64 n.rep,.int .i64 n.kind,.slice au ns cu] 24)
  have rA:=heap_alloc_new w (.cells #[.int .i64 n.id,.string n.name,.int .i64 n.rep,.int .i64 n.kind,.slice au ns cu] 24)
  unfold ndA at *
  go_enter Tryz.func13,Tryz.ntmps13
  go_upto_region 1 with fail
  generalize (w.alloc (.cells #[.int .i64 n.id,.string n.name,.int .i64 n.rep,.int .i64 n.kind,.slice au ns cu] 24)) = w1 at *
  have HW:=Lib.hid hbw;have RA:=Lib.hid rA
  have cA:=rowc rA
  clear hbw rA
  go_wp2_with fail
  refine (HLV.out w1 HW.out).mono ?_;rintro e w2 ⟨vL,LO,rfl,hr,hm,hb2⟩
  replace RA:=Lib.hid (row_keep hb2 RA.out);replace HW:=Lib.hid (HW.out.trans (hb2.mono HW.out.size))
  clear hb2 cA HLV
  have HM:=Lib.hid hm;have HLS:=Lib.hid hr
  obtain ⟨nL,hnL⟩:∃ nL,LO.length = nL:=⟨_,rfl⟩
  have hnl2:(leavesN n).length = nL:=by rw [← hm,List.length_map,hnL]
  have hpos:1 ≤ nL ∧ nL ≤ 40:=by
    have h1:=leaves_len (valid_root HV.out).1
    have h2:=lvs_pos n (valid_shapes HV.out)
    have h3:=lvs_le.1 n
    have h4:=(good_small HV.out).1
    omega
  obtain ⟨gL,cL,curL,hvL,hgL1,hgL2,hgL3,hgL4⟩:=own_rowS hr.1 (by rw [hnL];omega)
  rw [hnL] at hvL
  subst hvL
  have HNLL:=Lib.hid hnL;have HLN2:=Lib.hid hnl2
  have hpos1:=hpos.1;have hpos2:=hpos.2
  have hgLs:gL < w2.heap.size:=row_lt hgL2
  have hgw:w.heap.size < w2.heap.size:=row_lt RA.out
  clear hr hm hgL1 hgL2 hgL3 hgL4 hnL hpos hnl2
  go_wp2_with fail
  go_loopw [6,7] (fun s6 i wr=>∃ (k:Nat) (a3:Option Addr) (c3:Nat) (LT:List ColV),k ≤ nL ∧ i = .int .i64 (k:Nat) ∧ .slice a3 k c3 = s6 ∧ Hid (LT.map Prod.fst = (shCols n l).take k) ∧ Hid (LT.length = k) ∧ Hid (wr.ownsRow w2.heap.size 51 4 (.slice a3 k c3) k (LT.flatMap colC)) ∧ Hid (∀ p ∈ LT,OwnP w2.heap.size wr p) ∧ Hid (Below w2.heap.size w2 wr)) (fun _ i _=>nL - (intOf i).toNat)
  case atStart=>exact ⟨0,none,0,[],Nat.zero_le _,rfl,rfl,rfl,rfl,World.ownsRow_nil _ _ _ _,fun q hq=>by simp at hq,Below.refl _ _⟩
  case round =>
    obtain ⟨k,a3,c3,LT,hk,rfl,hs6,HMT,HLT,HR,HE,HBr⟩:=hrel
    subst hs6
    obtain ⟨wq,hwq⟩:∃ x,x = wr:=⟨_,rfl⟩
    subst hwq
    by_cases hlt:k < nL
    case neg =>
      obtain rfl:k = nL:=Nat.le_antisymm hk (Nat.le_of_not_lt hlt)
      have dk:decide (k < k) = false:=by simp
      clear hlt hk
      go_wp2_with fail
      go_ret
      refine ⟨_,rfl,?_,HW.out.trans (HBr.out.mono HW.out.size)⟩
      have h1:=cols_of_own (own_len HR.out HLT.out) HE.out
      rw [HMT.out,List.take_of_length_le (by rw [shCols_len,HLN2.out];exact Nat.le_refl _)] at h1
      exact h1
    have hkl:k < LO.length:=by rw [HNLL.out];exact hlt
    obtain ⟨p,hp⟩:∃ p,LO[k]? = some p:=⟨_,List.getElem?_eq_getElem hkl⟩
    have hf:(leavesN n)[k]? = some p.1:=by rw [← HM.out,List.getElem?_map,hp];rfl
    obtain ⟨way,hway⟩:=way_any HV.out HDD.out hf
    have hlsr:=HLS.out.below HBr.out
    have hpo:=hlsr.2 p (List.mem_of_getElem? hp)
    obtain ⟨pn,hpn⟩:∃ pn,p.1.path.length = pn:=⟨_,rfl⟩
    have hwl:way.length = pn:=by rw [← hpn,hway.path];unfold idsOf;rw [List.length_map]
    rw [hpn] at hpo
    obtain ⟨pa,pm,pc,hpv,hpm⟩:=own_k hpo
    subst hpm
    rw [hpv] at hpo
    have hcp:=lsd_at (own_len hlsr.1 rfl) k p hp pa pm pc hpv
    have HPO:=Lib.hid hpo;have HCP:=Lib.hid hcp;have HWY:=Lib.hid hway;have HWL:=Lib.hid hwl;have Hlt:=Lib.hid hlt
    have hin:(k:Int) < (nL:Int):=Int.ofNat_lt.2 hlt
    have dk:decide (k < nL) = true:=decide_eq_true hlt
    have hk40:k ≤ 40:=by omega
    have RAr:=Lib.hid (row_keep HBr.out RA.out)
    have hpn40:pm ≤ 40:=by rw [← hwl];exact hway.short
    clear hkl hp hf hlsr hpo hpv hcp hwl hlt hk hpn hway
    have cA:=rowc RAr.out
    have hbP:=(Below.refl wq.heap.size wq).alloc (Nat.le_refl _) (.cells #[.int .i64 n.id,.string n.name,.int .i64 n.rep,.int .i64 n.kind,.slice au ns cu] 24)
    have rP:=heap_alloc_new wq (.cells #[.int .i64 n.id,.string n.name,.int .i64 n.rep,.int .i64 n.kind,.slice au ns cu] 24)
    go_upto_region 7 with fail
    have HBP:=Lib.hid hbP;have RP:=Lib.hid rP
    clear hbP rP cA
    generalize hwp:(wq.alloc (.cells #[.int .i64 n.id,.string n.name,.int .i64 n.rep,.int .i64 n.kind,.slice au ns cu] 24)) = wp at *
    clear hwp
    obtain ⟨gp,hgp⟩:∃ gp,wq.heap.size = gp:=⟨_,rfl⟩
    have hgpw:w2.heap.size ≤ gp:=by rw [← hgp];exact HBr.out.size
    have hgpz:gp < wp.heap.size:=by rw [← hgp];exact row_lt RP.out
    rw [hgp] at HBP RP ⊢
    have HGP:=Lib.hid hgp
    clear hgp
    have HR1:=Lib.hid (own_node1 (B:=gp) RP.out (Nat.le_refl _))
    have HBW:=Lib.hid (show Below w.heap.size w wq from HW.out.trans (HBr.out.mono HW.out.size))
    have HNU:=Lib.hid (show IsNds (· < w.heap.size) wp (.slice au ns cu) n.sub from HN.out.under (HBW.out.trans (HBP.out.mono (by omega))))
    go_wp2_with fail
    go_loopw [8,9] (fun s8 i wx=>∃ (q:Nat) (a8:Option Addr) (c8:Nat) (LP:List (Nd × Value)),q ≤ pm ∧ i = .int .i64 (q:Nat) ∧ .slice a8 (q + 1) c8 = s8 ∧ Hid (LP.map Prod.fst = n :: way.take q) ∧ Hid (LP.length = q + 1) ∧ Hid (wx.ownsRow gp 24 5 (.slice a8 (q + 1) c8) (q + 1) (LP.flatMap ndC)) ∧ Hid (∀ z ∈ LP,IsNds (· < w.heap.size) wx z.2 z.1.sub) ∧ Hid (Below gp wq wx) ∧ Hid (gp < wx.heap.size)) (fun _ i _=>pm - (intOf i).toNat)
    case atStart=>exact ⟨0,some ⟨gp,0,none⟩,1,[(n,.slice au ns cu)],Nat.zero_le _,rfl,rfl,Lib.hid (by simp),rfl,HR1.out,Lib.hid (by intro z hz;obtain rfl:=List.mem_singleton.1 hz;exact HNU.out),HBP.out,hgpz⟩
    case round =>
      obtain ⟨q,a8,c8,LP,hq,rfl,hs8,HPM,HPL,HPR,HPE,HBx,HGZ⟩:=hrel
      subst hs8
      obtain ⟨wx,hwx⟩:∃ x,x = wr:=⟨_,rfl⟩
      subst hwx
      clear HR1 HNU HBP RP hgpz
      have hgpr:wq.heap.size ≤ gp:=Nat.le_of_eq HGP.out
      have hbx2:Below gp wq wx:=HBx.out
      have HWx:=Lib.hid (HBW.out.trans (hbx2.mono (by omega)))
      have e4:wx.cell? ⟨gL,k * 5 + 4,none⟩ = some (.slice pa pm pc):=(hbx2.cell (p:=⟨gL,k * 5 + 4,none⟩) (by show gL < gp;omega)).trans (HCP.out 4 _ rfl)
      by_cases hlt2:q < pm
      case neg =>
        obtain rfl:q = pm:=Nat.le_antisymm hq (Nat.le_of_not_lt hlt2)
        have dq:decide (q < q) = false:=by simp
        clear hlt2 hq
        have e0:wx.cell? ⟨gL,k * 5,none⟩ = some (.int .i64 p.1.id):=(hbx2.cell (p:=⟨gL,k * 5,none⟩) (by show gL < gp;omega)).trans (HCP.out 0 _ rfl)
        have hbC:=(Below.refl wx.heap.size wx).alloc (Nat.le_refl _) (.cells #[.int .i64 p.1.id,.slice none 0 0,.slice none 0 0,.slice none 0 0] 51)
        have rC:=heap_alloc_new wx (.cells #[.int .i64 p.1.id,.slice none 0 0,.slice none 0 0,.slice none 0 0] 51)
        have hgz:=HGZ.out
        clear hbx2
        go_upto_region 13 with fail
        have hid0:lvId n k = p.1.id:=HWY.out.id
        have hoc:OcS wx.heap.size (wx.alloc (.cells #[.int .i64 p.1.id,.slice none 0 0,.slice none 0 0,.slice none 0 0] 51)) wx.heap.size (colAt n l k 0) (.slice none 0 0) (.slice none 0 0) (.slice none 0 0):=by
          rw [colAt_zero,hid0]
          exact ⟨rC,World.ownsRow_nil _ _ _ _,World.ownsRow_nil _ _ _ _,World.ownsRow_nil _ _ _ _,fun k h=>by simp [Value.ownBlock] at h,hbC.size,Nat.le_refl _⟩
        have HOC:=Lib.hid hoc;have HBC:=Lib.hid hbC
        clear hoc hbC rC e0 e4 hid0
        generalize hwc:(wx.alloc (.cells #[.int .i64 p.1.id,.slice none 0 0,.slice none 0 0,.slice none 0 0] 51)) = wc at *
        clear hwc
        obtain ⟨gc,hgc⟩:∃ gc,wx.heap.size = gc:=⟨_,rfl⟩
        rw [hgc] at HOC HBC hgz ⊢
        have HGC:=Lib.hid hgc
        have HPV:=Lib.hid (show IsNds (· < gc) wx (.slice a8 (q + 1) c8) (n :: way) by
          have h1:=nds_of_own (P:=(· < gc)) (own_len HPR.out HPL.out) (fun b hb=>by rw [← hgc];exact (HPR.out.lt b hb).2) (fun z hz=>(HPE.out z hz).mono fun b hb _=>by rw [← hgc];exact Nat.lt_trans hb (by omega))
          rw [HPM.out,List.take_of_length_le (Nat.le_of_eq HWL.out)] at h1
          exact h1)
        clear hgc
        go_wp2_with fail
        go_loopw [13] (fun i wy=>∃ (r:Nat) (P Q V:Value),r ≤ nl ∧ i = .int .i64 (r:Nat) ∧ Hid (OcS gc wy gc (colAt n l k r) P Q V) ∧ Hid (Below gc wx wy)) (fun i _=>nl - (intOf i).toNat)
        case atStart=>exact ⟨0,_,_,_,Nat.zero_le _,rfl,HOC.out,HBC.out⟩
        case round =>
          clear HOC HBC
          obtain ⟨r,P,Q,V,hr,rfl,HO,HBy⟩:=hrel
          obtain ⟨wy,hwy⟩:∃ x,x = wr:=⟨_,rfl⟩
          subst hwy
          obtain ⟨Pa,Pm,Pc,rfl⟩:=own_capS HO.out.p;obtain ⟨Qa,Qm,Qc,rfl⟩:=own_capS HO.out.q;obtain ⟨Va,Vm,Vc,rfl⟩:=own_capS HO.out.d
          have hgcx:wx.heap.size ≤ gc:=Nat.le_of_eq HGC.out
          have HWy:=Lib.hid (HWx.out.trans (HBy.out.mono (Nat.le_trans HWx.out.size hgcx)))
          by_cases hlt3:r < nl
          case neg =>
            obtain rfl:r = nl:=Nat.le_antisymm hr (Nat.le_of_not_lt hlt3)
            have dr:decide (r < r) = false:=by simp
            clear hlt3 hr
            have hall:=colAt_all n l k r HNL.out
            rw [hall] at HO
            have hup:=shCols_up (n:=n) (l:=l) (k:=k) (by rw [HLN2.out];exact Hlt.out)
            have HUP:=Lib.hid hup
            clear hall hup
            generalize shCol n l k = cc at HO HUP
            have HB2:=Lib.hid (show Below wq.heap.size wq wy from (HBx.out.mono hgpr).trans (HBy.out.mono (Nat.le_trans (HBx.out.mono hgpr).size hgcx)))
            have HR4:=Lib.hid (own_blw HR.out HB2.out)
            have HE4:=Lib.hid (fun z hz=>(HE.out z hz).below HB2.out)
            have hbz4:w2.heap.size ≤ wy.heap.size:=Nat.le_trans HBr.out.size HB2.out.size
            have h63:LT.length + 1 ≤ maxLen:=by have:=HLT.out;unfold maxLen;omega
            have h64:(LT.length + 1) * 80 ≤ 140737488355328:=by have:=HLT.out;omega
            have cC:=rowc HO.out.row
            go_wp2_with (at_builtin;refine wpList_pushRow rfl _ _ 32 rfl w2.heap.size 51 i1 _ 4 80 Tryz.underlying32 hj hy0 hy1 hy2 rfl (by decide) colC (fun _=>rfl) colC_one _ LT rfl (own_len HR4.out HLT.out) _ _ rfl rfl h63 h64 hbz4 (cc,Value.slice Pa Pm Pc,Value.slice Qa Qm Qc,Value.slice Va Vm Vc) _ rfl ?_;intro v' w5 hown' hgr hq5;obtain ⟨a6,c6,rfl⟩:=own_form hown';have HO5:=Lib.hid hown';have HG5:=Lib.hid hgr;clear hown' hgr hq5)
            go_roundw
            case rel =>
              have hl5:(LT ++ [((cc,Value.slice Pa Pm Pc,Value.slice Qa Qm Qc,Value.slice Va Vm Vc):ColV)]).length = k + 1:=by rw [List.length_append,HLT.out];rfl
              have hbg:=grow_below HR4.out HG5.out hbz4
              refine ⟨k + 1,a6,c6,LT ++ [(cc,Value.slice Pa Pm Pc,Value.slice Qa Qm Qc,Value.slice Va Vm Vc)],Hlt.out,by go_num,by rw [HLT.out],?_,hl5,(by have h:=HO5.out;rw [hl5] at h;exact h),?_,HBr.out.trans ((HB2.out.mono HBr.out.size).trans hbg)⟩
              · exact Lib.hid (by rw [List.map_append,HMT.out,HUP.out];rfl)
              · refine Lib.hid fun z hz=>?_
                have hh:OwnP w2.heap.size wy z:=by
                  rcases List.mem_append.1 hz with hz | hz
                  · exact HE4.out z hz
                  · obtain rfl:=List.mem_singleton.1 hz
                    have hg2:w2.heap.size ≤ gc:=by omega
                    exact ⟨own_base0 (ints_back HO.out.p) hg2,own_base0 (ints_back HO.out.q) hg2,own_base0 HO.out.d hg2⟩
                exact hh.tag fun b cs e fr he hr=>grown_row HR4.out HG5.out hr he
            case measure=>have:=Hlt.out;simp [intOf];omega
          obtain ⟨x,hx⟩:∃ x,l[r]? = some x:=⟨_,List.getElem?_eq_getElem (by rw [HNL.out];exact hlt3)⟩
          have hxm:x ∈ l:=List.mem_of_getElem? hx
          obtain ⟨b0,off,hbe,hPb,hb0,hat⟩:=(HL.out.under HWy.out).at (by rw [HNL.out];omega)
          subst hbe
          obtain ⟨xu,xt,hcx,hu,ht⟩:=hat r x hx
          obtain ⟨xau,xcu,rfl⟩:=hu.form
          obtain ⟨xaf,xcf,rfl⟩:=ht.form
          have hup:=colAt_up HWY.out hx
          have hgcw:w.heap.size ≤ gc:=by omega
          have hcl:=fun (w9:World) (h9:Below wy.heap.size wy w9)=>HEN.out gc x hxm (colAt n l k r) (.agg #[.int .i64 (colAt n l k r).id,.slice Pa Pm Pc,.slice Qa Qm Qc,.slice Va Vm Vc]) (.slice a8 (q + 1) c8) way (.slice xau x.l.length xcu) (.slice xaf x.f.length xcf) w9 (HO.out.keep h9).own (HO.out.keep h9).hB (HPV.out.under (HBy.out.trans (h9.mono HO.out.hB))) (by rw [HWL.out];omega) HWY.out.ch ((hu.under (h9.mono HWy.out.size)).mono fun b hb _=>Nat.lt_of_lt_of_le hb hgcw) ((ht.under (h9.mono HWy.out.size)).mono fun b hb _=>Nat.lt_of_lt_of_le hb hgcw) (colAt_even n l k r) (by have:=hup.2;have:=HWG.out;omega)
          obtain ⟨c,hcc⟩:∃ c,colAt n l k r = c:=⟨_,rfl⟩
          obtain ⟨E,hEE⟩:∃ E,docE (n :: way) x 0 0 0 false = E:=⟨_,rfl⟩
          rw [hcc] at HO hcl hup;rw [hEE] at hcl hup
          unfold DtAt dtA at hcx
          unfold dtA at hcl
          have HCX:=Lib.hid hcx;have HCL:=Lib.hid hcl;have HUP:=Lib.hid hup.1;have Hlt3:=Lib.hid hlt3
          have hin3:(r:Int) < (nl:Int):=Int.ofNat_lt.2 hlt3
          have dr:decide (r < nl) = true:=decide_eq_true hlt3
          have hlo0:b0 < gc:=by have h:b0 < w.heap.size:=hPb;omega
          clear hx hxm hat hcx hu ht hcl hlt3 hr hPb hb0 hup hcc hEE
          go_upto_region 16 with fail
          refine AnyE.region (S:=fun w'=>(∀ j_1,w'.cell? ⟨gc,j_1,none⟩ = (#[.int .i64 c.id,.slice Pa Pm Pc,.slice Qa Qm Qc,.slice Va Vm Vc]:Array Value)[j_1]?) ∧ (∀ j v,(#[.bool x.no,.int .i64 x.v.k,.int .i64 x.v.n,.string x.v.s,.slice xau x.l.length xcu,.slice xaf x.f.length xcf]:Array Value)[j]? = some v → w'.cell? ⟨b0,off + r * 6 + j,none⟩ = some v)) (E:=[6,7]) (by kernel_rfl) ?_
          have hbd:=(Below.refl wy.heap.size wy).drew
          have hBy0:=HO.out.hB
          replace HO:=Lib.hid (HO.out.keep hbd);replace HBy:=Lib.hid (HBy.out.trans (hbd.mono hBy0))
          have HCY:=Lib.hid (show ∀ j v,(#[.bool x.no,.int .i64 x.v.k,.int .i64 x.v.n,.string x.v.s,.slice xau x.l.length xcu,.slice xaf x.f.length xcf]:Array Value)[j]? = some v → wy.drew.cell? ⟨b0,off + r * 6 + j,none⟩ = some v from fun j v hj=>HCX.out j v hj)
          have HCL2:=Lib.hid (HCL.out wy.drew hbd)
          clear hbd HCX HCL
          generalize wy.drew = wd at *
          have hS:=(⟨rowc HO.out.row,HCY.out⟩:(fun w'=>(∀ j_1,w'.cell? ⟨gc,j_1,none⟩ = (#[.int .i64 c.id,.slice Pa Pm Pc,.slice Qa Qm Qc,.slice Va Vm Vc]:Array Value)[j_1]?) ∧ (∀ j v,(#[.bool x.no,.int .i64 x.v.k,.int .i64 x.v.n,.string x.v.s,.slice xau x.l.length xcu,.slice xaf x.f.length xcf]:Array Value)[j]? = some v → w'.cell? ⟨b0,off + r * 6 + j,none⟩ = some v)) wd)
          refine AnyE.takeL (i:=0) (v:=.agg #[.int .i64 c.id,.slice Pa Pm Pc,.slice Qa Qm Qc,.slice Va Vm Vc]) rfl (by kernel_rfl) (by kernel_rfl) (by kernel_rfl) (by kernel_rfl) (by kernel_rfl) (fun _ _ _ h=>h) (yields_load 51 _ rfl rfl gc (0) rfl #[.int .i64 c.id,.slice Pa Pm Pc,.slice Qa Qm Qc,.slice Va Vm Vc] _ (fun w h=>fun j v hj=>by rw [Nat.zero_add];exact (h.1 j).trans hj) Tryz.underlying51 rfl (by kernel_rfl)) hS ?_
          try simp only [Act.put,List.getElem_toArray,List.getElem_cons_succ,List.getElem_cons_zero,List.setIfInBounds_toArray,List.set_cons_zero,List.set_cons_succ]
          refine AnyE.takeL (i:=1) (v:=?_) rfl (by kernel_rfl) (by kernel_rfl) (by kernel_rfl) (by kernel_rfl) (by kernel_rfl) (fun _ _ _ h=>h) (Or.inl ⟨by rfl,?_⟩) hS ?_
          rotate_left
          focus (intro wq hSq;obtain ⟨hS1,hS2⟩:=hSq;go_simp;with_reducible rfl)
          try simp only [Act.put,List.getElem_toArray,List.getElem_cons_succ,List.getElem_cons_zero,List.setIfInBounds_toArray,List.set_cons_zero,List.set_cons_succ]
          refine AnyE.takeL (i:=2) (v:=?_) rfl (by kernel_rfl) (by kernel_rfl) (by kernel_rfl) (by kernel_rfl) (by kernel_rfl) (fun _ _ _ h=>h) (Or.inl ⟨by rfl,?_⟩) hS ?_
          rotate_left
          focus (intro wq hSq;obtain ⟨hS1,hS2⟩:=hSq;go_simp;with_reducible rfl)
          try simp only [Act.put,List.getElem_toArray,List.getElem_cons_succ,List.getElem_cons_zero,List.setIfInBounds_toArray,List.set_cons_zero,List.set_cons_succ]
          refine AnyE.takeL (i:=3) (v:=?_) rfl (by kernel_rfl) (by kernel_rfl) (by kernel_rfl) (by kernel_rfl) (by kernel_rfl) (fun _ _ _ h=>h) (Or.inl ⟨by rfl,?_⟩) hS ?_
          rotate_left
          focus (intro wq hSq;obtain ⟨hS1,hS2⟩:=hSq;go_simp;with_reducible rfl)
          try simp only [Act.put,List.getElem_toArray,List.getElem_cons_succ,List.getElem_cons_zero,List.setIfInBounds_toArray,List.set_cons_zero,List.set_cons_succ]
          refine AnyE.takeL (i:=4) (v:=?_) rfl (by kernel_rfl) (by kernel_rfl) (by kernel_rfl) (by kernel_rfl) (by kernel_rfl) (fun _ _ _ h=>h) (Or.inl ⟨by rfl,?_⟩) hS ?_
          rotate_left
          focus (intro wq hSq;obtain ⟨hS1,hS2⟩:=hSq;go_simp;with_reducible rfl)
          try simp only [Act.put,List.getElem_toArray,List.getElem_cons_succ,List.getElem_cons_zero,List.setIfInBounds_toArray,List.set_cons_zero,List.set_cons_succ]
          refine AnyE.takeL (i:=5) (v:=.agg #[.bool x.no,.int .i64 x.v.k,.int .i64 x.v.n,.string x.v.s,.slice xau x.l.length xcu,.slice xaf x.f.length xcf]) rfl (by kernel_rfl) (by kernel_rfl) (by kernel_rfl) (by kernel_rfl) (by kernel_rfl) (fun _ _ _ h=>h) (yields_load 46 _ rfl rfl b0 (off + r * 6) rfl #[.bool x.no,.int .i64 x.v.k,.int .i64 x.v.n,.string x.v.s,.slice xau x.l.length xcu,.slice xaf x.f.length xcf] _ (fun w h=>h.2) Tryz.underlying46 rfl (by kernel_rfl)) hS ?_
          try simp only [Act.put,List.getElem_toArray,List.getElem_cons_succ,List.getElem_cons_zero,List.setIfInBounds_toArray,List.set_cons_zero,List.set_cons_succ]
          refine AnyE.one (i:=6) (by kernel_rfl) rfl rfl ?_
          intro K hK
          simp only [List.getElem_toArray,List.getElem_cons_succ,List.getElem_cons_zero]
          go_simp
          refine HCL2.out.mono ?_;rintro e w4 ⟨u4,rfl,ho4,hf4⟩
          have hr4:=hf4.tag _ _ _ _ (by decide) (by decide) HO.out.row
          refine hK _ _ (fun h=>absurd h (by decide)) ?_
          clear hK K hS
          obtain ⟨P4,Q4,V4,hu4,hp4,hq4,hv4,ha4⟩:=ho4
          obtain ⟨Pb,Pn,Pd,rfl⟩:=own_capS hp4
          obtain ⟨Qb,Qn,Qd,rfl⟩:=own_capS hq4
          obtain ⟨Vb,Vn,Vd,rfl⟩:=own_capS hv4
          subst hu4
          have HO4:=Lib.hid (show OwnC gc w4 _ _ from ⟨_,_,_,rfl,hp4,hq4,hv4,ha4⟩);have HR4:=Lib.hid hr4;have HF4:=Lib.hid (HBy.out.trans hf4.below);have hB4:=Nat.le_trans HO.out.hB hf4.below.size
          clear hp4 hq4 hv4 ha4 hr4 hf4 HCL2 HCY
          try simp only [Act.put,List.getElem_toArray,List.getElem_cons_succ,List.getElem_cons_zero,List.setIfInBounds_toArray,List.set_cons_zero,List.set_cons_succ]
          refine AnyE.one (i:=7) (by kernel_rfl) rfl rfl ?_
          intro K hK
          simp only [List.getElem_toArray,List.getElem_cons_succ,List.getElem_cons_zero]
          refine wp_store_part rfl 51 _ _ rfl gc 0 #[.int .i64 c.id,.slice Pa Pm Pc,.slice Qa Qm Qc,.slice Va Vm Vc] 51 #[.int .i64 c.id,.slice Pb Pn Pd,.slice Qb Qn Qd,.slice Vb Vn Vd] rfl rfl HR4.out (by kernel_rfl) (by simp [Value.oneCell']) (Nat.le_of_ble_eq_true rfl) #[.int .i64 c.id,.slice Pb Pn Pd,.slice Qb Qn Qd,.slice Vb Vn Vd] rfl ?_;intro w6 r6 ho6 hb6 hz6
          refine hK _ _ (fun h=>absurd h (by decide)) ?_
          clear hK K
          try simp only [Act.put,List.getElem_toArray,List.getElem_cons_succ,List.getElem_cons_zero,List.setIfInBounds_toArray,List.set_cons_zero,List.set_cons_succ]
          have HO6:=Lib.hid (OcS.set rfl HO4.out HR4.out r6 ho6 hz6 hB4 (Nat.le_refl _))
          have HB6:=Lib.hid (HF4.out.trans hb6)
          clear r6 ho6 hb6 hz6 HO HBy HO4 HR4 HF4
          refine AnyE.done (by kernel_rfl) ?_ _
          go_wp2_with fail
          go_roundw
          case rel =>
            refine ⟨r + 1,.slice Pb Pn Pd,.slice Qb Qn Qd,.slice Vb Vn Vd,Hlt3.out,by go_num,?_,HB6.out⟩
            rw [HUP.out]
            exact HO6.out
          case measure=>have:=Hlt3.out;simp [intOf];omega
      have hgpo:0 < pm:=by omega
      obtain ⟨gq,cq,curq,e1,hgq1,hgq2,hgq3,hgq4⟩:=own_rowS HPO.out hgpo
      injection e1 with e1 _ _
      obtain ⟨y,hy⟩:∃ y,way[q]? = some y:=⟨_,List.getElem?_eq_getElem (by rw [HWL.out];exact hlt2)⟩
      have hgqz:gq < wq.heap.size:=row_lt hgq2
      have e5:wx.cell? ⟨gq,q,none⟩ = some (.int .i64 y.id):=(hbx2.cell (p:=⟨gq,q,none⟩) (by show gq < gp;omega)).trans (by rw [rowc hgq2];exact hgq4 q _ (by rw [HWY.out.path];unfold idsOf;rw [List.map_map,List.getElem?_map,hy];rfl))
      rw [e1] at e4
      obtain ⟨pl,hpl1,hpl2⟩:=HWY.out.find q y hy
      have HFI:=Lib.hid (show findD (flatF [] n 1 (-1)) y.id = some pl ∧ pl.n = y from ⟨hpl1,hpl2⟩)
      have HTK:=Lib.hid (show way.take (q + 1) = way.take q ++ [y] by rw [List.take_add_one,hy];rfl)
      have RAx:=Lib.hid ((hbx2.block w.heap.size (show w.heap.size < gp by omega)).trans RAr.out)
      have Hlt2:=Lib.hid hlt2
      have hin2:(q:Int) < (pm:Int):=Int.ofNat_lt.2 hlt2
      have dq:decide (q < pm) = true:=decide_eq_true hlt2
      have hgqp:gq < gp:=by omega
      have hgLp:gL < gp:=by omega
      clear hgq1 hgq2 hgq3 hgq4 hy hpl1 hpl2 hq hlt2 hgqz
      have HS10:=Lib.hid (show ∀ w',Below wx.heap.size wx w' → ((∀ j_1,w'.cell? ⟨w.heap.size,j_1,none⟩ = (#[.int .i64 n.id,.string n.name,.int .i64 n.rep,.int .i64 n.kind,.slice au ns cu]:Array Value)[j_1]?) ∧ w'.cell? ⟨gL,k * 5 + 4,none⟩ = some (.slice (some ⟨gq,0,none⟩) pm pc) ∧ w'.cell? ⟨gq,q,none⟩ = some (.int .i64 y.id)) from fun w' h=>⟨rowc (row_keep h RAx.out),(h.cell (p:=⟨gL,k * 5 + 4,none⟩) (Nat.lt_trans hgLp HGZ.out)).trans e4,(h.cell (p:=⟨gq,q,none⟩) (Nat.lt_trans hgqp HGZ.out)).trans e5⟩)
      clear hbx2
      subst e1
      go_upto_region 10 with fail
      clear e4 e5
      refine AnyE.region (S:=fun w'=>(∀ j_1,w'.cell? ⟨w.heap.size,j_1,none⟩ = (#[.int .i64 n.id,.string n.name,.int .i64 n.rep,.int .i64 n.kind,.slice au ns cu]:Array Value)[j_1]?) ∧ w'.cell? ⟨gL,k * 5 + 4,none⟩ = some (.slice (some ⟨gq,0,none⟩) pm pc) ∧ w'.cell? ⟨gq,q,none⟩ = some (.int .i64 y.id)) (E:=[9,12,14,15]) (by kernel_rfl) ?_
      have hbd:=(Below.refl wx.heap.size wx).drew
      have HD:=Lib.hid hbd
      clear hbd
      have hwdz:wx.heap.size ≤ wx.drew.heap.size:=HD.out.size
      generalize wx.drew = wd at *
      have hS:=(HS10.out wd HD.out:(fun w'=>(∀ j_1,w'.cell? ⟨w.heap.size,j_1,none⟩ = (#[.int .i64 n.id,.string n.name,.int .i64 n.rep,.int .i64 n.kind,.slice au ns cu]:Array Value)[j_1]?) ∧ w'.cell? ⟨gL,k * 5 + 4,none⟩ = some (.slice (some ⟨gq,0,none⟩) pm pc) ∧ w'.cell? ⟨gq,q,none⟩ = some (.int .i64 y.id)) wd)
      refine AnyE.takeL (i:=0) (v:=.agg #[.int .i64 n.id,.string n.name,.int .i64 n.rep,.int .i64 n.kind,.slice au ns cu]) rfl (by kernel_rfl) (by kernel_rfl) (by kernel_rfl) (by kernel_rfl) (by kernel_rfl) (fun _ _ _ h=>h) (yields_load 24 _ rfl rfl w.heap.size (0) rfl #[.int .i64 n.id,.string n.name,.int .i64 n.rep,.int .i64 n.kind,.slice au ns cu] _ (fun w h=>fun j v hj=>by rw [Nat.zero_add];exact (h.1 j).trans hj) Tryz.underlying24 rfl (by kernel_rfl)) hS ?_
      try simp only [Act.put,List.getElem_toArray,List.getElem_cons_succ,List.getElem_cons_zero,List.setIfInBounds_toArray,List.set_cons_zero,List.set_cons_succ]
      refine AnyE.takeL (i:=1) (v:=?_) rfl (by kernel_rfl) (by kernel_rfl) (by kernel_rfl) (by kernel_rfl) (by kernel_rfl) (fun _ _ _ h=>h) (Or.inl ⟨by rfl,?_⟩) hS ?_
      rotate_left
      focus (intro wq hSq;obtain ⟨hS1,hS2,hS3⟩:=hSq;go_simp;with_reducible rfl)
      try simp only [Act.put,List.getElem_toArray,List.getElem_cons_succ,List.getElem_cons_zero,List.setIfInBounds_toArray,List.set_cons_zero,List.set_cons_succ]
      refine AnyE.takeL (i:=2) (v:=?_) rfl (by kernel_rfl) (by kernel_rfl) (by kernel_rfl) (by kernel_rfl) (by kernel_rfl) (fun _ _ _ h=>h) (Or.inl ⟨by rfl,?_⟩) hS ?_
      rotate_left
      focus (intro wq hSq;obtain ⟨hS1,hS2,hS3⟩:=hSq;go_simp;with_reducible rfl)
      try simp only [Act.put,List.getElem_toArray,List.getElem_cons_succ,List.getElem_cons_zero,List.setIfInBounds_toArray,List.set_cons_zero,List.set_cons_succ]
      refine AnyE.takeL (i:=3) (v:=?_) rfl (by kernel_rfl) (by kernel_rfl) (by kernel_rfl) (by kernel_rfl) (by kernel_rfl) (fun _ _ _ h=>h) (Or.inl ⟨by rfl,?_⟩) hS ?_
      rotate_left
      focus (intro wq hSq;obtain ⟨hS1,hS2,hS3⟩:=hSq;go_simp;with_reducible rfl)
      try simp only [Act.put,List.getElem_toArray,List.getElem_cons_succ,List.getElem_cons_zero,List.setIfInBounds_toArray,List.set_cons_zero,List.set_cons_succ]
      refine AnyE.takeL (i:=4) (v:=?_) rfl (by kernel_rfl) (by kernel_rfl) (by kernel_rfl) (by kernel_rfl) (by kernel_rfl) (fun _ _ _ h=>h) (Or.inl ⟨by rfl,?_⟩) hS ?_
      rotate_left
      focus (intro wq hSq;obtain ⟨hS1,hS2,hS3⟩:=hSq;go_simp;with_reducible rfl)
      try simp only [Act.put,List.getElem_toArray,List.getElem_cons_succ,List.getElem_cons_zero,List.setIfInBounds_toArray,List.set_cons_zero,List.set_cons_succ]
      refine AnyE.takeL (i:=5) (v:=?_) rfl (by kernel_rfl) (by kernel_rfl) (by kernel_rfl) (by kernel_rfl) (by kernel_rfl) (fun _ _ _ h=>h) (Or.inl ⟨by rfl,?_⟩) hS ?_
      rotate_left
      focus (intro wq hSq;obtain ⟨hS1,hS2,hS3⟩:=hSq;go_simp;with_reducible rfl)
      try simp only [Act.put,List.getElem_toArray,List.getElem_cons_succ,List.getElem_cons_zero,List.setIfInBounds_toArray,List.set_cons_zero,List.set_cons_succ]
      refine AnyE.takeL (i:=6) (v:=?_) rfl (by kernel_rfl) (by kernel_rfl) (by kernel_rfl) (by kernel_rfl) (by kernel_rfl) (fun _ _ _ h=>h) (Or.inl ⟨by rfl,?_⟩) hS ?_
      rotate_left
      focus (intro wq hSq;obtain ⟨hS1,hS2,hS3⟩:=hSq;go_simp;with_reducible rfl)
      try simp only [Act.put,List.getElem_toArray,List.getElem_cons_succ,List.getElem_cons_zero,List.setIfInBounds_toArray,List.set_cons_zero,List.set_cons_succ]
      refine AnyE.takeL (i:=7) (v:=?_) rfl (by kernel_rfl) (by kernel_rfl) (by kernel_rfl) (by kernel_rfl) (by kernel_rfl) (fun _ _ _ h=>h) (Or.inl ⟨by rfl,?_⟩) hS ?_
      rotate_left
      focus (intro wq hSq;obtain ⟨hS1,hS2,hS3⟩:=hSq;go_simp;with_reducible rfl)
      try simp only [Act.put,List.getElem_toArray,List.getElem_cons_succ,List.getElem_cons_zero,List.setIfInBounds_toArray,List.set_cons_zero,List.set_cons_succ]
      refine AnyE.takeL (i:=8) (v:=?_) rfl (by kernel_rfl) (by kernel_rfl) (by kernel_rfl) (by kernel_rfl) (by kernel_rfl) (fun _ _ _ h=>h) (Or.inl ⟨by rfl,?_⟩) hS ?_
      rotate_left
      focus (intro wq hSq;obtain ⟨hS1,hS2,hS3⟩:=hSq;go_simp;with_reducible rfl)
      try simp only [Act.put,List.getElem_toArray,List.getElem_cons_succ,List.getElem_cons_zero,List.setIfInBounds_toArray,List.set_cons_zero,List.set_cons_succ]
      refine AnyE.two (i:=9) (j:=13) (by kernel_rfl) rfl rfl rfl rfl ?_ ?_
      · intro K hK
        simp only [List.getElem_toArray,List.getElem_cons_succ,List.getElem_cons_zero]
        go_simp
        refine (HFD.out y.id wd (HWx.out.trans (HD.out.mono HWx.out.size))).mono ?_;rintro e w5 ⟨hb5,hres⟩
        rcases hres with ⟨pl2,fa,fc,hfd,rfl,hfn⟩ | ⟨hnone,rfl⟩
        case inr=>rw [HFI.out.1] at hnone;cases hnone
        rw [HFI.out.1] at hfd;injection hfd with hfd;subst hfd
        rw [HFI.out.2] at hfn ⊢
        have HFN:=Lib.hid hfn
        replace HD:=Lib.hid (HD.out.trans (hb5.mono hwdz));replace hwdz:=Nat.le_trans hwdz hb5.size
        unfold ndA
        refine hK _ _ (fun h=>absurd h (by decide)) ?_
        clear hK K hS hfn hb5
        try simp only [Act.put,List.getElem_toArray,List.getElem_cons_succ,List.getElem_cons_zero,List.setIfInBounds_toArray,List.set_cons_zero,List.set_cons_succ]
        have hS:=(HS10.out w5 HD.out:(fun w'=>(∀ j_1,w'.cell? ⟨w.heap.size,j_1,none⟩ = (#[.int .i64 n.id,.string n.name,.int .i64 n.rep,.int .i64 n.kind,.slice au ns cu]:Array Value)[j_1]?) ∧ w'.cell? ⟨gL,k * 5 + 4,none⟩ = some (.slice (some ⟨gq,0,none⟩) pm pc) ∧ w'.cell? ⟨gq,q,none⟩ = some (.int .i64 y.id)) w5)
        refine AnyE.takeL (i:=10) (v:=?_) rfl (by kernel_rfl) (by kernel_rfl) (by kernel_rfl) (by kernel_rfl) (by kernel_rfl) (fun _ _ _ h=>h) (Or.inl ⟨by rfl,?_⟩) hS ?_
        rotate_left
        focus (intro wq hSq;obtain ⟨hS1,hS2,hS3⟩:=hSq;go_simp;with_reducible rfl)
        try simp only [Act.put,List.getElem_toArray,List.getElem_cons_succ,List.getElem_cons_zero,List.setIfInBounds_toArray,List.set_cons_zero,List.set_cons_succ]
        refine AnyE.takeP (i:=12) (v:=?_) rfl (by kernel_rfl) (by kernel_rfl) (by kernel_rfl) (by kernel_rfl) (fun _ _ _ h=>h) (Or.inl ⟨by rfl,?_⟩) ?_
        rotate_left
        focus (intro wq hSq;go_simp;with_reducible rfl)
        try simp only [Act.put,List.getElem_toArray,List.getElem_cons_succ,List.getElem_cons_zero,List.setIfInBounds_toArray,List.set_cons_zero,List.set_cons_succ]
        refine AnyE.takeL (i:=11) (v:=?_) rfl (by kernel_rfl) (by kernel_rfl) (by kernel_rfl) (by kernel_rfl) (by kernel_rfl) (fun _ _ _ h=>h) (Or.inl ⟨by rfl,?_⟩) hS ?_
        rotate_left
        focus (intro wq hSq;obtain ⟨hS1,hS2,hS3⟩:=hSq;go_simp;with_reducible rfl)
        try simp only [Act.put,List.getElem_toArray,List.getElem_cons_succ,List.getElem_cons_zero,List.setIfInBounds_toArray,List.set_cons_zero,List.set_cons_succ]
        refine AnyE.one (i:=13) (by kernel_rfl) rfl rfl ?_
        intro K hK
        simp only [List.getElem_toArray,List.getElem_cons_succ,List.getElem_cons_zero]
        go_simp
        have hbe:=(Below.refl w5.heap.size w5).alloc (Nat.le_refl _) (.cells #[.int .i64 0,.string ⟨#[]⟩,.int .i64 0,.int .i64 0,.slice none 0 0] 24)
        have hly:=heap_alloc_new w5 (.cells #[.int .i64 0,.string ⟨#[]⟩,.int .i64 0,.int .i64 0,.slice none 0 0] 24)
        have RY:=Lib.hid hly;have hgy:wx.heap.size ≤ w5.heap.size:=hwdz
        replace HFN:=Lib.hid (HFN.out.under (hbe.mono (Nat.le_trans HWx.out.size hwdz)))
        replace HD:=Lib.hid (HD.out.trans (hbe.mono hwdz));replace hwdz:=Nat.le_trans hwdz hbe.size
        refine hK _ _ (fun _=>HS10.out _ HD.out) ?_
        clear hK K hS hly hbe
        try simp only [Act.put,List.getElem_toArray,List.getElem_cons_succ,List.getElem_cons_zero,List.setIfInBounds_toArray,List.set_cons_zero,List.set_cons_succ]
        generalize hwb:w5.alloc (.cells #[.int .i64 0,.string ⟨#[]⟩,.int .i64 0,.int .i64 0,.slice none 0 0] 24) = wb at *
        clear hwb
        generalize w5.heap.size = gy at *
        have hS:=(HS10.out wb HD.out:(fun w'=>(∀ j_1,w'.cell? ⟨w.heap.size,j_1,none⟩ = (#[.int .i64 n.id,.string n.name,.int .i64 n.rep,.int .i64 n.kind,.slice au ns cu]:Array Value)[j_1]?) ∧ w'.cell? ⟨gL,k * 5 + 4,none⟩ = some (.slice (some ⟨gq,0,none⟩) pm pc) ∧ w'.cell? ⟨gq,q,none⟩ = some (.int .i64 y.id)) wb)
        refine AnyE.one (i:=14) (by kernel_rfl) rfl rfl ?_
        intro K hK
        simp only [List.getElem_toArray,List.getElem_cons_succ,List.getElem_cons_zero]
        refine wp_store_part rfl 24 _ _ rfl gy 0 #[.int .i64 0,.string ⟨#[]⟩,.int .i64 0,.int .i64 0,.slice none 0 0] 24 #[.int .i64 y.id,.string y.name,.int .i64 y.rep,.int .i64 y.kind,.slice fa y.sub.length fc] rfl rfl RY.out nd_info (by simp [Value.oneCell']) (Nat.le_of_ble_eq_true rfl) #[.int .i64 y.id,.string y.name,.int .i64 y.rep,.int .i64 y.kind,.slice fa y.sub.length fc] rfl ?_;intro w9 r9 ho9 hb9 hz9
        refine hK _ _ (fun h=>absurd h (by decide)) ?_
        clear hK K hS
        try simp only [Act.put,List.getElem_toArray,List.getElem_cons_succ,List.getElem_cons_zero,List.setIfInBounds_toArray,List.set_cons_zero,List.set_cons_succ]
        have R9:=Lib.hid r9;have HB9:=Lib.hid (show Below wx.heap.size wx w9 from HD.out.trans (hb9.mono hgy));have hz9':gp < w9.heap.size:=Nat.lt_of_lt_of_le HGZ.out (Nat.le_trans hwdz (Nat.le_of_eq hz9.symm))
        have HFN9:=Lib.hid (HFN.out.under (hb9.mono (Nat.le_trans HWx.out.size hgy)))
        clear r9 ho9 hb9 hz9 RY HD HFN
        refine AnyE.one (i:=15) (by kernel_rfl) rfl rfl ?_
        intro K hK
        simp only [List.getElem_toArray,List.getElem_cons_succ,List.getElem_cons_zero]
        go_simp
        refine hK _ _ (fun h=>absurd h (by decide)) ?_
        clear hK K
        try simp only [Act.put,List.getElem_toArray,List.getElem_cons_succ,List.getElem_cons_zero,List.setIfInBounds_toArray,List.set_cons_zero,List.set_cons_succ]
        refine AnyE.done (by kernel_rfl) ?_ _
        have HPR4:=Lib.hid (own_blw HPR.out HB9.out);have HPE4:=Lib.hid (fun z hz=>((HPE.out z hz).under (HB9.out.mono HWx.out.size)))
        have h63:LP.length + 1 ≤ maxLen:=by have:=HPL.out;unfold maxLen;omega
        have h64:(LP.length + 1) * 64 ≤ 140737488355328:=by have:=HPL.out;omega
        have hbz9:gp ≤ w9.heap.size:=Nat.le_of_lt hz9'
        have cY:=rowc R9.out
        go_wp2_with (at_builtin;refine wpList_pushRow rfl _ _ 22 rfl gp 24 i0 _ 5 64 Tryz.underlying22 hi hz0 hz1 hz2 rfl (by decide) ndC (fun _=>rfl) ndC_one _ LP rfl (own_len HPR4.out HPL.out) _ _ rfl rfl h63 h64 hbz9 (y,Value.slice fa y.sub.length fc) _ rfl ?_;intro v' w7 hown' hgr hq7;obtain ⟨a6,c6,rfl⟩:=own_form hown';have HO7:=Lib.hid hown';have HG7:=Lib.hid hgr;clear hown' hgr hq7)
        go_roundw
        case rel =>
          have hl5:(LP ++ [((y,Value.slice fa y.sub.length fc):Nd × Value)]).length = q + 1 + 1:=by rw [List.length_append,HPL.out];rfl
          have hbg:=grow_below HPR4.out HG7.out hbz9
          have hgw7:w.heap.size ≤ gp:=by omega
          refine ⟨q + 1,a6,c6,LP ++ [(y,Value.slice fa y.sub.length fc)],Hlt2.out,by go_num,by rw [HPL.out],Lib.hid (by rw [List.map_append,HPM.out,HTK.out];rfl),hl5,(by have h:=HO7.out;rw [hl5] at h;exact h),Lib.hid fun z hz=>?_,HBx.out.trans ((HB9.out.mono (Nat.le_of_lt HGZ.out)).trans hbg),Nat.lt_of_lt_of_le hz9' hbg.size⟩
          rcases List.mem_append.1 hz with hz | hz
          · exact (HPE4.out z hz).under (hbg.mono hgw7)
          · obtain rfl:=List.mem_singleton.1 hz
            exact HFN9.out.under (hbg.mono hgw7)
        case measure=>have:=Hlt2.out;simp [intOf];omega
      · intro K hK
        simp only [List.getElem_toArray,List.getElem_cons_succ,List.getElem_cons_zero]
        go_simp
        have hbe:=(Below.refl wd.heap.size wd).alloc (Nat.le_refl _) (.cells #[.int .i64 0,.string ⟨#[]⟩,.int .i64 0,.int .i64 0,.slice none 0 0] 24)
        have hly:=heap_alloc_new wd (.cells #[.int .i64 0,.string ⟨#[]⟩,.int .i64 0,.int .i64 0,.slice none 0 0] 24)
        have RY:=Lib.hid hly;have hgy:wx.heap.size ≤ wd.heap.size:=hwdz
        replace HD:=Lib.hid (HD.out.trans (hbe.mono hwdz));replace hwdz:=Nat.le_trans hwdz hbe.size
        refine hK _ _ (fun _=>HS10.out _ HD.out) ?_
        clear hK K hS hly hbe
        try simp only [Act.put,List.getElem_toArray,List.getElem_cons_succ,List.getElem_cons_zero,List.setIfInBounds_toArray,List.set_cons_zero,List.set_cons_succ]
        generalize hwb:wd.alloc (.cells #[.int .i64 0,.string ⟨#[]⟩,.int .i64 0,.int .i64 0,.slice none 0 0] 24) = wb at *
        clear hwb
        generalize wd.heap.size = gy at *
        have hS:=(HS10.out wb HD.out:(fun w'=>(∀ j_1,w'.cell? ⟨w.heap.size,j_1,none⟩ = (#[.int .i64 n.id,.string n.name,.int .i64 n.rep,.int .i64 n.kind,.slice au ns cu]:Array Value)[j_1]?) ∧ w'.cell? ⟨gL,k * 5 + 4,none⟩ = some (.slice (some ⟨gq,0,none⟩) pm pc) ∧ w'.cell? ⟨gq,q,none⟩ = some (.int .i64 y.id)) wb)
        refine AnyE.one (i:=9) (by kernel_rfl) rfl rfl ?_
        intro K hK
        simp only [List.getElem_toArray,List.getElem_cons_succ,List.getElem_cons_zero]
        go_simp
        refine (HFD.out y.id wb (HWx.out.trans (HD.out.mono HWx.out.size))).mono ?_;rintro e w5 ⟨hb5,hres⟩
        rcases hres with ⟨pl2,fa,fc,hfd,rfl,hfn⟩ | ⟨hnone,rfl⟩
        case inr=>rw [HFI.out.1] at hnone;cases hnone
        rw [HFI.out.1] at hfd;injection hfd with hfd;subst hfd
        rw [HFI.out.2] at hfn ⊢
        have HFN:=Lib.hid hfn
        replace RY:=Lib.hid (row_keep hb5 RY.out)
        replace HD:=Lib.hid (HD.out.trans (hb5.mono hwdz));replace hwdz:=Nat.le_trans hwdz hb5.size
        unfold ndA
        refine hK _ _ (fun h=>absurd h (by decide)) ?_
        clear hK K hS hfn hb5
        try simp only [Act.put,List.getElem_toArray,List.getElem_cons_succ,List.getElem_cons_zero,List.setIfInBounds_toArray,List.set_cons_zero,List.set_cons_succ]
        have hS:=(HS10.out w5 HD.out:(fun w'=>(∀ j_1,w'.cell? ⟨w.heap.size,j_1,none⟩ = (#[.int .i64 n.id,.string n.name,.int .i64 n.rep,.int .i64 n.kind,.slice au ns cu]:Array Value)[j_1]?) ∧ w'.cell? ⟨gL,k * 5 + 4,none⟩ = some (.slice (some ⟨gq,0,none⟩) pm pc) ∧ w'.cell? ⟨gq,q,none⟩ = some (.int .i64 y.id)) w5)
        refine AnyE.takeL (i:=10) (v:=?_) rfl (by kernel_rfl) (by kernel_rfl) (by kernel_rfl) (by kernel_rfl) (by kernel_rfl) (fun _ _ _ h=>h) (Or.inl ⟨by rfl,?_⟩) hS ?_
        rotate_left
        focus (intro wq hSq;obtain ⟨hS1,hS2,hS3⟩:=hSq;go_simp;with_reducible rfl)
        try simp only [Act.put,List.getElem_toArray,List.getElem_cons_succ,List.getElem_cons_zero,List.setIfInBounds_toArray,List.set_cons_zero,List.set_cons_succ]
        refine AnyE.takeP (i:=12) (v:=?_) rfl (by kernel_rfl) (by kernel_rfl) (by kernel_rfl) (by kernel_rfl) (fun _ _ _ h=>h) (Or.inl ⟨by rfl,?_⟩) ?_
        rotate_left
        focus (intro wq hSq;go_simp;with_reducible rfl)
        try simp only [Act.put,List.getElem_toArray,List.getElem_cons_succ,List.getElem_cons_zero,List.setIfInBounds_toArray,List.set_cons_zero,List.set_cons_succ]
        refine AnyE.takeL (i:=11) (v:=?_) rfl (by kernel_rfl) (by kernel_rfl) (by kernel_rfl) (by kernel_rfl) (by kernel_rfl) (fun _ _ _ h=>h) (Or.inl ⟨by rfl,?_⟩) hS ?_
        rotate_left
        focus (intro wq hSq;obtain ⟨hS1,hS2,hS3⟩:=hSq;go_simp;with_reducible rfl)
        try simp only [Act.put,List.getElem_toArray,List.getElem_cons_succ,List.getElem_cons_zero,List.setIfInBounds_toArray,List.set_cons_zero,List.set_cons_succ]
        refine AnyE.one (i:=14) (by kernel_rfl) rfl rfl ?_
        intro K hK
        simp only [List.getElem_toArray,List.getElem_cons_succ,List.getElem_cons_zero]
        refine wp_store_part rfl 24 _ _ rfl gy 0 #[.int .i64 0,.string ⟨#[]⟩,.int .i64 0,.int .i64 0,.slice none 0 0] 24 #[.int .i64 y.id,.string y.name,.int .i64 y.rep,.int .i64 y.kind,.slice fa y.sub.length fc] rfl rfl RY.out nd_info (by simp [Value.oneCell']) (Nat.le_of_ble_eq_true rfl) #[.int .i64 y.id,.string y.name,.int .i64 y.rep,.int .i64 y.kind,.slice fa y.sub.length fc] rfl ?_;intro w9 r9 ho9 hb9 hz9
        refine hK _ _ (fun h=>absurd h (by decide)) ?_
        clear hK K hS
        try simp only [Act.put,List.getElem_toArray,List.getElem_cons_succ,List.getElem_cons_zero,List.setIfInBounds_toArray,List.set_cons_zero,List.set_cons_succ]
        have R9:=Lib.hid r9;have HB9:=Lib.hid (show Below wx.heap.size wx w9 from HD.out.trans (hb9.mono hgy));have hz9':gp < w9.heap.size:=Nat.lt_of_lt_of_le HGZ.out (Nat.le_trans hwdz (Nat.le_of_eq hz9.symm))
        have HFN9:=Lib.hid (HFN.out.under (hb9.mono (Nat.le_trans HWx.out.size hgy)))
        clear r9 ho9 hb9 hz9 RY HD HFN
        refine AnyE.one (i:=15) (by kernel_rfl) rfl rfl ?_
        intro K hK
        simp only [List.getElem_toArray,List.getElem_cons_succ,List.getElem_cons_zero]
        go_simp
        refine hK _ _ (fun h=>absurd h (by decide)) ?_
        clear hK K
        try simp only [Act.put,List.getElem_toArray,List.getElem_cons_succ,List.getElem_cons_zero,List.setIfInBounds_toArray,List.set_cons_zero,List.set_cons_succ]
        refine AnyE.done (by kernel_rfl) ?_ _
        have HPR4:=Lib.hid (own_blw HPR.out HB9.out);have HPE4:=Lib.hid (fun z hz=>((HPE.out z hz).under (HB9.out.mono HWx.out.size)))
        have h63:LP.length + 1 ≤ maxLen:=by have:=HPL.out;unfold maxLen;omega
        have h64:(LP.length + 1) * 64 ≤ 140737488355328:=by have:=HPL.out;omega
        have hbz9:gp ≤ w9.heap.size:=Nat.le_of_lt hz9'
        have cY:=rowc R9.out
        go_wp2_with (at_builtin;refine wpList_pushRow rfl _ _ 22 rfl gp 24 i0 _ 5 64 Tryz.underlying22 hi hz0 hz1 hz2 rfl (by decide) ndC (fun _=>rfl) ndC_one _ LP rfl (own_len HPR4.out HPL.out) _ _ rfl rfl h63 h64 hbz9 (y,Value.slice fa y.sub.length fc) _ rfl ?_;intro v' w7 hown' hgr hq7;obtain ⟨a6,c6,rfl⟩:=own_form hown';have HO7:=Lib.hid hown';have HG7:=Lib.hid hgr;clear hown' hgr hq7)
        go_roundw
        case rel =>
          have hl5:(LP ++ [((y,Value.slice fa y.sub.length fc):Nd × Value)]).length = q + 1 + 1:=by rw [List.length_append,HPL.out];rfl
          have hbg:=grow_below HPR4.out HG7.out hbz9
          have hgw7:w.heap.size ≤ gp:=by omega
          refine ⟨q + 1,a6,c6,LP ++ [(y,Value.slice fa y.sub.length fc)],Hlt2.out,by go_num,by rw [HPL.out],Lib.hid (by rw [List.map_append,HPM.out,HTK.out];rfl),hl5,(by have h:=HO7.out;rw [hl5] at h;exact h),Lib.hid fun z hz=>?_,HBx.out.trans ((HB9.out.mono (Nat.le_of_lt HGZ.out)).trans hbg),Nat.lt_of_lt_of_le hz9' hbg.size⟩
          rcases List.mem_append.1 hz with hz | hz
          · exact (HPE4.out z hz).under (hbg.mono hgw7)
          · obtain rfl:=List.mem_singleton.1 hz
            exact HFN9.out.under (hbg.mono hgw7)
        case measure=>have:=Hlt2.out;simp [intOf];omega
end Go.Proofs.YtkmhmnffbgedgaaGreatDoor
