/- The walk of the statement ShredMakes. -/
import Derived.Test.YtkmhmnffbgedgaaGreatDoorShF
import Derived.Test.YtkmhmnffbgedgaaGreatDoorShH
import Derived.Test.YtkmhmnffbgedgaaGreatDoorShE
import Derived.Test.YtkmhmnffbgedgaaGreatDoorWgC
import Derived.Test.YtkmhmnffbgedgaaGreatDoorSh9
import Derived.Test.YtkmhmnffbgedgaaGreatDoorDv1
import Derived.Test.YtkmhmnffbgedgaaGreatDoorMBits
namespace Go.Proofs.YtkmhmnffbgedgaaGreatDoor
set_option maxHeartbeats 16000000
set_option linter.unusedVariables false
set_option linter.unusedSimpArgs false
open Go Go.RowKit Go.ChangeShapes
theorem badDt_all (n:Nd):∀ (l:List Dt) (i:Nat),badDt n l i = .nil → ∀ d ∈ l,datE n false d = 0
 | [],_,_,d,h=>by cases h
 | a :: r,i,h,d,hd=>by
  simp only [badDt] at h
  split at h
  ·rename_i h0
   rcases List.mem_cons.1 hd with rfl | hd
   ·exact h0
   ·exact badDt_all n r (i + 1) h d hd
  ·cases h
theorem shredErr_nil {n:Nd} {l:List Dt} (h:shredErr n l = .nil):validE n = 0 ∧ ∀ d ∈ l,datE n false d = 0:=by
 unfold shredErr at h
 split at h
 ·cases h
 ·rename_i h0
  split at h
  ·cases h
  ·exact ⟨Classical.not_not.1 h0,badDt_all n l 0 h⟩
theorem badDt_code (n:Nd):∀ (l:List Dt) (i:Nat),badDt n l i ≠ .nil → 0 < (badDt n l i).code
 | [],_,h=>absurd rfl h
 | a :: r,i,h=>by
  simp only [badDt] at h ⊢
  split
  ·rename_i h0
   rw [if_pos h0] at h
   exact badDt_code n r (i + 1) h
  ·show (0:Int) < ((datE n false a:Nat):Int)
   omega
theorem shredErr_code {n:Nd} {l:List Dt} (h:shredErr n l ≠ .nil):0 < (shredErr n l).code:=by
 unfold shredErr at h ⊢
 split
 ·show (0:Int) < ((validE n:Nat):Int)
  omega
 ·split
  ·show (0:Int) < ((2:Nat):Int)
   omega
  ·rename_i h1 h2
   rw [if_neg h1,if_neg h2] at h
   exact badDt_code n l 0 h
theorem shCols_mem {n:Nd} {l:List Dt} {c:Col} (h:c ∈ shCols n l):∃ j,c = shCol n l j:=by
 unfold shCols at h
 obtain ⟨j,_,rfl⟩:=List.mem_map.1 h
 exact ⟨j,rfl⟩
set_option maxRecDepth 100000 in
theorem makes_any (n:Nd) (l:List Dt) (u v:Value) (w:World) (adr:Nat → Addr) (hE:ErrEnv w adr) (hN:IsNds (· < w.heap.size) w u n.sub) (hO:∀ x ∈ nodes n,x.Ok1) (hL:IsDts (· < w.heap.size) w v l) (hD:∀ y ∈ dtsL l,y.Ok1)
  (h88:l.length * 88 ≤ 140737488355328) :
  Calls Tryz.prog 3 #[.agg (ndA n u),v] w fun e w'=>e = .returned (.bool true) ∧ Below w.heap.size w w':=by
 have HN:=Lib.hid (fun (w1:World) (h:Below w.heap.size w w1)=>(hN.under h).mono (Q:=(· < w1.heap.size)) fun b hb _=>Nat.lt_of_lt_of_le hb h.size)
 have HL:=Lib.hid (fun (w1:World) (h:Below w.heap.size w w1)=>(hL.under h).mono (Q:=(· < w1.heap.size)) fun b hb _=>Nat.lt_of_lt_of_le hb h.size)
 have HTW:=Lib.hid (fun (w1:World) (h:Below w.heap.size w w1)=>twins_any w1 adr ((hE.below h).errs.sub (by decide)))
 have HTM:=Lib.hid (fun (w1:World) (h:Below w.heap.size w w1)=>tame_any n u w1 (HN.out w1 h) hO)
 have HLI:=Lib.hid (fun (w1:World) (h:Below w.heap.size w w1)=>light_gen l v w1 (HL.out w1 h) hD h88)
 have HRE:=Lib.hid (fun (h150:l.length ≤ 150) (w1:World) (h:Below w.heap.size w w1)=>recordsErr_any n l u v w1 (HN.out w1 h) hO (HL.out w1 h) hD h150)
 have HON:=Lib.hid (fun (w1:World) (h:Below w.heap.size w w1)=>ownNode_any n u w1 (HN.out w1 h) hO)
 have HOD:=Lib.hid (fun (w1:World) (h:Below w.heap.size w w1)=>ownData_of l (fun x _=>ownDatum_any x) v w1 (HL.out w1 h) hD h88)
 have HSH:=Lib.hid (fun (hwt:shredErr n l = .nil → wgtL l ≤ 3000) (w1:World) (h:Below w.heap.size w w1) (x y:Value) (hx:IsNds (· < w1.heap.size) w1 x n.sub) (hy:IsDts (· < w1.heap.size) w1 y l)=>shred_any adr n l x y w1 ((hE.below h).errs.sub (by decide)) hx hO hy hD (fun hz j=>by have:=shAll_len n l j;have:=hwt hz;omega) (fun hz d hd=>by have:=wgtL_mem hd;have:=hwt hz;omega))
 have HSO:=Lib.hid (fun (hwt:wgtL l ≤ 3000) (h150:l.length ≤ 150) (hG:shredErr n l = .nil) (w1:World) (h:Below w.heap.size w w1)=>shredOf_any n l u v w1 (HN.out w1 h) hO (HL.out w1 h) hD (shredErr_nil hG).1 (shredErr_nil hG).2 hwt h150)
 have HSC:=Lib.hid (fun (hwt:wgtL l ≤ 3000) (hG:shredErr n l = .nil) (x y:Value) (w1:World) (hx:IsCols w1 x (shCols n l)) (hy:IsCols w1 y (shCols n l))=>sameCols_any (shCols n l) x y w1 hx hy (fun c hc=>by
  obtain ⟨j,rfl⟩:=shCols_mem hc
  have:=shCol_len n l j
  unfold maxLen
  omega) (by
  have h1:=leaves_len (valid_root (shredErr_nil hG).1).1
  have h3:=lvs_le.1 n
  have h4:=(good_small (shredErr_nil hG).1).1
  rw [shCols_len]
  omega))
 have HWC:=Lib.hid (fun (hG:shredErr n l = .nil) (h150:l.length ≤ 150)=>wgtL_cap (good_small (shredErr_nil hG).1).1 (good_small (shredErr_nil hG).1).2 h150 (shredErr_nil hG).2)
 have HGC:=Lib.hid (shredErr_code (n:=n) (l:=l))
 have HEB:=Lib.hid (fun (w1:World) (h:Below w.heap.size w w1)=>hE.below h)
 obtain ⟨au,cu,rfl⟩:=hN.form
 obtain ⟨al,cl,rfl⟩:=hL.form
 obtain ⟨ns,hns⟩:∃ ns,n.sub.length = ns:=⟨_,rfl⟩
 obtain ⟨nl,hnl⟩:∃ nl,l.length = nl:=⟨_,rfl⟩
 unfold OwnRet at HON
 unfold OwnLRet at HOD
 unfold OwnCsRet at HSO
 unfold ShredRet at HSH
 rw [hns] at HTM HRE HON HSO ⊢
 rw [hnl] at HLI HRE HOD HSO HWC ⊢
 obtain ⟨G,hG⟩:∃ G,shredErr n l = G:=⟨_,rfl⟩
 rw [hG] at HRE HSH HSO HSC HGC HWC
 obtain ⟨W,hW⟩:∃ W,wgtL l = W:=⟨_,rfl⟩
 rw [hW] at HLI HSH HSO HSC HWC
 generalize shCols n l = CS at *
 clear hE hN hO hL hD h88 hns hnl hG hW
 have hbw:=(Below.refl w.heap.size w).alloc (Nat.le_refl _) (.cells #[.int .i64 n.id,.string n.name,.int .i64 n.rep,.int .i64 n.kind,.slice au ns cu] 24)
 have rA:=heap_alloc_new w (.cells #[.int .i64 n.id,.string n.name,.int .i64 n.rep,.int .i64 n.kind,.slice au ns cu] 24)
 unfold ndA at *
 go_enter Tryz.func3,Tryz.ntmps3
 go_upto_region 1 with fail
 generalize (w.alloc (.cells #[.int .i64 n.id,.string n.name,.int .i64 n.rep,.int .i64 n.kind,.slice au ns cu] 24)) = w1 at *
 have HW:=Lib.hid hbw;have RA:=Lib.hid rA
 clear hbw rA
 go_wp2_with fail
 refine (HTW.out w1 HW.out).mono ?_;rintro e w2 ⟨rfl,hb2⟩
 replace RA:=Lib.hid (row_keep hb2 RA.out);replace HW:=Lib.hid (HW.out.trans (hb2.mono HW.out.size))
 clear hb2 HTW
 have cA:=rowc RA.out
 go_wp2_with fail
 refine (HTM.out w2 HW.out).mono ?_;rintro e w3 ⟨b,rfl,hb3⟩
 replace RA:=Lib.hid (row_keep hb3 RA.out);replace HW:=Lib.hid (HW.out.trans (hb3.mono HW.out.size))
 clear hb3 cA HTM
 cases b with
 | false =>
  go_wp2_with fail
  go_ret
  exact ⟨rfl,HW.out⟩
 | true =>
 go_wp2_with fail
 refine (HLI.out w3 HW.out).mono ?_;rintro e w4 ⟨q,hq,rfl,hb4⟩
 replace RA:=Lib.hid (row_keep hb4 RA.out);replace HW:=Lib.hid (HW.out.trans (hb4.mono HW.out.size))
 clear hb4 HLI
 have HQ:=Lib.hid hq
 clear hq
 obtain ⟨b,hb⟩:∃ b,(decide (nl ≤ 150) && decide (q ≤ 3000)) = b:=⟨_,rfl⟩
 rw [hb]
 cases b with
 | false =>
  clear hb
  go_wp2_with fail
  go_ret
  exact ⟨rfl,HW.out⟩
 | true =>
 simp only [Bool.and_eq_true,decide_eq_true_eq] at hb
 obtain ⟨h150,h3000⟩:=hb
 have hwt:G = .nil → W ≤ 3000:=fun hz=>by have:=HQ.out (HWC.out hz h150);omega
 replace HRE:=Lib.hid (HRE.out h150);replace HSH:=Lib.hid (HSH.out hwt);replace HSO:=Lib.hid (fun (hz:G = .nil)=>HSO.out (hwt hz) h150 hz);replace HSC:=Lib.hid (fun (hz:G = .nil)=>HSC.out (hwt hz) hz)
 clear h150 h3000 hwt HQ HWC
 have cA:=rowc RA.out
 go_wp2_with fail
 refine (HRE.out w4 HW.out).mono ?_;rintro e w5 ⟨rfl,hb5⟩
 replace RA:=Lib.hid (row_keep hb5 RA.out);replace HW:=Lib.hid (HW.out.trans (hb5.mono HW.out.size))
 clear hb5 HRE cA
 unfold faultV
 have hbe:=(Below.refl w5.heap.size w5).alloc (Nat.le_refl _) (.cells #[.int .i64 G.code,.int .i64 G.at'] 30)
 have hre:=heap_alloc_new w5 (.cells #[.int .i64 G.code,.int .i64 G.at'] 30)
 go_upto_region 5 with fail
 replace RA:=Lib.hid (row_keep hbe RA.out);replace HW:=Lib.hid (HW.out.trans (hbe.mono HW.out.size))
 have RF:=Lib.hid hre
 clear hbe hre
 generalize (w5.alloc (.cells #[.int .i64 G.code,.int .i64 G.at'] 30)) = w6 at *
 generalize w5.heap.size = ge at *
 have cA:=rowc RA.out
 go_wp2_with fail
 refine (HON.out w6 HW.out).mono ?_;rintro e w7 ⟨a7,c7,rfl,hn7,hb7⟩
 replace RA:=Lib.hid (row_keep hb7 RA.out);replace RF:=Lib.hid (row_keep hb7 RF.out);replace HW:=Lib.hid (HW.out.trans (hb7.mono HW.out.size))
 have HN7:=Lib.hid hn7
 clear hb7 hn7 HON cA
 go_wp2_with fail
 refine (HOD.out w7 HW.out).mono ?_;rintro e w8 ⟨a8,c8,rfl,hd8,hb8⟩
 replace RA:=Lib.hid (row_keep hb8 RA.out);replace RF:=Lib.hid (row_keep hb8 RF.out);replace HW:=Lib.hid (HW.out.trans (hb8.mono HW.out.size))
 have hnx:IsNds (· < w8.heap.size) w8 (.slice a7 ns c7) n.sub:=(HN7.out.keep hb8.size fun b _ hl=>hb8.block b hl).mono fun b _ hl=>hl
 have hdx:IsDts (· < w8.heap.size) w8 (.slice a8 nl c8) l:=hd8.mono fun b _ hl=>hl
 have HNX:=Lib.hid hnx;have HDX:=Lib.hid hdx
 clear hb8 hd8 hnx hdx HN7 HOD
 go_wp2_with fail
 refine (HSH.out w8 HW.out _ _ HNX.out HDX.out).mono ?_;rintro e w9 ⟨hb9,hres⟩
 replace RA:=Lib.hid (row_keep hb9 RA.out);replace RF:=Lib.hid (row_keep hb9 RF.out);replace HW:=Lib.hid (HW.out.trans (hb9.mono HW.out.size))
 clear hb9 HSH HNX HDX
 rcases hres with ⟨hg,vc,rfl,hic⟩ | ⟨hg,ue,rfl,her⟩
 ·subst hg
  obtain ⟨ac,cc,rfl⟩:=hic.form
  have HIC:=Lib.hid hic
  clear hic HGC
  have RF0:=Lib.hid (show w9.heap[ge]? = some (.cells #[.int .i64 0,.int .i64 (-1)] 30 (0,0)) from RF.out)
  have cF:=rowc RF0.out
  have cA:=rowc RA.out
  go_wp2_with fail
  refine (HSO.out (by first | rfl | trivial) w9 HW.out).mono ?_;rintro e wa ⟨va,rfl,hia,hba⟩
  replace HW:=Lib.hid (HW.out.trans (hba.mono HW.out.size));replace HIC:=Lib.hid (HIC.out.below hba (Nat.le_refl _))
  have HIA:=Lib.hid hia
  clear hba hia cF cA
  go_wp2_with fail
  refine (HSC.out (by first | rfl | trivial) _ _ wa HIC.out HIA.out).mono ?_;rintro e wb ⟨rfl,hbb⟩
  replace HW:=Lib.hid (HW.out.trans (hbb.mono HW.out.size))
  clear hbb
  go_wp2_with fail
  go_ret
  exact ⟨rfl,HW.out⟩
 ·have d5:=HGC.out hg
  have HER:=Lib.hid her
  have hres:((G.code == G.code) && ((G.code == 0) || (G.at' == G.at'))) = true:=by simp
  have HFA:=faulted_any G.code G.at' (HEB.out w9 HW.out) HER.out
  rw [hres] at HFA
  unfold faultV at HFA
  clear hres her hg HGC
  have cF:=rowc RF.out
  go_wp2_with fail
  refine HFA.mono ?_;rintro e wx ⟨rfl,hb⟩
  replace HW:=Lib.hid (HW.out.trans (hb.mono HW.out.size))
  clear HFA hb cF
  go_wp2_with fail
  go_ret
  exact ⟨rfl,HW.out⟩
end Go.Proofs.YtkmhmnffbgedgaaGreatDoor
