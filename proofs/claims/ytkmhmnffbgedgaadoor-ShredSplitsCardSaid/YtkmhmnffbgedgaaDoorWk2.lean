/- schema.Copy and schema.Find. Written by gen_wk2.py. -/
import Derived.Test.YtkmhmnffbgedgaaDoorDc2
import Derived.Test.YtkmhmnffbgedgaaDoorTv2
namespace Go.Proofs.YtkmhmnffbgedgaaDoor
set_option maxHeartbeats 16000000
set_option linter.unusedVariables false
set_option linter.unusedSimpArgs false
open Go Go.RowKit Go.ChangeShapes
set_option maxRecDepth 100000 in
theorem walk_any2 {σ:Type} (B:Nat) (P M:Nat → Prop) (Inv:Nat → σ → World → Prop) (f:Nd → Int → σ → Bool × σ) (g:Nat) (lb:Array Value)
  (eg:∀ args w,(callFunc g args).run Tryd.prog w = .ok (.enter g args) w) (hP:∀ b,P b → b < B) (hMB:∀ m s (w:World),Inv m s w → ∀ b,w.heap.size ≤ b → ¬ M b)
  (HA:∀ m s w w',Inv m s w → B ≤ w.heap.size → Below w.heap.size w w' → Inv m s w') (HD:∀ m m' s w,Inv m s w → m' ≤ m → Inv m' s w)
  (HS:SeeAt B P M Inv f g lb) :
  ∀ (n:Nd),∀ (m:Nat) (u:Value) (k:Int) (s:σ) (w:World),B ≤ w.heap.size → Inv (m + size n) s w → IsNds P w u n.sub → (∀ x ∈ nodes n,x.Ok1) →
   Calls Tryd.prog 55 #[.agg (ndA n u),.int .i64 k,.func (.func g) #[] lb] w fun e w'=>e = .returned (.bool (runF f (pre n k) s).1) ∧ Inv m (runF f (pre n k) s).2 w' ∧ Kp B M w w':=by
 apply Nd.ind
 intro n IH m u k s w hB hI hN hO
 have hI':Inv (m + sizeL n.sub + 1) s w:=by rw [size_eq] at hI;exact HD _ _ _ _ hI (by omega)
 clear hI
 have hMw:=Lib.hid (hMB _ _ w hI' w.heap.size (Nat.le_refl _))
 have hO1:=hO n (by rw [nodes_eq];exact List.mem_cons_self ..)
 have hOs:∀ x ∈ nodesL n.sub,x.Ok1:=fun x hx=>hO x (by rw [nodes_eq];exact List.mem_cons_of_mem _ hx)
 have HIH:=Lib.hid IH;have HOs:=Lib.hid hOs
 have HC:=Lib.hid (fun (w1:World) (hw:Below w.heap.size w w1)=>HS (m + sizeL n.sub) n u k s w1 (Nat.le_trans hB hw.size) (HA _ s w w1 hI' hB hw) (hN.belowP hP (hw.mono hB)) hO)
 have HN:=Lib.hid hN
 clear IH hO hOs hI' hN
 have hlen:=hO1.sub
 have hpe:∃ R,runF f (pre n k) s = R:=⟨_,rfl⟩
 obtain ⟨R,hR⟩:=hpe
 rw [hR]
 rw [pre_eq] at hR
 obtain ⟨ad,cp,hv⟩:=HN.out.form
 clear hO1
 obtain ⟨l,hl⟩:∃ l,n.sub = l:=⟨_,rfl⟩
 rw [hl] at HN HIH HOs hlen hR hv HC
 obtain ⟨len,hnl⟩:∃ len,l.length = len:=⟨_,rfl⟩
 rw [hnl] at hlen hv
 subst hv
 have HL:=Lib.hid hnl;have HRr:=Lib.hid hR
 clear hnl hl hR
 unfold ndA at HC
 unfold ndA
 have hw1:Below w.heap.size w (w.alloc (.cells #[.int .i64 n.id,.string n.name,.int .i64 n.rep,.int .i64 n.kind,.slice ad len cp] 47)):=(Below.refl _ _).alloc (Nat.le_refl _) _
 have hrow:=heap_alloc_new w (.cells #[.int .i64 n.id,.string n.name,.int .i64 n.rep,.int .i64 n.kind,.slice ad len cp] 47)
 have HW:=Lib.hid hw1;have HR:=Lib.hid hrow
 clear hw1 hrow
 go_enter Tryd.func55,Tryd.ntmps55
 go_wp2_with fail
 refine (HC.out _ HW.out).mono ?_;rintro e w1 ⟨rfl,hi1,hk1⟩
 have rN:=hk1.keep _ _ _ _ (.inl rfl) hMw.out HR.out
 have HK:=Lib.hid ((Kp.of_below HW.out hB).trans hk1);have HI:=Lib.hid hi1;have RN:=Lib.hid rN
 clear hi1 hk1 rN HC HR HW
 cases hb:(f n k s).1 with
 | false =>
  have E:=HRr.out
  simp only [runF,hb] at E
  obtain rfl:(false,(f n k s).2) = R:=by simpa using E
  clear E hb HRr
  go_wp2_with fail
  go_ret
  exact ⟨rfl,HD _ _ _ _ HI.out (Nat.le_add_right _ _),HK.out⟩
 | true =>
  have E:=HRr.out
  simp only [runF,hb,if_true] at E
  generalize (f n k s).2 = s1 at *
  have HRr':=Lib.hid E
  clear E hb HRr
  have cN:=rowc RN.out
  go_wp2_with fail
  clear cN
  go_loopw [17] (fun i wr=>∃ (j:Nat) (s':σ),j ≤ len ∧ i = .int .i64 (j:Nat) ∧ Hid (runF f (preL (l.take j) (wrap64 (k + 1))) s1 = (true,s')) ∧ Inv (m + sizeL (l.drop j)) s' wr ∧ Kp B M w wr ∧ wr.heap[w.heap.size]? = some (.cells #[.int .i64 n.id,.string n.name,.int .i64 n.rep,.int .i64 n.kind,.slice ad len cp] 47 (0,0))) (fun i _=>len - (intOf i).toNat)
  case atStart=>exact ⟨0,s1,Nat.zero_le _,rfl,rfl,HI.out,HK.out,RN.out⟩
  case round =>
   obtain ⟨j,s',hj,rfl,HE,hi,hk,rN⟩:=hrel
   clear HI HK RN
   have HI:=Lib.hid hi;have HK:=Lib.hid hk;have RN:=Lib.hid rN
   clear hi hk rN
   by_cases hlt:j < len
   ·have hjl:j < l.length:=by rw [HL.out];exact hlt
    obtain ⟨b0,off,rfl,hPb,hb0,hat⟩:=(HN.out.belowP hP HK.out.below).at (by omega)
    obtain ⟨ux,hcx,hnx⟩:=hat j l[j] (List.getElem?_eq_getElem hjl)
    have hdr:sizeL (l.drop j) = size l[j] + sizeL (l.drop (j + 1)):=by rw [List.drop_eq_getElem_cons hjl];rfl
    have HDR:=Lib.hid hdr
    clear hdr
    have hsn:l.take (j + 1) = l.take j ++ [l[j]]:=List.take_succ_eq_append_getElem hjl
    have hOx:∀ y ∈ nodes l[j],y.Ok1:=fun y hy=>HOs.out y (nodesL_mem (List.getElem_mem hjl) hy)
    have hIx:=HIH.out l[j] (List.getElem_mem hjl)
    have hin:(j:Int) < (len:Int):=by omega
    have Hlt:=Lib.hid hlt
    have HS1:=Lib.hid hsn
    generalize l[j] = x at *
    obtain ⟨ax,cx,rfl⟩:=hnx.form
    unfold NdAt ndA at hcx
    have hBz:=Nat.le_trans hB HK.out.below.size
    have HNX:=Lib.hid hnx;have HOX:=Lib.hid hOx;have HIX:=Lib.hid hIx;have HCX:=Lib.hid hcx
    clear hat hjl hsn hnx hOx hIx hcx hPb
    have cN:=rowc RN.out
    go_wp2_with (refine wpList_load_cells rfl 47 _ rfl b0 (off + j * 5) rfl #[.int .i64 x.id,.string x.name,.int .i64 x.rep,.int .i64 x.kind,.slice ax x.sub.length cx] _ HCX.out Tryd.underlying47 rfl nd_info ?_)
    have hw2:Below wr.heap.size wr (wr.alloc (.cells #[.int .i64 x.id,.string x.name,.int .i64 x.rep,.int .i64 x.kind,.slice ax x.sub.length cx] 47)):=(Below.refl _ _).alloc (Nat.le_refl _) _
    refine (HIX.out (m + sizeL (l.drop (j + 1))) _ (wrap64 (k + 1)) s' _ (Nat.le_trans hBz hw2.size) (HA _ s' wr _ (HD _ _ _ _ HI.out (by have:=HDR.out;omega)) hBz hw2) (HNX.out.belowP hP (hw2.mono hBz)) HOX.out).mono ?_
    rintro e w3 ⟨rfl,hi3,hk3⟩
    have hk2:Kp B M wr w3:=(Kp.of_below hw2 hBz).trans hk3
    have rN:=hk2.keep _ _ _ _ (.inl rfl) hMw.out RN.out
    have HK3:=Lib.hid (HK.out.trans hk2);have RN3:=Lib.hid rN;have HI3:=Lib.hid hi3
    have hst:=run_step HE.out HS1.out
    clear hk3 hk2 rN hi3 HIX HNX HOX HCX cN HK HI RN
    cases hb:(runF f (pre x (wrap64 (k + 1))) s').1 with
    | false =>
     have E:=HRr'.out
     rw [run_stop (i:=j + 1) (by rw [hst];exact hb),hst] at E
     subst E
     have HB:=Lib.hid hb
     clear hst hb HRr'
     go_wp2_with fail
     go_ret
     exact ⟨by rw [HB.out];rfl,HD _ _ _ _ HI3.out (Nat.le_add_right _ _),HK3.out⟩
    | true =>
     have HST:=Lib.hid hst;have HB:=Lib.hid hb
     clear hst hb
     go_wp2_with fail
     go_roundw
     case rel=>exact ⟨j + 1,_,Hlt.out,by go_num,(HST.out.trans (Prod.ext HB.out rfl)),HI3.out,HK3.out,RN3.out⟩
     case measure=>have:=Hlt.out;simp [intOf];omega
   ·obtain rfl:j = len:=by omega
    have E:=HRr'.out
    have h0:=HE.out
    rw [List.take_of_length_le (Nat.le_of_eq HL.out)] at h0
    rw [h0] at E
    subst E
    clear h0 HRr'
    go_wp2_with fail
    go_ret
    exact ⟨rfl,HD _ _ _ _ HI.out (Nat.le_add_right _ _),HK.out⟩
theorem nds_past {Q:Nat → Prop} {w w':World} {v u:Value} {l:List Nd} {o:Obj} (h:IsNds Q w u l) (hQ:∀ b,Q b → b < w.heap.size → v.ownBlock ≠ some b) (hg:(w.alloc o).grownBy w' v.ownBlock) (hz:w.heap.size ≤ w'.heap.size):IsNds Q w' u l :=
 h.keep hz fun b hb hl=>(hg.block b (by simp;omega) (fun e=>hQ b hb hl e.symm)).trans (Below.heap_alloc w o b hl)
set_option maxRecDepth 100000 in
theorem copy_any:∀ (n:Nd),∀ (u:Value) (w:World),IsNds (· < w.heap.size) w u n.sub → (∀ x ∈ nodes n,x.Ok1) → Calls Tryd.prog 57 #[.agg (ndA n u)] w (OwnRet n n.sub.length w):=by
 apply Nd.ind
 intro n IH u w hN hO
 have hOs:∀ x ∈ nodesL n.sub,x.Ok1:=fun x hx=>hO x (by rw [nodes_eq];exact List.mem_cons_of_mem _ hx)
 have h88:=(hO n (by rw [nodes_eq];exact List.mem_cons_self ..)).sub
 obtain ⟨au,cu,rfl⟩:=hN.form
 obtain ⟨l,hl⟩:∃ l,n.sub = l:=⟨_,rfl⟩
 unfold OwnRet
 rw [hl] at hN hOs IH h88 ⊢
 obtain ⟨len,hnl⟩:∃ len,l.length = len:=⟨_,rfl⟩
 rw [hnl] at hN h88 ⊢
 have HSB:=Lib.hid hl;have HL:=Lib.hid hnl;have HN:=Lib.hid hN;have HO:=Lib.hid hOs;have HIH:=Lib.hid IH;have H88:=Lib.hid h88
 clear hl hnl hN hO hOs IH h88
 obtain ⟨i0,hi,hz0,hz1,hz2⟩:=info_parts nd_info3
 unfold ndA
 go_enter Tryd.func57,Tryd.ntmps57
 go_upto_region 1 with fail
 have hb0:=rows2 (w:=w) (A:=.cells #[.int .i64 n.id,.string n.name,.int .i64 n.rep,.int .i64 n.kind,.slice au len cu] 47) (B:=.cells #[.int .i64 0,.string ⟨#[]⟩,.int .i64 0,.int .i64 0,.slice none 0 0] 47) (Below.refl _ _)
 generalize ((w.alloc (.cells #[.int .i64 n.id,.string n.name,.int .i64 n.rep,.int .i64 n.kind,.slice au len cu] 47)).alloc (.cells #[.int .i64 0,.string ⟨#[]⟩,.int .i64 0,.int .i64 0,.slice none 0 0] 47)) = w1 at *
 obtain ⟨rA,rB,hbw,hz1w⟩:=hb0
 have HW:=Lib.hid hbw;have RA:=Lib.hid rA;have RB:=Lib.hid rB;have HZW:=Lib.hid hz1w
 have cA:=rowc rA
 clear rA rB hbw hz1w
 go_wp2_with fail
 clear cA
 go_loopw [3,9] (fun s3 i wr=>∃ (k:Nat) (a3:Option Addr) (c3:Nat) (LT:List (Nd × Value)),k ≤ len ∧ i = .int .i64 (k:Nat) ∧ .slice a3 k c3 = s3 ∧ Hid (LT.map Prod.fst = l.take k) ∧ Hid (LT.length = k) ∧ Hid (wr.ownsRow w1.heap.size 47 5 (.slice a3 k c3) k (LT.flatMap ndC)) ∧ Hid (∀ p ∈ LT,IsNds (fun b=>w1.heap.size ≤ b ∧ (Value.slice a3 k c3).ownBlock ≠ some b) wr p.2 p.1.sub) ∧ Hid (Below w1.heap.size w1 wr)) (fun _ i _=>len - (intOf i).toNat)
 case atStart=>exact ⟨0,none,0,[],Nat.zero_le _,rfl,rfl,rfl,rfl,World.ownsRow_nil _ _ _ _,fun q hq=>by simp at hq,Below.refl _ _⟩
 case round =>
  obtain ⟨k,a3,c3,LT,hk,rfl,hs3,HM,HLT,HR,HE,HBr⟩:=hrel
  subst hs3
  have RAr:=Lib.hid (row_keep HBr.out RA.out);have RBr:=Lib.hid (row_keep HBr.out RB.out)
  have HBW:=Lib.hid (HW.out.trans (HBr.out.mono HW.out.size))
  by_cases hlt:k < len
  case neg =>
   obtain rfl:k = len:=Nat.le_antisymm hk (Nat.le_of_not_lt hlt)
   have dk:decide (k < k) = false:=by simp
   have cA:=rowc RAr.out;have fA:=rowf RAr.out
   have hzr:=HBr.out.size
   clear hlt hk
   go_upto_region 8 with fail
   obtain ⟨r7,ho7,hb7,hz7⟩:=store_cell_row (v:=Value.slice a3 k c3) (j:=4) RAr.out
   have RA7:=Lib.hid r7;have RB7:=Lib.hid ((ho7 (w.heap.size + 1) (by omega)).trans RBr.out);have HO7:=Lib.hid ho7;have HB7:=Lib.hid hb7;have HZ7:=Lib.hid hz7
   clear cA fA r7 ho7 hb7 hz7
   generalize (wr.setCell ⟨w.heap.size,4,none⟩ (Value.slice a3 k c3)) = w7 at *
   have cA:=rowc RA7.out
   go_wp2_with (refine wpList_store_part rfl 47 _ _ rfl (w.heap.size + 1) 0 _ 47 #[.int .i64 n.id,.string n.name,.int .i64 n.rep,.int .i64 n.kind,.slice a3 k c3] rfl rfl RB7.out nd_info (by simp [Value.oneCell']) (Nat.le_of_ble_eq_true rfl) #[.int .i64 n.id,.string n.name,.int .i64 n.rep,.int .i64 n.kind,.slice a3 k c3] rfl ?_;intro w8 hr8 ho8 hb8 hz8;have R8:=Lib.hid hr8;have HO8:=Lib.hid ho8;have HB8:=Lib.hid hb8;have HZ8:=Lib.hid hz8;clear hr8 ho8 hb8 hz8)
   refine bodyPost_ret (v:=.agg #[.int .i64 n.id,.string n.name,.int .i64 n.rep,.int .i64 n.kind,.slice a3 k c3]) (results_cell_row Tryd.results57 _ _ (w.heap.size + 1) 47 _ (0,0) _ rfl R8.out Tryd.underlying47 rfl (by kernel_rfl)) rfl ⟨a3,c3,rfl,?_,HBW.out.trans ((HB7.out.mono (Nat.le_refl _)).trans (HB8.out.mono (Nat.le_succ _)))⟩
   have h1:=nds_of_own (P:=fun b=>w1.heap.size ≤ b) (own_len HR.out HLT.out) (fun b hb=>(HR.out.lt b hb).1) (fun p hp=>(HE.out p hp).mono (fun b hb _=>hb.1))
   rw [HM.out,List.take_of_length_le (Nat.le_of_eq HL.out)] at h1
   have hzw:=HZW.out
   exact (h1.keep (by rw [HZ8.out,HZ7.out];exact Nat.le_refl _) (fun b hb _=>(HO8.out b (by omega)).trans (HO7.out b (by omega)))).mono (fun b hb _=>by omega)
  have hkl:k < l.length:=by rw [HL.out];exact hlt
  obtain ⟨x,hx⟩:∃ x,l[k]? = some x:=⟨_,List.getElem?_eq_getElem hkl⟩
  have hxm:x ∈ l:=List.mem_of_getElem? hx
  obtain ⟨b0,off,rfl,hPb,hb0,hat⟩:=(HN.out.under HBW.out).at (by rw [HL.out];omega)
  obtain ⟨xu,hcx,hu⟩:=hat k x hx
  obtain ⟨xa,xc,rfl⟩:=hu.form
  have hsn:l.take (k + 1) = l.take k ++ [x]:=by rw [List.take_add_one,hx];rfl
  have hcl:=HIH.out x hxm (.slice xa x.sub.length xc)
  unfold OwnRet ndA at hcl
  unfold NdAt ndA at hcx
  have HCX:=Lib.hid hcx;have HCL0:=Lib.hid hcl;have HSN:=Lib.hid hsn;have Hlt:=Lib.hid hlt;have HU:=Lib.hid hu;have HXM:=Lib.hid hxm
  have hin:(k:Int) < (len:Int):=Int.ofNat_lt.2 hlt
  have dk:decide (k < len) = true:=decide_eq_true hlt
  have h63:LT.length + 1 ≤ maxLen:=by have:=HLT.out;have:=H88.out;unfold maxLen;omega
  have h64:(LT.length + 1) * 64 ≤ 140737488355328:=by have:=HLT.out;have:=H88.out;omega
  have hbz:=HBr.out.size
  have h88:=H88.out
  clear hkl hx hxm hPb hat hcx hu hcl hsn hlt hk hb0
  go_upto_region 5 with (refine wpList_load_cells rfl 47 _ rfl b0 (off + k * 5) rfl #[.int .i64 x.id,.string x.name,.int .i64 x.rep,.int .i64 x.kind,.slice xa x.sub.length xc] _ HCX.out Tryd.underlying47 rfl nd_info ?_)
  have hba:=(Below.refl wr.heap.size wr).alloc (Nat.le_refl _) (.cells #[.int .i64 x.id,.string x.name,.int .i64 x.rep,.int .i64 x.kind,.slice xa x.sub.length xc] 47)
  have rX:=heap_alloc_new wr (.cells #[.int .i64 x.id,.string x.name,.int .i64 x.rep,.int .i64 x.kind,.slice xa x.sub.length xc] 47)
  have HBA:=Lib.hid hba;have RX:=Lib.hid rX
  have HCL:=Lib.hid (HCL0.out _ ((HU.out.under (hba.mono HBW.out.size)).mono fun b hb _=>Nat.lt_of_lt_of_le hb (HBW.out.trans (hba.mono HBW.out.size)).size) (fun z hz=>HO.out z (nodesL_mem HXM.out hz)))
  obtain ⟨gx,hgx⟩:∃ gx,wr.heap.size = gx:=⟨_,rfl⟩
  have HGX:=Lib.hid hgx
  rw [hgx] at RX ⊢
  clear hba rX hgx HCL0 HCX HU
  generalize (wr.alloc (.cells #[.int .i64 x.id,.string x.name,.int .i64 x.rep,.int .i64 x.kind,.slice xa x.sub.length xc] 47)) = w3 at *
  have cX:=rowc RX.out
  go_wp2_with fail
  refine HCL.out.mono ?_;rintro e w4 ⟨a4,c4,rfl,hd4,hb4⟩
  have hbA4:=HBA.out.trans (hb4.mono HBA.out.size)
  have HR4:=Lib.hid (own_blw HR.out hbA4);have HD4:=Lib.hid hd4;have HB4:=Lib.hid hbA4
  have hbz4:=Nat.le_trans hbz hbA4.size
  have hz34:=HBA.out.size
  clear hd4 hb4 HCL hbA4 cX
  go_wp2_with (at_builtin;refine wpList_pushRow rfl _ _ 45 rfl w1.heap.size 47 i0 _ 5 64 Tryd.underlying45 hi hz0 hz1 hz2 rfl (by decide) ndC (fun _=>rfl) ndC_one _ LT rfl (own_len HR4.out HLT.out) _ _ rfl rfl h63 h64 hbz4 (x,Value.slice a4 x.sub.length c4) _ rfl ?_;intro v' w5 hown' hgr hq5;obtain ⟨a6,c6,rfl⟩:=own_form hown';have HO5:=Lib.hid hown';have HG5:=Lib.hid hgr;have HQ5:=Lib.hid hq5;clear hown' hgr hq5)
  go_roundw
  case rel =>
   have hl5:(LT ++ [((x,Value.slice a4 x.sub.length c4):Nd × Value)]).length = k + 1:=by rw [List.length_append,HLT.out];rfl
   have hbg:=grow_below HR4.out HG5.out hbz4
   have hz5:w4.heap.size ≤ w5.heap.size:=by have:=HG5.out.size;simp at this;omega
   have hlt4:∀ b,(Value.slice a3 k c3).ownBlock = some b → w1.heap.size ≤ b ∧ b < wr.heap.size:=fun b hb=>HR.out.lt b hb
   have hne:∀ b,b < w4.heap.size → (Value.slice a3 k c3).ownBlock ≠ some b → (Value.slice a6 (LT ++ [((x,Value.slice a4 x.sub.length c4):Nd × Value)]).length c6).ownBlock ≠ some b:=fun b h1 h2=>by
    rcases HQ5.out with h | h
    ·rw [h];exact h2
    ·rw [h];intro e;injection e with e;omega
   refine ⟨k + 1,a6,c6,LT ++ [(x,Value.slice a4 x.sub.length c4)],Hlt.out,by go_num,by rw [HLT.out],?_,hl5,(by have h:=HO5.out;rw [hl5] at h;exact h),?_,HBr.out.trans ((HB4.out.mono hbz).trans hbg)⟩
   ·rw [List.map_append,HM.out,HSN.out];rfl
   ·rw [← hl5]
    intro p hp
    rcases List.mem_append.1 hp with hp | hp
    ·exact (nds_past (v:=.slice a3 k c3) (((HE.out p hp).mono (Q:=fun b=>(w1.heap.size ≤ b ∧ (Value.slice a3 k c3).ownBlock ≠ some b) ∧ b < wr.heap.size) (fun b hb hl=>⟨hb,hl⟩)).keep HB4.out.size (fun b hb _=>HB4.out.block b hb.2)) (fun b hb _=>hb.1.2) HG5.out hz5).mono (fun b hb _=>⟨hb.1.1,hne b (Nat.lt_of_lt_of_le hb.2 HB4.out.size) hb.1.2⟩)
    ·obtain rfl:=List.mem_singleton.1 hp
     exact (nds_past (v:=.slice a3 k c3) (HD4.out.mono (Q:=fun b=>w3.heap.size ≤ b ∧ b < w4.heap.size) (fun b hb hl=>⟨hb,hl⟩)) (fun b hb _ e=>by have:=hlt4 b e;omega) HG5.out hz5).mono (fun b hb _=>⟨by omega,hne b hb.2 (fun e=>by have:=hlt4 b e;omega)⟩)
  case measure=>have:=Hlt.out;have:=H88.out;simp [intOf];omega
end Go.Proofs.YtkmhmnffbgedgaaDoor
