/- The walk of the laws' weight: the weight, where it is small. -/
import Derived.Test.YtkmhmnffbgedgaaDoorTr2
import Derived.Test.YtkmhmnffbgedgaaDoorMRow
import Derived.Deep.DeepCutAuto
namespace Go.Proofs.YtkmhmnffbgedgaaDoor
set_option maxHeartbeats 16000000
set_option linter.unusedVariables false
set_option linter.unusedSimpArgs false
open Go Go.RowKit Go.ChangeShapes
theorem wgtL_take {l:List Dt} {k:Nat} {x:Dt} (h:l[k]? = some x):wgtL (l.take (k + 1)) = wgtL (l.take k) + wgt x ∧ wgtL (l.take k) + wgt x ≤ wgtL l:=by
 have e:l.take (k + 1) = l.take k ++ [x]:=by rw [List.take_add_one,h];rfl
 have a:wgtL (l.take (k + 1)) = wgtL (l.take k) + wgt x:=by rw [e,wgtL_app];simp [wgtL]
 refine ⟨a,?_⟩
 have b:wgtL l = wgtL (l.take (k + 1)) + wgtL (l.drop (k + 1)):=by rw [← wgtL_app,List.take_append_drop]
 omega
theorem wrap_nat {a b:Int} {m n:Nat} (ha:a = (m:Int)) (hb:b = (n:Int)) (h:m + n ≤ 4611686018427387904):wrap64 (a + b) = ((m + n:Nat):Int):=by
 subst ha hb
 rw [← Int.natCast_add]
 generalize m + n = z at h
 unfold wrap64
 omega
def WgtRet (d:Dt) (w:World) (e:Ending) (w':World):Prop:=e = .returned (.int .i64 (wgt d:Nat)) ∧ Below w.heap.size w w'
set_option maxRecDepth 100000 in
theorem weightE_any:∀ (d:Dt) (u t:Value) (w:World),IsDts (· < w.heap.size) w u d.l → IsDts (· < w.heap.size) w t d.f → (∀ y ∈ dts d,y.Ok1) → wgt d ≤ 4611686018427387904 → Calls Tryd.prog 34 #[.agg (dtA d u t)] w (WgtRet d w):=by
 apply Dt.ind
 intro d IHl IHf u t w hl hf hD hwg
 rw [wgt_eq] at hwg
 have HWG:=Lib.hid hwg
 have hD0:=hD d (by rw [dts_eq];exact List.mem_cons_self ..)
 have HDl:=Lib.hid (show ∀ x ∈ dtsL d.l,x.Ok1 from fun x hx=>hD x (by rw [dts_eq];exact List.mem_cons_of_mem _ (List.mem_append_left _ hx)))
 have HDf:=Lib.hid (show ∀ x ∈ dtsL d.f,x.Ok1 from fun x hx=>hD x (by rw [dts_eq];exact List.mem_cons_of_mem _ (List.mem_append_right _ hx)))
 have HIL:=Lib.hid IHl;have HIF:=Lib.hid IHf;have HLl:=Lib.hid hl;have HLf:=Lib.hid hf
 have HLB:=Lib.hid hD0.l;have HFB:=Lib.hid hD0.f
 have hs1:=hD0.v.s1
 unfold maxLen at hs1
 obtain ⟨al,cl,rfl⟩:=hl.form
 obtain ⟨af,cf,rfl⟩:=hf.form
 clear IHl IHf hD hD0 hl hf hwg
 obtain ⟨nl,hnl⟩:∃ nl,d.l.length = nl:=⟨_,rfl⟩
 obtain ⟨nf,hnf⟩:∃ nf,d.f.length = nf:=⟨_,rfl⟩
 rw [hnl] at HLl HLB;rw [hnf] at HLf HFB
 rw [hnl,hnf]
 have HNL:=Lib.hid hnl;have HNF:=Lib.hid hnf
 clear hnl hnf
 unfold WgtRet
 rw [wgt_eq]
 unfold dtA
 go_enter Tryd.func34,Tryd.ntmps34
 go_upto_region 1 with fail
 have hbw:=(Below.refl w.heap.size w).alloc (Nat.le_refl _) (.cells #[.bool d.no,.int .i64 d.v.k,.int .i64 d.v.n,.string d.v.s,.slice al nl cl,.slice af nf cf] 63)
 have rA:=heap_alloc_new w (.cells #[.bool d.no,.int .i64 d.v.k,.int .i64 d.v.n,.string d.v.s,.slice al nl cl,.slice af nf cf] 63)
 generalize (w.alloc (.cells #[.bool d.no,.int .i64 d.v.k,.int .i64 d.v.n,.string d.v.s,.slice al nl cl,.slice af nf cf] 63)) = w1 at *
 have HW:=Lib.hid hbw;have RA:=Lib.hid rA
 have cA:=rowc rA
 clear hbw rA
 go_wp2_with fail
 clear cA
 go_loopw [3,4] (fun s3 i wr=>∃ (k:Nat) (q:Int),k ≤ nl ∧ i = .int .i64 (k:Nat) ∧ s3 = .int .i64 q ∧ Hid (q = ((1 + d.v.s.size + wgtL (d.l.take k):Nat):Int)) ∧ Hid (Below w1.heap.size w1 wr)) (fun _ i _=>nl - (intOf i).toNat)
 case atStart=>exact ⟨0,_,Nat.zero_le _,rfl,rfl,Lib.hid (by rw [wrap_nat (a:=1) (m:=1) rfl rfl (by have:=HWG.out;omega)];simp [wgtL]),Below.refl _ _⟩
 case round =>
  obtain ⟨k,q,hk,rfl,rfl,HQ,HBr⟩:=hrel
  have RAr:=Lib.hid (row_keep HBr.out RA.out)
  have cF:wr.cell? ⟨w.heap.size,4,none⟩ = some (.slice al nl cl):=rowc RAr.out 4
  by_cases hlt:k < nl
  case pos =>
   obtain ⟨x,hx⟩:∃ x,d.l[k]? = some x:=⟨_,List.getElem?_eq_getElem (by rw [HNL.out];exact hlt)⟩
   have hxm:x ∈ d.l:=List.mem_of_getElem? hx
   have hbw:=HW.out.trans (HBr.out.mono HW.out.size)
   obtain ⟨b1,off1,h17,hPb1,hb1,hat1⟩:=(HLl.out.under hbw).at (by rw [HNL.out];omega)
   subst h17
   obtain ⟨xu,xt,hcx,hu,ht⟩:=hat1 k x hx
   obtain ⟨xau,xcu,rfl⟩:=hu.form
   obtain ⟨xaf,xcf,rfl⟩:=ht.form
   have hcl:=HIL.out x hxm (.slice xau x.l.length xcu) (.slice xaf x.f.length xcf) wr (hu.mono fun b hb _=>Nat.lt_of_lt_of_le hb hbw.size) (ht.mono fun b hb _=>Nat.lt_of_lt_of_le hb hbw.size) (fun z hz=>HDl.out z (dtsL_mem hxm hz)) (by have:=HWG.out;have:=(wgtL_take hx).2;omega)
   have HT:=Lib.hid (wgtL_take hx)
   unfold DtAt dtA at hcx
   unfold WgtRet dtA at hcl
   have HCX:=Lib.hid hcx;have HCL:=Lib.hid hcl;have Hlt:=Lib.hid hlt
   have hin:(k:Int) < (nl:Int):=Int.ofNat_lt.2 hlt
   have dk:decide (k < nl) = true:=decide_eq_true hlt
   clear hx hxm hbw hat1 hcx hu ht hcl hlt hk hPb1 hb1
   go_wp2_with (refine wpList_load_cells rfl 63 _ rfl b1 (off1 + k * 6) rfl #[.bool x.no,.int .i64 x.v.k,.int .i64 x.v.n,.string x.v.s,.slice xau x.l.length xcu,.slice xaf x.f.length xcf] _ HCX.out Tryd.underlying63 rfl dt_info ?_)
   refine HCL.out.mono ?_;rintro e w4 ⟨rfl,hb4⟩
   have HB4:=Lib.hid (HBr.out.trans (hb4.mono HBr.out.size))
   clear hb4 HCL HCX cF
   have hcap:=HLB.out
   go_wp2_with fail
   go_roundw
   case rel=>exact ⟨k + 1,_,Hlt.out,by go_num,rfl,Lib.hid (by rw [wrap_nat HQ.out rfl (by have:=HWG.out;have:=HT.out;omega),HT.out.1];congr 1;omega),HB4.out⟩
   case measure=>have:=Hlt.out;simp [intOf];omega
  obtain rfl:k = nl:=Nat.le_antisymm hk (Nat.le_of_not_lt hlt)
  have dk:decide (k < k) = false:=by simp
  have HBr0:=Lib.hid HBr.out
  have HQ0:=Lib.hid (show q = ((1 + d.v.s.size + wgtL d.l:Nat):Int) by rw [HQ.out,← HNL.out,List.take_length])
  clear hlt hk HBr HQ
  go_wp2_with fail
  clear cF RAr
  go_loopw [3,5] (fun s3 i wr=>∃ (j:Nat) (q:Int),j ≤ nf ∧ i = .int .i64 (j:Nat) ∧ s3 = .int .i64 q ∧ Hid (q = ((1 + d.v.s.size + wgtL d.l + wgtL (d.f.take j):Nat):Int)) ∧ Hid (Below w1.heap.size w1 wr)) (fun _ i _=>nf - (intOf i).toNat)
  case atStart=>exact ⟨0,q,Nat.zero_le _,rfl,rfl,Lib.hid (by rw [HQ0.out];simp [wgtL]),HBr0.out⟩
  case round =>
   obtain ⟨j,q,hk,rfl,rfl,HQ,HBr⟩:=hrel
   have RAr:=Lib.hid (row_keep HBr.out RA.out)
   have cF:wr.cell? ⟨w.heap.size,5,none⟩ = some (.slice af nf cf):=rowc RAr.out 5
   by_cases hlt:j < nf
   case neg =>
    obtain rfl:j = nf:=Nat.le_antisymm hk (Nat.le_of_not_lt hlt)
    have dk:decide (j < j) = false:=by simp
    clear hlt hk
    go_wp2_with fail
    go_ret
    exact ⟨(show _ = Ending.returned (.int .i64 q) from rfl).trans (by rw [HQ.out,← HNF.out,List.take_length]),HW.out.trans (HBr.out.mono HW.out.size)⟩
   obtain ⟨x,hx⟩:∃ x,d.f[j]? = some x:=⟨_,List.getElem?_eq_getElem (by rw [HNF.out];exact hlt)⟩
   have hxm:x ∈ d.f:=List.mem_of_getElem? hx
   have hbw:=HW.out.trans (HBr.out.mono HW.out.size)
   obtain ⟨b1,off1,h17,hPb1,hb1,hat1⟩:=(HLf.out.under hbw).at (by rw [HNF.out];omega)
   subst h17
   obtain ⟨xu,xt,hcx,hu,ht⟩:=hat1 j x hx
   obtain ⟨xau,xcu,rfl⟩:=hu.form
   obtain ⟨xaf,xcf,rfl⟩:=ht.form
   have hcl:=HIF.out x hxm (.slice xau x.l.length xcu) (.slice xaf x.f.length xcf) wr (hu.mono fun b hb _=>Nat.lt_of_lt_of_le hb hbw.size) (ht.mono fun b hb _=>Nat.lt_of_lt_of_le hb hbw.size) (fun z hz=>HDf.out z (dtsL_mem hxm hz)) (by have:=HWG.out;have:=(wgtL_take hx).2;omega)
   have HT:=Lib.hid (wgtL_take hx)
   unfold DtAt dtA at hcx
   unfold WgtRet dtA at hcl
   have HCX:=Lib.hid hcx;have HCL:=Lib.hid hcl;have Hlt:=Lib.hid hlt
   have hin:(j:Int) < (nf:Int):=Int.ofNat_lt.2 hlt
   have dk:decide (j < nf) = true:=decide_eq_true hlt
   clear hx hxm hbw hat1 hcx hu ht hcl hlt hk hPb1 hb1
   go_wp2_with (refine wpList_load_cells rfl 63 _ rfl b1 (off1 + j * 6) rfl #[.bool x.no,.int .i64 x.v.k,.int .i64 x.v.n,.string x.v.s,.slice xau x.l.length xcu,.slice xaf x.f.length xcf] _ HCX.out Tryd.underlying63 rfl dt_info ?_)
   refine HCL.out.mono ?_;rintro e w4 ⟨rfl,hb4⟩
   have HB4:=Lib.hid (HBr.out.trans (hb4.mono HBr.out.size))
   clear hb4 HCL HCX cF
   have hcap:=HFB.out
   go_wp2_with fail
   go_roundw
   case rel=>exact ⟨j + 1,_,Hlt.out,by go_num,rfl,Lib.hid (by rw [wrap_nat HQ.out rfl (by have:=HWG.out;have:=HT.out;omega),HT.out.1];congr 1;omega),HB4.out⟩
   case measure=>have:=Hlt.out;simp [intOf];omega
end Go.Proofs.YtkmhmnffbgedgaaDoor
