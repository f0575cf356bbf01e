/- The walk of data.Walk's closure. Written by gen_wk1.py. -/
import Derived.Test.YtkmhmnffbgedgaaDoorWk0
import Derived.Test.YtkmhmnffbgedgaaDoorDc2
import Derived.Test.YtkmhmnffbgedgaaDoorTv2
namespace Go.Proofs.YtkmhmnffbgedgaaDoor
set_option maxHeartbeats 32000000
set_option linter.unusedVariables false
set_option linter.unusedSimpArgs false
open Go Go.RowKit Go.ChangeShapes
structure KpV (B gO:Nat) (w w':World):Prop where
 below:Below B w w'
 keep:∀ (g:Nat) (cs:Array Value) (T:TypeId) (fz:Nat × Nat),T ≠ 61 → g ≠ gO → w.heap[g]? = some (.cells cs T fz) → w'.heap[g]? = some (.cells cs T fz)
theorem KpV.refl (B gO:Nat) (w:World):KpV B gO w w:=⟨Below.refl _ _,fun _ _ _ _ _ _ h=>h⟩
theorem KpV.trans {B gO:Nat} {a b c:World} (h:KpV B gO a b) (k:KpV B gO b c):KpV B gO a c:=⟨h.below.trans k.below,fun g cs T fz hT hg h1=>k.keep g cs T fz hT hg (h.keep g cs T fz hT hg h1)⟩
theorem KpV.of_below {B gO:Nat} {w w':World} (h:Below w.heap.size w w') (hB:B ≤ w.heap.size):KpV B gO w w':=⟨h.mono hB,fun g cs T fz _ _ h1=>row_keep h h1⟩
theorem KpV.grown {B gO n:Nat} {w w':World} {o:Obj} {v:Value} {xs:List Value} (hown:w.ownsRow B 61 3 v n xs) (hg:(w.alloc o).grownBy w' v.ownBlock) (hB:B ≤ w.heap.size):KpV B gO w w' :=
 ⟨grow_below hown hg hB,fun g cs T fz hT _ h1=>grown_row hown hg h1 hT⟩
theorem KpV.set {B gO:Nat} {w:World} (hB:B ≤ gO) (v:Value):KpV B gO w (w.setCell ⟨gO,0,none⟩ v) :=
 ⟨(Below.refl _ _).setCell hB v,fun g cs T fz _ hg h1=>(heap_setCell_other w ⟨gO,0,none⟩ g v hg).trans h1⟩
structure WEnv (w:World) (gW gI gO:Nat) (id:Int) (v0:Value):Prop where
 fn:w.heap[gW]? = some (.cells #[.func (.func 41) #[] #[.pointer (some ⟨gW,0,none⟩),.pointer (some ⟨gI,0,none⟩),.pointer (some ⟨gO,0,none⟩)]] 96 (0,0))
 id:w.heap[gI]? = some (.cells #[.int .i64 id] 3 (0,0))
 out:w.heap[gO]? = some (.cells #[v0] 30 (0,0))
theorem WEnv.keep {w w':World} {gW gI gO:Nat} {id:Int} {v0:Value} (h:WEnv w gW gI gO id v0) (hb:Below w.heap.size w w'):WEnv w' gW gI gO id v0:=⟨row_keep hb h.fn,row_keep hb h.id,row_keep hb h.out⟩
def WOut (B:Nat) (w:World) (gW gI gO:Nat) (id:Int) (v0:Value) (L:List Val):Prop:=WEnv w gW gI gO id v0 ∧ w.ownsRow B 61 3 v0 L.length (L.flatMap valCells)
theorem WOut.keep {B:Nat} {w w':World} {gW gI gO:Nat} {id:Int} {v0:Value} {L:List Val} (h:WOut B w gW gI gO id v0 L) (hb:Below w.heap.size w w'):WOut B w' gW gI gO id v0 L:=⟨h.1.keep hb,own_blw h.2 hb⟩
def WCRet (B gW gI gO:Nat) (id:Int) (L:List Val) (w:World) (e:Ending) (w':World):Prop:=e = .returned (.tuple #[]) ∧ ∃ v1,WOut B w' gW gI gO id v1 L ∧ KpV B gO w w'
set_option maxRecDepth 100000 in
theorem walkC_any (B gW gI gO:Nat) (id:Int) (hgW:B ≤ gW) (hgI:B ≤ gI) (hgO:B ≤ gO) (hWO:gW ≠ gO) (hIO:gI ≠ gO):∀ (d:Dt) (n:Nd) (u ul uf:Value) (one:Bool) (w:World) (v0:Value) (L:List Val),
  IsNds (· < B) w u n.sub → (∀ x ∈ nodes n,x.Ok1) → (∀ x ∈ nodes n,okRep x) → IsDts (· < B) w ul d.l → IsDts (· < B) w uf d.f → (∀ x ∈ dts d,x.Ok1) → datE n one d = 0 →
  WOut B w gW gI gO id v0 L → (L.length + (walkV n id one d).length) * 32 ≤ 140737488355328 →
  Calls Tryd.prog 41 #[.agg (ndA n u),.agg (dtA d ul uf),.bool one,.pointer (some ⟨gW,0,none⟩),.pointer (some ⟨gI,0,none⟩),.pointer (some ⟨gO,0,none⟩)] w (WCRet B gW gI gO id (L ++ walkV n id one d) w):=by
 apply Dt.ind
 intro d IHl IHf n u ul uf one w v0 L hN hO hR hl hf hD hz hE hcap
 have hBz:B ≤ w.heap.size:=Nat.le_trans hgW (Nat.le_of_lt (row_lt hE.1.fn))
 have hD0:=hD d (by rw [dts_eq];exact List.mem_cons_self ..)
 have hR0:=hR n (by rw [nodes_eq];exact List.mem_cons_self ..)
 have hDl:∀ x ∈ dtsL d.l,x.Ok1:=fun x hx=>hD x (by rw [dts_eq];exact List.mem_cons_of_mem _ (List.mem_append_left _ hx))
 have hDf:∀ x ∈ dtsL d.f,x.Ok1:=fun x hx=>hD x (by rw [dts_eq];exact List.mem_cons_of_mem _ (List.mem_append_right _ hx))
 have HIL:=Lib.hid IHl;have HIF:=Lib.hid IHf;have HN:=Lib.hid hN;have HO:=Lib.hid hO;have HR:=Lib.hid hR;have HLl:=Lib.hid hl;have HLf:=Lib.hid hf;have HDl:=Lib.hid hDl;have HDf:=Lib.hid hDf
 have HLB:=Lib.hid hD0.l;have HFB:=Lib.hid hD0.f;have HR0:=Lib.hid hR0;have HE:=Lib.hid hE;have HBZ:=Lib.hid hBz;have HZ:=Lib.hid hz;have HCAP:=Lib.hid hcap
 have HGW:=Lib.hid hgW;have HGI:=Lib.hid hgI;have HGO:=Lib.hid hgO;have HWO:=Lib.hid hWO;have HIO:=Lib.hid hIO
 clear IHl IHf hN hO hR hDl hDf hD hD0 hR0 hE hBz hz hcap hgW hgI hgO hWO hIO
 obtain ⟨au,cu,rfl⟩:=HN.out.form
 obtain ⟨al,cl,rfl⟩:=hl.form
 obtain ⟨af,cf,rfl⟩:=hf.form
 clear hl hf
 obtain ⟨R,hRr⟩:∃ R,walkV n id one d = R:=⟨_,rfl⟩
 rw [hRr] at HCAP ⊢
 have HRr:=Lib.hid hRr
 clear hRr
 obtain ⟨ns,hns⟩:∃ ns,n.sub.length = ns:=⟨_,rfl⟩
 obtain ⟨nl,hnl⟩:∃ nl,d.l.length = nl:=⟨_,rfl⟩
 obtain ⟨nf,hnf⟩:∃ nf,d.f.length = nf:=⟨_,rfl⟩
 rw [hns] at HN;rw [hnl] at HLl HLB;rw [hnf] at HLf HFB
 rw [hns,hnl,hnf]
 have HNS:=Lib.hid hns;have HNL:=Lib.hid hnl;have HNF:=Lib.hid hnf
 clear hns hnl hnf
 unfold ndA dtA at *
 obtain ⟨no,hno⟩:∃ no,d.no = no:=⟨_,rfl⟩
 rw [hno]
 have HNO:=Lib.hid hno
 clear hno
 go_enter Tryd.func41,Tryd.ntmps41
 go_upto_region 1 with fail
 have hb0:=rows2 (w:=w) (A:=.cells #[.int .i64 n.id,.string n.name,.int .i64 n.rep,.int .i64 n.kind,.slice au ns cu] 47) (B:=.cells #[.bool no,.int .i64 d.v.k,.int .i64 d.v.n,.string d.v.s,.slice al nl cl,.slice af nf cf] 63) (Below.refl _ _)
 generalize ((w.alloc (.cells #[.int .i64 n.id,.string n.name,.int .i64 n.rep,.int .i64 n.kind,.slice au ns cu] 47)).alloc (.cells #[.bool no,.int .i64 d.v.k,.int .i64 d.v.n,.string d.v.s,.slice al nl cl,.slice af nf cf] 63)) = w1 at *
 obtain ⟨rA,rB,hbw,-⟩:=hb0
 have HW:=Lib.hid hbw;have RA:=Lib.hid rA;have RB:=Lib.hid rB
 have HK:=Lib.hid (KpV.of_below (gO:=gO) hbw HBZ.out)
 have HAO:=Lib.hid (show w.heap.size ≠ gO from fun h=>by have:=row_lt HE.out.1.out;omega)
 have HBO:=Lib.hid (show w.heap.size + 1 ≠ gO from fun h=>by have:=row_lt HE.out.1.out;omega)
 replace HE:=Lib.hid (HE.out.keep hbw)
 clear rA rB hbw
 have cA:=rowc RA.out;have cB:=rowc RB.out
 have cA2:w1.cell? ⟨w.heap.size,2,none⟩ = some (.int .i64 n.rep):=cA 2
 have eq1:=HRr.out
 rw [walkV_eq,HNO.out] at eq1
 have HEQ:=Lib.hid eq1
 clear eq1
 cases no with
 | true =>
  have h1:=HEQ.out
  rw [if_pos rfl] at h1
  subst h1
  clear cA2
  go_wp2_with fail
  go_end0
  exact ⟨rfl,v0,HE.out,HK.out⟩
 | false =>
 have eq1:=HEQ.out
 rw [if_neg (by decide)] at eq1
 clear HEQ
 by_cases hl3:(!one && decide (n.rep = 3)) = true
 ·rw [if_pos hl3] at eq1
  have HEQ:=Lib.hid eq1
  obtain ⟨rfl,hr3⟩:one = false ∧ n.rep = 3:=by simpa using hl3
  have d3:((n.rep:Int) == 3) = true:=by rw [hr3];rfl
  have hzl:datEL n d.l = 0:=by
   have h:=HZ.out
   rw [datE_list hr3] at h
   split at h
   ·split at h
    ·omega
    ·exact h
   ·omega
  have HZL:=Lib.hid (datEL_zero n d.l hzl)
  clear eq1 hl3 hr3 hzl
  go_wp2_with fail
  clear cA cB cA2 d3
  go_loopw [27] (fun i wr=>∃ (k:Nat) (v1:Value),k ≤ nl ∧ i = .int .i64 (k:Nat) ∧ Hid (WOut B wr gW gI gO id v1 (L ++ walkVL n id (d.l.take k))) ∧ Hid (KpV B gO w1 wr)) (fun i _=>nl - (intOf i).toNat)
  case atStart=>exact ⟨0,v0,Nat.zero_le _,rfl,by rw [List.take_zero];show WOut B w1 gW gI gO id v0 (L ++ []);rw [List.append_nil];exact HE.out,KpV.refl _ _ _⟩
  case round =>
   obtain ⟨k,v1,hk,rfl,HV,HKr⟩:=hrel
   by_cases hlt:k < nl
   case neg =>
    obtain rfl:k = nl:=Nat.le_antisymm hk (Nat.le_of_not_lt hlt)
    have hq:=HV.out
    rw [List.take_of_length_le (Nat.le_of_eq HNL.out),HEQ.out] at hq
    have HQ:=Lib.hid hq
    have dk:decide (k < k) = false:=by simp
    clear hlt hk hq
    go_wp2_with fail
    go_end0
    exact ⟨rfl,v1,HQ.out,HK.out.trans HKr.out⟩
   obtain ⟨x,hx⟩:∃ x,d.l[k]? = some x:=⟨_,List.getElem?_eq_getElem (by rw [HNL.out];exact hlt)⟩
   have hxm:x ∈ d.l:=List.mem_of_getElem? hx
   have hbw:=(HK.out.trans HKr.out).below
   obtain ⟨b1,off1,h17,hPb1,hb1,hat1⟩:=(HLl.out.under hbw).at (by rw [HNL.out];omega)
   subst h17
   obtain ⟨xu,xt,hcx,hu,ht⟩:=hat1 k x hx
   obtain ⟨xau,xcu,rfl⟩:=hu.form
   obtain ⟨xaf,xcf,rfl⟩:=ht.form
   have hI:=HIL.out x hxm n (.slice au ns cu) (.slice xau x.l.length xcu) (.slice xaf x.f.length xcf) true
   have hvt:=walkVL_take n id hx
   have hlen:((L ++ walkVL n id (d.l.take k)).length + (walkV n id true x).length) * 32 ≤ 140737488355328:=by
    have h1:=HCAP.out
    have h2:(walkVL n id (d.l.take (k + 1))).length ≤ R.length:=by
     rw [← HEQ.out]
     conv=>rhs;rw [← List.take_append_drop (k + 1) d.l]
     rw [walkVL_app,List.length_append];omega
    rw [hvt,List.length_append] at h2
    rw [List.length_append]
    have h3:L.length + (walkVL n id (d.l.take k)).length + (walkV n id true x).length ≤ L.length + R.length:=by omega
    exact Nat.le_trans (Nat.mul_le_mul_right 32 h3) h1
   have HVT:=Lib.hid hvt;have HLEN:=Lib.hid hlen
   unfold DtAt dtA at hcx
   have HCX:=Lib.hid hcx;have HI:=Lib.hid hI;have HU:=Lib.hid hu;have HT:=Lib.hid ht;have HX:=Lib.hid hx;have HXM:=Lib.hid hxm
   have Hlt:=Lib.hid hlt;have HBW:=Lib.hid hbw
   have hin:(k:Int) < (nl:Int):=Int.ofNat_lt.2 hlt
   have dk:decide (k < nl) = true:=decide_eq_true hlt
   have RAr:=Lib.hid (HKr.out.keep _ _ _ _ (by decide) HAO.out RA.out)
   clear hx hxm hbw hat1 hcx hu ht hI hlt hk hPb1 hb1 hvt hlen
   go_upto_region 6 with (refine wpList_load_cells rfl 63 _ rfl b1 (off1 + k * 6) rfl #[.bool x.no,.int .i64 x.v.k,.int .i64 x.v.n,.string x.v.s,.slice xau x.l.length xcu,.slice xaf x.f.length xcf] _ HCX.out Tryd.underlying63 rfl dt_info ?_)
   have hba:=(Below.refl wr.heap.size wr).alloc (Nat.le_refl _) (.cells #[.bool x.no,.int .i64 x.v.k,.int .i64 x.v.n,.string x.v.s,.slice xau x.l.length xcu,.slice xaf x.f.length xcf] 63)
   have hzr:B ≤ wr.heap.size:=Nat.le_trans HBZ.out (Nat.le_trans HW.out.size HKr.out.below.size)
   have hkx:=KpV.of_below (gO:=gO) hba hzr
   have hbx:=HBW.out.trans hkx.below
   have rX:=heap_alloc_new wr (.cells #[.bool x.no,.int .i64 x.v.k,.int .i64 x.v.n,.string x.v.s,.slice xau x.l.length xcu,.slice xaf x.f.length xcf] 63)
   have HV2:=Lib.hid (HV.out.keep hba)
   have hcl:=HI.out _ v1 _ (HN.out.under hbx) HO.out HR.out (HU.out.under hkx.below) (HT.out.under hkx.below) (fun z hz=>HDl.out z (dtsL_mem HXM.out hz)) (HZL.out x HXM.out) HV2.out HLEN.out
   replace RAr:=Lib.hid (row_keep hba RAr.out)
   have HK2:=Lib.hid (HKr.out.trans hkx)
   have RX:=Lib.hid rX;have HCL:=Lib.hid hcl
   obtain ⟨gx,hgx⟩:∃ gx,wr.heap.size = gx:=⟨_,rfl⟩
   rw [hgx] at RX ⊢
   clear hba hkx hbx hcl rX hgx hzr HV HCX
   generalize (wr.alloc (.cells #[.bool x.no,.int .i64 x.v.k,.int .i64 x.v.n,.string x.v.s,.slice xau x.l.length xcu,.slice xaf x.f.length xcf] 63)) = w3 at *
   have cA:=rowc RAr.out;have cX:=rowc RX.out;have cF:=rowc HV2.out.1.fn
   go_wp2_with fail
   refine HCL.out.mono ?_;rintro e w4 ⟨rfl,v2,hv2,hk4⟩
   have hv3:=hv2
   rw [List.append_assoc,← HVT.out] at hv3
   have HV3:=Lib.hid hv3;have HK3:=Lib.hid (HK2.out.trans hk4)
   clear hv2 hv3 hk4 cA cX cF HCL HV2
   have hlb:=HLB.out
   go_wp2_with fail
   go_roundw
   case rel=>exact ⟨k + 1,v2,Hlt.out,by go_num,HV3.out,HK3.out⟩
   case measure=>have:=Hlt.out;simp [intOf];omega
 rw [if_neg hl3] at eq1
 have HEQ:=Lib.hid eq1
 have hd3:((n.rep:Int) == 3) = false ∨ (((n.rep:Int) == 3) = true ∧ one = true):=by
  by_cases h:n.rep = 3
  ·exact .inr ⟨by rw [h];rfl,by simpa [h] using hl3⟩
  ·exact .inl (by simpa using h)
 have hlon:lonely n one d:=by
  by_cases h1:one = true
  ·exact .inl h1
  ·have h3:n.rep ≠ 3:=fun h=>hl3 (by simp [h];cases one <;> simp_all)
   have:=HR0.out.1;have:=HR0.out.2.1
   rcases (show n.rep = 1 ∨ n.rep = 2 by omega) with h | h
   ·exact .inr (.inl h)
   ·exact .inr (.inr ⟨h,HNO.out⟩)
 have HLON:=Lib.hid hlon
 clear eq1 hl3 hlon
 rcases hd3 with d3 | ⟨d3,rfl⟩
 all_goals
  by_cases hk0:n.kind = 0
  case neg =>
   have dk0:((n.kind:Int) == 0) = false:=by simpa using hk0
   have eq1:=HEQ.out
   rw [if_neg hk0] at eq1
   have cI:=rowc HE.out.1.id
   clear hk0 HEQ
   by_cases hid:n.id = id
   case neg =>
    have did:((n.id:Int) == id) = false:=by simpa using hid
    rw [if_neg hid] at eq1
    subst eq1
    clear hid
    go_wp2_with fail
    go_end0
    exact ⟨rfl,v0,HE.out,HK.out⟩
   have did:((n.id:Int) == id) = true:=by simpa using hid
   rw [if_pos hid] at eq1
   subst eq1
   obtain ⟨i0,hi,hz0,hz1,hz2⟩:=val_infoB
   have cO:=rowc HE.out.1.out
   have h64:(L.length + 1) * 32 ≤ 140737488355328:=by have:=HCAP.out;simpa using this
   have h63:L.length + 1 ≤ maxLen:=by unfold maxLen;omega
   have hbz1:B ≤ w1.heap.size:=Nat.le_trans HBZ.out HW.out.size
   clear hid
   go_wp2_with (at_builtin;refine wpList_pushRow rfl _ _ 30 rfl B 61 i0 _ 3 32 Tryd.underlying30 hi hz0 hz1 hz2 rfl (by decide) valCells (fun _=>rfl) (fun y u hu=>by simp only [valCells,List.mem_cons,List.not_mem_nil,or_false] at hu;rcases hu with rfl | rfl | rfl <;> rfl) _ L rfl HE.out.2 _ _ rfl rfl h63 h64 hbz1 d.v _ rfl ?_;intro v' w5 hown' hgr _;have HO5:=Lib.hid hown';have HG5:=Lib.hid hgr;have R5:=Lib.hid (grown_row HE.out.2 hgr HE.out.1.out (by decide));have RF5:=Lib.hid (grown_row HE.out.2 hgr HE.out.1.fn (by decide));have RI5:=Lib.hid (grown_row HE.out.2 hgr HE.out.1.id (by decide));have c5:=rowc R5.out;have f5:=rowf R5.out;obtain ⟨a6,c6,rfl⟩:=own_form HO5.out;clear hown' hgr)
   go_end0
   have hk5:=KpV.grown (gO:=gO) HE.out.2 HG5.out hbz1
   have hx6:=own_setB HO5.out R5.out (by decide) (q:=0) (Value.slice a6 (L ++ [d.v]).length c6)
   have ro6:=heap_setCell_same w5 gO 0 _ _ (Value.slice a6 (L ++ [d.v]).length c6) R5.out
   have rf6:=(heap_setCell_other w5 ⟨gO,0,none⟩ gW (Value.slice a6 (L ++ [d.v]).length c6) HWO.out).trans RF5.out
   have ri6:=(heap_setCell_other w5 ⟨gO,0,none⟩ gI (Value.slice a6 (L ++ [d.v]).length c6) HIO.out).trans RI5.out
   have hl6:(L ++ [d.v]).length = L.length + 1:=by simp
   have HF:=(⟨⟨rf6,ri6,ro6⟩,hx6⟩:WOut B (w5.setCell ⟨gO,0,none⟩ (Value.slice a6 (L ++ [d.v]).length c6)) gW gI gO id (Value.slice a6 (L ++ [d.v]).length c6) (L ++ [d.v]))
   have HFK:=HK.out.trans (hk5.trans (KpV.set HGO.out (Value.slice a6 (L ++ [d.v]).length c6)))
   have e6:Value.slice a6 (L ++ [d.v]).length c6 = Value.slice a6 (L.length + 1) c6:=by rw [hl6]
   rw [e6] at HF HFK
   exact ⟨rfl,_,HF,HFK⟩
  have dk0:((n.kind:Int) == 0) = true:=by simpa using hk0
  have eq1:=HEQ.out
  rw [if_pos hk0] at eq1
  have hzg:nf = ns ∧ datEF n.sub d.f = 0:=by
   have h:=HZ.out
   rw [datE_group HLON.out hk0,HNF.out,HNS.out] at h
   split at h
   ·split at h
    ·exact ⟨by assumption,h⟩
    ·omega
   ·omega
  obtain ⟨rfl,hzf⟩:=hzg
  have HZF:=Lib.hid (datEF_zero _ _ hzf)
  have HEQ2:=Lib.hid eq1
  clear HEQ eq1 hk0 hzf
  go_wp2_with fail
  clear cA cB cA2 d3
  go_loopw [43] (fun i wr=>∃ (k:Nat) (v1:Value),k ≤ nf ∧ i = .int .i64 (k:Nat) ∧ Hid (WOut B wr gW gI gO id v1 (L ++ walkVF (n.sub.take k) id (d.f.take k))) ∧ Hid (KpV B gO w1 wr)) (fun i _=>nf - (intOf i).toNat)
  case atStart=>exact ⟨0,v0,Nat.zero_le _,rfl,by rw [List.take_zero,List.take_zero];show WOut B w1 gW gI gO id v0 (L ++ []);rw [List.append_nil];exact HE.out,KpV.refl _ _ _⟩
  case round =>
   obtain ⟨k,v1,hk,rfl,HV,HKr⟩:=hrel
   by_cases hlt:k < nf
   case neg =>
    obtain rfl:k = nf:=Nat.le_antisymm hk (Nat.le_of_not_lt hlt)
    have hq:=HV.out
    rw [List.take_of_length_le (Nat.le_of_eq HNF.out),List.take_of_length_le (Nat.le_of_eq HNS.out),HEQ2.out] at hq
    have HQ:=Lib.hid hq
    have dk:decide (k < k) = false:=by simp
    clear hlt hk hq
    go_wp2_with fail
    go_end0
    exact ⟨rfl,v1,HQ.out,HK.out.trans HKr.out⟩
   obtain ⟨x,hx⟩:∃ x,d.f[k]? = some x:=⟨_,List.getElem?_eq_getElem (by rw [HNF.out];exact hlt)⟩
   obtain ⟨y,hy⟩:∃ y,n.sub[k]? = some y:=⟨_,List.getElem?_eq_getElem (by rw [HNS.out];exact hlt)⟩
   have hxm:x ∈ d.f:=List.mem_of_getElem? hx
   have hym:y ∈ n.sub:=List.mem_of_getElem? hy
   have hbw:=(HK.out.trans HKr.out).below
   obtain ⟨b1,off1,h17,hPb1,hb1,hat1⟩:=(HLf.out.under hbw).at (by rw [HNF.out];omega)
   subst h17
   obtain ⟨xu,xt,hcx,hu,ht⟩:=hat1 k x hx
   obtain ⟨b0,off0,h18,hPb0,hb0,hat0⟩:=(HN.out.under hbw).at (by rw [HNS.out];omega)
   subst h18
   obtain ⟨yu,hcy,hny⟩:=hat0 k y hy
   obtain ⟨xau,xcu,rfl⟩:=hu.form
   obtain ⟨xaf,xcf,rfl⟩:=ht.form
   obtain ⟨yau,ycu,rfl⟩:=hny.form
   have hI:=HIF.out x hxm y (.slice yau y.sub.length ycu) (.slice xau x.l.length xcu) (.slice xaf x.f.length xcf) false
   have hvt:=walkVF_take id n.sub d.f k y x hy hx
   have hlen:((L ++ walkVF (n.sub.take k) id (d.f.take k)).length + (walkV y id false x).length) * 32 ≤ 140737488355328:=by
    have h1:=HCAP.out
    have h2:(walkVF (n.sub.take (k + 1)) id (d.f.take (k + 1))).length ≤ R.length:=by
     rw [← HEQ2.out];exact walkVF_pre id _ _ _
    rw [hvt,List.length_append] at h2
    rw [List.length_append]
    have h3:L.length + (walkVF (n.sub.take k) id (d.f.take k)).length + (walkV y id false x).length ≤ L.length + R.length:=by omega
    exact Nat.le_trans (Nat.mul_le_mul_right 32 h3) h1
   have HVT:=Lib.hid hvt;have HLEN:=Lib.hid hlen
   unfold DtAt dtA at hcx
   unfold NdAt ndA at hcy
   have HCX:=Lib.hid hcx;have HCY:=Lib.hid hcy;have HI:=Lib.hid hI;have HU:=Lib.hid hu;have HT:=Lib.hid ht;have HNY:=Lib.hid hny;have HX:=Lib.hid hx;have HY:=Lib.hid hy;have HXM:=Lib.hid hxm;have HYM:=Lib.hid hym
   have Hlt:=Lib.hid hlt;have HBW:=Lib.hid hbw;have HPB:=Lib.hid hPb1
   have hin:(k:Int) < (nf:Int):=Int.ofNat_lt.2 hlt
   have dk:decide (k < nf) = true:=decide_eq_true hlt
   have RBr:=Lib.hid (HKr.out.keep _ _ _ _ (by decide) HBO.out RB.out)
   clear hx hy hxm hym hbw hat0 hat1 hcx hcy hu ht hny hI hlt hk hPb0 hPb1 hb0 hb1 hvt hlen
   go_upto_region 12 with (refine wpList_load_cells rfl 47 _ rfl b0 (off0 + k * 5) rfl #[.int .i64 y.id,.string y.name,.int .i64 y.rep,.int .i64 y.kind,.slice yau y.sub.length ycu] _ HCY.out Tryd.underlying47 rfl nd_info ?_)
   have hba:=(Below.refl wr.heap.size wr).alloc (Nat.le_refl _) (.cells #[.int .i64 y.id,.string y.name,.int .i64 y.rep,.int .i64 y.kind,.slice yau y.sub.length ycu] 47)
   have hzr:B ≤ wr.heap.size:=Nat.le_trans HBZ.out (Nat.le_trans HW.out.size HKr.out.below.size)
   have rY:=heap_alloc_new wr (.cells #[.int .i64 y.id,.string y.name,.int .i64 y.rep,.int .i64 y.kind,.slice yau y.sub.length ycu] 47)
   have HGX:=Lib.hid (show wr.heap.size ≠ gO from fun h=>by have:=row_lt HV.out.1.out;omega)
   obtain ⟨gx,hgx⟩:∃ gx,wr.heap.size = gx:=⟨_,rfl⟩
   have HBA:=Lib.hid hba;have RY:=Lib.hid rY
   rw [hgx] at RY HGX ⊢
   clear hba rY hgx HCY
   generalize (wr.alloc (.cells #[.int .i64 y.id,.string y.name,.int .i64 y.rep,.int .i64 y.kind,.slice yau y.sub.length ycu] 47)) = w3 at *
   refine AnyE.region (S:=fun w'=>w'.cell? ⟨gW,0,none⟩ = some (.func (.func 41) #[] #[.pointer (some ⟨gW,0,none⟩),.pointer (some ⟨gI,0,none⟩),.pointer (some ⟨gO,0,none⟩)]) ∧ (∀ j_1,w'.cell? ⟨gx,j_1,none⟩ = (#[.int .i64 y.id,.string y.name,.int .i64 y.rep,.int .i64 y.kind,.slice yau y.sub.length ycu]:Array Value)[j_1]?) ∧ w'.cell? ⟨w.heap.size + 1,5,none⟩ = some (.slice (some ⟨b1,off1,none⟩) nf cf) ∧ (∀ (j:Nat) (v:Value),(#[.bool x.no,.int .i64 x.v.k,.int .i64 x.v.n,.string x.v.s,.slice xau x.l.length xcu,.slice xaf x.f.length xcf]:Array Value)[j]? = some v → w'.cell? ⟨b1,off1 + k * 6 + j,none⟩ = some v)) (E:=[]) (by kernel_rfl) ?_
   have hbd:=(Below.refl w3.heap.size w3).drew
   have hbx0:=HBA.out.trans (hbd.mono HBA.out.size)
   have hkx:=KpV.of_below (gO:=gO) hbx0 hzr
   have hbx:=HBW.out.trans hkx.below
   have HV2:=Lib.hid (HV.out.keep hbx0)
   have hcl:=HI.out w3.drew v1 _ (HNY.out.under hkx.below) (fun z hz=>HO.out z (by rw [nodes_eq];exact List.mem_cons_of_mem _ (nodesL_mem HYM.out hz))) (fun z hz=>HR.out z (by rw [nodes_eq];exact List.mem_cons_of_mem _ (nodesL_mem HYM.out hz))) (HU.out.under hkx.below) (HT.out.under hkx.below) (fun z hz=>HDf.out z (dtsL_mem HXM.out hz)) (HZF.out k y x HY.out HX.out) HV2.out HLEN.out
   replace RBr:=Lib.hid (row_keep hbx0 RBr.out);replace RY:=Lib.hid (row_keep hbd RY.out)
   have HK2:=Lib.hid (HKr.out.trans hkx);have HCL:=Lib.hid hcl;have HZR:=Lib.hid hzr
   have hS:=(⟨rowc HV2.out.1.fn 0,rowc RY.out,rowc RBr.out 5,fun j v hj=>(hbx0.cell (p:=⟨b1,off1 + k * 6 + j,none⟩) (block_lt_of_cell (HCX.out j v hj))).trans (HCX.out j v hj)⟩:(fun w'=>w'.cell? ⟨gW,0,none⟩ = some (.func (.func 41) #[] #[.pointer (some ⟨gW,0,none⟩),.pointer (some ⟨gI,0,none⟩),.pointer (some ⟨gO,0,none⟩)]) ∧ (∀ j_1,w'.cell? ⟨gx,j_1,none⟩ = (#[.int .i64 y.id,.string y.name,.int .i64 y.rep,.int .i64 y.kind,.slice yau y.sub.length ycu]:Array Value)[j_1]?) ∧ w'.cell? ⟨w.heap.size + 1,5,none⟩ = some (.slice (some ⟨b1,off1,none⟩) nf cf) ∧ (∀ (j:Nat) (v:Value),(#[.bool x.no,.int .i64 x.v.k,.int .i64 x.v.n,.string x.v.s,.slice xau x.l.length xcu,.slice xaf x.f.length xcf]:Array Value)[j]? = some v → w'.cell? ⟨b1,off1 + k * 6 + j,none⟩ = some v)) w3.drew)
   clear hbd hbx0 hkx hbx hcl hzr HV
   generalize w3.drew = wd at *
   refine AnyE.take (i:=0) (v:=?_) rfl (by kernel_rfl) (by kernel_rfl) (by kernel_rfl) (by kernel_rfl) (by kernel_rfl) (fun _ _ _ h=>h) (Or.inl ⟨by rfl,?_⟩) hS ?_
   rotate_left
   focus (intro wq hSq;obtain ⟨hS1,hS2,hS3,hS4⟩:=hSq;go_simp;with_reducible rfl)
   try simp only [Act.put,List.getElem_toArray,List.getElem_cons_succ,List.getElem_cons_zero,List.setIfInBounds_toArray,List.set_cons_zero,List.set_cons_succ]
   refine AnyE.take (i:=1) (v:=?_) rfl (by kernel_rfl) (by kernel_rfl) (by kernel_rfl) (by kernel_rfl) (by kernel_rfl) (fun _ _ _ h=>h) (Or.inl ⟨by rfl,?_⟩) hS ?_
   rotate_left
   focus (intro wq hSq;obtain ⟨hS1,hS2,hS3,hS4⟩:=hSq;go_simp;with_reducible rfl)
   try simp only [Act.put,List.getElem_toArray,List.getElem_cons_succ,List.getElem_cons_zero,List.setIfInBounds_toArray,List.set_cons_zero,List.set_cons_succ]
   refine AnyE.take (i:=2) (v:=?_) rfl (by kernel_rfl) (by kernel_rfl) (by kernel_rfl) (by kernel_rfl) (by kernel_rfl) (fun _ _ _ h=>h) (Or.inl ⟨by rfl,?_⟩) hS ?_
   rotate_left
   focus (intro wq hSq;obtain ⟨hS1,hS2,hS3,hS4⟩:=hSq;go_simp;with_reducible rfl)
   try simp only [Act.put,List.getElem_toArray,List.getElem_cons_succ,List.getElem_cons_zero,List.setIfInBounds_toArray,List.set_cons_zero,List.set_cons_succ]
   refine AnyE.take (i:=3) (v:=?_) rfl (by kernel_rfl) (by kernel_rfl) (by kernel_rfl) (by kernel_rfl) (by kernel_rfl) (fun _ _ _ h=>h) (Or.inl ⟨by rfl,?_⟩) hS ?_
   rotate_left
   focus (intro wq hSq;obtain ⟨hS1,hS2,hS3,hS4⟩:=hSq;go_simp;with_reducible rfl)
   try simp only [Act.put,List.getElem_toArray,List.getElem_cons_succ,List.getElem_cons_zero,List.setIfInBounds_toArray,List.set_cons_zero,List.set_cons_succ]
   refine AnyE.take (i:=4) (v:=?_) rfl (by kernel_rfl) (by kernel_rfl) (by kernel_rfl) (by kernel_rfl) (by kernel_rfl) (fun _ _ _ h=>h) (Or.inl ⟨by rfl,?_⟩) hS ?_
   rotate_left
   focus (intro wq hSq;obtain ⟨hS1,hS2,hS3,hS4⟩:=hSq;go_simp;with_reducible rfl)
   try simp only [Act.put,List.getElem_toArray,List.getElem_cons_succ,List.getElem_cons_zero,List.setIfInBounds_toArray,List.set_cons_zero,List.set_cons_succ]
   refine AnyE.take (i:=5) (v:=?_) rfl (by kernel_rfl) (by kernel_rfl) (by kernel_rfl) (by kernel_rfl) (by kernel_rfl) (fun _ _ _ h=>h) (Or.inl ⟨by rfl,?_⟩) hS ?_
   rotate_left
   focus (intro wq hSq;obtain ⟨hS1,hS2,hS3,hS4⟩:=hSq;go_simp;with_reducible rfl)
   try simp only [Act.put,List.getElem_toArray,List.getElem_cons_succ,List.getElem_cons_zero,List.setIfInBounds_toArray,List.set_cons_zero,List.set_cons_succ]
   refine AnyE.take (i:=6) (v:=.agg #[.bool x.no,.int .i64 x.v.k,.int .i64 x.v.n,.string x.v.s,.slice xau x.l.length xcu,.slice xaf x.f.length xcf]) rfl (by kernel_rfl) (by kernel_rfl) (by kernel_rfl) (by kernel_rfl) (by kernel_rfl) (fun _ _ _ h=>h) (yields_load 63 _ rfl rfl b1 (off1 + k * 6) rfl #[.bool x.no,.int .i64 x.v.k,.int .i64 x.v.n,.string x.v.s,.slice xau x.l.length xcu,.slice xaf x.f.length xcf] _ (fun w h=>h.2.2.2) Tryd.underlying63 rfl (by kernel_rfl)) hS ?_
   try simp only [Act.put,List.getElem_toArray,List.getElem_cons_succ,List.getElem_cons_zero,List.setIfInBounds_toArray,List.set_cons_zero,List.set_cons_succ]
   refine AnyE.one (i:=7) (by kernel_rfl) rfl rfl ?_
   intro K hK
   simp only [List.getElem_toArray,List.getElem_cons_succ,List.getElem_cons_zero]
   go_simp
   refine HCL.out.mono ?_;rintro e w4 ⟨rfl,v2,hv2,hk4⟩
   have hv3:=hv2
   rw [List.append_assoc,← HVT.out] at hv3
   have HV3:=Lib.hid hv3;have HK3:=Lib.hid (HK2.out.trans hk4)
   have hS9:=(⟨rowc hv2.1.fn 0,rowc (hk4.keep _ _ _ _ (by decide) HGX.out RY.out),rowc (hk4.keep _ _ _ _ (by decide) HBO.out RBr.out) 5,fun j v hj=>(hk4.below.cell (p:=⟨b1,off1 + k * 6 + j,none⟩) HPB.out).trans (hS.2.2.2 j v hj)⟩:(fun w'=>w'.cell? ⟨gW,0,none⟩ = some (.func (.func 41) #[] #[.pointer (some ⟨gW,0,none⟩),.pointer (some ⟨gI,0,none⟩),.pointer (some ⟨gO,0,none⟩)]) ∧ (∀ j_1,w'.cell? ⟨gx,j_1,none⟩ = (#[.int .i64 y.id,.string y.name,.int .i64 y.rep,.int .i64 y.kind,.slice yau y.sub.length ycu]:Array Value)[j_1]?) ∧ w'.cell? ⟨w.heap.size + 1,5,none⟩ = some (.slice (some ⟨b1,off1,none⟩) nf cf) ∧ (∀ (j:Nat) (v:Value),(#[.bool x.no,.int .i64 x.v.k,.int .i64 x.v.n,.string x.v.s,.slice xau x.l.length xcu,.slice xaf x.f.length xcf]:Array Value)[j]? = some v → w'.cell? ⟨b1,off1 + k * 6 + j,none⟩ = some v)) w4)
   refine hK _ _ (fun _=>hS9) ?_
   clear hK K hS
   have hS:=hS9
   clear hS9
   clear hv2 hv3 hk4 HCL HV2
   try simp only [Act.put,List.getElem_toArray,List.getElem_cons_succ,List.getElem_cons_zero,List.setIfInBounds_toArray,List.set_cons_zero,List.set_cons_succ]
   refine AnyE.done (by kernel_rfl) ?_ _
   clear hS
   have hfb:=HFB.out
   go_wp2_with fail
   go_roundw
   case rel=>exact ⟨k + 1,v2,Hlt.out,by go_num,HV3.out,HK3.out⟩
   case measure=>have:=Hlt.out;simp [intOf];omega
end Go.Proofs.YtkmhmnffbgedgaaDoor
