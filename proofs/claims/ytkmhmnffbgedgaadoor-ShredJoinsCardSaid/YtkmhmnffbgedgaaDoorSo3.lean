/- The walk of the statement ShredJoins. Written by gen_so3.py. -/
import Derived.Test.YtkmhmnffbgedgaaDoorJn1
import Derived.Test.YtkmhmnffbgedgaaDoorMCe
import Derived.Test.YtkmhmnffbgedgaaDoorSameN
namespace Go.Proofs.YtkmhmnffbgedgaaDoor
set_option maxHeartbeats 32000000
set_option linter.unusedVariables false
set_option linter.unusedSimpArgs false
open Go Go.RowKit Go.ChangeShapes
theorem joinC_len (id:Int):∀ l:List Col,(∀ c ∈ l,slimB c = true) → (joinC id l).rep.length ≤ 400 * l.length ∧ (joinC id l).df.length ≤ 400 * l.length ∧ (joinC id l).vals.length ≤ 400 * l.length
 | [],_=>by simp [joinC]
 | c :: r,h=>by
  have h1:=h c (List.mem_cons_self ..)
  have h2:=joinC_len id r fun x hx=>h x (List.mem_cons_of_mem _ hx)
  unfold slimB at h1
  simp only [Bool.and_eq_true,decide_eq_true_eq] at h1
  simp only [joinC,List.flatMap_cons,List.length_append,List.length_cons] at h2 ⊢
  omega
def JBoth (adr:Nat → Addr) (f:Lf) (l:List Col) (w:World) (e:Ending) (w':World):Prop:=∃ (C:Col) (Pa:Option Addr) (Pm Pc:Nat) (Qa:Option Addr) (Qm Qc:Nat) (Va:Option Addr) (Vm Vc:Nat) (ue:Value),
 e = .returned (.tuple #[.agg #[.int .i64 C.id,.slice Pa Pm Pc,.slice Qa Qm Qc,.slice Va Vm Vc],ue]) ∧ C = (if (jE f l).isNil = true then joinC f.id l else ⟨0,[],[],[]⟩) ∧ IsCol w' (.agg #[.int .i64 C.id,.slice Pa Pm Pc,.slice Qa Qm Qc,.slice Va Vm Vc]) C ∧ IsErr w' adr (jE f l) ue ∧ Below w.heap.size w w'
theorem join_both (f:Lf) (l:List Col) (vf v:Value) (w:World) (adr:Nat → Addr) (hE:ErrsAt w adr [2,3,4]) (hf:IsLf w vf f) (hl:IsCols w v l) (fo:f.Ok) (lo:∀ c ∈ l,c.Ok) (hlm:l.length ≤ 20) (h1:(l.flatMap Col.rep).length ≤ 8000) :
  Calls Tryd.prog 9 #[vf,v] w (JBoth adr f l w):=by
 cases hn:(jE f l).isNil with
 | true =>
  have hG:=(GErr.isNil_iff _).1 hn
  refine (join_all f l vf v w adr hE hf hl fo lo (jE_nil hG) (by omega) (by omega)).mono fun e w' ⟨h,hb⟩=>?_
  rcases h with ⟨_,u,rfl,⟨p,q,d,rfl,o1,o2,o3⟩,_⟩ | ⟨h,_⟩
  ·obtain ⟨m1,b1,c1,e1⟩:=own_lit o1
   obtain ⟨m2,b2,c2,e2⟩:=own_lit o2
   obtain ⟨m3,b3,c3,e3⟩:=own_lit o3
   subst e1 e2 e3
   refine ⟨joinC f.id l,b1,m1,c1,b2,m2,c2,b3,m3,c3,.nilIface,rfl,by rw [if_pos hn],⟨_,_,_,rfl,IsInts_of_own o1,IsInts_of_own o2,IsVals.of_own o3⟩,by rw [hG];rfl,hb⟩
  ·omega
 | false =>
  have hne:jE f l ≠ .nil:=fun e=>by rw [(GErr.isNil_iff _).2 e] at hn;cases hn
  obtain ⟨K,hK,k1,k2,k3⟩:=jE_bad hne
  refine (join_bad f l vf v w adr hE hf hl fo lo (by omega) K hK k1 k2).mono fun e w' ⟨h,hb⟩=>?_
  obtain ⟨ue,rfl,her⟩:=h
  exact ⟨⟨0,[],[],[]⟩,none,0,0,none,0,0,none,0,0,ue,rfl,by rw [if_neg (by rw [hn];decide)],⟨_,_,_,rfl,.inl ⟨rfl,none,0,rfl⟩,.inl ⟨rfl,none,0,rfl⟩,.inl ⟨rfl,none,0,rfl⟩⟩,by rw [k3];exact her,hb⟩
set_option maxRecDepth 100000 in
theorem joins_main (f:Lf) (l:List Col) (vf v:Value) (w:World) (adr:Nat → Addr) (hE:ErrEnv w adr) (hf:IsLf w vf f) (hl:IsCols w v l) (fo:f.Ok) (co:∀ c ∈ l,c.Ok) (cr:∀ c ∈ l,c.Reach) (hll:l.length ≤ 20) (hpl:f.path.length ≤ 100) :
  Calls Tryd.prog 3 #[vf,v] w fun e w'=>e = .returned (.bool true) ∧ Below w.heap.size w w':=by
 have HTW:=Lib.hid (fun (w1:World) (h:Below w.heap.size w w1)=>twins_any w1 adr ((hE.errs.sub (by decide)).below h))
 have HSL:=Lib.hid (fun (c:Col) (vc:Value) (w1:World) (h:IsCol w1 vc c)=>slim2_any c vc w1 h)
 have HCE:=Lib.hid (fun (c:Col) (hc:c ∈ l) (vc:Value) (w1:World) (h:Below w.heap.size w w1) (h2:IsCol w1 vc c)=>cerr_any f c false vf vc w1 (hf.below h (Nat.le_refl _)) h2 fo (co c hc))
 have HOL:=Lib.hid (fun (w1:World) (h:Below w.heap.size w w1)=>ownLeaf_any f vf w1 (hf.below h (Nat.le_refl _)) hpl)
 have HOC:=Lib.hid (fun (w1:World) (h:Below w.heap.size w w1)=>ownCols_any l v w1 (hl.below h (Nat.le_refl _)) cr (by omega))
 have HEB:=Lib.hid (fun (w1:World) (h:Below w.heap.size w w1)=>hE.below h)
 have HLS:=Lib.hid hl
 have HJN:=Lib.hid (fun (vf' v':Value) (w1:World) (h:Below w.heap.size w w1) (h1:IsLf w1 vf' f) (h2:IsCols w1 v' l) (h3:(l.flatMap Col.rep).length ≤ 8000)=>join_both f l vf' v' w1 adr ((hE.errs.sub (by decide)).below h) h1 h2 fo co (by omega) h3)
 obtain ⟨p,rfl,hp⟩:=hf
 obtain ⟨pa,pc,rfl⟩:=hp.form
 obtain ⟨ad,cp,rfl⟩:=hl.form
 obtain ⟨len,hlen⟩:∃ len,l.length = len:=⟨_,rfl⟩
 rw [hlen] at hll HOC HLS ⊢
 have HLEN:=Lib.hid hlen
 clear hE hp fo co cr hlen hl
 unfold lfA at *
 have hb0:=(Below.refl w.heap.size w).alloc (Nat.le_refl _) (.cells #[.int .i64 f.id,.int .i64 f.kind,.int .i64 f.mr,.int .i64 f.md,.slice pa f.path.length pc] 24)
 have rf0:=heap_alloc_new w (.cells #[.int .i64 f.id,.int .i64 f.kind,.int .i64 f.mr,.int .i64 f.md,.slice pa f.path.length pc] 24)
 go_enter Tryd.func3,Tryd.ntmps3
 go_upto_region 1 with fail
 generalize (w.alloc (.cells #[.int .i64 f.id,.int .i64 f.kind,.int .i64 f.mr,.int .i64 f.md,.slice pa f.path.length pc] 24)) = w1 at *
 have RF:=Lib.hid rf0;have HW:=Lib.hid hb0
 clear rf0 hb0
 go_wp2_with fail
 refine (HTW.out w1 HW.out).mono ?_;rintro e w2 ⟨rfl,hb2⟩
 replace RF:=Lib.hid (row_keep hb2 RF.out);replace HW:=Lib.hid (HW.out.trans (hb2.mono HW.out.size))
 clear hb2 HTW
 have cF:=rowc RF.out
 have d1:¬ (20:Int) < (len:Int):=by omega
 have d2:¬ (100:Int) < (f.path.length:Int):=by omega
 go_wp2_with fail
 refine (fine_any w2).mono ?_;rintro e w3 ⟨rfl,hb3⟩
 replace RF:=Lib.hid (row_keep hb3 RF.out);replace HW:=Lib.hid (HW.out.trans (hb3.mono HW.out.size))
 clear hb3 cF
 unfold faultV
 have hbe:=(Below.refl w3.heap.size w3).alloc (Nat.le_refl _) (.cells #[.int .i64 0,.int .i64 (-1)] 28)
 have hre:=heap_alloc_new w3 (.cells #[.int .i64 0,.int .i64 (-1)] 28)
 have hgf:w.heap.size < w3.heap.size:=row_lt RF.out
 go_upto_region 5 with fail
 replace RF:=Lib.hid (row_keep hbe RF.out);replace HW:=Lib.hid (HW.out.trans (hbe.mono HW.out.size))
 have RE:=Lib.hid hre
 generalize (w3.alloc (.cells #[.int .i64 0,.int .i64 (-1)] 28)) = w4 at *
 generalize w3.heap.size = ge at *
 clear hbe hre
 have cF:=rowc RF.out
 have hbv:=(Below.refl w4.heap.size w4).alloc (Nat.le_refl _) (.cells #[.int .i64 f.id,.slice none 0 0,.slice none 0 0,.slice none 0 0] 32)
 have hrv:=heap_alloc_new w4 (.cells #[.int .i64 f.id,.slice none 0 0,.slice none 0 0,.slice none 0 0] 32)
 have hge4:ge < w4.heap.size:=row_lt RE.out
 go_upto_region 6 with fail
 replace RF:=Lib.hid (row_keep hbv RF.out);replace RE:=Lib.hid (row_keep hbv RE.out);replace HW:=Lib.hid (HW.out.trans (hbv.mono HW.out.size))
 have hoc:OcS w.heap.size (w4.alloc (.cells #[.int .i64 f.id,.slice none 0 0,.slice none 0 0,.slice none 0 0] 32)) w4.heap.size (joinC f.id []) (.slice none 0 0) (.slice none 0 0) (.slice none 0 0):=⟨hrv,World.ownsRow_nil _ _ _ _,World.ownsRow_nil _ _ _ _,World.ownsRow_nil _ _ _ _,fun k h=>(by cases h),HW.out.size,by omega⟩
 have HOCS:=Lib.hid hoc
 generalize (w4.alloc (.cells #[.int .i64 f.id,.slice none 0 0,.slice none 0 0,.slice none 0 0] 32)) = w5 at *
 have hgw:ge < w4.heap.size:=hge4
 generalize w4.heap.size = gw at *
 clear hbv hrv hoc cF hge4
 go_wp2_with fail
 go_loopw [8] (fun i wr=>∃ (k:Nat) (P Q V:Value),k ≤ len ∧ i = .int .i64 (k:Nat) ∧ Hid (OcS w.heap.size wr gw (joinC f.id (l.take k)) P Q V) ∧ Hid (wr.heap[ge]? = some (.cells #[.int .i64 (jE f (l.take k)).code,.int .i64 (jE f (l.take k)).at'] 28 (0,0))) ∧ Hid (wr.heap[w.heap.size]? = some (.cells #[.int .i64 f.id,.int .i64 f.kind,.int .i64 f.mr,.int .i64 f.md,.slice pa f.path.length pc] 24 (0,0))) ∧ Hid (Below w.heap.size w wr) ∧ Hid (∀ c ∈ l.take k,slimB c = true)) (fun i _=>len - (intOf i).toNat)
 case atStart=>exact ⟨0,_,_,_,Nat.zero_le _,rfl,HOCS,RE,RF,HW,fun c hc=>by simp at hc⟩
 case round =>
  clear RF RE HW HOCS
  obtain ⟨k,P,Q,V,hk,rfl,HOC9,RE,RF,HW,HSB⟩:=hrel
  by_cases hlt:k < len
  case neg =>
   obtain rfl:k = len:=Nat.le_antisymm hk (Nat.le_of_not_lt hlt)
   have dk:decide (k < k) = false:=by simp
   have htk:l.take k = l:=List.take_of_length_le (Nat.le_of_eq HLEN.out)
   rw [htk] at HOC9 RE HSB
   clear hlt hk htk
   have hln:=joinC_len f.id l HSB.out
   have hlr:(l.flatMap Col.rep).length ≤ 8000:=by have h1:=hln.1;have h2:=HLEN.out;show (joinC f.id l).rep.length ≤ 8000;omega
   have HLN:=Lib.hid hln
   have HPJ:=Lib.hid (fun (vf' v':Value) (w1:World) (h:Below w.heap.size w w1) (h1:IsLf w1 vf' f) (h2:IsCols w1 v' l)=>HJN.out vf' v' w1 h h1 h2 hlr)
   clear hln hlr
   have cF:=rowc RF.out
   go_wp2_with fail
   refine (HOL.out wr HW.out).mono ?_;rintro e wa ⟨⟨uf,rfl,hlf⟩,hba⟩
   replace HOC9:=Lib.hid (HOC9.out.keep hba);replace RE:=Lib.hid (row_keep hba RE.out);replace HW:=Lib.hid (HW.out.trans (hba.mono HW.out.size))
   clear cF RF hba
   have HLF:=Lib.hid hlf
   clear hlf
   go_wp2_with fail
   refine (HOC.out wa HW.out).mono ?_;rintro e wb ⟨uc,rfl,hcs,hbb⟩
   replace HOC9:=Lib.hid (HOC9.out.keep hbb);replace RE:=Lib.hid (row_keep hbb RE.out);replace HW:=Lib.hid (HW.out.trans (hbb.mono HW.out.size))
   have HLF2:=Lib.hid (HLF.out.below hbb (Nat.le_refl _));have HCS:=Lib.hid hcs
   clear HLF hcs hbb
   go_wp2_with fail
   refine (HPJ.out _ _ wb HW.out HLF2.out HCS.out).mono ?_;rintro e wj ⟨C,Pa,Pm,Pc,Qa,Qm,Qc,Va,Vm,Vc,ue,rfl,hC,hcu,her,hbj⟩
   replace HOC9:=Lib.hid (HOC9.out.keep hbj);replace RE:=Lib.hid (row_keep hbj RE.out);replace HW:=Lib.hid (HW.out.trans (hbj.mono HW.out.size))
   have HC:=Lib.hid hC;have HCU:=Lib.hid hcu;have HER:=Lib.hid her
   clear hC hcu her hbj HLF2 HCS HPJ
   have hgz:=heap_alloc_new wj (.cells #[.int .i64 0,.slice none 0 0,.slice none 0 0,.slice none 0 0] 32)
   have hbz:=(Below.refl wj.heap.size wj).alloc (Nat.le_refl _) (.cells #[.int .i64 0,.slice none 0 0,.slice none 0 0,.slice none 0 0] 32)
   go_upto_region 17 with (refine wpList_store_part rfl 32 _ _ rfl wj.heap.size 0 _ 32 #[.int .i64 C.id,.slice Pa Pm Pc,.slice Qa Qm Qc,.slice Va Vm Vc] rfl rfl hgz (by kernel_rfl) (by simp [Value.oneCell']) (Nat.le_of_ble_eq_true rfl) #[.int .i64 C.id,.slice Pa Pm Pc,.slice Qa Qm Qc,.slice Va Vm Vc] rfl ?_;intro w9 r9 ho9 hb9 hz9;have R9:=Lib.hid r9;have HB9:=Lib.hid (hbz.trans hb9);clear r9 ho9 hb9 hz9)
   try simp only [Act.put,List.getElem_toArray,List.getElem_cons_succ,List.getElem_cons_zero,List.setIfInBounds_toArray,List.set_cons_zero,List.set_cons_succ]
   replace HOC9:=Lib.hid (HOC9.out.keep HB9.out);replace RE:=Lib.hid (row_keep HB9.out RE.out);replace HCU:=Lib.hid (HCU.out.below HB9.out (Nat.le_refl _));replace HER:=Lib.hid (HER.out.below HB9.out);replace HW:=Lib.hid (HW.out.trans (HB9.out.mono HW.out.size))
   clear HB9 hgz hbz
   generalize wj.heap.size = gz at *
   have cE:=rowc RE.out
   cases hn:(jE f l).isNil with
   | false =>
    have hne:jE f l ≠ .nil:=fun e=>by rw [(GErr.isNil_iff _).2 e] at hn;cases hn
    have d5:(0:Int) < (jE f l).code:=jE_code hne
    have hC:=HC.out
    rw [if_neg (by rw [hn];decide)] at hC
    subst hC
    have cG:=rowc R9.out
    have hres:(((jE f l).code == (jE f l).code) && (((jE f l).code == 0) || ((jE f l).at' == (jE f l).at'))) = true:=by simp
    have HFA:=faulted_any (jE f l).code (jE f l).at' (HEB.out w9 HW.out) HER.out
    rw [hres] at HFA
    unfold faultV at HFA
    clear hne hres
    go_wp2_with fail
    refine HFA.mono ?_;rintro e wx ⟨rfl,hb⟩
    clear HFA
    replace R9:=Lib.hid (row_keep hb R9.out);replace HCU:=Lib.hid (HCU.out.below hb (Nat.le_refl _));replace HW:=Lib.hid (HW.out.trans (hb.mono HW.out.size))
    clear hb cE cG
    have cG:=rowc R9.out
    go_wp2_with fail
    refine (sameColN ⟨0,[],[],[]⟩ _ _ wx HCU.out ⟨_,_,_,rfl,.inl ⟨rfl,none,0,rfl⟩,.inl ⟨rfl,none,0,rfl⟩,.inl ⟨rfl,none,0,rfl⟩⟩ (by simp) (by simp) (by simp [maxLen])).mono ?_;rintro e wy ⟨rfl,hb⟩
    replace HW:=Lib.hid (HW.out.trans (hb.mono HW.out.size))
    go_wp2_with fail
    go_ret
    exact ⟨rfl,HW.out⟩
   | true =>
    have hG:=(GErr.isNil_iff _).1 hn
    have d5:¬ (0:Int) < (jE f l).code:=by rw [hG];simp [GErr.code]
    have hC:=HC.out
    rw [if_pos hn] at hC
    subst hC
    have hue:=HER.out
    rw [hG] at hue
    have hue2:ue = .nilIface:=hue
    subst hue2
    clear hue hG
    have cG:=rowc R9.out
    have cV:=rowc HOC9.out.row
    go_wp2_with fail
    refine (sameColN (joinC f.id l) _ _ w9 HCU.out HOC9.out.own.isCol (by have:=HLN.out;have:=HLEN.out;omega) (by have:=HLN.out;have:=HLEN.out;omega) (by have:=HLN.out;have:=HLEN.out;unfold maxLen;omega)).mono ?_;rintro e wy ⟨rfl,hb⟩
    replace HW:=Lib.hid (HW.out.trans (hb.mono HW.out.size))
    go_wp2_with fail
    go_ret
    exact ⟨rfl,HW.out⟩
  have hkl:k < l.length:=by rw [HLEN.out];exact hlt
  obtain ⟨x,hx⟩:∃ x,l[k]? = some x:=⟨_,List.getElem?_eq_getElem hkl⟩
  have hxm:x ∈ l:=List.mem_of_getElem? hx
  obtain ⟨b0,off,rfl,-,hb0,hat⟩:=HLS.out.at (by rw [HLEN.out];omega)
  obtain ⟨p0,q0,d0,hp0,hq0,hd0,hcx⟩:=hat k x hx
  have hsn:l.take (k + 1) = l.take k ++ [x]:=by rw [List.take_add_one,hx];rfl
  have hic:IsCol w (.agg #[.int .i64 x.id,p0,q0,d0]) x:=⟨p0,q0,d0,rfl,hp0,hq0,hd0⟩
  unfold colA at hcx
  have HCX:=Lib.hid (fun (w1:World) (h:Below w.heap.size w w1)=>fun (j:Nat) (v:Value) (hj:(#[.int .i64 x.id,p0,q0,d0]:Array Value)[j]? = some v)=>(h.cell (p:=⟨b0,off + k * 4 + j,none⟩) hb0).trans (hcx j v hj))
  have HIC:=Lib.hid (fun (w1:World) (h:Below w.heap.size w w1)=>hic.below h (Nat.le_refl _))
  have HP0:=Lib.hid hp0;have HQ0:=Lib.hid hq0;have HD0:=Lib.hid hd0
  have HSN:=Lib.hid hsn;have Hlt:=Lib.hid hlt;have HXM:=Lib.hid hxm
  have hin:(k:Int) < (len:Int):=Int.ofNat_lt.2 hlt
  have dk:decide (k < len) = true:=decide_eq_true hlt
  have hsl:=HSL.out x (.agg #[.int .i64 x.id,p0,q0,d0]) wr (HIC.out wr HW.out)
  have HS1:=Lib.hid hsl
  obtain ⟨sb,hsb⟩:∃ sb,slimB x = sb:=⟨_,rfl⟩
  rw [hsb] at HS1
  have HSX:=Lib.hid hsb
  clear hkl hx hxm hat hcx hic hp0 hq0 hd0 hsn hlt hk hsl hsb
  go_wp2_with (refine wpList_load_cells rfl 32 _ rfl b0 (off + k * 4) rfl #[.int .i64 x.id,p0,q0,d0] _ (HCX.out _ HW.out) Tryd.underlying32 rfl col_info ?_)
  refine HS1.out.mono ?_;rintro e wa ⟨rfl,hba⟩
  replace HOC9:=Lib.hid (HOC9.out.keep hba);replace RE:=Lib.hid (row_keep hba RE.out);replace RF:=Lib.hid (row_keep hba RF.out);replace HW:=Lib.hid (HW.out.trans (hba.mono HW.out.size))
  clear hba HS1
  have cE:=rowc RE.out
  cases sb with
  | false =>
   go_wp2_with fail
   go_ret
   exact ⟨rfl,HW.out⟩
  | true =>
  go_upto_if 44 with (fail)
  clear cE
  go_cut [] (fun wx=>Hid (OcS w.heap.size wx gw (joinC f.id (l.take k)) P Q V ∧ wx.heap[ge]? = some (.cells #[.int .i64 (jE f (l.take (k + 1))).code,.int .i64 (jE f (l.take (k + 1))).at'] 28 (0,0)) ∧ wx.heap[w.heap.size]? = some (.cells #[.int .i64 f.id,.int .i64 f.kind,.int .i64 f.mr,.int .i64 f.md,.slice pa f.path.length pc] 24 (0,0)) ∧ Below w.heap.size w wx))
  case first =>
   by_cases hn:(jE f (l.take k)).isNil = true
   case neg =>
    have hne:jE f (l.take k) ≠ .nil:=fun e=>hn ((GErr.isNil_iff _).2 e)
    have dc:((jE f (l.take k)).code == 0) = false:=by have:=jE_code hne;rw [beq_eq_false_iff_ne];omega
    have hj:jE f (l.take (k + 1)) = jE f (l.take k):=by rw [HSN.out,jE_snoc,if_neg hn]
    clear hne hn
    go_wp2_with fail
    go_meet
    exact ⟨HOC9.out,by rw [hj];exact RE.out,RF.out,HW.out⟩
   have hG:=(GErr.isNil_iff _).1 hn
   have dc:((jE f (l.take k)).code == 0) = true:=by rw [hG];rfl
   have hj:jE f (l.take (k + 1)) = colErr f x false:=by rw [HSN.out,jE_snoc,if_pos hn]
   have HJ:=Lib.hid hj
   clear hG hn hj
   go_upto_region 12 with fail
   clear dc
   refine AnyE.region (S:=fun w'=>(∀ j_1,w'.cell? ⟨w.heap.size,j_1,none⟩ = (#[.int .i64 f.id,.int .i64 f.kind,.int .i64 f.mr,.int .i64 f.md,.slice pa f.path.length pc]:Array Value)[j_1]?) ∧ (∀ (j_1:Nat) (v_1:Value),(#[.int .i64 x.id,p0,q0,d0]:Array Value)[j_1]? = some v_1 → w'.cell? ⟨b0,off + k * 4 + j_1,none⟩ = some v_1)) (E:=[6]) (by kernel_rfl) ?_
   have hbd:=(Below.refl wa.heap.size wa).drew
   have HBX:=Lib.hid hbd;have HBX0:=hbd.size
   clear hbd
   generalize hwd:wa.drew = wd at HBX HBX0 ⊢
   clear hwd
   replace HOC9:=Lib.hid (HOC9.out.keep HBX.out);replace RE:=Lib.hid (row_keep HBX.out RE.out);replace RF:=Lib.hid (row_keep HBX.out RF.out);replace HW:=Lib.hid (HW.out.trans (HBX.out.mono HW.out.size))
   clear HBX HBX0
   have hS:=(⟨rowc RF.out,HCX.out _ HW.out⟩:(∀ j_1,wd.cell? ⟨w.heap.size,j_1,none⟩ = (#[.int .i64 f.id,.int .i64 f.kind,.int .i64 f.mr,.int .i64 f.md,.slice pa f.path.length pc]:Array Value)[j_1]?) ∧ (∀ (j_1:Nat) (v_1:Value),(#[.int .i64 x.id,p0,q0,d0]:Array Value)[j_1]? = some v_1 → wd.cell? ⟨b0,off + k * 4 + j_1,none⟩ = some v_1))
   refine AnyE.takeL (i:=0) (v:=.agg #[.int .i64 f.id,.int .i64 f.kind,.int .i64 f.mr,.int .i64 f.md,.slice pa f.path.length pc]) rfl (by kernel_rfl) (by kernel_rfl) (by kernel_rfl) (by kernel_rfl) (by kernel_rfl) (fun _ _ _ h=>h) (yields_load 24 _ rfl rfl (w.heap.size) (0) rfl #[.int .i64 f.id,.int .i64 f.kind,.int .i64 f.mr,.int .i64 f.md,.slice pa f.path.length pc] _ (fun w h=>fun j v hj=>by rw [Nat.zero_add];exact (h.1 j).trans hj) Tryd.underlying24 rfl (by kernel_rfl)) hS ?_
   try simp only [Act.put,List.getElem_toArray,List.getElem_cons_succ,List.getElem_cons_zero,List.setIfInBounds_toArray,List.set_cons_zero,List.set_cons_succ]
   refine AnyE.takeL (i:=1) (v:=?_) rfl (by kernel_rfl) (by kernel_rfl) (by kernel_rfl) (by kernel_rfl) (by kernel_rfl) (fun _ _ _ h=>h) (Or.inl ⟨by rfl,?_⟩) hS ?_
   rotate_left
   focus (intro wq hSq;obtain ⟨hS1,hS2⟩:=hSq;go_simp;with_reducible rfl)
   try simp only [Act.put,List.getElem_toArray,List.getElem_cons_succ,List.getElem_cons_zero,List.setIfInBounds_toArray,List.set_cons_zero,List.set_cons_succ]
   refine AnyE.takeL (i:=2) (v:=?_) rfl (by kernel_rfl) (by kernel_rfl) (by kernel_rfl) (by kernel_rfl) (by kernel_rfl) (fun _ _ _ h=>h) (Or.inl ⟨by rfl,?_⟩) hS ?_
   rotate_left
   focus (intro wq hSq;obtain ⟨hS1,hS2⟩:=hSq;go_simp;with_reducible rfl)
   try simp only [Act.put,List.getElem_toArray,List.getElem_cons_succ,List.getElem_cons_zero,List.setIfInBounds_toArray,List.set_cons_zero,List.set_cons_succ]
   refine AnyE.takeL (i:=3) (v:=?_) rfl (by kernel_rfl) (by kernel_rfl) (by kernel_rfl) (by kernel_rfl) (by kernel_rfl) (fun _ _ _ h=>h) (Or.inl ⟨by rfl,?_⟩) hS ?_
   rotate_left
   focus (intro wq hSq;obtain ⟨hS1,hS2⟩:=hSq;go_simp;with_reducible rfl)
   try simp only [Act.put,List.getElem_toArray,List.getElem_cons_succ,List.getElem_cons_zero,List.setIfInBounds_toArray,List.set_cons_zero,List.set_cons_succ]
   refine AnyE.takeL (i:=4) (v:=.agg #[.int .i64 x.id,p0,q0,d0]) rfl (by kernel_rfl) (by kernel_rfl) (by kernel_rfl) (by kernel_rfl) (by kernel_rfl) (fun _ _ _ h=>h) (yields_load 32 _ rfl rfl (b0) (off + k * 4) rfl #[.int .i64 x.id,p0,q0,d0] _ (fun w h=>h.2) Tryd.underlying32 rfl (by kernel_rfl)) hS ?_
   try simp only [Act.put,List.getElem_toArray,List.getElem_cons_succ,List.getElem_cons_zero,List.setIfInBounds_toArray,List.set_cons_zero,List.set_cons_succ]
   refine AnyE.one (i:=5) (by kernel_rfl) rfl rfl ?_
   intro K hK
   simp only [List.getElem_toArray,List.getElem_cons_succ,List.getElem_cons_zero]
   go_simp
   refine (HCE.out x HXM.out _ wd HW.out (HIC.out wd HW.out)).mono ?_;rintro e wb ⟨rfl,hb⟩
   replace HOC9:=Lib.hid (HOC9.out.keep hb);replace RE:=Lib.hid (row_keep hb RE.out);replace RF:=Lib.hid (row_keep hb RF.out);replace HW:=Lib.hid (HW.out.trans (hb.mono HW.out.size))
   clear hb hS
   unfold faultV
   have hS:=(⟨rowc RF.out,HCX.out _ HW.out⟩:(∀ j_1,wb.cell? ⟨w.heap.size,j_1,none⟩ = (#[.int .i64 f.id,.int .i64 f.kind,.int .i64 f.mr,.int .i64 f.md,.slice pa f.path.length pc]:Array Value)[j_1]?) ∧ (∀ (j_1:Nat) (v_1:Value),(#[.int .i64 x.id,p0,q0,d0]:Array Value)[j_1]? = some v_1 → wb.cell? ⟨b0,off + k * 4 + j_1,none⟩ = some v_1))
   refine hK _ _ (fun _=>hS) ?_
   clear hK K
   try simp only [Act.put,List.getElem_toArray,List.getElem_cons_succ,List.getElem_cons_zero,List.setIfInBounds_toArray,List.set_cons_zero,List.set_cons_succ]
   refine AnyE.one (i:=6) (by kernel_rfl) rfl rfl ?_
   intro K hK
   simp only [List.getElem_toArray,List.getElem_cons_succ,List.getElem_cons_zero]
   refine wp_store_part rfl 28 _ _ rfl ge 0 _ 28 #[.int .i64 (colErr f x false).code,.int .i64 (colErr f x false).at'] rfl rfl RE.out (by kernel_rfl) (by simp [Value.oneCell']) (Nat.le_of_ble_eq_true rfl) #[.int .i64 (colErr f x false).code,.int .i64 (colErr f x false).at'] rfl ?_;intro w9 r9 ho9 hb9 hz9
   have hoc9:=HOC9.out.far RE.out ho9 hz9 (by omega)
   have hrf9:=(ho9 _ (by omega)).trans RF.out
   have hw9:=HW.out.trans (hb9.mono (by omega))
   refine hK _ _ (fun h=>absurd h (by decide)) ?_
   clear hK K hS ho9 hb9 hz9 HOC9 RE RF HW
   try simp only [Act.put,List.getElem_toArray,List.getElem_cons_succ,List.getElem_cons_zero,List.setIfInBounds_toArray,List.set_cons_zero,List.set_cons_succ]
   refine AnyE.done (by kernel_rfl) ?_ _
   go_wp2_with fail
   go_meet
   exact ⟨hoc9,by rw [HJ.out];exact r9,hrf9,hw9⟩
  case rest =>
   obtain ⟨hoc,hre,hrf,hw⟩:=hcut.out
   replace HOC9:=Lib.hid hoc;replace RE:=Lib.hid hre;replace RF:=Lib.hid hrf;replace HW:=Lib.hid hw
   clear hcut hoc hre hrf hw
   have hln:=joinC_len f.id (l.take k) HSB.out
   have hxl:=HSX.out
   unfold slimB at hxl
   simp only [Bool.and_eq_true,decide_eq_true_eq] at hxl
   have hlk:(l.take k).length ≤ 20:=by rw [List.length_take];omega
   have hj1:=joinC_snoc f.id (l.take k) x
   rw [← HSN.out] at hj1
   have HJ1:=Lib.hid hj1;have HLN:=Lib.hid (show (joinC f.id (l.take k)).rep.length ≤ 8000 ∧ (joinC f.id (l.take k)).df.length ≤ 8000 ∧ (joinC f.id (l.take k)).vals.length ≤ 8000 by omega);have HXL:=Lib.hid hxl
   have hid0:(joinC f.id (l.take k)).id = f.id:=rfl
   generalize joinC f.id (l.take k) = c0 at HOC9 HJ1 HLN hid0
   clear hln hxl hlk hj1
   have HI0:=Lib.hid hid0;clear hid0
   go_upto_region 13 with fail
   refine AnyE.region (S:=fun w'=>(∀ j_1,w'.cell? ⟨gw,j_1,none⟩ = (#[.int .i64 c0.id,P,Q,V]:Array Value)[j_1]?) ∧ w'.cell? ⟨b0,off + k * 4 + 1,none⟩ = some p0) (E:=[7,8,9]) (by kernel_rfl) ?_
   have hbd:=(Below.refl wc.heap.size wc).drew
   generalize hwd:wc.drew = wd1 at hbd ⊢
   clear hwd
   replace HOC9:=Lib.hid (HOC9.out.keep hbd);replace RE:=Lib.hid (row_keep hbd RE.out);replace RF:=Lib.hid (row_keep hbd RF.out);replace HW:=Lib.hid (HW.out.trans (hbd.mono HW.out.size))
   clear hbd
   have hS:=(⟨rowc HOC9.out.row,HCX.out _ HW.out 1 p0 rfl⟩:(∀ j_1,wd1.cell? ⟨gw,j_1,none⟩ = (#[.int .i64 c0.id,P,Q,V]:Array Value)[j_1]?) ∧ wd1.cell? ⟨b0,off + k * 4 + 1,none⟩ = some p0)
   refine AnyE.takeL (i:=0) (v:=?_) rfl (by kernel_rfl) (by kernel_rfl) (by kernel_rfl) (by kernel_rfl) (by kernel_rfl) (fun _ _ _ h=>h) (Or.inl ⟨by rfl,?_⟩) hS ?_
   rotate_left
   focus (intro wq hSq;obtain ⟨hS1,hS2⟩:=hSq;go_simp;with_reducible rfl)
   try simp only [Act.put,List.getElem_toArray,List.getElem_cons_succ,List.getElem_cons_zero,List.setIfInBounds_toArray,List.set_cons_zero,List.set_cons_succ]
   refine AnyE.takeL (i:=1) (v:=?_) rfl (by kernel_rfl) (by kernel_rfl) (by kernel_rfl) (by kernel_rfl) (by kernel_rfl) (fun _ _ _ h=>h) (Or.inl ⟨by rfl,?_⟩) hS ?_
   rotate_left
   focus (intro wq hSq;obtain ⟨hS1,hS2⟩:=hSq;go_simp;with_reducible rfl)
   try simp only [Act.put,List.getElem_toArray,List.getElem_cons_succ,List.getElem_cons_zero,List.setIfInBounds_toArray,List.set_cons_zero,List.set_cons_succ]
   refine AnyE.takeL (i:=2) (v:=?_) rfl (by kernel_rfl) (by kernel_rfl) (by kernel_rfl) (by kernel_rfl) (by kernel_rfl) (fun _ _ _ h=>h) (Or.inl ⟨by rfl,?_⟩) hS ?_
   rotate_left
   focus (intro wq hSq;obtain ⟨hS1,hS2⟩:=hSq;go_simp;with_reducible rfl)
   try simp only [Act.put,List.getElem_toArray,List.getElem_cons_succ,List.getElem_cons_zero,List.setIfInBounds_toArray,List.set_cons_zero,List.set_cons_succ]
   refine AnyE.takeL (i:=3) (v:=?_) rfl (by kernel_rfl) (by kernel_rfl) (by kernel_rfl) (by kernel_rfl) (by kernel_rfl) (fun _ _ _ h=>h) (Or.inl ⟨by rfl,?_⟩) hS ?_
   rotate_left
   focus (intro wq hSq;obtain ⟨hS1,hS2⟩:=hSq;go_simp;with_reducible rfl)
   try simp only [Act.put,List.getElem_toArray,List.getElem_cons_succ,List.getElem_cons_zero,List.setIfInBounds_toArray,List.set_cons_zero,List.set_cons_succ]
   refine AnyE.takeL (i:=4) (v:=?_) rfl (by kernel_rfl) (by kernel_rfl) (by kernel_rfl) (by kernel_rfl) (by kernel_rfl) (fun _ _ _ h=>h) (Or.inl ⟨by rfl,?_⟩) hS ?_
   rotate_left
   focus (intro wq hSq;obtain ⟨hS1,hS2⟩:=hSq;go_simp;with_reducible rfl)
   try simp only [Act.put,List.getElem_toArray,List.getElem_cons_succ,List.getElem_cons_zero,List.setIfInBounds_toArray,List.set_cons_zero,List.set_cons_succ]
   refine AnyE.takeL (i:=5) (v:=?_) rfl (by kernel_rfl) (by kernel_rfl) (by kernel_rfl) (by kernel_rfl) (by kernel_rfl) (fun _ _ _ h=>h) (Or.inl ⟨by rfl,?_⟩) hS ?_
   rotate_left
   focus (intro wq hSq;obtain ⟨hS1,hS2⟩:=hSq;go_simp;with_reducible rfl)
   try simp only [Act.put,List.getElem_toArray,List.getElem_cons_succ,List.getElem_cons_zero,List.setIfInBounds_toArray,List.set_cons_zero,List.set_cons_succ]
   refine AnyE.takeL (i:=6) (v:=?_) rfl (by kernel_rfl) (by kernel_rfl) (by kernel_rfl) (by kernel_rfl) (by kernel_rfl) (fun _ _ _ h=>h) (Or.inl ⟨by rfl,?_⟩) hS ?_
   rotate_left
   focus (intro wq hSq;obtain ⟨hS1,hS2⟩:=hSq;go_simp;with_reducible rfl)
   try simp only [Act.put,List.getElem_toArray,List.getElem_cons_succ,List.getElem_cons_zero,List.setIfInBounds_toArray,List.set_cons_zero,List.set_cons_succ]
   refine AnyE.one (i:=7) (by kernel_rfl) rfl rfl ?_
   intro K hK
   simp only [List.getElem_toArray,List.getElem_cons_succ,List.getElem_cons_zero]
   refine wp_appI (.tmp 52) (.tmp 57) rfl w.heap.size (P) _ ?_ (own_iV HOC9.out.p) p0 x.rep ?_ (HP0.out.below HW.out (Nat.le_refl _)) ?_ HOC9.out.hB ?_
   focus (go_simp)
   focus (go_simp)
   focus (have:=HLN.out;have:=HXL.out;omega)
   intro u1 v1 ho hg hq
   obtain ⟨un1,ub1,uc1,eu1⟩:=own_lit ho
   subst eu1
   have hap:=HOC9.out.appP ho hg hq
   have hr4:=grown_keep HOC9.out.p hg HOC9.out.row (by decide)
   have HAP:=Lib.hid hap;have HR4:=Lib.hid hr4
   refine hK _ _ (fun h=>absurd h (by decide)) ?_
   clear hK K hS ho hg hq hap hr4
   try simp only [Act.put,List.getElem_toArray,List.getElem_cons_succ,List.getElem_cons_zero,List.setIfInBounds_toArray,List.set_cons_zero,List.set_cons_succ]
   refine AnyE.one (i:=8) (by kernel_rfl) rfl rfl ?_
   intro K hK
   simp only [List.getElem_toArray,List.getElem_cons_succ,List.getElem_cons_zero]
   go_simp
   refine hK _ _ (fun h=>absurd h (by decide)) ?_
   clear hK K
   try simp only [Act.put,List.getElem_toArray,List.getElem_cons_succ,List.getElem_cons_zero,List.setIfInBounds_toArray,List.set_cons_zero,List.set_cons_succ]
   refine AnyE.one (i:=9) (by kernel_rfl) rfl rfl ?_
   intro K hK
   have cO:=rowc HR4.out;have fO:=rowf HR4.out
   simp only [List.getElem_toArray,List.getElem_cons_succ,List.getElem_cons_zero]
   go_simp
   refine hK _ _ (fun h=>absurd h (by decide)) ?_
   clear hK K cO fO HR4
   try simp only [Act.put,List.getElem_toArray,List.getElem_cons_succ,List.getElem_cons_zero,List.setIfInBounds_toArray,List.set_cons_zero,List.set_cons_succ]
   generalize v1.setCell ⟨gw,1,none⟩ (.slice ub1 un1 uc1) = z1 at HAP ⊢
   obtain ⟨hoc,hfr⟩:=HAP.out
   replace RE:=Lib.hid (hfr.tag _ _ _ _ (by decide) (by decide) (by omega) RE.out);replace RF:=Lib.hid (hfr.tag _ _ _ _ (by decide) (by decide) (by omega) RF.out);replace HW:=Lib.hid (HW.out.trans hfr.below)
   replace HOC9:=Lib.hid hoc
   clear HAP hoc hfr
   obtain ⟨c1,hc1⟩:∃ c:Col,c = ⟨c0.id,c0.rep ++ x.rep,c0.df,c0.vals⟩:=⟨_,rfl⟩
   rw [← hc1] at HOC9
   have HC1:=Lib.hid hc1
   replace HLN:=Lib.hid (show c1.rep.length ≤ 8400 ∧ c1.df.length ≤ 8400 ∧ c1.vals.length ≤ 8400 by have:=HLN.out;have:=HXL.out;rw [hc1];simp only [List.length_append];omega)
   clear hc1
   refine AnyE.done (by kernel_rfl) ?_ _
   go_upto_region 14 with fail
   refine AnyE.region (S:=fun w'=>(∀ j_1,w'.cell? ⟨gw,j_1,none⟩ = (#[.int .i64 c1.id,.slice ub1 un1 uc1,Q,V]:Array Value)[j_1]?) ∧ w'.cell? ⟨b0,off + k * 4 + 2,none⟩ = some q0) (E:=[7,8,9]) (by kernel_rfl) ?_
   have hbd:=(Below.refl z1.heap.size z1).drew
   generalize hwd:z1.drew = wd2 at hbd ⊢
   clear hwd
   replace HOC9:=Lib.hid (HOC9.out.keep hbd);replace RE:=Lib.hid (row_keep hbd RE.out);replace RF:=Lib.hid (row_keep hbd RF.out);replace HW:=Lib.hid (HW.out.trans (hbd.mono HW.out.size))
   clear hbd
   have hS:=(⟨rowc HOC9.out.row,HCX.out _ HW.out 2 q0 rfl⟩:(∀ j_1,wd2.cell? ⟨gw,j_1,none⟩ = (#[.int .i64 c1.id,.slice ub1 un1 uc1,Q,V]:Array Value)[j_1]?) ∧ wd2.cell? ⟨b0,off + k * 4 + 2,none⟩ = some q0)
   refine AnyE.takeL (i:=0) (v:=?_) rfl (by kernel_rfl) (by kernel_rfl) (by kernel_rfl) (by kernel_rfl) (by kernel_rfl) (fun _ _ _ h=>h) (Or.inl ⟨by rfl,?_⟩) hS ?_
   rotate_left
   focus (intro wq hSq;obtain ⟨hS1,hS2⟩:=hSq;go_simp;with_reducible rfl)
   try simp only [Act.put,List.getElem_toArray,List.getElem_cons_succ,List.getElem_cons_zero,List.setIfInBounds_toArray,List.set_cons_zero,List.set_cons_succ]
   refine AnyE.takeL (i:=1) (v:=?_) rfl (by kernel_rfl) (by kernel_rfl) (by kernel_rfl) (by kernel_rfl) (by kernel_rfl) (fun _ _ _ h=>h) (Or.inl ⟨by rfl,?_⟩) hS ?_
   rotate_left
   focus (intro wq hSq;obtain ⟨hS1,hS2⟩:=hSq;go_simp;with_reducible rfl)
   try simp only [Act.put,List.getElem_toArray,List.getElem_cons_succ,List.getElem_cons_zero,List.setIfInBounds_toArray,List.set_cons_zero,List.set_cons_succ]
   refine AnyE.takeL (i:=2) (v:=?_) rfl (by kernel_rfl) (by kernel_rfl) (by kernel_rfl) (by kernel_rfl) (by kernel_rfl) (fun _ _ _ h=>h) (Or.inl ⟨by rfl,?_⟩) hS ?_
   rotate_left
   focus (intro wq hSq;obtain ⟨hS1,hS2⟩:=hSq;go_simp;with_reducible rfl)
   try simp only [Act.put,List.getElem_toArray,List.getElem_cons_succ,List.getElem_cons_zero,List.setIfInBounds_toArray,List.set_cons_zero,List.set_cons_succ]
   refine AnyE.takeL (i:=3) (v:=?_) rfl (by kernel_rfl) (by kernel_rfl) (by kernel_rfl) (by kernel_rfl) (by kernel_rfl) (fun _ _ _ h=>h) (Or.inl ⟨by rfl,?_⟩) hS ?_
   rotate_left
   focus (intro wq hSq;obtain ⟨hS1,hS2⟩:=hSq;go_simp;with_reducible rfl)
   try simp only [Act.put,List.getElem_toArray,List.getElem_cons_succ,List.getElem_cons_zero,List.setIfInBounds_toArray,List.set_cons_zero,List.set_cons_succ]
   refine AnyE.takeL (i:=4) (v:=?_) rfl (by kernel_rfl) (by kernel_rfl) (by kernel_rfl) (by kernel_rfl) (by kernel_rfl) (fun _ _ _ h=>h) (Or.inl ⟨by rfl,?_⟩) hS ?_
   rotate_left
   focus (intro wq hSq;obtain ⟨hS1,hS2⟩:=hSq;go_simp;with_reducible rfl)
   try simp only [Act.put,List.getElem_toArray,List.getElem_cons_succ,List.getElem_cons_zero,List.setIfInBounds_toArray,List.set_cons_zero,List.set_cons_succ]
   refine AnyE.takeL (i:=5) (v:=?_) rfl (by kernel_rfl) (by kernel_rfl) (by kernel_rfl) (by kernel_rfl) (by kernel_rfl) (fun _ _ _ h=>h) (Or.inl ⟨by rfl,?_⟩) hS ?_
   rotate_left
   focus (intro wq hSq;obtain ⟨hS1,hS2⟩:=hSq;go_simp;with_reducible rfl)
   try simp only [Act.put,List.getElem_toArray,List.getElem_cons_succ,List.getElem_cons_zero,List.setIfInBounds_toArray,List.set_cons_zero,List.set_cons_succ]
   refine AnyE.takeL (i:=6) (v:=?_) rfl (by kernel_rfl) (by kernel_rfl) (by kernel_rfl) (by kernel_rfl) (by kernel_rfl) (fun _ _ _ h=>h) (Or.inl ⟨by rfl,?_⟩) hS ?_
   rotate_left
   focus (intro wq hSq;obtain ⟨hS1,hS2⟩:=hSq;go_simp;with_reducible rfl)
   try simp only [Act.put,List.getElem_toArray,List.getElem_cons_succ,List.getElem_cons_zero,List.setIfInBounds_toArray,List.set_cons_zero,List.set_cons_succ]
   refine AnyE.one (i:=7) (by kernel_rfl) rfl rfl ?_
   intro K hK
   simp only [List.getElem_toArray,List.getElem_cons_succ,List.getElem_cons_zero]
   refine wp_appI (.tmp 61) (.tmp 66) rfl w.heap.size (Q) _ ?_ (own_iV HOC9.out.q) q0 x.df ?_ (HQ0.out.below HW.out (Nat.le_refl _)) ?_ HOC9.out.hB ?_
   focus (go_simp)
   focus (go_simp)
   focus (have:=HLN.out;have:=HXL.out;omega)
   intro u2 v2 ho hg hq
   obtain ⟨un2,ub2,uc2,eu2⟩:=own_lit ho
   subst eu2
   have hap:=HOC9.out.appQ ho hg hq
   have hr4:=grown_keep HOC9.out.q hg HOC9.out.row (by decide)
   have HAP:=Lib.hid hap;have HR4:=Lib.hid hr4
   refine hK _ _ (fun h=>absurd h (by decide)) ?_
   clear hK K hS ho hg hq hap hr4
   try simp only [Act.put,List.getElem_toArray,List.getElem_cons_succ,List.getElem_cons_zero,List.setIfInBounds_toArray,List.set_cons_zero,List.set_cons_succ]
   refine AnyE.one (i:=8) (by kernel_rfl) rfl rfl ?_
   intro K hK
   simp only [List.getElem_toArray,List.getElem_cons_succ,List.getElem_cons_zero]
   go_simp
   refine hK _ _ (fun h=>absurd h (by decide)) ?_
   clear hK K
   try simp only [Act.put,List.getElem_toArray,List.getElem_cons_succ,List.getElem_cons_zero,List.setIfInBounds_toArray,List.set_cons_zero,List.set_cons_succ]
   refine AnyE.one (i:=9) (by kernel_rfl) rfl rfl ?_
   intro K hK
   have cO:=rowc HR4.out;have fO:=rowf HR4.out
   simp only [List.getElem_toArray,List.getElem_cons_succ,List.getElem_cons_zero]
   go_simp
   refine hK _ _ (fun h=>absurd h (by decide)) ?_
   clear hK K cO fO HR4
   try simp only [Act.put,List.getElem_toArray,List.getElem_cons_succ,List.getElem_cons_zero,List.setIfInBounds_toArray,List.set_cons_zero,List.set_cons_succ]
   generalize v2.setCell ⟨gw,2,none⟩ (.slice ub2 un2 uc2) = z2 at HAP ⊢
   obtain ⟨hoc,hfr⟩:=HAP.out
   replace RE:=Lib.hid (hfr.tag _ _ _ _ (by decide) (by decide) (by omega) RE.out);replace RF:=Lib.hid (hfr.tag _ _ _ _ (by decide) (by decide) (by omega) RF.out);replace HW:=Lib.hid (HW.out.trans hfr.below)
   replace HOC9:=Lib.hid hoc
   clear HAP hoc hfr
   obtain ⟨c2,hc2⟩:∃ c:Col,c = ⟨c1.id,c1.rep,c1.df ++ x.df,c1.vals⟩:=⟨_,rfl⟩
   rw [← hc2] at HOC9
   have HC2:=Lib.hid hc2
   replace HLN:=Lib.hid (show c2.rep.length ≤ 8800 ∧ c2.df.length ≤ 8800 ∧ c2.vals.length ≤ 8800 by have:=HLN.out;have:=HXL.out;rw [hc2];simp only [List.length_append];omega)
   clear hc2
   refine AnyE.done (by kernel_rfl) ?_ _
   go_upto_region 15 with fail
   refine AnyE.region (S:=fun w'=>(∀ j_1,w'.cell? ⟨gw,j_1,none⟩ = (#[.int .i64 c2.id,.slice ub1 un1 uc1,.slice ub2 un2 uc2,V]:Array Value)[j_1]?) ∧ w'.cell? ⟨b0,off + k * 4 + 3,none⟩ = some d0) (E:=[7,8,9]) (by kernel_rfl) ?_
   have hbd:=(Below.refl z2.heap.size z2).drew
   generalize hwd:z2.drew = wd3 at hbd ⊢
   clear hwd
   replace HOC9:=Lib.hid (HOC9.out.keep hbd);replace RE:=Lib.hid (row_keep hbd RE.out);replace RF:=Lib.hid (row_keep hbd RF.out);replace HW:=Lib.hid (HW.out.trans (hbd.mono HW.out.size))
   clear hbd
   have hS:=(⟨rowc HOC9.out.row,HCX.out _ HW.out 3 d0 rfl⟩:(∀ j_1,wd3.cell? ⟨gw,j_1,none⟩ = (#[.int .i64 c2.id,.slice ub1 un1 uc1,.slice ub2 un2 uc2,V]:Array Value)[j_1]?) ∧ wd3.cell? ⟨b0,off + k * 4 + 3,none⟩ = some d0)
   refine AnyE.takeL (i:=0) (v:=?_) rfl (by kernel_rfl) (by kernel_rfl) (by kernel_rfl) (by kernel_rfl) (by kernel_rfl) (fun _ _ _ h=>h) (Or.inl ⟨by rfl,?_⟩) hS ?_
   rotate_left
   focus (intro wq hSq;obtain ⟨hS1,hS2⟩:=hSq;go_simp;with_reducible rfl)
   try simp only [Act.put,List.getElem_toArray,List.getElem_cons_succ,List.getElem_cons_zero,List.setIfInBounds_toArray,List.set_cons_zero,List.set_cons_succ]
   refine AnyE.takeL (i:=1) (v:=?_) rfl (by kernel_rfl) (by kernel_rfl) (by kernel_rfl) (by kernel_rfl) (by kernel_rfl) (fun _ _ _ h=>h) (Or.inl ⟨by rfl,?_⟩) hS ?_
   rotate_left
   focus (intro wq hSq;obtain ⟨hS1,hS2⟩:=hSq;go_simp;with_reducible rfl)
   try simp only [Act.put,List.getElem_toArray,List.getElem_cons_succ,List.getElem_cons_zero,List.setIfInBounds_toArray,List.set_cons_zero,List.set_cons_succ]
   refine AnyE.takeL (i:=2) (v:=?_) rfl (by kernel_rfl) (by kernel_rfl) (by kernel_rfl) (by kernel_rfl) (by kernel_rfl) (fun _ _ _ h=>h) (Or.inl ⟨by rfl,?_⟩) hS ?_
   rotate_left
   focus (intro wq hSq;obtain ⟨hS1,hS2⟩:=hSq;go_simp;with_reducible rfl)
   try simp only [Act.put,List.getElem_toArray,List.getElem_cons_succ,List.getElem_cons_zero,List.setIfInBounds_toArray,List.set_cons_zero,List.set_cons_succ]
   refine AnyE.takeL (i:=3) (v:=?_) rfl (by kernel_rfl) (by kernel_rfl) (by kernel_rfl) (by kernel_rfl) (by kernel_rfl) (fun _ _ _ h=>h) (Or.inl ⟨by rfl,?_⟩) hS ?_
   rotate_left
   focus (intro wq hSq;obtain ⟨hS1,hS2⟩:=hSq;go_simp;with_reducible rfl)
   try simp only [Act.put,List.getElem_toArray,List.getElem_cons_succ,List.getElem_cons_zero,List.setIfInBounds_toArray,List.set_cons_zero,List.set_cons_succ]
   refine AnyE.takeL (i:=4) (v:=?_) rfl (by kernel_rfl) (by kernel_rfl) (by kernel_rfl) (by kernel_rfl) (by kernel_rfl) (fun _ _ _ h=>h) (Or.inl ⟨by rfl,?_⟩) hS ?_
   rotate_left
   focus (intro wq hSq;obtain ⟨hS1,hS2⟩:=hSq;go_simp;with_reducible rfl)
   try simp only [Act.put,List.getElem_toArray,List.getElem_cons_succ,List.getElem_cons_zero,List.setIfInBounds_toArray,List.set_cons_zero,List.set_cons_succ]
   refine AnyE.takeL (i:=5) (v:=?_) rfl (by kernel_rfl) (by kernel_rfl) (by kernel_rfl) (by kernel_rfl) (by kernel_rfl) (fun _ _ _ h=>h) (Or.inl ⟨by rfl,?_⟩) hS ?_
   rotate_left
   focus (intro wq hSq;obtain ⟨hS1,hS2⟩:=hSq;go_simp;with_reducible rfl)
   try simp only [Act.put,List.getElem_toArray,List.getElem_cons_succ,List.getElem_cons_zero,List.setIfInBounds_toArray,List.set_cons_zero,List.set_cons_succ]
   refine AnyE.takeL (i:=6) (v:=?_) rfl (by kernel_rfl) (by kernel_rfl) (by kernel_rfl) (by kernel_rfl) (by kernel_rfl) (fun _ _ _ h=>h) (Or.inl ⟨by rfl,?_⟩) hS ?_
   rotate_left
   focus (intro wq hSq;obtain ⟨hS1,hS2⟩:=hSq;go_simp;with_reducible rfl)
   try simp only [Act.put,List.getElem_toArray,List.getElem_cons_succ,List.getElem_cons_zero,List.setIfInBounds_toArray,List.set_cons_zero,List.set_cons_succ]
   refine AnyE.one (i:=7) (by kernel_rfl) rfl rfl ?_
   intro K hK
   simp only [List.getElem_toArray,List.getElem_cons_succ,List.getElem_cons_zero]
   refine wp_appV (.tmp 70) (.tmp 75) rfl w.heap.size (V) _ ?_ HOC9.out.d d0 x.vals ?_ (HD0.out.below HW.out (Nat.le_refl _)) ?_ HOC9.out.hB ?_
   focus (go_simp)
   focus (go_simp)
   focus (have:=HLN.out;have:=HXL.out;omega)
   intro u3 v3 ho hg hq
   obtain ⟨un3,ub3,uc3,eu3⟩:=own_lit ho
   subst eu3
   have hap:=HOC9.out.appD ho hg
   have hr4:=grown_keep HOC9.out.d hg HOC9.out.row (by decide)
   have HAP:=Lib.hid hap;have HR4:=Lib.hid hr4
   refine hK _ _ (fun h=>absurd h (by decide)) ?_
   clear hK K hS ho hg hq hap hr4
   try simp only [Act.put,List.getElem_toArray,List.getElem_cons_succ,List.getElem_cons_zero,List.setIfInBounds_toArray,List.set_cons_zero,List.set_cons_succ]
   refine AnyE.one (i:=8) (by kernel_rfl) rfl rfl ?_
   intro K hK
   simp only [List.getElem_toArray,List.getElem_cons_succ,List.getElem_cons_zero]
   go_simp
   refine hK _ _ (fun h=>absurd h (by decide)) ?_
   clear hK K
   try simp only [Act.put,List.getElem_toArray,List.getElem_cons_succ,List.getElem_cons_zero,List.setIfInBounds_toArray,List.set_cons_zero,List.set_cons_succ]
   refine AnyE.one (i:=9) (by kernel_rfl) rfl rfl ?_
   intro K hK
   have cO:=rowc HR4.out;have fO:=rowf HR4.out
   simp only [List.getElem_toArray,List.getElem_cons_succ,List.getElem_cons_zero]
   go_simp
   refine hK _ _ (fun h=>absurd h (by decide)) ?_
   clear hK K cO fO HR4
   try simp only [Act.put,List.getElem_toArray,List.getElem_cons_succ,List.getElem_cons_zero,List.setIfInBounds_toArray,List.set_cons_zero,List.set_cons_succ]
   generalize v3.setCell ⟨gw,3,none⟩ (.slice ub3 un3 uc3) = z3 at HAP ⊢
   obtain ⟨hoc,hfr⟩:=HAP.out
   replace RE:=Lib.hid (hfr.tag _ _ _ _ (by decide) (by decide) (by omega) RE.out);replace RF:=Lib.hid (hfr.tag _ _ _ _ (by decide) (by decide) (by omega) RF.out);replace HW:=Lib.hid (HW.out.trans hfr.below)
   replace HOC9:=Lib.hid hoc
   clear HAP hoc hfr
   obtain ⟨c3,hc3⟩:∃ c:Col,c = ⟨c2.id,c2.rep,c2.df,c2.vals ++ x.vals⟩:=⟨_,rfl⟩
   rw [← hc3] at HOC9
   have HC3:=Lib.hid hc3
   clear hc3
   refine AnyE.done (by kernel_rfl) ?_ _
   go_wp2_with fail
   go_roundw
   case rel =>
    have e3:c3 = joinC f.id (l.take (k + 1)):=by rw [HJ1.out,HC3.out,HC2.out,HC1.out,← HI0.out]
    rw [e3] at HOC9
    exact ⟨k + 1,_,_,_,Hlt.out,by go_num,HOC9,RE,RF,HW,Lib.hid (by rw [HSN.out];intro c hc;rcases List.mem_append.1 hc with hc | hc;exact HSB.out c hc;rw [List.mem_singleton.1 hc];exact HSX.out)⟩
   case measure=>have:=Hlt.out;simp [intOf];omega
set_option maxRecDepth 100000 in
theorem joins_early (f:Lf) (l:List Col) (vf v:Value) (w:World) (adr:Nat → Addr) (hE:ErrEnv w adr) (hf:IsLf w vf f) (hl:IsCols w v l) (hs:20 < l.length ∨ 100 < f.path.length) :
  Calls Tryd.prog 3 #[vf,v] w fun e w'=>e = .returned (.bool true) ∧ Below w.heap.size w w':=by
 have HTW:=Lib.hid (fun (w1:World) (h:Below w.heap.size w w1)=>twins_any w1 adr ((hE.errs.sub (by decide)).below h))
 obtain ⟨p,rfl,hp⟩:=hf
 obtain ⟨pa,pc,rfl⟩:=hp.form
 obtain ⟨ad,cp,rfl⟩:=hl.form
 have HS:=Lib.hid hs
 clear hE hp hs hl
 unfold lfA at *
 generalize f.path.length = np at *
 generalize l.length = len at *
 have hb0:=(Below.refl w.heap.size w).alloc (Nat.le_refl _) (.cells #[.int .i64 f.id,.int .i64 f.kind,.int .i64 f.mr,.int .i64 f.md,.slice pa np pc] 24)
 have rf0:=heap_alloc_new w (.cells #[.int .i64 f.id,.int .i64 f.kind,.int .i64 f.mr,.int .i64 f.md,.slice pa np pc] 24)
 go_enter Tryd.func3,Tryd.ntmps3
 go_upto_region 1 with fail
 generalize (w.alloc (.cells #[.int .i64 f.id,.int .i64 f.kind,.int .i64 f.mr,.int .i64 f.md,.slice pa np pc] 24)) = w1 at *
 have RF:=Lib.hid rf0;have HW:=Lib.hid hb0
 clear rf0 hb0
 go_wp2_with fail
 refine (HTW.out w1 HW.out).mono ?_;rintro e w2 ⟨rfl,hb2⟩
 replace RF:=Lib.hid (row_keep hb2 RF.out);replace HW:=Lib.hid (HW.out.trans (hb2.mono HW.out.size))
 clear hb2 HTW
 have cF:=rowc RF.out
 by_cases h1:(20:Int) < (len:Int)
 case pos =>
  go_wp2_with fail
  go_ret
  exact ⟨rfl,HW.out⟩
 case neg =>
  have d2:(100:Int) < (np:Int):=by rcases HS.out with h | h <;> omega
  go_wp2_with fail
  go_ret
  exact ⟨rfl,HW.out⟩
theorem joins_any (f:Lf) (l:List Col) (vf v:Value) (w:World) (adr:Nat → Addr) (hE:ErrEnv w adr) (hf:IsLf w vf f) (hl:IsCols w v l) (fo:f.Ok) (co:∀ c ∈ l,c.Ok) (cr:∀ c ∈ l,c.Reach) :
  Calls Tryd.prog 3 #[vf,v] w fun e w'=>e = .returned (.bool true) ∧ Below w.heap.size w w':=by
 by_cases h1:20 < l.length
 ·exact joins_early f l vf v w adr hE hf hl (.inl h1)
 ·by_cases h2:100 < f.path.length
  ·exact joins_early f l vf v w adr hE hf hl (.inr h2)
  ·exact joins_main f l vf v w adr hE hf hl fo co cr (by omega) (by omega)
end Go.Proofs.YtkmhmnffbgedgaaDoor
