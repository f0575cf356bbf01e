/- The walks of the document's OwnData and OwnDatum. Written by gen_dv1.py. -/
import Derived.Test.YtkmhmnffbgedgaaDoorTr2
import Derived.Test.YtkmhmnffbgedgaaDoorTv2
import Derived.Test.YtkmhmnffbgedgaaDoorTa0
namespace Go.Proofs.YtkmhmnffbgedgaaDoor
set_option maxHeartbeats 16000000
set_option linter.unusedVariables false
set_option linter.unusedSimpArgs false
open Go Go.RowKit Go.ChangeShapes
abbrev DtV:=Dt × Value × Value
def dtC (p:DtV):List Value:=[.bool p.1.no,.int .i64 p.1.v.k,.int .i64 p.1.v.n,.string p.1.v.s,cell1 p.2.1,cell1 p.2.2]
theorem dtC_one (p:DtV):∀ u ∈ dtC p,u.oneCell' = true:=by
 intro u hu
 simp only [dtC,List.mem_cons,List.not_mem_nil,or_false] at hu
 rcases hu with rfl | rfl | rfl | rfl | rfl | rfl <;> first | rfl | exact cell1_one _
theorem dt_info3:(Tryd.prog.info? 63).map (fun i=>(i.zero,i.size,i.bytes)) = some (some (.agg #[.bool false,.int .i64 0,.int .i64 0,.string ByteArray.empty,.slice none 0 0,.slice none 0 0]),6,88):=by kernel_rfl
theorem flat6 (L:List DtV):∀ (i:Nat) p,L[i]? = some p → ∀ j,j < 6 → (L.flatMap dtC)[i * 6 + j]? = (dtC p)[j]?:=by
 induction L with
 | nil=>intro i p h;simp at h
 | cons a r ih =>
  intro i p h j hj
  rw [List.flatMap_cons]
  have e:(dtC a).length = 6:=rfl
  cases i with
  | zero=>simp at h;subst h;rw [List.getElem?_append_left (by rw [e];omega)];simp
  | succ i=>rw [List.getElem?_append_right (by rw [e];omega),e,show (i + 1) * 6 + j - 6 = i * 6 + j by omega];exact ih i p (by simpa using h) j hj
theorem dts_of_own {w:World} {B:Nat} {v:Value} {L:List DtV} {P:Nat → Prop} (h:w.ownsRow B 63 6 v L.length (L.flatMap dtC)) (hP:∀ b,v.ownBlock = some b → P b) (hs:∀ p ∈ L,IsDts P w p.2.1 p.1.l ∧ IsDts P w p.2.2 p.1.f):IsDts P w v (L.map Prod.fst):=by
 rcases h.2 with ⟨rfl,h0⟩ | ⟨g,cap,cur,rfl,h1,h2,h3⟩
 ·have:L = []:=List.eq_nil_of_length_eq_zero h0
  subst this
  exact .nil none 0
 ·have hh:=IsDts.row (P:=P) (w:=w) g 0 cap (L.map Prod.fst) (fun j=>((L[j]?).map fun p=>p.2.1).getD undef) (fun j=>((L[j]?).map fun p=>p.2.2).getD undef) (hP g rfl) (Array.getElem?_eq_some_iff.1 h2).1 (fun j n hj=>?_) (fun j n hj=>?_) (fun j n hj=>?_)
  ·rw [List.length_map] at hh;exact hh
  ·rw [List.getElem?_map] at hj
   cases hx:L[j]? with
   | none=>simp [hx] at hj
   | some p =>
    simp [hx] at hj
    subst hj
    have hjl:=(List.getElem?_eq_some_iff.1 hx).1
    intro q u hu
    have hq:q < 6:=by
     rcases Nat.lt_or_ge q 6 with h | h
     ·exact h
     ·rw [Array.getElem?_eq_none (by simp [dtA];omega)] at hu;cases hu
    rw [Nat.zero_add,h.cellAt _ (by omega),flat6 L j p hx q hq]
    have hone:=(hs p (List.mem_of_getElem? hx)).1.one
    have hone2:=(hs p (List.mem_of_getElem? hx)).2.one
    have e:(dtA p.1 p.2.1 p.2.2)[q]? = (dtC p)[q]?:=by
     have hc:cell1 p.2.1 = p.2.1:=by unfold cell1;rw [if_pos hone]
     have hc2:cell1 p.2.2 = p.2.2:=by unfold cell1;rw [if_pos hone2]
     unfold dtA dtC
     rw [hc,hc2]
     match q,hq with
     | 0,_=>rfl
     | 1,_=>rfl
     | 2,_=>rfl
     | 3,_=>rfl
     | 4,_=>rfl
     | 5,_=>rfl
    simp only [hx,Option.map_some,Option.getD_some] at hu
    rw [← e,hu]
  ·rw [List.getElem?_map] at hj
   cases hx:L[j]? with
   | none=>simp [hx] at hj
   | some p =>
    simp [hx] at hj
    subst hj
    simp only [hx,Option.map_some,Option.getD_some]
    exact (hs p (List.mem_of_getElem? hx)).1
  ·rw [List.getElem?_map] at hj
   cases hx:L[j]? with
   | none=>simp [hx] at hj
   | some p =>
    simp [hx] at hj
    subst hj
    simp only [hx,Option.map_some,Option.getD_some]
    exact (hs p (List.mem_of_getElem? hx)).2
theorem dts_past {Q:Nat → Prop} {w w':World} {v u:Value} {l:List Dt} {o:Obj} (h:IsDts Q w u l) (hQ:∀ b,Q b → b < w.heap.size → v.ownBlock ≠ some b) (hg:(w.alloc o).grownBy w' v.ownBlock) (hz:w.heap.size ≤ w'.heap.size):IsDts Q w' u l :=
 h.keep hz fun b hb hl=>(hg.block b (by simp;omega) (fun e=>hQ b hb hl e.symm)).trans (Below.heap_alloc w o b hl)
def OwnLRet (l:List Dt) (w:World) (e:Ending) (w':World):Prop:=∃ a c,e = .returned (.slice a l.length c) ∧ IsDts (fun b=>w.heap.size ≤ b) w' (.slice a l.length c) l ∧ Below w.heap.size w w'
def OwnDRet (d:Dt) (w:World) (e:Ending) (w':World):Prop:=∃ a c a2 c2,e = .returned (.agg (dtA d (.slice a d.l.length c) (.slice a2 d.f.length c2))) ∧ IsDts (fun b=>w.heap.size ≤ b) w' (.slice a d.l.length c) d.l ∧ IsDts (fun b=>w.heap.size ≤ b) w' (.slice a2 d.f.length c2) d.f ∧ Below w.heap.size w w'
def OwnLO (l:List Dt) (w:World) (e:Ending) (w':World):Prop:=∃ (a:Option Addr) (c:Nat) (LT:List DtV),e = .returned (.slice a l.length c) ∧ LT.map Prod.fst = l ∧ w'.ownsRow w.heap.size 63 6 (.slice a l.length c) l.length (LT.flatMap dtC) ∧
 (∀ p ∈ LT,IsDts (fun b=>w.heap.size ≤ b ∧ (Value.slice a l.length c).ownBlock ≠ some b) w' p.2.1 p.1.l ∧ IsDts (fun b=>w.heap.size ≤ b ∧ (Value.slice a l.length c).ownBlock ≠ some b) w' p.2.2 p.1.f) ∧ Below w.heap.size w w'
set_option maxRecDepth 100000 in
theorem ownDataO_of (l:List Dt) (IH:∀ x ∈ l,∀ (u t:Value) (w:World),IsDts (· < w.heap.size) w u x.l → IsDts (· < w.heap.size) w t x.f → (∀ y ∈ dts x,y.Ok1) → Calls Tryd.prog 22 #[.agg (dtA x u t)] w (OwnDRet x w)) :
    ∀ (v:Value) (w:World),IsDts (· < w.heap.size) w v l → (∀ y ∈ dtsL l,y.Ok1) → l.length * 88 ≤ 140737488355328 → Calls Tryd.prog 18 #[v] w (OwnLO l w):=by
  intro v w hN hO h88
  obtain ⟨ad,cp,rfl⟩:=hN.form
  obtain ⟨len,hnl⟩:∃ len,l.length = len:=⟨_,rfl⟩
  unfold OwnLO
  rw [hnl] at hN h88 ⊢
  have HL:=Lib.hid hnl;have HN:=Lib.hid hN;have HO:=Lib.hid hO;have HIH:=Lib.hid IH
  clear hnl hN hO IH
  obtain ⟨i0,hi,hz0,hz1,hz2⟩:=info_parts dt_info3
  go_enter Tryd.func18,Tryd.ntmps18
  go_wp2_with fail
  go_loopw [3,4] (fun s3 i wr=>∃ (k:Nat) (a3:Option Addr) (c3:Nat) (LT:List DtV),k ≤ len ∧ i = .int .i64 (k:Nat) ∧ .slice a3 k c3 = s3 ∧ Hid (LT.map Prod.fst = l.take k) ∧ Hid (LT.length = k) ∧ Hid (wr.ownsRow w.heap.size 63 6 (.slice a3 k c3) k (LT.flatMap dtC)) ∧ Hid (∀ p ∈ LT,IsDts (fun b=>w.heap.size ≤ b ∧ (Value.slice a3 k c3).ownBlock ≠ some b) wr p.2.1 p.1.l ∧ IsDts (fun b=>w.heap.size ≤ b ∧ (Value.slice a3 k c3).ownBlock ≠ some b) wr p.2.2 p.1.f) ∧ Hid (Below w.heap.size w wr)) (fun _ i _=>len - (intOf i).toNat)
  case atStart=>exact ⟨0,none,0,[],Nat.zero_le _,rfl,rfl,rfl,rfl,World.ownsRow_nil _ _ _ _,fun q hq=>by simp at hq,Below.refl _ _⟩
  case round =>
    obtain ⟨k,a3,c3,LT,hk,rfl,hs3,HM,HLT,HR,HE,HBr⟩:=hrel
    subst hs3
    by_cases hlt:k < len
    case neg =>
      obtain rfl:k = len:=Nat.le_antisymm hk (Nat.le_of_not_lt hlt)
      have dk:decide (k < k) = false:=by simp
      clear hlt hk
      go_wp2_with fail
      go_ret
      exact ⟨a3,c3,LT,rfl,by rw [HM.out,List.take_of_length_le (Nat.le_of_eq HL.out)],HR.out,HE.out,HBr.out⟩
    have hkl:k < l.length:=by rw [HL.out];exact hlt
    obtain ⟨x,hx⟩:∃ x,l[k]? = some x:=⟨_,List.getElem?_eq_getElem hkl⟩
    have hxm:x ∈ l:=List.mem_of_getElem? hx
    obtain ⟨b0,off,rfl,hPb,hb0,hat⟩:=(HN.out.under HBr.out).at (by rw [HL.out];omega)
    obtain ⟨xu,xt,hcx,hu,ht⟩:=hat k x hx
    obtain ⟨xau,xcu,rfl⟩:=hu.form
    obtain ⟨xaf,xcf,rfl⟩:=ht.form
    have hsn:l.take (k + 1) = l.take k ++ [x]:=by rw [List.take_add_one,hx];rfl
    have hcl:=HIH.out x hxm (.slice xau x.l.length xcu) (.slice xaf x.f.length xcf) wr (hu.mono fun b hb _=>Nat.lt_of_lt_of_le hb HBr.out.size) (ht.mono fun b hb _=>Nat.lt_of_lt_of_le hb HBr.out.size) (fun z hz=>HO.out z (dtsL_mem hxm hz))
    unfold OwnDRet dtA at hcl
    unfold DtAt dtA at hcx
    have HCX:=Lib.hid hcx;have HCL:=Lib.hid hcl;have HSN:=Lib.hid hsn;have Hlt:=Lib.hid hlt
    have hin:(k:Int) < (len:Int):=Int.ofNat_lt.2 hlt
    have dk:decide (k < len) = true:=decide_eq_true hlt
    have h63:LT.length + 1 ≤ maxLen:=by have:=HLT.out;unfold maxLen;omega
    have h64:(LT.length + 1) * 88 ≤ 140737488355328:=by have:=HLT.out;omega
    have hbz:=HBr.out.size
    clear hkl hx hxm hPb hat hcx hu ht hcl hsn hlt hk hb0
    go_wp2_with (refine wpList_load_cells rfl 63 _ rfl b0 (off + k * 6) rfl #[.bool x.no,.int .i64 x.v.k,.int .i64 x.v.n,.string x.v.s,.slice xau x.l.length xcu,.slice xaf x.f.length xcf] _ HCX.out Tryd.underlying63 rfl dt_info ?_)
    refine HCL.out.mono ?_;rintro e w4 ⟨a4,c4,a5,c5,rfl,hd4,hd5,hb4⟩
    have HR4:=Lib.hid (own_blw HR.out hb4);have HD4:=Lib.hid hd4;have HD5:=Lib.hid hd5;have HB4:=Lib.hid hb4
    have hbz4:=Nat.le_trans hbz hb4.size
    clear hd4 hd5 hb4 HCL HCX
    go_wp2_with (at_builtin;refine wpList_pushRow rfl _ _ 48 rfl w.heap.size 63 i0 _ 6 88 Tryd.underlying48 hi hz0 hz1 hz2 rfl (by decide) dtC (fun _=>rfl) dtC_one _ LT rfl (own_len HR4.out HLT.out) _ _ rfl rfl h63 h64 hbz4 (x,Value.slice a4 x.l.length c4,Value.slice a5 x.f.length c5) _ rfl ?_;intro v' w5 hown' hgr hq5;obtain ⟨a6,c6,rfl⟩:=own_form hown';have HO5:=Lib.hid hown';have HG5:=Lib.hid hgr;have HQ5:=Lib.hid hq5;clear hown' hgr hq5)
    go_roundw
    case rel =>
      have hl5:(LT ++ [((x,Value.slice a4 x.l.length c4,Value.slice a5 x.f.length c5):DtV)]).length = k + 1:=by rw [List.length_append,HLT.out];rfl
      have hbg:=grow_below HR4.out HG5.out hbz4
      have hz5:w4.heap.size ≤ w5.heap.size:=by have:=HG5.out.size;simp at this;omega
      have hlt4:∀ b,(Value.slice a3 k c3).ownBlock = some b → w.heap.size ≤ b ∧ b < wr.heap.size:=fun b hb=>HR.out.lt b hb
      have hne:∀ b,b < w4.heap.size → (Value.slice a3 k c3).ownBlock ≠ some b → (Value.slice a6 (LT ++ [((x,Value.slice a4 x.l.length c4,Value.slice a5 x.f.length c5):DtV)]).length c6).ownBlock ≠ some b:=fun b h1 h2=>by
        rcases HQ5.out with h | h
        · rw [h];exact h2
        · rw [h];intro e;injection e with e;omega
      refine ⟨k + 1,a6,c6,LT ++ [(x,Value.slice a4 x.l.length c4,Value.slice a5 x.f.length c5)],Hlt.out,by go_num,by rw [HLT.out],?_,hl5,(by have h:=HO5.out;rw [hl5] at h;exact h),?_,HBr.out.trans ((HB4.out.mono hbz).trans hbg)⟩
      · rw [List.map_append,HM.out,HSN.out];rfl
      · rw [← hl5]
        intro p hp
        rcases List.mem_append.1 hp with hp | hp
        · have hh:=fun (u:Value) (m:List Dt) (h:IsDts (fun b=>w.heap.size ≤ b ∧ (Value.slice a3 k c3).ownBlock ≠ some b) wr u m)=>(show IsDts (fun b=>w.heap.size ≤ b ∧ (Value.slice a6 (LT ++ [((x,Value.slice a4 x.l.length c4,Value.slice a5 x.f.length c5):DtV)]).length c6).ownBlock ≠ some b) w5 u m from
            (dts_past (v:=.slice a3 k c3) (((h.mono (Q:=fun b=>(w.heap.size ≤ b ∧ (Value.slice a3 k c3).ownBlock ≠ some b) ∧ b < wr.heap.size) (fun b hb hl=>⟨hb,hl⟩)).keep HB4.out.size (fun b hb _=>HB4.out.block b hb.2))) (fun b hb _=>hb.1.2) HG5.out hz5).mono (fun b hb _=>⟨hb.1.1,hne b (Nat.lt_of_lt_of_le hb.2 HB4.out.size) hb.1.2⟩))
          exact ⟨hh _ _ (HE.out p hp).1,hh _ _ (HE.out p hp).2⟩
        · obtain rfl:=List.mem_singleton.1 hp
          have hh:=fun (u:Value) (m:List Dt) (h:IsDts (fun b=>wr.heap.size ≤ b) w4 u m)=>(show IsDts (fun b=>w.heap.size ≤ b ∧ (Value.slice a6 (LT ++ [((x,Value.slice a4 x.l.length c4,Value.slice a5 x.f.length c5):DtV)]).length c6).ownBlock ≠ some b) w5 u m from
            (dts_past (v:=.slice a3 k c3) (h.mono (Q:=fun b=>wr.heap.size ≤ b ∧ b < w4.heap.size) (fun b hb hl=>⟨hb,hl⟩)) (fun b hb _ e=>by have:=hlt4 b e;omega) HG5.out hz5).mono (fun b hb _=>⟨by omega,hne b hb.2 (fun e=>by have:=hlt4 b e;omega)⟩))
          exact ⟨hh _ _ HD4.out,hh _ _ HD5.out⟩
    case measure=>have:=Hlt.out;simp [intOf];omega
theorem ownData_of (l:List Dt) (IH:∀ x ∈ l,∀ (u t:Value) (w:World),IsDts (· < w.heap.size) w u x.l → IsDts (· < w.heap.size) w t x.f → (∀ y ∈ dts x,y.Ok1) → Calls Tryd.prog 22 #[.agg (dtA x u t)] w (OwnDRet x w)) :
  ∀ (v:Value) (w:World),IsDts (· < w.heap.size) w v l → (∀ y ∈ dtsL l,y.Ok1) → l.length * 88 ≤ 140737488355328 → Calls Tryd.prog 18 #[v] w (OwnLRet l w):=by
 intro v w hN hO h88
 refine (ownDataO_of l IH v w hN hO h88).mono fun e w' ⟨a3,c3,LT,h0,h1,h2,h3,h4⟩=>⟨a3,c3,h0,?_,h4⟩
 have h5:=dts_of_own (P:=fun b=>w.heap.size ≤ b) (own_len h2 (by rw [← h1,List.length_map])) (fun b hb=>(h2.lt b hb).1) (fun p hp=>⟨(h3 p hp).1.mono (fun b hb _=>hb.1),(h3 p hp).2.mono (fun b hb _=>hb.1)⟩)
 rw [h1] at h5
 exact h5
set_option maxRecDepth 100000 in
theorem ownDatum_any:∀ (d:Dt) (u t:Value) (w:World),IsDts (· < w.heap.size) w u d.l → IsDts (· < w.heap.size) w t d.f → (∀ y ∈ dts d,y.Ok1) → Calls Tryd.prog 22 #[.agg (dtA d u t)] w (OwnDRet d w):=by
 apply Dt.ind
 intro d IHl IHf u t w hl hf hD
 have hD0:=hD d (by rw [dts_eq];exact List.mem_cons_self ..)
 have hDl:∀ x ∈ dtsL d.l,x.Ok1:=fun x hx=>hD x (by rw [dts_eq];exact List.mem_cons_of_mem _ (List.mem_append_left _ hx))
 have hDf:∀ x ∈ dtsL d.f,x.Ok1:=fun x hx=>hD x (by rw [dts_eq];exact List.mem_cons_of_mem _ (List.mem_append_right _ hx))
 obtain ⟨al,cl,rfl⟩:=hl.form
 obtain ⟨af,cf,rfl⟩:=hf.form
 have HCL:=Lib.hid (fun (w1:World) (h:Below w.heap.size w w1)=>ownData_of d.l IHl (.slice al d.l.length cl) w1 ((hl.under h).mono fun b hb _=>Nat.lt_of_lt_of_le hb h.size) hDl hD0.l)
 have HCF:=Lib.hid (fun (w1:World) (h:Below w.heap.size w w1)=>ownData_of d.f IHf (.slice af d.f.length cf) w1 ((hf.under h).mono fun b hb _=>Nat.lt_of_lt_of_le hb h.size) hDf hD0.f)
 unfold OwnLRet at HCL HCF
 unfold OwnDRet
 clear IHl IHf hD hD0 hDl hDf hl hf
 obtain ⟨nl,hnl⟩:∃ nl,d.l.length = nl:=⟨_,rfl⟩
 obtain ⟨nf,hnf⟩:∃ nf,d.f.length = nf:=⟨_,rfl⟩
 rw [hnl] at HCL;rw [hnf] at HCF
 rw [hnl,hnf]
 clear hnl hnf
 unfold dtA
 go_enter Tryd.func22,Tryd.ntmps22
 go_upto_region 1 with fail
 have hb0:=rows2 (w:=w) (A:=.cells #[.bool d.no,.int .i64 d.v.k,.int .i64 d.v.n,.string d.v.s,.slice al nl cl,.slice af nf cf] 63) (B:=.cells #[.bool false,.int .i64 0,.int .i64 0,.string ⟨#[]⟩,.slice none 0 0,.slice none 0 0] 63) (Below.refl _ _)
 generalize ((w.alloc (.cells #[.bool d.no,.int .i64 d.v.k,.int .i64 d.v.n,.string d.v.s,.slice al nl cl,.slice af nf cf] 63)).alloc (.cells #[.bool false,.int .i64 0,.int .i64 0,.string ⟨#[]⟩,.slice none 0 0,.slice none 0 0] 63)) = w1 at *
 obtain ⟨rA,rB,hbw,hzz⟩:=hb0
 have hbd:=(Below.refl w1.heap.size w1).drew
 have HW:=Lib.hid (hbw.trans (hbd.mono hbw.size));have RA:=Lib.hid (row_keep hbd rA);have RB:=Lib.hid (row_keep hbd rB)
 have hzz2:=Nat.lt_of_lt_of_le hzz hbd.size
 refine AnyE.region (S:=fun w'=>∀ j_1,w'.cell? ⟨w.heap.size,j_1,none⟩ = (#[.bool d.no,.int .i64 d.v.k,.int .i64 d.v.n,.string d.v.s,.slice al nl cl,.slice af nf cf]:Array Value)[j_1]?) (E:=[11]) (by kernel_rfl) ?_
 clear rA rB hbw hbd hzz
 generalize w1.drew = wd at *
 have hS:=(rowc RA.out:(fun w'=>∀ j_1,w'.cell? ⟨w.heap.size,j_1,none⟩ = (#[.bool d.no,.int .i64 d.v.k,.int .i64 d.v.n,.string d.v.s,.slice al nl cl,.slice af nf cf]:Array Value)[j_1]?) wd)
 refine AnyE.take (i:=0) (v:=?_) rfl (by kernel_rfl) (by kernel_rfl) (by kernel_rfl) (by kernel_rfl) (by kernel_rfl) (fun _ _ _ h=>h) (Or.inl ⟨by rfl,?_⟩) hS ?_
 rotate_left
 focus (intro wq hSq;obtain hS1:=hSq;go_simp;with_reducible rfl)
 try simp only [Act.put,List.getElem_toArray,List.getElem_cons_succ,List.getElem_cons_zero,List.setIfInBounds_toArray,List.set_cons_zero,List.set_cons_succ]
 refine AnyE.take (i:=1) (v:=?_) rfl (by kernel_rfl) (by kernel_rfl) (by kernel_rfl) (by kernel_rfl) (by kernel_rfl) (fun _ _ _ h=>h) (Or.inl ⟨by rfl,?_⟩) hS ?_
 rotate_left
 focus (intro wq hSq;obtain hS1:=hSq;go_simp;with_reducible rfl)
 try simp only [Act.put,List.getElem_toArray,List.getElem_cons_succ,List.getElem_cons_zero,List.setIfInBounds_toArray,List.set_cons_zero,List.set_cons_succ]
 refine AnyE.take (i:=2) (v:=?_) rfl (by kernel_rfl) (by kernel_rfl) (by kernel_rfl) (by kernel_rfl) (by kernel_rfl) (fun _ _ _ h=>h) (Or.inl ⟨by rfl,?_⟩) hS ?_
 rotate_left
 focus (intro wq hSq;obtain hS1:=hSq;go_simp;with_reducible rfl)
 try simp only [Act.put,List.getElem_toArray,List.getElem_cons_succ,List.getElem_cons_zero,List.setIfInBounds_toArray,List.set_cons_zero,List.set_cons_succ]
 refine AnyE.take (i:=3) (v:=?_) rfl (by kernel_rfl) (by kernel_rfl) (by kernel_rfl) (by kernel_rfl) (by kernel_rfl) (fun _ _ _ h=>h) (Or.inl ⟨by rfl,?_⟩) hS ?_
 rotate_left
 focus (intro wq hSq;obtain hS1:=hSq;go_simp;with_reducible rfl)
 try simp only [Act.put,List.getElem_toArray,List.getElem_cons_succ,List.getElem_cons_zero,List.setIfInBounds_toArray,List.set_cons_zero,List.set_cons_succ]
 refine AnyE.take (i:=4) (v:=?_) rfl (by kernel_rfl) (by kernel_rfl) (by kernel_rfl) (by kernel_rfl) (by kernel_rfl) (fun _ _ _ h=>h) (Or.inl ⟨by rfl,?_⟩) hS ?_
 rotate_left
 focus (intro wq hSq;obtain hS1:=hSq;go_simp;with_reducible rfl)
 try simp only [Act.put,List.getElem_toArray,List.getElem_cons_succ,List.getElem_cons_zero,List.setIfInBounds_toArray,List.set_cons_zero,List.set_cons_succ]
 refine AnyE.take (i:=5) (v:=?_) rfl (by kernel_rfl) (by kernel_rfl) (by kernel_rfl) (by kernel_rfl) (by kernel_rfl) (fun _ _ _ h=>h) (Or.inl ⟨by rfl,?_⟩) hS ?_
 rotate_left
 focus (intro wq hSq;obtain hS1:=hSq;go_simp;with_reducible rfl)
 try simp only [Act.put,List.getElem_toArray,List.getElem_cons_succ,List.getElem_cons_zero,List.setIfInBounds_toArray,List.set_cons_zero,List.set_cons_succ]
 refine AnyE.take (i:=7) (v:=?_) rfl (by kernel_rfl) (by kernel_rfl) (by kernel_rfl) (by kernel_rfl) (by kernel_rfl) (fun _ _ _ h=>h) (Or.inl ⟨by rfl,?_⟩) hS ?_
 rotate_left
 focus (intro wq hSq;obtain hS1:=hSq;go_simp;with_reducible rfl)
 try simp only [Act.put,List.getElem_toArray,List.getElem_cons_succ,List.getElem_cons_zero,List.setIfInBounds_toArray,List.set_cons_zero,List.set_cons_succ]
 refine AnyE.take (i:=8) (v:=?_) rfl (by kernel_rfl) (by kernel_rfl) (by kernel_rfl) (by kernel_rfl) (by kernel_rfl) (fun _ _ _ h=>h) (Or.inl ⟨by rfl,?_⟩) hS ?_
 rotate_left
 focus (intro wq hSq;obtain hS1:=hSq;go_simp;with_reducible rfl)
 try simp only [Act.put,List.getElem_toArray,List.getElem_cons_succ,List.getElem_cons_zero,List.setIfInBounds_toArray,List.set_cons_zero,List.set_cons_succ]
 refine AnyE.one (i:=6) (by kernel_rfl) rfl rfl ?_
 intro K hK
 simp only [List.getElem_toArray,List.getElem_cons_succ,List.getElem_cons_zero]
 go_simp
 refine (HCL.out wd HW.out).mono ?_;rintro e w4 ⟨a4,c4,rfl,hd4,hb4⟩
 replace RA:=Lib.hid (row_keep hb4 RA.out);replace RB:=Lib.hid (row_keep hb4 RB.out)
 have HW4:=Lib.hid (HW.out.trans (hb4.mono HW.out.size));have HD4:=Lib.hid hd4;have hz4:=hb4.size
 have hS9:=(rowc RA.out:(fun w'=>∀ j_1,w'.cell? ⟨w.heap.size,j_1,none⟩ = (#[.bool d.no,.int .i64 d.v.k,.int .i64 d.v.n,.string d.v.s,.slice al nl cl,.slice af nf cf]:Array Value)[j_1]?) w4)
 refine hK _ _ (fun _=>hS9) ?_
 clear hK K hS
 have hS:=hS9
 clear hS9
 clear hd4 hb4
 try simp only [Act.put,List.getElem_toArray,List.getElem_cons_succ,List.getElem_cons_zero,List.setIfInBounds_toArray,List.set_cons_zero,List.set_cons_succ]
 refine AnyE.one (i:=9) (by kernel_rfl) rfl rfl ?_
 intro K hK
 simp only [List.getElem_toArray,List.getElem_cons_succ,List.getElem_cons_zero]
 go_simp
 refine (HCF.out w4 HW4.out).mono ?_;rintro e w5 ⟨a5,c5,rfl,hd5,hb5⟩
 replace RA:=Lib.hid (row_keep hb5 RA.out);replace RB:=Lib.hid (row_keep hb5 RB.out)
 have HW5:=Lib.hid (HW4.out.trans (hb5.mono HW4.out.size));have HD5:=Lib.hid hd5;have hz5:=hb5.size
 replace HD4:=Lib.hid ((HD4.out.mono (Q:=fun b=>wd.heap.size ≤ b ∧ b < w4.heap.size) (fun b hb hl=>⟨hb,hl⟩)).keep hb5.size (fun b hb _=>hb5.block b hb.2))
 have hS9:=(rowc RA.out:(fun w'=>∀ j_1,w'.cell? ⟨w.heap.size,j_1,none⟩ = (#[.bool d.no,.int .i64 d.v.k,.int .i64 d.v.n,.string d.v.s,.slice al nl cl,.slice af nf cf]:Array Value)[j_1]?) w5)
 refine hK _ _ (fun _=>hS9) ?_
 clear hK K hS
 have hS:=hS9
 clear hS9
 clear hd5 hb5
 try simp only [Act.put,List.getElem_toArray,List.getElem_cons_succ,List.getElem_cons_zero,List.setIfInBounds_toArray,List.set_cons_zero,List.set_cons_succ]
 refine AnyE.take (i:=10) (v:=?_) rfl (by kernel_rfl) (by kernel_rfl) (by kernel_rfl) (by kernel_rfl) (by kernel_rfl) (fun _ _ _ h=>h) (Or.inl ⟨by rfl,?_⟩) hS ?_
 rotate_left
 focus (intro wq hSq;obtain hS1:=hSq;go_simp;with_reducible rfl)
 try simp only [Act.put,List.getElem_toArray,List.getElem_cons_succ,List.getElem_cons_zero,List.setIfInBounds_toArray,List.set_cons_zero,List.set_cons_succ]
 refine AnyE.one (i:=11) (by kernel_rfl) rfl rfl ?_
 intro K hK
 simp only [List.getElem_toArray,List.getElem_cons_succ,List.getElem_cons_zero]
 refine wp_store_part rfl 63 _ _ rfl (w.heap.size + 1) 0 #[.bool false,.int .i64 0,.int .i64 0,.string ⟨#[]⟩,.slice none 0 0,.slice none 0 0] 63 #[.bool d.no,.int .i64 d.v.k,.int .i64 d.v.n,.string d.v.s,.slice a4 nl c4,.slice a5 nf c5] rfl rfl RB.out (by kernel_rfl) (by simp [Value.oneCell']) (Nat.le_of_ble_eq_true rfl) #[.bool d.no,.int .i64 d.v.k,.int .i64 d.v.n,.string d.v.s,.slice a4 nl c4,.slice a5 nf c5] rfl ?_;intro w6 r6 ho6 hb6 hz6
 refine hK _ _ (fun h=>absurd h (by decide)) ?_
 clear hK K hS
 try simp only [Act.put,List.getElem_toArray,List.getElem_cons_succ,List.getElem_cons_zero,List.setIfInBounds_toArray,List.set_cons_zero,List.set_cons_succ]
 refine AnyE.done (by kernel_rfl) ?_ _
 have R6:=Lib.hid r6;have HO6:=Lib.hid ho6;have HB6:=Lib.hid hb6;have HZ6:=Lib.hid hz6
 clear r6 ho6 hb6 hz6
 go_wp2_with fail
 refine bodyPost_ret (v:=.agg #[.bool d.no,.int .i64 d.v.k,.int .i64 d.v.n,.string d.v.s,.slice a4 nl c4,.slice a5 nf c5]) (results_cell_row Tryd.results22 _ _ (w.heap.size + 1) 63 _ (0,0) _ rfl R6.out Tryd.underlying63 rfl (by kernel_rfl)) rfl ⟨a4,c4,a5,c5,rfl,?_,?_,HW5.out.trans (HB6.out.mono (Nat.le_succ _))⟩
 ·exact (HD4.out.keep (Nat.le_of_eq HZ6.out.symm) (fun b hb _=>HO6.out b (by omega))).mono (fun b hb _=>by omega)
 ·exact (HD5.out.keep (Nat.le_of_eq HZ6.out.symm) (fun b hb _=>HO6.out b (by omega))).mono (fun b hb _=>by omega)
end Go.Proofs.YtkmhmnffbgedgaaDoor
/- Append of a row of datums to a row of the call's own. -/
namespace Go.Proofs.YtkmhmnffbgedgaaDoor
set_option linter.unusedVariables false
set_option linter.unusedSimpArgs false
open Go Go.RowKit Go.ChangeShapes
theorem dtCs_one (L:List DtV):∀ u ∈ L.flatMap dtC,u.oneCell' = true:=by
 intro u hu
 obtain ⟨p,_,hp⟩:=List.mem_flatMap.1 hu
 exact dtC_one p u hp
theorem dtCs_len (L:List DtV):(L.flatMap dtC).length = L.length * 6:=by
 induction L with
 | nil=>rfl
 | cons a r ih=>rw [List.flatMap_cons,List.length_append,ih,List.length_cons,show (dtC a).length = 6 from rfl];omega
theorem wpList_appD {w:World} {ops:Array Oper} {rest:List Oper} {o:Oper} {a:Act} {Q:Exit → Act → World → Prop} (hgd:o.guard = none) (s x:Operand)
  (ho:o.op = .call { callee:=.builtin .append,args:=#[s,x],argTypes:=#[48,48] }) (B:Nat) (v:Value) (l0:List DtV) (hs:a.eval s = v) (hown:w.ownsRow B 63 6 v l0.length (l0.flatMap dtC))
  (B2:Nat) (u:Value) (l:List DtV) (hx:a.eval x = u) (hI:w.ownsRow B2 63 6 u l.length (l.flatMap dtC)) (h8:(l0.length + l.length) * 88 ≤ 140737488355328) (hB:B ≤ w.heap.size)
  (h:∀ v' w',w'.ownsRow B 63 6 v' (l0 ++ l).length ((l0 ++ l).flatMap dtC) → w.grownBy w' v.ownBlock → (v'.ownBlock = v.ownBlock ∨ v'.ownBlock = some w.heap.size) → wpList Tryd.prog ops Q rest (a.put o.dst v') w'):wpList Tryd.prog ops Q (o :: rest) a w:=by
 obtain ⟨i0,hi,hz0,hz1,hz2⟩:=info_parts dt_info3
 refine wpList_plain hgd fun K hK=>?_
 rcases hI.2 with ⟨rfl,h0⟩ | ⟨g,cap,cur,rfl,hBg,hg,hnc,hcm,hcs,hct⟩
 ·have hl:l = []:=List.eq_nil_of_length_eq_zero h0
  subst hl
  have hcap:∃ vb vc,v = .slice vb l0.length vc ∧ l0.length ≤ vc:=by
   rcases hown.2 with ⟨h1,h0⟩ | ⟨g,cap,cur,h1,_,_,h3,_⟩
   ·exact ⟨none,0,by rw [h1,h0],by omega⟩
   ·exact ⟨_,cap,h1,h3⟩
  obtain ⟨vb,vc,rfl,hvc⟩:=hcap
  unfold Oper.wp execOp
  have hr:=run_append_none (P:=Tryd.prog) w 48 o.type 63 0 i0 Tryd.underlying48 hi vb l0.length vc none 0 hvc
  simp only [ho,resolve,invoke,builtin,Sem.run_bind,Sem.run_pure,Result.andThen_ok,List.map_toArray,List.map_cons,List.map_nil,hs,hx,hr]
  exact hK _ _ (h _ _ (by simpa using hown) ⟨rfl,rfl,rfl,Nat.le_refl _,fun _ _ _=>rfl⟩ (.inl rfl))
 ·obtain ⟨v',w',hr,h2,h3,_,h5⟩:=run_append_own_at (P:=Tryd.prog) w B 48 o.type 63 i0 _ 6 88 Tryd.underlying48 hi hz0 hz1 hz2 rfl (by decide) v l0.length _ hown ⟨g,0,none⟩ l.length cap (l.flatMap dtC) (dtCs_len l) (by
    intro j u hj
    have hjl:j < l.length * 6:=by rw [← dtCs_len];exact (List.getElem?_eq_some_iff.1 hj).1
    rw [Go.WideShapes.add_plain,Nat.zero_add,rowc hg]
    rw [← hct,List.getElem?_take_of_lt hjl] at hj
    simpa using hj) (dtCs_one l) (by unfold maxLen;omega) h8 hB
  unfold Oper.wp execOp
  simp only [ho,resolve,invoke,builtin,Sem.run_bind,Sem.run_pure,Result.andThen_ok,List.map_toArray,List.map_cons,List.map_nil,hs,hx,hr]
  exact hK _ _ (h v' w' (by rw [List.flatMap_append,List.length_append];exact h2) h3 h5)
theorem dts_two {w w':World} {B:Nat} {v v':Value} {La Lb:List DtV} {P:Nat → Prop} (hz:w.heap.size ≤ w'.heap.size) (ho:w'.ownsRow B 63 6 v' (La ++ Lb).length ((La ++ Lb).flatMap dtC)) (hg:w.grownBy w' v.ownBlock) (hP:∀ b,v'.ownBlock = some b → P b)
  (ha:∀ p ∈ La,IsDts (fun b=>P b ∧ v.ownBlock ≠ some b) w p.2.1 p.1.l ∧ IsDts (fun b=>P b ∧ v.ownBlock ≠ some b) w p.2.2 p.1.f) (hb:∀ p ∈ Lb,IsDts (fun b=>P b ∧ v.ownBlock ≠ some b) w p.2.1 p.1.l ∧ IsDts (fun b=>P b ∧ v.ownBlock ≠ some b) w p.2.2 p.1.f):IsDts P w' v' ((La ++ Lb).map Prod.fst):=by
 have key:∀ (u:Value) (m:List Dt),IsDts (fun b=>P b ∧ v.ownBlock ≠ some b) w u m → IsDts P w' u m:=fun u m h=>(h.keep hz fun b hb hl=>hg.block b hl (fun e=>hb.2 e.symm)).mono fun b hb _=>hb.1
 refine dts_of_own ho hP fun p hp=>?_
 rcases List.mem_append.1 hp with hp | hp
 ·exact ⟨key _ _ (ha p hp).1,key _ _ (ha p hp).2⟩
 ·exact ⟨key _ _ (hb p hp).1,key _ _ (hb p hp).2⟩
end Go.Proofs.YtkmhmnffbgedgaaDoor
