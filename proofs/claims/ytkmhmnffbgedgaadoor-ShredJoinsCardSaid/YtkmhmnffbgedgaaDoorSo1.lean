/- The walk of the document's OwnColumns. -/
import Derived.Test.YtkmhmnffbgedgaaDoorMOw
import Derived.Test.YtkmhmnffbgedgaaDoorColC
import Derived.Test.YtkmhmnffbgedgaaDoorTv2
namespace Go.Proofs.YtkmhmnffbgedgaaDoor
set_option maxHeartbeats 16000000
set_option linter.unusedVariables false
set_option linter.unusedSimpArgs false
open Go Go.RowKit Go.ChangeShapes
abbrev ColV:=Col × Value × Value × Value
def colC (p:ColV):List Value:=[.int .i64 p.1.id,cell1 p.2.1,cell1 p.2.2.1,cell1 p.2.2.2]
theorem colC_one (p:ColV):∀ u ∈ colC p,u.oneCell' = true:=by
 intro u hu
 simp only [colC,List.mem_cons,List.not_mem_nil,or_false] at hu
 rcases hu with rfl | rfl | rfl | rfl <;> first | rfl | exact cell1_one _
theorem col_info3:(Tryd.prog.info? 32).map (fun i=>(i.zero,i.size,i.bytes)) = some (some (.agg #[.int .i64 0,.slice none 0 0,.slice none 0 0,.slice none 0 0]),4,80):=by kernel_rfl
theorem flat4 (L:List ColV):∀ (i:Nat) p,L[i]? = some p → ∀ j,j < 4 → (L.flatMap colC)[i * 4 + j]? = (colC p)[j]?:=by
 induction L with
 | nil=>intro i p h;simp at h
 | cons a r ih =>
  intro i p h j hj
  rw [List.flatMap_cons]
  have e:(colC a).length = 4:=rfl
  cases i with
  | zero=>simp at h;subst h;rw [List.getElem?_append_left (by rw [e];omega)];simp
  | succ i=>rw [List.getElem?_append_right (by rw [e];omega),e,show (i + 1) * 4 + j - 4 = i * 4 + j by omega];exact ih i p (by simpa using h) j hj
def OwnP (B:Nat) (w:World) (p:ColV):Prop:=w.ownsRow B 3 1 p.2.1 p.1.rep.length (p.1.rep.map iV) ∧ w.ownsRow B 3 1 p.2.2.1 p.1.df.length (p.1.df.map iV) ∧ w.ownsRow B 61 3 p.2.2.2 p.1.vals.length (p.1.vals.flatMap valCells)
theorem own_base0 {w:World} {B B' n s:Nat} {e:TypeId} {v:Value} {xs:List Value} (h:w.ownsRow B e s v n xs) (hB:B' ≤ B):w.ownsRow B' e s v n xs:=by
 refine ⟨h.1,?_⟩
 rcases h.2 with h0 | ⟨g,cap,cur,hv,h1,h2,h3⟩
 ·exact .inl h0
 ·exact .inr ⟨g,cap,cur,hv,Nat.le_trans hB h1,h2,h3⟩
theorem own_tag {w w':World} {B n s:Nat} {e:TypeId} {v:Value} {xs:List Value} (h:w.ownsRow B e s v n xs) (hk:∀ (b:Nat) (cs:Array Value) (fr:Nat × Nat),w.heap[b]? = some (.cells cs e fr) → w'.heap[b]? = some (.cells cs e fr)):w'.ownsRow B e s v n xs:=by
 refine ⟨h.1,?_⟩
 rcases h.2 with h0 | ⟨g,cap,cur,hv,h1,h2,h3⟩
 ·exact .inl h0
 ·exact .inr ⟨g,cap,cur,hv,h1,hk _ _ _ h2,h3⟩
theorem OwnP.tag {B:Nat} {w w':World} {p:ColV} (h:OwnP B w p) (hk:∀ (b:Nat) (cs:Array Value) (e:TypeId) (fr:Nat × Nat),e ≠ 32 → w.heap[b]? = some (.cells cs e fr) → w'.heap[b]? = some (.cells cs e fr)):OwnP B w' p :=
 ⟨own_tag h.1 fun b cs fr=>hk b cs _ fr (by decide),own_tag h.2.1 fun b cs fr=>hk b cs _ fr (by decide),own_tag h.2.2 fun b cs fr=>hk b cs _ fr (by decide)⟩
theorem OwnP.below {B:Nat} {w w':World} {p:ColV} (h:OwnP B w p) (hb:Below w.heap.size w w'):OwnP B w' p:=h.tag fun b cs e fr _ hr=>row_keep hb hr
theorem OwnP.base {B B':Nat} {w:World} {p:ColV} (h:OwnP B w p) (hB:B' ≤ B):OwnP B' w p:=⟨own_base0 h.1 hB,own_base0 h.2.1 hB,own_base0 h.2.2 hB⟩
theorem own_lit {w:World} {B n s:Nat} {e:TypeId} {v:Value} {xs:List Value} (h:w.ownsRow B e s v n xs):∃ m b c,v = .slice b m c:=by
 obtain ⟨b,c,h1,-⟩:=own_cap h
 exact ⟨n,b,c,h1⟩
theorem cols_of_own {w:World} {B:Nat} {v:Value} {L:List ColV} (h:w.ownsRow B 32 4 v L.length (L.flatMap colC)) (hs:∀ p ∈ L,OwnP B w p):IsCols w v (L.map Prod.fst):=by
 rcases h.2 with ⟨rfl,h0⟩ | ⟨g,cap,cur,rfl,h1,h2,h3⟩
 ·have:L = []:=List.eq_nil_of_length_eq_zero h0
  subst this
  exact .inl ⟨rfl,none,0,rfl⟩
 ·refine .inr ⟨g,0,cap,by rw [List.length_map],(Array.getElem?_eq_some_iff.1 h2).1,fun j c hj=>?_⟩
  rw [List.getElem?_map] at hj
  cases hx:L[j]? with
  | none=>simp [hx] at hj
  | some p =>
   simp [hx] at hj
   subst hj
   obtain ⟨o1,o2,o3⟩:=hs p (List.mem_of_getElem? hx)
   refine ⟨p.2.1,p.2.2.1,p.2.2.2,IsInts_of_own o1,IsInts_of_own o2,IsVals.of_own o3,fun q u hu=>?_⟩
   have hjl:=(List.getElem?_eq_some_iff.1 hx).1
   have hq:q < 4:=by
    rcases Nat.lt_or_ge q 4 with h | h
    ·exact h
    ·rw [Array.getElem?_eq_none (by simp [colA];omega)] at hu;cases hu
   rw [Nat.zero_add,h.cellAt _ (by omega),flat4 L j p hx q hq,← hu]
   have hc:∀ {v:Value},(∃ m b c,v = .slice b m c) → cell1 v = v:=fun {v} ⟨m,b,c,h⟩=>by subst h;rfl
   unfold colA colC
   rw [hc (own_lit o1),hc (own_lit o2),hc (own_lit o3)]
   match q,hq with
   | 0,_=>rfl
   | 1,_=>rfl
   | 2,_=>rfl
   | 3,_=>rfl
set_option maxRecDepth 100000 in
theorem ownCol_own (c:Col) (vc:Value) (w:World) (hc:IsCol w vc c) (cr:c.Reach) :
  Calls Tryd.prog 31 #[vc] w fun e w'=>(∃ p,e = .returned (.agg #[.int .i64 p.1.id,p.2.1,p.2.2.1,p.2.2.2]) ∧ p.1 = c ∧ OwnP w.heap.size w' p) ∧ Below w.heap.size w w':=by
 obtain ⟨a,b,d,rfl,ha,hb,hd⟩:=hc
 have HA:=Lib.hid ha;have HB:=Lib.hid hb;have HD:=Lib.hid hd
 have h8a:=cr.rep;have h8b:=cr.df;have h8d:=cr.vals
 obtain ⟨a1,q1,e1⟩:=ha.form
 obtain ⟨a2,q2,e2⟩:=hb.form
 obtain ⟨a3,q3,e3⟩:=hd.form
 clear ha hb hd cr
 subst e1 e2 e3
 unfold colA
 go_enter Tryd.func31,Tryd.ntmps31
 go_upto_region 2 with fail
 obtain ⟨rI,rZ,rO,hbw,hz⟩:=rows3 (w:=w) (A:=(.cells #[.int .i64 c.id,.slice a1 c.rep.length q1,.slice a2 c.df.length q2,.slice a3 c.vals.length q3] 32)) (B:=(.cells #[.int .i64 0,.slice none 0 0,.slice none 0 0,.slice none 0 0] 32)) (C:=(.cells #[.int .i64 c.id,.slice none 0 0,.slice none 0 0,.slice none 0 0] 32)) (Below.refl _ _)
 have RI:=Lib.hid rI;have RZ:=Lib.hid rZ;have RO:=Lib.hid rO;have Hbw:=Lib.hid hbw
 have hsz:w.heap.size + 3 ≤ (((w.alloc (.cells #[.int .i64 c.id,.slice a1 c.rep.length q1,.slice a2 c.df.length q2,.slice a3 c.vals.length q3] 32)).alloc (.cells #[.int .i64 0,.slice none 0 0,.slice none 0 0,.slice none 0 0] 32)).alloc (.cells #[.int .i64 c.id,.slice none 0 0,.slice none 0 0,.slice none 0 0] 32)).heap.size:=hz
 clear rI rZ rO hbw hz
 generalize (((w.alloc (.cells #[.int .i64 c.id,.slice a1 c.rep.length q1,.slice a2 c.df.length q2,.slice a3 c.vals.length q3] 32)).alloc (.cells #[.int .i64 0,.slice none 0 0,.slice none 0 0,.slice none 0 0] 32)).alloc (.cells #[.int .i64 c.id,.slice none 0 0,.slice none 0 0,.slice none 0 0] 32)) = w1 at *
 have cI:=rowc RI.out;have cO:=rowc RO.out;have fO:=rowf RO.out
 go_upto_region 3 with (at_builtin;refine wpList_appI rfl _ _ rfl w1.heap.size (.slice none 0 0) [] rfl (World.ownsRow_nil _ _ _ _) (.slice a1 c.rep.length q1) c.rep rfl (HA.out.below Hbw.out (Nat.le_refl _)) (by simpa using h8a) (Nat.le_refl _) ?_;intro v1 x1 ho1 hg1 hf1;obtain ⟨ad1,cp1,hv1⟩:=hf1;subst hv1;have hbg:=(Below.refl w1.heap.size w1).grown hg1 (Nat.le_refl _) (fun k hk=>by cases hk);have HO1:=Lib.hid ho1;have Hbg:=Lib.hid hbg;clear ho1 hg1 hbg;replace RI:=Lib.hid (row_keep Hbg.out RI.out);replace RZ:=Lib.hid (row_keep Hbg.out RZ.out);replace RO:=Lib.hid (row_keep Hbg.out RO.out);have hsz1:=Nat.le_trans hsz Hbg.out.size;replace Hbw:=Lib.hid (Hbw.out.trans (Hbg.out.mono (by omega)));clear Hbg cI cO fO;have cI:=rowc RI.out;have cO:=rowc RO.out;have fO:=rowf RO.out)
 obtain ⟨s1,s2,s3,s4⟩:=store_cell_row (j:=1) (v:=.slice ad1 c.rep.length cp1) RO.out
 replace RI:=Lib.hid ((s2 _ (by omega)).trans RI.out);replace RZ:=Lib.hid ((s2 _ (by omega)).trans RZ.out);replace Hbw:=Lib.hid (Hbw.out.trans (s3.mono (by omega)))
 replace HO1:=Lib.hid (ownK HO1.out fun i hi _=>s2 i (by omega))
 replace RO:=Lib.hid (s1.trans (show _ = some (.cells #[.int .i64 c.id,.slice ad1 c.rep.length cp1,.slice none 0 0,.slice none 0 0] 32 (0,0)) from rfl))
 have hsz':=Nat.le_trans hsz1 (Nat.le_of_eq s4.symm)
 clear cI;clear cO;clear fO;clear s1;clear s2;clear s3;clear s4;clear hsz1
 generalize x1.setCell ⟨w.heap.size + 1 + 1,1,none⟩ (.slice ad1 c.rep.length cp1) = w2 at *
 have hq1:w.heap.size + 3 ≤ w1.heap.size:=hsz;clear hsz;have hsz:=hsz';clear hsz'
 have cI:=rowc RI.out;have cO:=rowc RO.out;have fO:=rowf RO.out
 go_upto_region 4 with (at_builtin;refine wpList_appI rfl _ _ rfl w2.heap.size (.slice none 0 0) [] rfl (World.ownsRow_nil _ _ _ _) (.slice a2 c.df.length q2) c.df rfl (HB.out.below Hbw.out (Nat.le_refl _)) (by simpa using h8b) (Nat.le_refl _) ?_;intro v2 x2 ho2 hg2 hf2;obtain ⟨ad2,cp2,hv2⟩:=hf2;subst hv2;have hbg:=(Below.refl w2.heap.size w2).grown hg2 (Nat.le_refl _) (fun k hk=>by cases hk);have HO2:=Lib.hid ho2;have Hbg:=Lib.hid hbg;clear ho2 hg2 hbg;replace HO1:=Lib.hid (ownBelow HO1.out Hbg.out);replace RI:=Lib.hid (row_keep Hbg.out RI.out);replace RZ:=Lib.hid (row_keep Hbg.out RZ.out);replace RO:=Lib.hid (row_keep Hbg.out RO.out);have hsz2:=Nat.le_trans hsz Hbg.out.size;replace Hbw:=Lib.hid (Hbw.out.trans (Hbg.out.mono (by omega)));clear Hbg cI cO fO;have cI:=rowc RI.out;have cO:=rowc RO.out;have fO:=rowf RO.out)
 obtain ⟨s1,s2,s3,s4⟩:=store_cell_row (j:=2) (v:=.slice ad2 c.df.length cp2) RO.out
 replace RI:=Lib.hid ((s2 _ (by omega)).trans RI.out);replace RZ:=Lib.hid ((s2 _ (by omega)).trans RZ.out);replace Hbw:=Lib.hid (Hbw.out.trans (s3.mono (by omega)))
 replace HO1:=Lib.hid (ownK HO1.out fun i hi _=>s2 i (by omega))
 replace HO2:=Lib.hid (ownK HO2.out fun i hi _=>s2 i (by omega))
 replace RO:=Lib.hid (s1.trans (show _ = some (.cells #[.int .i64 c.id,.slice ad1 c.rep.length cp1,.slice ad2 c.df.length cp2,.slice none 0 0] 32 (0,0)) from rfl))
 have hsz':=Nat.le_trans hsz2 (Nat.le_of_eq s4.symm)
 clear cI;clear cO;clear fO;clear s1;clear s2;clear s3;clear s4;clear hsz2
 generalize x2.setCell ⟨w.heap.size + 1 + 1,2,none⟩ (.slice ad2 c.df.length cp2) = w3 at *
 have hq2:w.heap.size + 3 ≤ w2.heap.size:=hsz;clear hsz;have hsz:=hsz';clear hsz'
 have cI:=rowc RI.out;have cO:=rowc RO.out;have fO:=rowf RO.out
 go_upto_region 5 with (at_builtin;refine wpList_appV rfl _ _ rfl w3.heap.size (.slice none 0 0) [] rfl (World.ownsRow_nil _ _ _ _) (.slice a3 c.vals.length q3) c.vals rfl (HD.out.below Hbw.out (Nat.le_refl _)) (by simpa using h8d) (Nat.le_refl _) ?_;intro v3 x3 ho3 hg3 hf3;obtain ⟨ad3,cp3,hv3⟩:=hf3;subst hv3;have hbg:=(Below.refl w3.heap.size w3).grown hg3 (Nat.le_refl _) (fun k hk=>by cases hk);have HO3:=Lib.hid ho3;have Hbg:=Lib.hid hbg;clear ho3 hg3 hbg;replace HO1:=Lib.hid (ownBelow HO1.out Hbg.out);replace HO2:=Lib.hid (ownBelow HO2.out Hbg.out);replace RI:=Lib.hid (row_keep Hbg.out RI.out);replace RZ:=Lib.hid (row_keep Hbg.out RZ.out);replace RO:=Lib.hid (row_keep Hbg.out RO.out);have hsz3:=Nat.le_trans hsz Hbg.out.size;replace Hbw:=Lib.hid (Hbw.out.trans (Hbg.out.mono (by omega)));clear Hbg cI cO fO;have cI:=rowc RI.out;have cO:=rowc RO.out;have fO:=rowf RO.out)
 obtain ⟨s1,s2,s3,s4⟩:=store_cell_row (j:=3) (v:=.slice ad3 c.vals.length cp3) RO.out
 replace RI:=Lib.hid ((s2 _ (by omega)).trans RI.out);replace RZ:=Lib.hid ((s2 _ (by omega)).trans RZ.out);replace Hbw:=Lib.hid (Hbw.out.trans (s3.mono (by omega)))
 replace HO1:=Lib.hid (ownK HO1.out fun i hi _=>s2 i (by omega))
 replace HO2:=Lib.hid (ownK HO2.out fun i hi _=>s2 i (by omega))
 replace HO3:=Lib.hid (ownK HO3.out fun i hi _=>s2 i (by omega))
 replace RO:=Lib.hid (s1.trans (show _ = some (.cells #[.int .i64 c.id,.slice ad1 c.rep.length cp1,.slice ad2 c.df.length cp2,.slice ad3 c.vals.length cp3] 32 (0,0)) from rfl))
 have hsz':=Nat.le_trans hsz3 (Nat.le_of_eq s4.symm)
 clear cI;clear cO;clear fO;clear s1;clear s2;clear s3;clear s4;clear hsz3
 generalize x3.setCell ⟨w.heap.size + 1 + 1,3,none⟩ (.slice ad3 c.vals.length cp3) = w4 at *
 have hq3:w.heap.size + 3 ≤ w3.heap.size:=hsz;clear hsz;have hsz:=hsz';clear hsz'
 have cI:=rowc RI.out;have cO:=rowc RO.out;have fO:=rowf RO.out
 go_wp2_with (refine wpList_store_part rfl 32 _ _ rfl (w.heap.size + 1) 0 _ 32 #[.int .i64 c.id,.slice ad1 c.rep.length cp1,.slice ad2 c.df.length cp2,.slice ad3 c.vals.length cp3] rfl rfl RZ.out (by kernel_rfl) (by simp [Value.oneCell']) (Nat.le_of_ble_eq_true rfl) #[.int .i64 c.id,.slice ad1 c.rep.length cp1,.slice ad2 c.df.length cp2,.slice ad3 c.vals.length cp3] rfl ?_;intro w5 rR5 hoth hbl hsz5;have hbw5:=Lib.hid (Hbw.out.trans (hbl.mono (by omega)));have RR5:=Lib.hid rR5;have hO1:=ownK HO1.out (w':=w5) (fun i hi _=>hoth i (by omega));have hO2:=ownK HO2.out (w':=w5) (fun i hi _=>hoth i (by omega));have hO3:=ownK HO3.out (w':=w5) (fun i hi _=>hoth i (by omega));have h1:=Lib.hid hO1;have h2:=Lib.hid hO2;have h3:=Lib.hid hO3;clear hoth hbl hsz5 rR5 hO1 hO2 hO3)
 refine bodyPost_ret (v:=.agg #[.int .i64 c.id,.slice ad1 c.rep.length cp1,.slice ad2 c.df.length cp2,.slice ad3 c.vals.length cp3]) (results_cell_row Tryd.results31 _ _ (w.heap.size + 1) 32 _ (0,0) _ rfl RR5.out Tryd.underlying32 rfl (by kernel_rfl)) rfl ⟨⟨(c,.slice ad1 c.rep.length cp1,.slice ad2 c.df.length cp2,.slice ad3 c.vals.length cp3),rfl,rfl,own_base0 (by simpa using h1.out) (by omega),own_base0 (by simpa using h2.out) (by omega),own_base0 (by simpa using h3.out) (by omega)⟩,hbw5.out⟩
def OwnCsRet (l:List Col) (w:World) (e:Ending) (w':World):Prop:=∃ v,e = .returned v ∧ IsCols w' v l ∧ Below w.heap.size w w'
set_option maxRecDepth 100000 in
theorem ownCols_any (l:List Col) (v:Value) (w:World) (hN:IsCols w v l) (hO:∀ c ∈ l,c.Reach) (h88:l.length * 80 ≤ 140737488355328):Calls Tryd.prog 11 #[v] w (OwnCsRet l w):=by
 obtain ⟨ad,cp,rfl⟩:=hN.form
 obtain ⟨len,hnl⟩:∃ len,l.length = len:=⟨_,rfl⟩
 unfold OwnCsRet
 rw [hnl] at hN h88 ⊢
 have HL:=Lib.hid hnl;have HN:=Lib.hid hN;have HO:=Lib.hid hO
 clear hnl hN hO
 obtain ⟨i0,hi,hz0,hz1,hz2⟩:=info_parts col_info3
 go_enter Tryd.func11,Tryd.ntmps11
 go_wp2_with fail
 go_loopw [3,4] (fun s3 i wr=>∃ (k:Nat) (a3:Option Addr) (c3:Nat) (LT:List ColV),k ≤ len ∧ i = .int .i64 (k:Nat) ∧ .slice a3 k c3 = s3 ∧ Hid (LT.map Prod.fst = l.take k) ∧ Hid (LT.length = k) ∧ Hid (wr.ownsRow w.heap.size 32 4 (.slice a3 k c3) k (LT.flatMap colC)) ∧ Hid (∀ p ∈ LT,OwnP w.heap.size wr p) ∧ Hid (Below w.heap.size w wr)) (fun _ i _=>len - (intOf i).toNat)
 case atStart=>exact ⟨0,none,0,[],Nat.zero_le _,rfl,rfl,rfl,rfl,World.ownsRow_nil _ _ _ _,fun q hq=>by simp at hq,Below.refl _ _⟩
 case round =>
  obtain ⟨k,a3,c3,LT,hk,rfl,hs3,HM,HLT,HR,HE,HBr⟩:=hrel
  subst hs3
  by_cases hlt:k < len
  case neg =>
   obtain rfl:k = len:=Nat.le_antisymm hk (Nat.le_of_not_lt hlt)
   have dk:decide (k < k) = false:=by simp
   clear hlt hk
   go_wp2_with fail
   go_ret
   refine ⟨_,rfl,?_,HBr.out⟩
   have h1:=cols_of_own (own_len HR.out HLT.out) HE.out
   rw [HM.out,List.take_of_length_le (Nat.le_of_eq HL.out)] at h1
   exact h1
  have hkl:k < l.length:=by rw [HL.out];exact hlt
  obtain ⟨x,hx⟩:∃ x,l[k]? = some x:=⟨_,List.getElem?_eq_getElem hkl⟩
  have hxm:x ∈ l:=List.mem_of_getElem? hx
  obtain ⟨b0,off,rfl,-,hb0,hat⟩:=(HN.out.below HBr.out (Nat.le_refl _)).at (by rw [HL.out];omega)
  obtain ⟨p0,q0,d0,hp0,hq0,hd0,hcx⟩:=hat k x hx
  have hsn:l.take (k + 1) = l.take k ++ [x]:=by rw [List.take_add_one,hx];rfl
  have hcl:=ownCol_own x (.agg #[.int .i64 x.id,p0,q0,d0]) wr ⟨p0,q0,d0,rfl,hp0,hq0,hd0⟩ (HO.out x hxm)
  unfold colA at hcx
  have HCX:=Lib.hid hcx;have HCL:=Lib.hid hcl;have HSN:=Lib.hid hsn;have Hlt:=Lib.hid hlt
  have hin:(k:Int) < (len:Int):=Int.ofNat_lt.2 hlt
  have dk:decide (k < len) = true:=decide_eq_true hlt
  have h63:LT.length + 1 ≤ maxLen:=by have:=HLT.out;unfold maxLen;omega
  have h64:(LT.length + 1) * 80 ≤ 140737488355328:=by have:=HLT.out;omega
  have hbz:=HBr.out.size
  clear hkl hx hxm hat hcx hp0 hq0 hd0 hcl hsn hlt hk hb0
  go_wp2_with (refine wpList_load_cells rfl 32 _ rfl b0 (off + k * 4) rfl #[.int .i64 x.id,p0,q0,d0] _ HCX.out Tryd.underlying32 rfl col_info ?_)
  refine HCL.out.mono ?_;rintro e w4 ⟨⟨p,rfl,hpx,hop⟩,hb4⟩
  obtain ⟨px,p1,p2,p3⟩:=p
  obtain ⟨m1,b1,c1,e1⟩:=own_lit hop.1
  obtain ⟨m2,b2,c2,e2⟩:=own_lit hop.2.1
  obtain ⟨m3,b3,c3',e3⟩:=own_lit hop.2.2
  simp only at e1 e2 e3 hpx
  subst e1 e2 e3 hpx
  have HR4:=Lib.hid (own_blw HR.out hb4);have HOP:=Lib.hid (hop.base hbz);have HB4:=Lib.hid hb4
  have HE4:=Lib.hid (fun p hp=>(HE.out p hp).below hb4)
  have hbz4:=Nat.le_trans hbz hb4.size
  clear hop hb4 HCL HCX HE
  go_wp2_with (at_builtin;refine wpList_pushRow rfl _ _ 25 rfl w.heap.size 32 i0 _ 4 80 Tryd.underlying25 hi hz0 hz1 hz2 rfl (by decide) colC (fun _=>rfl) colC_one _ LT rfl (own_len HR4.out HLT.out) _ _ rfl rfl h63 h64 hbz4 (px,Value.slice b1 m1 c1,Value.slice b2 m2 c2,Value.slice b3 m3 c3') _ rfl ?_;intro v' w5 hown' hgr hq5;obtain ⟨a6,c6,rfl⟩:=own_form hown';have HO5:=Lib.hid hown';have HG5:=Lib.hid hgr;have HQ5:=Lib.hid hq5;clear hown' hgr hq5)
  go_roundw
  case rel =>
   have hl5:(LT ++ [((px,Value.slice b1 m1 c1,Value.slice b2 m2 c2,Value.slice b3 m3 c3'):ColV)]).length = k + 1:=by rw [List.length_append,HLT.out];rfl
   have hbg:=grow_below HR4.out HG5.out hbz4
   refine ⟨k + 1,a6,c6,LT ++ [(px,Value.slice b1 m1 c1,Value.slice b2 m2 c2,Value.slice b3 m3 c3')],Hlt.out,by go_num,by rw [HLT.out],?_,hl5,(by have h:=HO5.out;rw [hl5] at h;exact h),?_,HBr.out.trans ((HB4.out.mono hbz).trans hbg)⟩
   ·rw [List.map_append,HM.out,HSN.out];rfl
   ·intro p hp
    have hh:OwnP w.heap.size w4 p:=by
     rcases List.mem_append.1 hp with hp | hp
     ·exact HE4.out p hp
     ·obtain rfl:=List.mem_singleton.1 hp;exact HOP.out
    exact hh.tag fun b cs e fr he hr=>grown_row HR4.out HG5.out hr he
  case measure=>have:=Hlt.out;simp [intOf];omega
end Go.Proofs.YtkmhmnffbgedgaaDoor
