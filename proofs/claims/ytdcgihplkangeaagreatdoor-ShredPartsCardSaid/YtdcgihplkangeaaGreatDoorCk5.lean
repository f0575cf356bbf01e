/- The walk of the document's PartOf. -/
import Derived.Test.YtdcgihplkangeaaGreatDoorColC
import Derived.Test.YtdcgihplkangeaaGreatDoorMOw
import Derived.Test.YtdcgihplkangeaaGreatDoorRegE
import Derived.Test.YtdcgihplkangeaaGreatDoorMRef
namespace Go.Proofs.YtdcgihplkangeaaGreatDoor
set_option maxHeartbeats 16000000
set_option linter.unusedVariables false
set_option linter.unusedSimpArgs false
open Go Go.RowKit Go.ChangeShapes
theorem cell_alloc {w:World} {b o:Nat} {v:Value} (h:w.cell? ⟨b,o,none⟩ = some v) (x:Obj):(w.alloc x).cell? ⟨b,o,none⟩ = some v :=
 ((Below.refl w.heap.size w).alloc (Nat.le_refl _) x).cell (p:=⟨b,o,none⟩) (block_lt_of_cell h) |>.trans h
theorem cell_in {w w':World} {B b o:Nat} {v:Value} (hb:Below B w w') (hlt:b < B) (h:w.cell? ⟨b,o,none⟩ = some v):w'.cell? ⟨b,o,none⟩ = some v :=
 (hb.cell (p:=⟨b,o,none⟩) hlt).trans h
def PtRes (f:Lf) (c:Col) (x0 x1:Nat) (e:Ending) (w':World):Prop:=∃ u,e = .returned u ∧ IsCol w' u (cutC f c x0 x1)
set_option maxRecDepth 100000 in
theorem partOf_any (f:Lf) (c:Col) (m n x0 x1:Nat) (vf vc:Value) (w:World) (hf:IsLf w vf f) (hc:IsCol w vc c) (hr:Right f c) (hl:c.rep.length ≤ 100000) (hm:(marksOf c.rep)[m]? = some x0) (hn:(marksOf c.rep)[n]? = some x1) (hmn:m ≤ n) (hn64:n ≤ 1000000) :
    Calls Tryz.prog 16 #[vf,vc,.int .i64 (m:Nat),.int .i64 (n:Nat)] w fun e w'=>PtRes f c x0 x1 e w' ∧ Below w.heap.size w w':=by
  obtain ⟨p,rfl,hp⟩:=hf
  obtain ⟨a,b,d,rfl,ha,hb,hd⟩:=hc
  have HA:=Lib.hid ha;have HB:=Lib.hid hb;have HD:=Lib.hid hd
  obtain ⟨a1,q1,e1⟩:=ha.form
  obtain ⟨a2,q2,e2⟩:=hb.form
  obtain ⟨a3,q3,e3⟩:=hd.form
  subst e1 e2 e3
  have hx01:x0 ≤ x1:=by
    rcases Nat.lt_or_ge m n with h | h
    · exact Nat.le_of_lt (marksOf_mono hm hn h)
    · obtain rfl:m = n:=by omega
      rw [hm] at hn;exact Nat.le_of_eq (Option.some.inj hn)
  have hx1l:=(marksOf_at hn).1
  have HM:=Lib.hid (marksOf_at hm).2;have HN:=Lib.hid (marksOf_at hn).2
  have Hr:=Lib.hid hr;have Hx01:=Lib.hid hx01;have Hx1l:=Lib.hid hx1l
  have hlen:=Lib.hid hr.len
  clear ha hb hd hp hm hn hr hx01 hx1l
  unfold lfA colA
  go_enter Tryz.func16,Tryz.ntmps16
  go_upto_region 5 with fail
  obtain ⟨rL,rC,rZ,rO,hbw,hz⟩:=rows4 (w:=w) (A:=.cells #[.int .i64 f.id,.int .i64 f.kind,.int .i64 f.mr,.int .i64 f.md,p] 24) (B:=.cells #[.int .i64 c.id,.slice a1 c.rep.length q1,.slice a2 c.df.length q2,.slice a3 c.vals.length q3] 27) (C:=.cells #[.int .i64 0,.slice none 0 0,.slice none 0 0,.slice none 0 0] 27) (D:=.cells #[.int .i64 c.id,.slice none 0 0,.slice none 0 0,.slice none 0 0] 27) (Below.refl _ _)
  have RL:=Lib.hid rL;have RC:=Lib.hid rC;have RZ:=Lib.hid rZ;have RO:=Lib.hid rO;have Hbw:=Lib.hid hbw
  clear rL rC rZ rO hbw hz
  generalize ((((w.alloc (.cells #[.int .i64 f.id,.int .i64 f.kind,.int .i64 f.mr,.int .i64 f.md,p] 24)).alloc (.cells #[.int .i64 c.id,.slice a1 c.rep.length q1,.slice a2 c.df.length q2,.slice a3 c.vals.length q3] 27)).alloc (.cells #[.int .i64 0,.slice none 0 0,.slice none 0 0,.slice none 0 0] 27)).alloc (.cells #[.int .i64 c.id,.slice none 0 0,.slice none 0 0,.slice none 0 0] 27)) = w0 at *
  go_loopw [10,11,12] (fun r u i wr=>∃ (k:Nat) (v1 v2 v3:Value),k ≤ c.rep.length ∧ i = .int .i64 (k:Nat) ∧ r = .int .i64 (((countC (c.rep.take k):Nat):Int) - 1) ∧ u = .int .i64 ((many f.md (c.df.take k):Nat):Int) ∧ Below w.heap.size w wr ∧
    wr.heap[w.heap.size]? = some (.cells #[.int .i64 f.id,.int .i64 f.kind,.int .i64 f.mr,.int .i64 f.md,p] 24 (0,0)) ∧ wr.heap[w.heap.size + 1]? = some (.cells #[.int .i64 c.id,.slice a1 c.rep.length q1,.slice a2 c.df.length q2,.slice a3 c.vals.length q3] 27 (0,0)) ∧ wr.heap[w.heap.size + 1 + 1]? = some (.cells #[.int .i64 0,.slice none 0 0,.slice none 0 0,.slice none 0 0] 27 (0,0)) ∧ wr.heap[w.heap.size + 1 + 1 + 1]? = some (.cells #[.int .i64 c.id,v1,v2,v3] 27 (0,0)) ∧
    wr.ownsRow (w.heap.size + 4) 3 1 v1 (partAt f c x0 x1 k).rep.length ((partAt f c x0 x1 k).rep.map iV) ∧ wr.ownsRow (w.heap.size + 4) 3 1 v2 (partAt f c x0 x1 k).df.length ((partAt f c x0 x1 k).df.map iV) ∧ wr.ownsRow (w.heap.size + 4) 62 3 v3 (partAt f c x0 x1 k).vals.length ((partAt f c x0 x1 k).vals.flatMap valCells) ∧
    (∀ q,v1.ownBlock = some q → v2.ownBlock ≠ some q) ∧ (∀ q,v1.ownBlock = some q → v3.ownBlock ≠ some q) ∧ (∀ q,v2.ownBlock = some q → v3.ownBlock ≠ some q)) (fun _ _ i _=>c.rep.length - (intOf i).toNat)
  case atStart=>exact ⟨0,.slice none 0 0,.slice none 0 0,.slice none 0 0,Nat.zero_le _,rfl,rfl,rfl,Hbw.out,RL.out,RC.out,RZ.out,RO.out,by simp [partAt,cutC];exact World.ownsRow_nil _ _ _ _,by simp [partAt,cutC];exact World.ownsRow_nil _ _ _ _,by simp [partAt,cutC,many];exact World.ownsRow_nil _ _ _ _,fun q h=>(by cases h),fun q h=>(by cases h),fun q h=>(by cases h)⟩
  case round =>
    obtain ⟨k,v1,v2,v3,hk,rfl,rfl,rfl,hbr,rL,rC,rZ,rO,ho1,ho2,ho3,d12,d13,d23⟩:=hrel
    clear RL RC RZ RO Hbw
    have RL:=Lib.hid rL;have RC:=Lib.hid rC;have RZ:=Lib.hid rZ;have RO:=Lib.hid rO;have Hbw:=Lib.hid hbr
    have HO1:=Lib.hid ho1;have HO2:=Lib.hid ho2;have HO3:=Lib.hid ho3;have D12:=Lib.hid d12;have D13:=Lib.hid d13;have D23:=Lib.hid d23
    clear rL rC rZ rO hbr ho1 ho2 ho3 d12 d13 d23
    by_cases hlt:k < c.rep.length
    case neg =>
      obtain rfl:k = c.rep.length:=by omega
      rw [partAt_all _ _ _ _ Hx1l.out] at HO1 HO2 HO3
      obtain ⟨n1,b1,c1,eu1⟩:=own_cap' HO1.out;obtain ⟨n2,b2,c2,eu2⟩:=own_cap' HO2.out;obtain ⟨n3,b3,c3,eu3⟩:=own_cap' HO3.out
      subst eu1 eu2 eu3
      have cO:=rowc RO.out;have cC:=rowc RC.out;have cZ:=rowc RZ.out;have fZ:=rowf RZ.out
      go_wp2_with fail
      refine bodyPost_ret (v:=.agg #[.int .i64 c.id,.slice b1 n1 c1,.slice b2 n2 c2,.slice b3 n3 c3]) (results_cell_row Tryz.results16 _ _ (w.heap.size + 1 + 1) 27 _ (0,0) _ rfl (row_set4 RZ.out rfl _ _ _ _) Tryz.underlying27 rfl (by kernel_rfl)) rfl ⟨⟨_,rfl,⟨_,_,_,rfl,IsInts_of_own (ownK HO1.out fun i hi _=>set4_other (by omega) _ _ _ _),IsInts_of_own (ownK HO2.out fun i hi _=>set4_other (by omega) _ _ _ _),IsVals.of_own (ownK HO3.out fun i hi _=>set4_other (by omega) _ _ _ _)⟩⟩,below_set4 Hbw.out _ (by omega) _ _ _ _⟩
    have hdl:k < c.df.length:=by have:=hlen.out;omega
    obtain ⟨g1,o1,rfl,-,lt1,e1⟩:=HA.out.at (by omega)
    obtain ⟨g2,o2,rfl,-,lt2,e2⟩:=HB.out.at (by omega)
    have E1:=Lib.hid (e1 k c.rep[k] (List.getElem?_eq_getElem hlt));have E2:=Lib.hid (e2 k c.df[k] (List.getElem?_eq_getElem hdl))
    have HR:=Lib.hid (countC_take c.rep k hlt)
    have HM1:=HM.out k hlt;have HN1:=HN.out k hlt
    have hshR:countC (c.rep.take k) ≤ k:=Nat.le_trans (List.length_filter_le _ _) (by rw [List.length_take];omega)
    have HMy:=Lib.hid (many_snocT f.md c.df k hdl)
    have hmle:many f.md (c.df.take k) ≤ c.vals.length:=by rw [← Hr.out.many];exact many_take_le' _ _ _
    have hvle:c.vals.length ≤ c.rep.length:=Hr.out.vals_le
    clear e1 e2
    have hpl:(partAt f c x0 x1 k).rep.length ≤ 100000 ∧ (partAt f c x0 x1 k).df.length ≤ 100000 ∧ (partAt f c x0 x1 k).vals.length ≤ 100000:=by
      have:=hlen.out
      simp only [partAt,cutC,List.length_drop,List.length_take]
      omega
    obtain ⟨hsp1,hsp2,hsp3⟩:=hpl
    have HPi:=Lib.hid (fun (h1:x0 ≤ k) (h2:k < x1)=>partAt_in (f:=f) hlen.out hlt h1 h2)
    have HPo:=Lib.hid (fun (h:k < x0 ∨ x1 ≤ k)=>partAt_out (f:=f) (c:=c) Hx01.out h)
    have HPv:=Lib.hid (fun (h1:x0 ≤ k) (h2:k < x1)=>partAt_vals (f:=f) Hr.out hdl h1 h2)
    have HMl:=Lib.hid (fun (h:c.df[k] = f.md)=>show many f.md (c.df.take k) < c.vals.length from by
      have h1:=many_take_le' f.md c.df (k + 1)
      rw [many_snocT f.md c.df k hdl,if_pos h,Hr.out.many] at h1
      omega)
    have Hlt:=Lib.hid hlt
    have hltI:(k:Int) < (c.rep.length:Int):=by omega
    have hdlI:(k:Int) < (c.df.length:Int):=by omega
    have cL:=rowc RL.out;have cC:=rowc RC.out;have cO:=rowc RO.out
    have y1:=cell_in Hbw.out lt1 E1.out
    generalize hxx:c.rep[k] = x at *
    generalize hyy:c.df[k] = y at *
    clear hxx hyy
    generalize hRe:countC (c.rep.take (k + 1)) = R1 at *
    have HRe:=Lib.hid hRe
    clear hRe
    generalize countC (c.rep.take k) = R at *
    generalize hMe:many f.md (c.df.take (k + 1)) = M1 at *
    have HMe:=Lib.hid hMe
    clear hMe
    generalize hMM:many f.md (c.df.take k) = M at *
    generalize hpb:partAt f c x0 x1 (k + 1) = pb at *
    have Hpb:=Lib.hid hpb
    clear hpb
    generalize partAt f c x0 x1 k = pa at *
    by_cases hx:x = 0
    case pos =>
      have hxb:(x == 0) = true:=by rw [hx];rfl
      rw [if_pos hx] at HR
      clear hx
      by_cases hin:x0 ≤ k ∧ k < x1
      case pos =>
        have hq1:=HR.out
        have t1:m ≤ R:=by omega
        have t2:R < n:=by omega
        clear hq1
        obtain ⟨hpr,hpd⟩:=HPi.out hin.1 hin.2
        have hpv:=HPv.out hin.1 hin.2
        have HPr:=Lib.hid hpr;have HPd:=Lib.hid hpd
        clear hpr hpd HPi HPo HPv HM1 HN1
        go_upto_region 11 with fail
        refine AnyE.region (S:=fun w'=>(∀ j,w'.cell? ⟨w.heap.size + 1 + 1 + 1,j,none⟩ = (#[.int .i64 c.id,v1,v2,v3]:Array Value)[j]?) ∧ (∀ j,w'.cell? ⟨w.heap.size + 1,j,none⟩ = (#[.int .i64 c.id,.slice (some ⟨g1,o1,none⟩) c.rep.length q1,.slice (some ⟨g2,o2,none⟩) c.df.length q2,.slice a3 c.vals.length q3]:Array Value)[j]?) ∧ w'.cell? ⟨g1,o1 + k,none⟩ = some (.int .i64 x)) (E:=[10]) (by kernel_rfl) ?_
        have hbd:=(Below.refl wr.heap.size wr).drew
        replace RL:=Lib.hid (row_keep hbd RL.out);replace RC:=Lib.hid (row_keep hbd RC.out);replace RZ:=Lib.hid (row_keep hbd RZ.out);replace RO:=Lib.hid (row_keep hbd RO.out);replace HO1:=Lib.hid (ownBelow HO1.out hbd);replace HO2:=Lib.hid (ownBelow HO2.out hbd);replace HO3:=Lib.hid (ownBelow HO3.out hbd);replace Hbw:=Lib.hid (Hbw.out.trans (hbd.mono Hbw.out.size))
        have z0:=cell_in Hbw.out lt1 E1.out
        have hszD:w.heap.size + 4 ≤ wr.drew.heap.size:=row_lt RO.out
        clear hbd
        generalize wr.drew = wd at *
        have hS:=(⟨rowc RO.out,rowc RC.out,z0⟩:(∀ j,wd.cell? ⟨w.heap.size + 1 + 1 + 1,j,none⟩ = (#[.int .i64 c.id,v1,v2,v3]:Array Value)[j]?) ∧ (∀ j,wd.cell? ⟨w.heap.size + 1,j,none⟩ = (#[.int .i64 c.id,.slice (some ⟨g1,o1,none⟩) c.rep.length q1,.slice (some ⟨g2,o2,none⟩) c.df.length q2,.slice a3 c.vals.length q3]:Array Value)[j]?) ∧ wd.cell? ⟨g1,o1 + k,none⟩ = some (.int .i64 x))
        refine AnyE.take (i:=0) (v:=?_) rfl (by kernel_rfl) (by kernel_rfl) (by kernel_rfl) (by kernel_rfl) (by kernel_rfl) (fun _ _ _ h=>h) (Or.inl ⟨by rfl,?_⟩) hS ?_
        rotate_left
        focus (intro wq hSq;obtain ⟨hS1,hS2,hS3⟩:=hSq;go_simp;with_reducible rfl)
        try simp only [Act.put,List.getElem_toArray,List.getElem_cons_succ,List.getElem_cons_zero,List.setIfInBounds_toArray,List.set_cons_zero,List.set_cons_succ]
        refine AnyE.take (i:=1) (v:=?_) rfl (by kernel_rfl) (by kernel_rfl) (by kernel_rfl) (by kernel_rfl) (by kernel_rfl) (fun _ _ _ h=>h) (Or.inl ⟨by rfl,?_⟩) hS ?_
        rotate_left
        focus (intro wq hSq;obtain ⟨hS1,hS2,hS3⟩:=hSq;go_simp;with_reducible rfl)
        try simp only [Act.put,List.getElem_toArray,List.getElem_cons_succ,List.getElem_cons_zero,List.setIfInBounds_toArray,List.set_cons_zero,List.set_cons_succ]
        refine AnyE.take (i:=2) (v:=?_) rfl (by kernel_rfl) (by kernel_rfl) (by kernel_rfl) (by kernel_rfl) (by kernel_rfl) (fun _ _ _ h=>h) (Or.inl ⟨by rfl,?_⟩) hS ?_
        rotate_left
        focus (intro wq hSq;obtain ⟨hS1,hS2,hS3⟩:=hSq;go_simp;with_reducible rfl)
        try simp only [Act.put,List.getElem_toArray,List.getElem_cons_succ,List.getElem_cons_zero,List.setIfInBounds_toArray,List.set_cons_zero,List.set_cons_succ]
        refine AnyE.take (i:=3) (v:=?_) rfl (by kernel_rfl) (by kernel_rfl) (by kernel_rfl) (by kernel_rfl) (by kernel_rfl) (fun _ _ _ h=>h) (Or.inl ⟨by rfl,?_⟩) hS ?_
        rotate_left
        focus (intro wq hSq;obtain ⟨hS1,hS2,hS3⟩:=hSq;go_simp;with_reducible rfl)
        try simp only [Act.put,List.getElem_toArray,List.getElem_cons_succ,List.getElem_cons_zero,List.setIfInBounds_toArray,List.set_cons_zero,List.set_cons_succ]
        refine AnyE.take (i:=4) (v:=?_) rfl (by kernel_rfl) (by kernel_rfl) (by kernel_rfl) (by kernel_rfl) (by kernel_rfl) (fun _ _ _ h=>h) (Or.inl ⟨by rfl,?_⟩) hS ?_
        rotate_left
        focus (intro wq hSq;obtain ⟨hS1,hS2,hS3⟩:=hSq;go_simp;with_reducible rfl)
        try simp only [Act.put,List.getElem_toArray,List.getElem_cons_succ,List.getElem_cons_zero,List.setIfInBounds_toArray,List.set_cons_zero,List.set_cons_succ]
        refine AnyE.take (i:=5) (v:=?_) rfl (by kernel_rfl) (by kernel_rfl) (by kernel_rfl) (by kernel_rfl) (by kernel_rfl) (fun _ _ _ h=>h) (Or.inl ⟨by rfl,?_⟩) hS ?_
        rotate_left
        focus (intro wq hSq;obtain ⟨hS1,hS2,hS3⟩:=hSq;go_simp;with_reducible rfl)
        try simp only [Act.put,List.getElem_toArray,List.getElem_cons_succ,List.getElem_cons_zero,List.setIfInBounds_toArray,List.set_cons_zero,List.set_cons_succ]
        refine AnyE.take (i:=6) (v:=?_) rfl (by kernel_rfl) (by kernel_rfl) (by kernel_rfl) (by kernel_rfl) (by kernel_rfl) (fun _ _ _ h=>h) (Or.inl ⟨by rfl,?_⟩) hS ?_
        rotate_left
        focus (intro wq hSq;obtain ⟨hS1,hS2,hS3⟩:=hSq;go_simp;with_reducible rfl)
        try simp only [Act.put,List.getElem_toArray,List.getElem_cons_succ,List.getElem_cons_zero,List.setIfInBounds_toArray,List.set_cons_zero,List.set_cons_succ]
        refine AnyE.one (i:=7) (by kernel_rfl) rfl rfl ?_
        intro K hK
        simp only [List.getElem_toArray,List.getElem_cons_succ,List.getElem_cons_zero]
        go_simp
        have hbe:=(Below.refl wd.heap.size wd).alloc (Nat.le_refl _) (.cells #[.int .i64 x] 3)
        refine hK _ _ (fun _=>⟨rowc_alloc RO.out _,rowc_alloc RC.out _,cell_alloc z0 _⟩) ?_
        clear hK K
        try simp only [Act.put,List.getElem_toArray,List.getElem_cons_succ,List.getElem_cons_zero,List.setIfInBounds_toArray,List.set_cons_zero,List.set_cons_succ]
        have RT:=Lib.hid (heap_alloc_new wd (.cells #[.int .i64 x] 3))
        replace RL:=Lib.hid (row_keep hbe RL.out);replace RC:=Lib.hid (row_keep hbe RC.out);replace RZ:=Lib.hid (row_keep hbe RZ.out);replace RO:=Lib.hid (row_keep hbe RO.out);replace HO1:=Lib.hid (ownBelow HO1.out hbe);replace HO2:=Lib.hid (ownBelow HO2.out hbe);replace HO3:=Lib.hid (ownBelow HO3.out hbe);replace Hbw:=Lib.hid (Hbw.out.trans (hbe.mono Hbw.out.size))
        replace hszD:=Nat.le_trans hszD hbe.size
        replace z0:=cell_alloc z0 (.cells #[.int .i64 x] 3)
        clear hbe hS
        generalize wd.alloc (.cells #[.int .i64 x] 3) = we at *
        generalize wd.heap.size = gt at *
        refine AnyE.one (i:=8) (by kernel_rfl) rfl rfl ?_
        intro K hK
        simp only [List.getElem_toArray,List.getElem_cons_succ,List.getElem_cons_zero]
        refine wp_appI (.tmp 42) (.tmp 48) rfl (w.heap.size + 4) v1 _ ?_ HO1.out (.slice (some ⟨gt,0,none⟩) 1 1) [x] ?_ (isInts_row [x] _ _ _ RT.out) ?_ ?_ ?_
        focus (go_simp)
        focus (go_simp)
        focus (have:=hsp1;simp only [List.length_cons,List.length_nil];omega)
        focus (omega)
        intro u1 wg ho1 hg1 hq1
        have hb1:=(Below.refl (w.heap.size + 4) we).grown hg1 hszD (fun q hq=>(HO1.out.lt q hq).1)
        have f12:=own_far HO2.out hg1 (fun q h1 h2=>D12.out q h2 h1)
        have f13:=own_far HO3.out hg1 (fun q h1 h2=>D13.out q h2 h1)
        replace RL:=Lib.hid (row_below hb1 RL.out (by omega));replace RC:=Lib.hid (row_below hb1 RC.out (by omega));replace RZ:=Lib.hid (row_below hb1 RZ.out (by omega));replace RO:=Lib.hid (row_below hb1 RO.out (by omega))
        replace D12:=Lib.hid (show ∀ q,u1.ownBlock = some q → v2.ownBlock ≠ some q from fun q hq h2=>by
          rcases hq1 with e | e
          · exact D12.out q (e ▸ hq) h2
          · rw [e] at hq;cases hq;have:=(HO2.out.lt _ h2).2;omega)
        replace D13:=Lib.hid (show ∀ q,u1.ownBlock = some q → v3.ownBlock ≠ some q from fun q hq h2=>by
          rcases hq1 with e | e
          · exact D13.out q (e ▸ hq) h2
          · rw [e] at hq;cases hq;have:=(HO3.out.lt _ h2).2;omega)
        replace HO2:=Lib.hid f12
        replace HO3:=Lib.hid f13
        replace HO1:=Lib.hid ho1
        replace Hbw:=Lib.hid (Hbw.out.trans (hb1.mono (by omega)))
        replace hszD:=Nat.le_trans hszD hb1.size
        have hS:=(⟨rowc RO.out,rowc RC.out,cell_in hb1 (Nat.lt_of_lt_of_le lt1 (Nat.le_add_right _ _)) z0⟩:(∀ j,wg.cell? ⟨w.heap.size + 1 + 1 + 1,j,none⟩ = (#[.int .i64 c.id,v1,v2,v3]:Array Value)[j]?) ∧ (∀ j,wg.cell? ⟨w.heap.size + 1,j,none⟩ = (#[.int .i64 c.id,.slice (some ⟨g1,o1,none⟩) c.rep.length q1,.slice (some ⟨g2,o2,none⟩) c.df.length q2,.slice a3 c.vals.length q3]:Array Value)[j]?) ∧ wg.cell? ⟨g1,o1 + k,none⟩ = some (.int .i64 x))
        refine hK _ _ (fun _=>hS) ?_
        clear hK K RT f12 f13 hb1 hg1 hq1 ho1 z0
        try simp only [Act.put,List.getElem_toArray,List.getElem_cons_succ,List.getElem_cons_zero,List.setIfInBounds_toArray,List.set_cons_zero,List.set_cons_succ]
        refine AnyE.take (i:=9) (v:=?_) rfl (by kernel_rfl) (by kernel_rfl) (by kernel_rfl) (by kernel_rfl) (by kernel_rfl) (fun _ _ _ h=>h) (Or.inl ⟨by rfl,?_⟩) hS ?_
        rotate_left
        focus (intro wq hSq;obtain ⟨hS1,hS2,hS3⟩:=hSq;go_simp;with_reducible rfl)
        try simp only [Act.put,List.getElem_toArray,List.getElem_cons_succ,List.getElem_cons_zero,List.setIfInBounds_toArray,List.set_cons_zero,List.set_cons_succ]
        clear hS
        obtain ⟨un1,ub1,uc1,eu⟩:=own_cap' HO1.out
        subst eu
        refine AnyE.one (i:=10) (by kernel_rfl) rfl rfl ?_
        intro K hK
        have cO:=rowc RO.out;have fO:=rowf RO.out
        simp only [List.getElem_toArray,List.getElem_cons_succ,List.getElem_cons_zero]
        go_simp
        refine hK _ _ (fun h=>by cases h) ?_
        clear hK K cO fO
        obtain ⟨s1,s2,s3,s4⟩:=store_cell_row (j:=1) (v:=.slice ub1 un1 uc1) RO.out
        replace RL:=Lib.hid ((s2 _ (by omega)).trans RL.out);replace RC:=Lib.hid ((s2 _ (by omega)).trans RC.out);replace RZ:=Lib.hid ((s2 _ (by omega)).trans RZ.out);replace Hbw:=Lib.hid (Hbw.out.trans (s3.mono (by omega)))
        replace HO1:=Lib.hid (ownK HO1.out fun i hi _=>s2 i (by omega));replace HO2:=Lib.hid (ownK HO2.out fun i hi _=>s2 i (by omega));replace HO3:=Lib.hid (ownK HO3.out fun i hi _=>s2 i (by omega))
        replace RO:=Lib.hid (s1.trans (show _ = some (.cells #[.int .i64 c.id,(.slice ub1 un1 uc1),v2,v3] 27 (0,0)) from rfl))
        clear s1;clear s2;clear s3;clear s4
        try simp only [Act.put,List.getElem_toArray,List.getElem_cons_succ,List.getElem_cons_zero,List.setIfInBounds_toArray,List.set_cons_zero,List.set_cons_succ]
        generalize wg.setCell ⟨w.heap.size + 1 + 1 + 1,1,none⟩ (.slice ub1 un1 uc1) = w2 at *
        refine AnyE.done (by kernel_rfl) ?_ _
        clear hszD
        go_upto_region 12 with fail
        refine AnyE.region (S:=fun w'=>(∀ j,w'.cell? ⟨w.heap.size + 1 + 1 + 1,j,none⟩ = (#[.int .i64 c.id,(Value.slice ub1 un1 uc1),v2,v3]:Array Value)[j]?) ∧ (∀ j,w'.cell? ⟨w.heap.size + 1,j,none⟩ = (#[.int .i64 c.id,.slice (some ⟨g1,o1,none⟩) c.rep.length q1,.slice (some ⟨g2,o2,none⟩) c.df.length q2,.slice a3 c.vals.length q3]:Array Value)[j]?) ∧ w'.cell? ⟨g2,o2 + k,none⟩ = some (.int .i64 y)) (E:=[10]) (by kernel_rfl) ?_
        have hbd:=(Below.refl w2.heap.size w2).drew
        replace RL:=Lib.hid (row_keep hbd RL.out);replace RC:=Lib.hid (row_keep hbd RC.out);replace RZ:=Lib.hid (row_keep hbd RZ.out);replace RO:=Lib.hid (row_keep hbd RO.out);replace HO1:=Lib.hid (ownBelow HO1.out hbd);replace HO2:=Lib.hid (ownBelow HO2.out hbd);replace HO3:=Lib.hid (ownBelow HO3.out hbd);replace Hbw:=Lib.hid (Hbw.out.trans (hbd.mono Hbw.out.size))
        have z0:=cell_in Hbw.out lt2 E2.out
        have hszD:w.heap.size + 4 ≤ w2.drew.heap.size:=row_lt RO.out
        clear hbd
        generalize w2.drew = wd at *
        have hS:=(⟨rowc RO.out,rowc RC.out,z0⟩:(∀ j,wd.cell? ⟨w.heap.size + 1 + 1 + 1,j,none⟩ = (#[.int .i64 c.id,(Value.slice ub1 un1 uc1),v2,v3]:Array Value)[j]?) ∧ (∀ j,wd.cell? ⟨w.heap.size + 1,j,none⟩ = (#[.int .i64 c.id,.slice (some ⟨g1,o1,none⟩) c.rep.length q1,.slice (some ⟨g2,o2,none⟩) c.df.length q2,.slice a3 c.vals.length q3]:Array Value)[j]?) ∧ wd.cell? ⟨g2,o2 + k,none⟩ = some (.int .i64 y))
        refine AnyE.take (i:=0) (v:=?_) rfl (by kernel_rfl) (by kernel_rfl) (by kernel_rfl) (by kernel_rfl) (by kernel_rfl) (fun _ _ _ h=>h) (Or.inl ⟨by rfl,?_⟩) hS ?_
        rotate_left
        focus (intro wq hSq;obtain ⟨hS1,hS2,hS3⟩:=hSq;go_simp;with_reducible rfl)
        try simp only [Act.put,List.getElem_toArray,List.getElem_cons_succ,List.getElem_cons_zero,List.setIfInBounds_toArray,List.set_cons_zero,List.set_cons_succ]
        refine AnyE.take (i:=1) (v:=?_) rfl (by kernel_rfl) (by kernel_rfl) (by kernel_rfl) (by kernel_rfl) (by kernel_rfl) (fun _ _ _ h=>h) (Or.inl ⟨by rfl,?_⟩) hS ?_
        rotate_left
        focus (intro wq hSq;obtain ⟨hS1,hS2,hS3⟩:=hSq;go_simp;with_reducible rfl)
        try simp only [Act.put,List.getElem_toArray,List.getElem_cons_succ,List.getElem_cons_zero,List.setIfInBounds_toArray,List.set_cons_zero,List.set_cons_succ]
        refine AnyE.take (i:=2) (v:=?_) rfl (by kernel_rfl) (by kernel_rfl) (by kernel_rfl) (by kernel_rfl) (by kernel_rfl) (fun _ _ _ h=>h) (Or.inl ⟨by rfl,?_⟩) hS ?_
        rotate_left
        focus (intro wq hSq;obtain ⟨hS1,hS2,hS3⟩:=hSq;go_simp;with_reducible rfl)
        try simp only [Act.put,List.getElem_toArray,List.getElem_cons_succ,List.getElem_cons_zero,List.setIfInBounds_toArray,List.set_cons_zero,List.set_cons_succ]
        refine AnyE.take (i:=3) (v:=?_) rfl (by kernel_rfl) (by kernel_rfl) (by kernel_rfl) (by kernel_rfl) (by kernel_rfl) (fun _ _ _ h=>h) (Or.inl ⟨by rfl,?_⟩) hS ?_
        rotate_left
        focus (intro wq hSq;obtain ⟨hS1,hS2,hS3⟩:=hSq;go_simp;with_reducible rfl)
        try simp only [Act.put,List.getElem_toArray,List.getElem_cons_succ,List.getElem_cons_zero,List.setIfInBounds_toArray,List.set_cons_zero,List.set_cons_succ]
        refine AnyE.take (i:=4) (v:=?_) rfl (by kernel_rfl) (by kernel_rfl) (by kernel_rfl) (by kernel_rfl) (by kernel_rfl) (fun _ _ _ h=>h) (Or.inl ⟨by rfl,?_⟩) hS ?_
        rotate_left
        focus (intro wq hSq;obtain ⟨hS1,hS2,hS3⟩:=hSq;go_simp;with_reducible rfl)
        try simp only [Act.put,List.getElem_toArray,List.getElem_cons_succ,List.getElem_cons_zero,List.setIfInBounds_toArray,List.set_cons_zero,List.set_cons_succ]
        refine AnyE.take (i:=5) (v:=?_) rfl (by kernel_rfl) (by kernel_rfl) (by kernel_rfl) (by kernel_rfl) (by kernel_rfl) (fun _ _ _ h=>h) (Or.inl ⟨by rfl,?_⟩) hS ?_
        rotate_left
        focus (intro wq hSq;obtain ⟨hS1,hS2,hS3⟩:=hSq;go_simp;with_reducible rfl)
        try simp only [Act.put,List.getElem_toArray,List.getElem_cons_succ,List.getElem_cons_zero,List.setIfInBounds_toArray,List.set_cons_zero,List.set_cons_succ]
        refine AnyE.take (i:=6) (v:=?_) rfl (by kernel_rfl) (by kernel_rfl) (by kernel_rfl) (by kernel_rfl) (by kernel_rfl) (fun _ _ _ h=>h) (Or.inl ⟨by rfl,?_⟩) hS ?_
        rotate_left
        focus (intro wq hSq;obtain ⟨hS1,hS2,hS3⟩:=hSq;go_simp;with_reducible rfl)
        try simp only [Act.put,List.getElem_toArray,List.getElem_cons_succ,List.getElem_cons_zero,List.setIfInBounds_toArray,List.set_cons_zero,List.set_cons_succ]
        refine AnyE.one (i:=7) (by kernel_rfl) rfl rfl ?_
        intro K hK
        simp only [List.getElem_toArray,List.getElem_cons_succ,List.getElem_cons_zero]
        go_simp
        have hbe:=(Below.refl wd.heap.size wd).alloc (Nat.le_refl _) (.cells #[.int .i64 y] 3)
        refine hK _ _ (fun _=>⟨rowc_alloc RO.out _,rowc_alloc RC.out _,cell_alloc z0 _⟩) ?_
        clear hK K
        try simp only [Act.put,List.getElem_toArray,List.getElem_cons_succ,List.getElem_cons_zero,List.setIfInBounds_toArray,List.set_cons_zero,List.set_cons_succ]
        have RT:=Lib.hid (heap_alloc_new wd (.cells #[.int .i64 y] 3))
        replace RL:=Lib.hid (row_keep hbe RL.out);replace RC:=Lib.hid (row_keep hbe RC.out);replace RZ:=Lib.hid (row_keep hbe RZ.out);replace RO:=Lib.hid (row_keep hbe RO.out);replace HO1:=Lib.hid (ownBelow HO1.out hbe);replace HO2:=Lib.hid (ownBelow HO2.out hbe);replace HO3:=Lib.hid (ownBelow HO3.out hbe);replace Hbw:=Lib.hid (Hbw.out.trans (hbe.mono Hbw.out.size))
        replace hszD:=Nat.le_trans hszD hbe.size
        replace z0:=cell_alloc z0 (.cells #[.int .i64 y] 3)
        clear hbe hS
        generalize wd.alloc (.cells #[.int .i64 y] 3) = we at *
        generalize wd.heap.size = gt at *
        refine AnyE.one (i:=8) (by kernel_rfl) rfl rfl ?_
        intro K hK
        simp only [List.getElem_toArray,List.getElem_cons_succ,List.getElem_cons_zero]
        refine wp_appI (.tmp 52) (.tmp 58) rfl (w.heap.size + 4) v2 _ ?_ HO2.out (.slice (some ⟨gt,0,none⟩) 1 1) [y] ?_ (isInts_row [y] _ _ _ RT.out) ?_ ?_ ?_
        focus (go_simp)
        focus (go_simp)
        focus (have:=hsp2;simp only [List.length_cons,List.length_nil];omega)
        focus (omega)
        intro u2 wg ho2 hg2 hq2
        have hb2:=(Below.refl (w.heap.size + 4) we).grown hg2 hszD (fun q hq=>(HO2.out.lt q hq).1)
        have f21:=own_far HO1.out hg2 (fun q h1 h2=>D12.out q h1 h2)
        have f23:=own_far HO3.out hg2 (fun q h1 h2=>D23.out q h2 h1)
        replace RL:=Lib.hid (row_below hb2 RL.out (by omega));replace RC:=Lib.hid (row_below hb2 RC.out (by omega));replace RZ:=Lib.hid (row_below hb2 RZ.out (by omega));replace RO:=Lib.hid (row_below hb2 RO.out (by omega))
        replace D12:=Lib.hid (show ∀ q,(Value.slice ub1 un1 uc1).ownBlock = some q → u2.ownBlock ≠ some q from fun q h2 hq=>by
          rcases hq2 with e | e
          · exact D12.out q h2 (e ▸ hq)
          · rw [e] at hq;cases hq;have:=(HO1.out.lt _ h2).2;omega)
        replace D23:=Lib.hid (show ∀ q,u2.ownBlock = some q → v3.ownBlock ≠ some q from fun q hq h2=>by
          rcases hq2 with e | e
          · exact D23.out q (e ▸ hq) h2
          · rw [e] at hq;cases hq;have:=(HO3.out.lt _ h2).2;omega)
        replace HO1:=Lib.hid f21
        replace HO3:=Lib.hid f23
        replace HO2:=Lib.hid ho2
        replace Hbw:=Lib.hid (Hbw.out.trans (hb2.mono (by omega)))
        replace hszD:=Nat.le_trans hszD hb2.size
        have hS:=(⟨rowc RO.out,rowc RC.out,cell_in hb2 (Nat.lt_of_lt_of_le lt2 (Nat.le_add_right _ _)) z0⟩:(∀ j,wg.cell? ⟨w.heap.size + 1 + 1 + 1,j,none⟩ = (#[.int .i64 c.id,(Value.slice ub1 un1 uc1),v2,v3]:Array Value)[j]?) ∧ (∀ j,wg.cell? ⟨w.heap.size + 1,j,none⟩ = (#[.int .i64 c.id,.slice (some ⟨g1,o1,none⟩) c.rep.length q1,.slice (some ⟨g2,o2,none⟩) c.df.length q2,.slice a3 c.vals.length q3]:Array Value)[j]?) ∧ wg.cell? ⟨g2,o2 + k,none⟩ = some (.int .i64 y))
        refine hK _ _ (fun _=>hS) ?_
        clear hK K RT f21 f23 hb2 hg2 hq2 ho2 z0
        try simp only [Act.put,List.getElem_toArray,List.getElem_cons_succ,List.getElem_cons_zero,List.setIfInBounds_toArray,List.set_cons_zero,List.set_cons_succ]
        refine AnyE.take (i:=9) (v:=?_) rfl (by kernel_rfl) (by kernel_rfl) (by kernel_rfl) (by kernel_rfl) (by kernel_rfl) (fun _ _ _ h=>h) (Or.inl ⟨by rfl,?_⟩) hS ?_
        rotate_left
        focus (intro wq hSq;obtain ⟨hS1,hS2,hS3⟩:=hSq;go_simp;with_reducible rfl)
        try simp only [Act.put,List.getElem_toArray,List.getElem_cons_succ,List.getElem_cons_zero,List.setIfInBounds_toArray,List.set_cons_zero,List.set_cons_succ]
        clear hS
        obtain ⟨un2,ub2,uc2,eu⟩:=own_cap' HO2.out
        subst eu
        refine AnyE.one (i:=10) (by kernel_rfl) rfl rfl ?_
        intro K hK
        have cO:=rowc RO.out;have fO:=rowf RO.out
        simp only [List.getElem_toArray,List.getElem_cons_succ,List.getElem_cons_zero]
        go_simp
        refine hK _ _ (fun h=>by cases h) ?_
        clear hK K cO fO
        obtain ⟨s1,s2,s3,s4⟩:=store_cell_row (j:=2) (v:=.slice ub2 un2 uc2) RO.out
        replace RL:=Lib.hid ((s2 _ (by omega)).trans RL.out);replace RC:=Lib.hid ((s2 _ (by omega)).trans RC.out);replace RZ:=Lib.hid ((s2 _ (by omega)).trans RZ.out);replace Hbw:=Lib.hid (Hbw.out.trans (s3.mono (by omega)))
        replace HO1:=Lib.hid (ownK HO1.out fun i hi _=>s2 i (by omega));replace HO2:=Lib.hid (ownK HO2.out fun i hi _=>s2 i (by omega));replace HO3:=Lib.hid (ownK HO3.out fun i hi _=>s2 i (by omega))
        replace RO:=Lib.hid (s1.trans (show _ = some (.cells #[.int .i64 c.id,(Value.slice ub1 un1 uc1),(.slice ub2 un2 uc2),v3] 27 (0,0)) from rfl))
        clear s1;clear s2;clear s3;clear s4
        try simp only [Act.put,List.getElem_toArray,List.getElem_cons_succ,List.getElem_cons_zero,List.setIfInBounds_toArray,List.set_cons_zero,List.set_cons_succ]
        generalize wg.setCell ⟨w.heap.size + 1 + 1 + 1,2,none⟩ (.slice ub2 un2 uc2) = w4 at *
        refine AnyE.done (by kernel_rfl) ?_ _
        clear hszD
        clear cL cC cO y1
        have cL:=rowc RL.out;have cC:=rowc RC.out;have cO:=rowc RO.out
        by_cases hy:y = f.md
        case pos =>
          have hyb:(y == f.md) = true:=by simpa using hy
          rw [if_pos hy] at hpv HMy
          have hMl:=HMl.out hy
          have HPw:=Lib.hid hpv
          clear hy hpv
          obtain ⟨g3,o3,rfl,-,lt3,e3⟩:=HD.out.at (by omega)
          have E3:=Lib.hid (e3 M c.vals[M] (List.getElem?_eq_getElem hMl))
          have hgv:c.vals.getD M ⟨0,0,⟨#[]⟩⟩ = c.vals[M]:=by rw [List.getD_eq_getElem?_getD,List.getElem?_eq_getElem hMl];rfl
          rw [hgv] at HPw
          have hMI:(M:Int) < (c.vals.length:Int):=by omega
          clear hgv e3
          generalize c.vals[M] = z at *
          have y2:=cell_in Hbw.out lt2 E2.out
          go_upto_region 13 with fail
          go_quiet (fail)
          have hbq:=below_drewN (Below.refl w4.heap.size w4) nq
          replace RL:=Lib.hid (row_keep hbq RL.out);replace RC:=Lib.hid (row_keep hbq RC.out);replace RZ:=Lib.hid (row_keep hbq RZ.out);replace RO:=Lib.hid (row_keep hbq RO.out);replace HO1:=Lib.hid (ownBelow HO1.out hbq);replace HO2:=Lib.hid (ownBelow HO2.out hbq);replace HO3:=Lib.hid (ownBelow HO3.out hbq);replace Hbw:=Lib.hid (Hbw.out.trans (hbq.mono Hbw.out.size))
          clear hbq y2 cL cC cO
          generalize w4.drewN nq = w5 at *
          have cL:=rowc RL.out;have cC:=rowc RC.out;have cO:=rowc RO.out
          go_upto_region 15 with fail
          refine AnyE.region (S:=fun w'=>(∀ j,w'.cell? ⟨w.heap.size + 1 + 1 + 1,j,none⟩ = (#[.int .i64 c.id,(Value.slice ub1 un1 uc1),(Value.slice ub2 un2 uc2),v3]:Array Value)[j]?) ∧ (∀ j,w'.cell? ⟨w.heap.size + 1,j,none⟩ = (#[.int .i64 c.id,.slice (some ⟨g1,o1,none⟩) c.rep.length q1,.slice (some ⟨g2,o2,none⟩) c.df.length q2,.slice (some ⟨g3,o3,none⟩) c.vals.length q3]:Array Value)[j]?) ∧ w'.cell? ⟨g3,o3 + M * 3,none⟩ = some (.int .i64 z.k) ∧ w'.cell? ⟨g3,o3 + M * 3 + 1,none⟩ = some (.int .i64 z.n) ∧ w'.cell? ⟨g3,o3 + M * 3 + 2,none⟩ = some (.string z.s)) (E:=[10]) (by kernel_rfl) ?_
          have hbd:=(Below.refl w5.heap.size w5).drew
          replace RL:=Lib.hid (row_keep hbd RL.out);replace RC:=Lib.hid (row_keep hbd RC.out);replace RZ:=Lib.hid (row_keep hbd RZ.out);replace RO:=Lib.hid (row_keep hbd RO.out);replace HO1:=Lib.hid (ownBelow HO1.out hbd);replace HO2:=Lib.hid (ownBelow HO2.out hbd);replace HO3:=Lib.hid (ownBelow HO3.out hbd);replace Hbw:=Lib.hid (Hbw.out.trans (hbd.mono Hbw.out.size))
          have z0:=cell_in Hbw.out lt3 E3.out.1
          have z1:=cell_in Hbw.out lt3 E3.out.2.1
          have z2:=cell_in Hbw.out lt3 E3.out.2.2
          have hszD:w.heap.size + 4 ≤ w5.drew.heap.size:=row_lt RO.out
          clear hbd
          generalize w5.drew = wd at *
          have hS:=(⟨rowc RO.out,rowc RC.out,z0,z1,z2⟩:(∀ j,wd.cell? ⟨w.heap.size + 1 + 1 + 1,j,none⟩ = (#[.int .i64 c.id,(Value.slice ub1 un1 uc1),(Value.slice ub2 un2 uc2),v3]:Array Value)[j]?) ∧ (∀ j,wd.cell? ⟨w.heap.size + 1,j,none⟩ = (#[.int .i64 c.id,.slice (some ⟨g1,o1,none⟩) c.rep.length q1,.slice (some ⟨g2,o2,none⟩) c.df.length q2,.slice (some ⟨g3,o3,none⟩) c.vals.length q3]:Array Value)[j]?) ∧ wd.cell? ⟨g3,o3 + M * 3,none⟩ = some (.int .i64 z.k) ∧ wd.cell? ⟨g3,o3 + M * 3 + 1,none⟩ = some (.int .i64 z.n) ∧ wd.cell? ⟨g3,o3 + M * 3 + 2,none⟩ = some (.string z.s))
          refine AnyE.take (i:=0) (v:=?_) rfl (by kernel_rfl) (by kernel_rfl) (by kernel_rfl) (by kernel_rfl) (by kernel_rfl) (fun _ _ _ h=>h) (Or.inl ⟨by rfl,?_⟩) hS ?_
          rotate_left
          focus (intro wq hSq;obtain ⟨hS1,hS2,hS3,hS4,hS5⟩:=hSq;go_simp;with_reducible rfl)
          try simp only [Act.put,List.getElem_toArray,List.getElem_cons_succ,List.getElem_cons_zero,List.setIfInBounds_toArray,List.set_cons_zero,List.set_cons_succ]
          refine AnyE.take (i:=1) (v:=?_) rfl (by kernel_rfl) (by kernel_rfl) (by kernel_rfl) (by kernel_rfl) (by kernel_rfl) (fun _ _ _ h=>h) (Or.inl ⟨by rfl,?_⟩) hS ?_
          rotate_left
          focus (intro wq hSq;obtain ⟨hS1,hS2,hS3,hS4,hS5⟩:=hSq;go_simp;with_reducible rfl)
          try simp only [Act.put,List.getElem_toArray,List.getElem_cons_succ,List.getElem_cons_zero,List.setIfInBounds_toArray,List.set_cons_zero,List.set_cons_succ]
          refine AnyE.take (i:=2) (v:=?_) rfl (by kernel_rfl) (by kernel_rfl) (by kernel_rfl) (by kernel_rfl) (by kernel_rfl) (fun _ _ _ h=>h) (Or.inl ⟨by rfl,?_⟩) hS ?_
          rotate_left
          focus (intro wq hSq;obtain ⟨hS1,hS2,hS3,hS4,hS5⟩:=hSq;go_simp;with_reducible rfl)
          try simp only [Act.put,List.getElem_toArray,List.getElem_cons_succ,List.getElem_cons_zero,List.setIfInBounds_toArray,List.set_cons_zero,List.set_cons_succ]
          refine AnyE.take (i:=3) (v:=?_) rfl (by kernel_rfl) (by kernel_rfl) (by kernel_rfl) (by kernel_rfl) (by kernel_rfl) (fun _ _ _ h=>h) (Or.inl ⟨by rfl,?_⟩) hS ?_
          rotate_left
          focus (intro wq hSq;obtain ⟨hS1,hS2,hS3,hS4,hS5⟩:=hSq;go_simp;with_reducible rfl)
          try simp only [Act.put,List.getElem_toArray,List.getElem_cons_succ,List.getElem_cons_zero,List.setIfInBounds_toArray,List.set_cons_zero,List.set_cons_succ]
          refine AnyE.take (i:=4) (v:=?_) rfl (by kernel_rfl) (by kernel_rfl) (by kernel_rfl) (by kernel_rfl) (by kernel_rfl) (fun _ _ _ h=>h) (Or.inl ⟨by rfl,?_⟩) hS ?_
          rotate_left
          focus (intro wq hSq;obtain ⟨hS1,hS2,hS3,hS4,hS5⟩:=hSq;go_simp;with_reducible rfl)
          try simp only [Act.put,List.getElem_toArray,List.getElem_cons_succ,List.getElem_cons_zero,List.setIfInBounds_toArray,List.set_cons_zero,List.set_cons_succ]
          refine AnyE.take (i:=5) (v:=?_) rfl (by kernel_rfl) (by kernel_rfl) (by kernel_rfl) (by kernel_rfl) (by kernel_rfl) (fun _ _ _ h=>h) (Or.inl ⟨by rfl,?_⟩) hS ?_
          rotate_left
          focus (intro wq hSq;obtain ⟨hS1,hS2,hS3,hS4,hS5⟩:=hSq;go_simp;with_reducible rfl)
          try simp only [Act.put,List.getElem_toArray,List.getElem_cons_succ,List.getElem_cons_zero,List.setIfInBounds_toArray,List.set_cons_zero,List.set_cons_succ]
          refine AnyE.take (i:=6) (v:=?_) rfl (by kernel_rfl) (by kernel_rfl) (by kernel_rfl) (by kernel_rfl) (by kernel_rfl) (fun _ _ _ h=>h) (Or.inl ⟨by rfl,?_⟩) hS ?_
          rotate_left
          focus (intro wq hSq;obtain ⟨hS1,hS2,hS3,hS4,hS5⟩:=hSq;go_simp;with_reducible rfl)
          try simp only [Act.put,List.getElem_toArray,List.getElem_cons_succ,List.getElem_cons_zero,List.setIfInBounds_toArray,List.set_cons_zero,List.set_cons_succ]
          refine AnyE.one (i:=7) (by kernel_rfl) rfl rfl ?_
          intro K hK
          simp only [List.getElem_toArray,List.getElem_cons_succ,List.getElem_cons_zero]
          go_simp
          have hbe:=(Below.refl wd.heap.size wd).alloc (Nat.le_refl _) (.cells #[.int .i64 z.k,.int .i64 z.n,.string z.s] 62)
          refine hK _ _ (fun _=>⟨rowc_alloc RO.out _,rowc_alloc RC.out _,cell_alloc z0 _,cell_alloc z1 _,cell_alloc z2 _⟩) ?_
          clear hK K
          try simp only [Act.put,List.getElem_toArray,List.getElem_cons_succ,List.getElem_cons_zero,List.setIfInBounds_toArray,List.set_cons_zero,List.set_cons_succ]
          have RT:=Lib.hid (heap_alloc_new wd (.cells #[.int .i64 z.k,.int .i64 z.n,.string z.s] 62))
          replace RL:=Lib.hid (row_keep hbe RL.out);replace RC:=Lib.hid (row_keep hbe RC.out);replace RZ:=Lib.hid (row_keep hbe RZ.out);replace RO:=Lib.hid (row_keep hbe RO.out);replace HO1:=Lib.hid (ownBelow HO1.out hbe);replace HO2:=Lib.hid (ownBelow HO2.out hbe);replace HO3:=Lib.hid (ownBelow HO3.out hbe);replace Hbw:=Lib.hid (Hbw.out.trans (hbe.mono Hbw.out.size))
          replace hszD:=Nat.le_trans hszD hbe.size
          replace z0:=cell_alloc z0 (.cells #[.int .i64 z.k,.int .i64 z.n,.string z.s] 62)
          replace z1:=cell_alloc z1 (.cells #[.int .i64 z.k,.int .i64 z.n,.string z.s] 62)
          replace z2:=cell_alloc z2 (.cells #[.int .i64 z.k,.int .i64 z.n,.string z.s] 62)
          clear hbe hS
          generalize wd.alloc (.cells #[.int .i64 z.k,.int .i64 z.n,.string z.s] 62) = we at *
          generalize wd.heap.size = gt at *
          refine AnyE.one (i:=8) (by kernel_rfl) rfl rfl ?_
          intro K hK
          simp only [List.getElem_toArray,List.getElem_cons_succ,List.getElem_cons_zero]
          refine wp_appV (.tmp 71) (.tmp 77) rfl (w.heap.size + 4) v3 _ ?_ HO3.out (.slice (some ⟨gt,0,none⟩) 1 1) [z] ?_ (isVals_row [z] _ _ _ RT.out) ?_ ?_ ?_
          focus (go_simp)
          focus (go_simp)
          focus (have:=hsp3;simp only [List.length_cons,List.length_nil];omega)
          focus (omega)
          intro u3 wg ho3 hg3 hq3
          have hb3:=(Below.refl (w.heap.size + 4) we).grown hg3 hszD (fun q hq=>(HO3.out.lt q hq).1)
          have f31:=own_far HO1.out hg3 (fun q h1 h2=>D13.out q h1 h2)
          have f32:=own_far HO2.out hg3 (fun q h1 h2=>D23.out q h1 h2)
          replace RL:=Lib.hid (row_below hb3 RL.out (by omega));replace RC:=Lib.hid (row_below hb3 RC.out (by omega));replace RZ:=Lib.hid (row_below hb3 RZ.out (by omega));replace RO:=Lib.hid (row_below hb3 RO.out (by omega))
          replace D13:=Lib.hid (show ∀ q,(Value.slice ub1 un1 uc1).ownBlock = some q → u3.ownBlock ≠ some q from fun q h2 hq=>by
            rcases hq3 with e | e
            · exact D13.out q h2 (e ▸ hq)
            · rw [e] at hq;cases hq;have:=(HO1.out.lt _ h2).2;omega)
          replace D23:=Lib.hid (show ∀ q,(Value.slice ub2 un2 uc2).ownBlock = some q → u3.ownBlock ≠ some q from fun q h2 hq=>by
            rcases hq3 with e | e
            · exact D23.out q h2 (e ▸ hq)
            · rw [e] at hq;cases hq;have:=(HO2.out.lt _ h2).2;omega)
          replace HO1:=Lib.hid f31
          replace HO2:=Lib.hid f32
          replace HO3:=Lib.hid ho3
          replace Hbw:=Lib.hid (Hbw.out.trans (hb3.mono (by omega)))
          replace hszD:=Nat.le_trans hszD hb3.size
          have hS:=(⟨rowc RO.out,rowc RC.out,cell_in hb3 (Nat.lt_of_lt_of_le lt3 (Nat.le_add_right _ _)) z0,cell_in hb3 (Nat.lt_of_lt_of_le lt3 (Nat.le_add_right _ _)) z1,cell_in hb3 (Nat.lt_of_lt_of_le lt3 (Nat.le_add_right _ _)) z2⟩:(∀ j,wg.cell? ⟨w.heap.size + 1 + 1 + 1,j,none⟩ = (#[.int .i64 c.id,(Value.slice ub1 un1 uc1),(Value.slice ub2 un2 uc2),v3]:Array Value)[j]?) ∧ (∀ j,wg.cell? ⟨w.heap.size + 1,j,none⟩ = (#[.int .i64 c.id,.slice (some ⟨g1,o1,none⟩) c.rep.length q1,.slice (some ⟨g2,o2,none⟩) c.df.length q2,.slice (some ⟨g3,o3,none⟩) c.vals.length q3]:Array Value)[j]?) ∧ wg.cell? ⟨g3,o3 + M * 3,none⟩ = some (.int .i64 z.k) ∧ wg.cell? ⟨g3,o3 + M * 3 + 1,none⟩ = some (.int .i64 z.n) ∧ wg.cell? ⟨g3,o3 + M * 3 + 2,none⟩ = some (.string z.s))
          refine hK _ _ (fun _=>hS) ?_
          clear hK K RT f31 f32 hb3 hg3 hq3 ho3 z0 z1 z2
          try simp only [Act.put,List.getElem_toArray,List.getElem_cons_succ,List.getElem_cons_zero,List.setIfInBounds_toArray,List.set_cons_zero,List.set_cons_succ]
          refine AnyE.take (i:=9) (v:=?_) rfl (by kernel_rfl) (by kernel_rfl) (by kernel_rfl) (by kernel_rfl) (by kernel_rfl) (fun _ _ _ h=>h) (Or.inl ⟨by rfl,?_⟩) hS ?_
          rotate_left
          focus (intro wq hSq;obtain ⟨hS1,hS2,hS3,hS4,hS5⟩:=hSq;go_simp;with_reducible rfl)
          try simp only [Act.put,List.getElem_toArray,List.getElem_cons_succ,List.getElem_cons_zero,List.setIfInBounds_toArray,List.set_cons_zero,List.set_cons_succ]
          clear hS
          obtain ⟨un3,ub3,uc3,eu⟩:=own_cap' HO3.out
          subst eu
          refine AnyE.one (i:=10) (by kernel_rfl) rfl rfl ?_
          intro K hK
          have cO:=rowc RO.out;have fO:=rowf RO.out
          simp only [List.getElem_toArray,List.getElem_cons_succ,List.getElem_cons_zero]
          go_simp
          refine hK _ _ (fun h=>by cases h) ?_
          clear hK K cO fO
          obtain ⟨s1,s2,s3,s4⟩:=store_cell_row (j:=3) (v:=.slice ub3 un3 uc3) RO.out
          replace RL:=Lib.hid ((s2 _ (by omega)).trans RL.out);replace RC:=Lib.hid ((s2 _ (by omega)).trans RC.out);replace RZ:=Lib.hid ((s2 _ (by omega)).trans RZ.out);replace Hbw:=Lib.hid (Hbw.out.trans (s3.mono (by omega)))
          replace HO1:=Lib.hid (ownK HO1.out fun i hi _=>s2 i (by omega));replace HO2:=Lib.hid (ownK HO2.out fun i hi _=>s2 i (by omega));replace HO3:=Lib.hid (ownK HO3.out fun i hi _=>s2 i (by omega))
          replace RO:=Lib.hid (s1.trans (show _ = some (.cells #[.int .i64 c.id,(Value.slice ub1 un1 uc1),(Value.slice ub2 un2 uc2),(.slice ub3 un3 uc3)] 27 (0,0)) from rfl))
          clear s1;clear s2;clear s3;clear s4
          try simp only [Act.put,List.getElem_toArray,List.getElem_cons_succ,List.getElem_cons_zero,List.setIfInBounds_toArray,List.set_cons_zero,List.set_cons_succ]
          generalize wg.setCell ⟨w.heap.size + 1 + 1 + 1,3,none⟩ (.slice ub3 un3 uc3) = w7 at *
          refine AnyE.done (by kernel_rfl) ?_ _
          clear hszD
          go_wp2_with fail
          go_roundw
          case rel=>exact ⟨k + 1,(Value.slice ub1 un1 uc1),(Value.slice ub2 un2 uc2),(Value.slice ub3 un3 uc3),Hlt.out,by go_num,(by rw [HRe.out];have:=HR.out;congr 1;omega),(by rw [HMe.out];have:=HMy.out;congr 1;omega),Hbw.out,RL.out,RC.out,RZ.out,RO.out,by rw [Hpb.out,HPr.out];exact HO1.out,by rw [Hpb.out,HPd.out];exact HO2.out,by rw [Hpb.out,HPw.out];exact HO3.out,D12.out,D13.out,D23.out⟩
          case measure=>have:=Hlt.out;simp [intOf];omega
        have hyb:(y == f.md) = false:=by simpa using hy
        rw [if_neg hy] at hpv HMy
        rw [List.append_nil] at hpv
        have HPw:=Lib.hid hpv
        clear hy hpv
        have y2:=cell_in Hbw.out lt2 E2.out
        go_upto_region 13 with fail
        go_quiet (fail)
        have hbq:=below_drewN (Below.refl w4.heap.size w4) nq
        replace RL:=Lib.hid (row_keep hbq RL.out);replace RC:=Lib.hid (row_keep hbq RC.out);replace RZ:=Lib.hid (row_keep hbq RZ.out);replace RO:=Lib.hid (row_keep hbq RO.out);replace HO1:=Lib.hid (ownBelow HO1.out hbq);replace HO2:=Lib.hid (ownBelow HO2.out hbq);replace HO3:=Lib.hid (ownBelow HO3.out hbq);replace Hbw:=Lib.hid (Hbw.out.trans (hbq.mono Hbw.out.size))
        clear hbq y2 cL cC cO
        generalize w4.drewN nq = w5 at *
        have cL:=rowc RL.out;have cC:=rowc RC.out;have cO:=rowc RO.out
        go_wp2_with fail
        go_roundw
        case rel=>exact ⟨k + 1,(Value.slice ub1 un1 uc1),(Value.slice ub2 un2 uc2),v3,Hlt.out,by go_num,(by rw [HRe.out];have:=HR.out;congr 1;omega),(by rw [HMe.out];have:=HMy.out;congr 1;omega),Hbw.out,RL.out,RC.out,RZ.out,RO.out,by rw [Hpb.out,HPr.out];exact HO1.out,by rw [Hpb.out,HPd.out];exact HO2.out,by rw [Hpb.out,HPw.out];exact HO3.out,D12.out,D13.out,D23.out⟩
        case measure=>have:=Hlt.out;simp [intOf];omega
      by_cases hin1:x0 ≤ k
      case pos =>
        have hin2:x1 ≤ k:=by omega
        have hq1:=HR.out
        have t1:m ≤ R:=by omega
        have t2:¬ R < n:=by omega
        clear hq1
        have hpo:=HPo.out (by omega)
        subst hpo
        clear HPi HPo HPv HM1 HN1
        by_cases hy:y = f.md
        case pos =>
          have hyb:(y == f.md) = true:=by simpa using hy
          rw [if_pos hy] at HMy
          clear hy
          have y2:=cell_in Hbw.out lt2 E2.out
          go_upto_region 13 with fail
          go_quiet (fail)
          have hbq:=below_drewN (Below.refl wr.heap.size wr) nq
          replace RL:=Lib.hid (row_keep hbq RL.out);replace RC:=Lib.hid (row_keep hbq RC.out);replace RZ:=Lib.hid (row_keep hbq RZ.out);replace RO:=Lib.hid (row_keep hbq RO.out);replace HO1:=Lib.hid (ownBelow HO1.out hbq);replace HO2:=Lib.hid (ownBelow HO2.out hbq);replace HO3:=Lib.hid (ownBelow HO3.out hbq);replace Hbw:=Lib.hid (Hbw.out.trans (hbq.mono Hbw.out.size))
          clear hbq y2 cL cC cO
          generalize wr.drewN nq = w5 at *
          have cL:=rowc RL.out;have cC:=rowc RC.out;have cO:=rowc RO.out
          go_wp2_with fail
          go_roundw
          case rel=>exact ⟨k + 1,v1,v2,v3,Hlt.out,by go_num,(by rw [HRe.out];have:=HR.out;congr 1;omega),(by rw [HMe.out];have:=HMy.out;congr 1;omega),Hbw.out,RL.out,RC.out,RZ.out,RO.out,by rw [Hpb.out];exact HO1.out,by rw [Hpb.out];exact HO2.out,by rw [Hpb.out];exact HO3.out,D12.out,D13.out,D23.out⟩
          case measure=>have:=Hlt.out;simp [intOf];omega
        have hyb:(y == f.md) = false:=by simpa using hy
        rw [if_neg hy] at HMy
        clear hy
        have y2:=cell_in Hbw.out lt2 E2.out
        go_upto_region 13 with fail
        go_quiet (fail)
        have hbq:=below_drewN (Below.refl wr.heap.size wr) nq
        replace RL:=Lib.hid (row_keep hbq RL.out);replace RC:=Lib.hid (row_keep hbq RC.out);replace RZ:=Lib.hid (row_keep hbq RZ.out);replace RO:=Lib.hid (row_keep hbq RO.out);replace HO1:=Lib.hid (ownBelow HO1.out hbq);replace HO2:=Lib.hid (ownBelow HO2.out hbq);replace HO3:=Lib.hid (ownBelow HO3.out hbq);replace Hbw:=Lib.hid (Hbw.out.trans (hbq.mono Hbw.out.size))
        clear hbq y2 cL cC cO
        generalize wr.drewN nq = w5 at *
        have cL:=rowc RL.out;have cC:=rowc RC.out;have cO:=rowc RO.out
        go_wp2_with fail
        go_roundw
        case rel=>exact ⟨k + 1,v1,v2,v3,Hlt.out,by go_num,(by rw [HRe.out];have:=HR.out;congr 1;omega),(by rw [HMe.out];have:=HMy.out;congr 1;omega),Hbw.out,RL.out,RC.out,RZ.out,RO.out,by rw [Hpb.out];exact HO1.out,by rw [Hpb.out];exact HO2.out,by rw [Hpb.out];exact HO3.out,D12.out,D13.out,D23.out⟩
        case measure=>have:=Hlt.out;simp [intOf];omega
      have hq1:=HR.out
      have t1:¬ m ≤ R:=by omega
      clear hq1
      have hpo:=HPo.out (by omega)
      subst hpo
      clear HPi HPo HPv HM1 HN1
      by_cases hy:y = f.md
      case pos =>
        have hyb:(y == f.md) = true:=by simpa using hy
        rw [if_pos hy] at HMy
        clear hy
        have y2:=cell_in Hbw.out lt2 E2.out
        go_upto_region 13 with fail
        go_quiet (fail)
        have hbq:=below_drewN (Below.refl wr.heap.size wr) nq
        replace RL:=Lib.hid (row_keep hbq RL.out);replace RC:=Lib.hid (row_keep hbq RC.out);replace RZ:=Lib.hid (row_keep hbq RZ.out);replace RO:=Lib.hid (row_keep hbq RO.out);replace HO1:=Lib.hid (ownBelow HO1.out hbq);replace HO2:=Lib.hid (ownBelow HO2.out hbq);replace HO3:=Lib.hid (ownBelow HO3.out hbq);replace Hbw:=Lib.hid (Hbw.out.trans (hbq.mono Hbw.out.size))
        clear hbq y2 cL cC cO
        generalize wr.drewN nq = w5 at *
        have cL:=rowc RL.out;have cC:=rowc RC.out;have cO:=rowc RO.out
        go_wp2_with fail
        go_roundw
        case rel=>exact ⟨k + 1,v1,v2,v3,Hlt.out,by go_num,(by rw [HRe.out];have:=HR.out;congr 1;omega),(by rw [HMe.out];have:=HMy.out;congr 1;omega),Hbw.out,RL.out,RC.out,RZ.out,RO.out,by rw [Hpb.out];exact HO1.out,by rw [Hpb.out];exact HO2.out,by rw [Hpb.out];exact HO3.out,D12.out,D13.out,D23.out⟩
        case measure=>have:=Hlt.out;simp [intOf];omega
      have hyb:(y == f.md) = false:=by simpa using hy
      rw [if_neg hy] at HMy
      clear hy
      have y2:=cell_in Hbw.out lt2 E2.out
      go_upto_region 13 with fail
      go_quiet (fail)
      have hbq:=below_drewN (Below.refl wr.heap.size wr) nq
      replace RL:=Lib.hid (row_keep hbq RL.out);replace RC:=Lib.hid (row_keep hbq RC.out);replace RZ:=Lib.hid (row_keep hbq RZ.out);replace RO:=Lib.hid (row_keep hbq RO.out);replace HO1:=Lib.hid (ownBelow HO1.out hbq);replace HO2:=Lib.hid (ownBelow HO2.out hbq);replace HO3:=Lib.hid (ownBelow HO3.out hbq);replace Hbw:=Lib.hid (Hbw.out.trans (hbq.mono Hbw.out.size))
      clear hbq y2 cL cC cO
      generalize wr.drewN nq = w5 at *
      have cL:=rowc RL.out;have cC:=rowc RC.out;have cO:=rowc RO.out
      go_wp2_with fail
      go_roundw
      case rel=>exact ⟨k + 1,v1,v2,v3,Hlt.out,by go_num,(by rw [HRe.out];have:=HR.out;congr 1;omega),(by rw [HMe.out];have:=HMy.out;congr 1;omega),Hbw.out,RL.out,RC.out,RZ.out,RO.out,by rw [Hpb.out];exact HO1.out,by rw [Hpb.out];exact HO2.out,by rw [Hpb.out];exact HO3.out,D12.out,D13.out,D23.out⟩
      case measure=>have:=Hlt.out;simp [intOf];omega
    have hxb:(x == 0) = false:=by simpa using hx
    rw [if_neg hx] at HR
    clear hx
    by_cases hin:x0 ≤ k ∧ k < x1
    case pos =>
      have hq1:=HR.out
      have t1:(m:Int) ≤ (R:Int) - 1:=by omega
      have t1b:m < R:=by omega
      have t2:(R:Int) - 1 < (n:Int):=by omega
      have t2b:R ≤ n:=by omega
      clear hq1
      obtain ⟨hpr,hpd⟩:=HPi.out hin.1 hin.2
      have hpv:=HPv.out hin.1 hin.2
      have HPr:=Lib.hid hpr;have HPd:=Lib.hid hpd
      clear hpr hpd HPi HPo HPv HM1 HN1
      go_upto_region 11 with fail
      refine AnyE.region (S:=fun w'=>(∀ j,w'.cell? ⟨w.heap.size + 1 + 1 + 1,j,none⟩ = (#[.int .i64 c.id,v1,v2,v3]:Array Value)[j]?) ∧ (∀ j,w'.cell? ⟨w.heap.size + 1,j,none⟩ = (#[.int .i64 c.id,.slice (some ⟨g1,o1,none⟩) c.rep.length q1,.slice (some ⟨g2,o2,none⟩) c.df.length q2,.slice a3 c.vals.length q3]:Array Value)[j]?) ∧ w'.cell? ⟨g1,o1 + k,none⟩ = some (.int .i64 x)) (E:=[10]) (by kernel_rfl) ?_
      have hbd:=(Below.refl wr.heap.size wr).drew
      replace RL:=Lib.hid (row_keep hbd RL.out);replace RC:=Lib.hid (row_keep hbd RC.out);replace RZ:=Lib.hid (row_keep hbd RZ.out);replace RO:=Lib.hid (row_keep hbd RO.out);replace HO1:=Lib.hid (ownBelow HO1.out hbd);replace HO2:=Lib.hid (ownBelow HO2.out hbd);replace HO3:=Lib.hid (ownBelow HO3.out hbd);replace Hbw:=Lib.hid (Hbw.out.trans (hbd.mono Hbw.out.size))
      have z0:=cell_in Hbw.out lt1 E1.out
      have hszD:w.heap.size + 4 ≤ wr.drew.heap.size:=row_lt RO.out
      clear hbd
      generalize wr.drew = wd at *
      have hS:=(⟨rowc RO.out,rowc RC.out,z0⟩:(∀ j,wd.cell? ⟨w.heap.size + 1 + 1 + 1,j,none⟩ = (#[.int .i64 c.id,v1,v2,v3]:Array Value)[j]?) ∧ (∀ j,wd.cell? ⟨w.heap.size + 1,j,none⟩ = (#[.int .i64 c.id,.slice (some ⟨g1,o1,none⟩) c.rep.length q1,.slice (some ⟨g2,o2,none⟩) c.df.length q2,.slice a3 c.vals.length q3]:Array Value)[j]?) ∧ wd.cell? ⟨g1,o1 + k,none⟩ = some (.int .i64 x))
      refine AnyE.take (i:=0) (v:=?_) rfl (by kernel_rfl) (by kernel_rfl) (by kernel_rfl) (by kernel_rfl) (by kernel_rfl) (fun _ _ _ h=>h) (Or.inl ⟨by rfl,?_⟩) hS ?_
      rotate_left
      focus (intro wq hSq;obtain ⟨hS1,hS2,hS3⟩:=hSq;go_simp;with_reducible rfl)
      try simp only [Act.put,List.getElem_toArray,List.getElem_cons_succ,List.getElem_cons_zero,List.setIfInBounds_toArray,List.set_cons_zero,List.set_cons_succ]
      refine AnyE.take (i:=1) (v:=?_) rfl (by kernel_rfl) (by kernel_rfl) (by kernel_rfl) (by kernel_rfl) (by kernel_rfl) (fun _ _ _ h=>h) (Or.inl ⟨by rfl,?_⟩) hS ?_
      rotate_left
      focus (intro wq hSq;obtain ⟨hS1,hS2,hS3⟩:=hSq;go_simp;with_reducible rfl)
      try simp only [Act.put,List.getElem_toArray,List.getElem_cons_succ,List.getElem_cons_zero,List.setIfInBounds_toArray,List.set_cons_zero,List.set_cons_succ]
      refine AnyE.take (i:=2) (v:=?_) rfl (by kernel_rfl) (by kernel_rfl) (by kernel_rfl) (by kernel_rfl) (by kernel_rfl) (fun _ _ _ h=>h) (Or.inl ⟨by rfl,?_⟩) hS ?_
      rotate_left
      focus (intro wq hSq;obtain ⟨hS1,hS2,hS3⟩:=hSq;go_simp;with_reducible rfl)
      try simp only [Act.put,List.getElem_toArray,List.getElem_cons_succ,List.getElem_cons_zero,List.setIfInBounds_toArray,List.set_cons_zero,List.set_cons_succ]
      refine AnyE.take (i:=3) (v:=?_) rfl (by kernel_rfl) (by kernel_rfl) (by kernel_rfl) (by kernel_rfl) (by kernel_rfl) (fun _ _ _ h=>h) (Or.inl ⟨by rfl,?_⟩) hS ?_
      rotate_left
      focus (intro wq hSq;obtain ⟨hS1,hS2,hS3⟩:=hSq;go_simp;with_reducible rfl)
      try simp only [Act.put,List.getElem_toArray,List.getElem_cons_succ,List.getElem_cons_zero,List.setIfInBounds_toArray,List.set_cons_zero,List.set_cons_succ]
      refine AnyE.take (i:=4) (v:=?_) rfl (by kernel_rfl) (by kernel_rfl) (by kernel_rfl) (by kernel_rfl) (by kernel_rfl) (fun _ _ _ h=>h) (Or.inl ⟨by rfl,?_⟩) hS ?_
      rotate_left
      focus (intro wq hSq;obtain ⟨hS1,hS2,hS3⟩:=hSq;go_simp;with_reducible rfl)
      try simp only [Act.put,List.getElem_toArray,List.getElem_cons_succ,List.getElem_cons_zero,List.setIfInBounds_toArray,List.set_cons_zero,List.set_cons_succ]
      refine AnyE.take (i:=5) (v:=?_) rfl (by kernel_rfl) (by kernel_rfl) (by kernel_rfl) (by kernel_rfl) (by kernel_rfl) (fun _ _ _ h=>h) (Or.inl ⟨by rfl,?_⟩) hS ?_
      rotate_left
      focus (intro wq hSq;obtain ⟨hS1,hS2,hS3⟩:=hSq;go_simp;with_reducible rfl)
      try simp only [Act.put,List.getElem_toArray,List.getElem_cons_succ,List.getElem_cons_zero,List.setIfInBounds_toArray,List.set_cons_zero,List.set_cons_succ]
      refine AnyE.take (i:=6) (v:=?_) rfl (by kernel_rfl) (by kernel_rfl) (by kernel_rfl) (by kernel_rfl) (by kernel_rfl) (fun _ _ _ h=>h) (Or.inl ⟨by rfl,?_⟩) hS ?_
      rotate_left
      focus (intro wq hSq;obtain ⟨hS1,hS2,hS3⟩:=hSq;go_simp;with_reducible rfl)
      try simp only [Act.put,List.getElem_toArray,List.getElem_cons_succ,List.getElem_cons_zero,List.setIfInBounds_toArray,List.set_cons_zero,List.set_cons_succ]
      refine AnyE.one (i:=7) (by kernel_rfl) rfl rfl ?_
      intro K hK
      simp only [List.getElem_toArray,List.getElem_cons_succ,List.getElem_cons_zero]
      go_simp
      have hbe:=(Below.refl wd.heap.size wd).alloc (Nat.le_refl _) (.cells #[.int .i64 x] 3)
      refine hK _ _ (fun _=>⟨rowc_alloc RO.out _,rowc_alloc RC.out _,cell_alloc z0 _⟩) ?_
      clear hK K
      try simp only [Act.put,List.getElem_toArray,List.getElem_cons_succ,List.getElem_cons_zero,List.setIfInBounds_toArray,List.set_cons_zero,List.set_cons_succ]
      have RT:=Lib.hid (heap_alloc_new wd (.cells #[.int .i64 x] 3))
      replace RL:=Lib.hid (row_keep hbe RL.out);replace RC:=Lib.hid (row_keep hbe RC.out);replace RZ:=Lib.hid (row_keep hbe RZ.out);replace RO:=Lib.hid (row_keep hbe RO.out);replace HO1:=Lib.hid (ownBelow HO1.out hbe);replace HO2:=Lib.hid (ownBelow HO2.out hbe);replace HO3:=Lib.hid (ownBelow HO3.out hbe);replace Hbw:=Lib.hid (Hbw.out.trans (hbe.mono Hbw.out.size))
      replace hszD:=Nat.le_trans hszD hbe.size
      replace z0:=cell_alloc z0 (.cells #[.int .i64 x] 3)
      clear hbe hS
      generalize wd.alloc (.cells #[.int .i64 x] 3) = we at *
      generalize wd.heap.size = gt at *
      refine AnyE.one (i:=8) (by kernel_rfl) rfl rfl ?_
      intro K hK
      simp only [List.getElem_toArray,List.getElem_cons_succ,List.getElem_cons_zero]
      refine wp_appI (.tmp 42) (.tmp 48) rfl (w.heap.size + 4) v1 _ ?_ HO1.out (.slice (some ⟨gt,0,none⟩) 1 1) [x] ?_ (isInts_row [x] _ _ _ RT.out) ?_ ?_ ?_
      focus (go_simp)
      focus (go_simp)
      focus (have:=hsp1;simp only [List.length_cons,List.length_nil];omega)
      focus (omega)
      intro u1 wg ho1 hg1 hq1
      have hb1:=(Below.refl (w.heap.size + 4) we).grown hg1 hszD (fun q hq=>(HO1.out.lt q hq).1)
      have f12:=own_far HO2.out hg1 (fun q h1 h2=>D12.out q h2 h1)
      have f13:=own_far HO3.out hg1 (fun q h1 h2=>D13.out q h2 h1)
      replace RL:=Lib.hid (row_below hb1 RL.out (by omega));replace RC:=Lib.hid (row_below hb1 RC.out (by omega));replace RZ:=Lib.hid (row_below hb1 RZ.out (by omega));replace RO:=Lib.hid (row_below hb1 RO.out (by omega))
      replace D12:=Lib.hid (show ∀ q,u1.ownBlock = some q → v2.ownBlock ≠ some q from fun q hq h2=>by
        rcases hq1 with e | e
        · exact D12.out q (e ▸ hq) h2
        · rw [e] at hq;cases hq;have:=(HO2.out.lt _ h2).2;omega)
      replace D13:=Lib.hid (show ∀ q,u1.ownBlock = some q → v3.ownBlock ≠ some q from fun q hq h2=>by
        rcases hq1 with e | e
        · exact D13.out q (e ▸ hq) h2
        · rw [e] at hq;cases hq;have:=(HO3.out.lt _ h2).2;omega)
      replace HO2:=Lib.hid f12
      replace HO3:=Lib.hid f13
      replace HO1:=Lib.hid ho1
      replace Hbw:=Lib.hid (Hbw.out.trans (hb1.mono (by omega)))
      replace hszD:=Nat.le_trans hszD hb1.size
      have hS:=(⟨rowc RO.out,rowc RC.out,cell_in hb1 (Nat.lt_of_lt_of_le lt1 (Nat.le_add_right _ _)) z0⟩:(∀ j,wg.cell? ⟨w.heap.size + 1 + 1 + 1,j,none⟩ = (#[.int .i64 c.id,v1,v2,v3]:Array Value)[j]?) ∧ (∀ j,wg.cell? ⟨w.heap.size + 1,j,none⟩ = (#[.int .i64 c.id,.slice (some ⟨g1,o1,none⟩) c.rep.length q1,.slice (some ⟨g2,o2,none⟩) c.df.length q2,.slice a3 c.vals.length q3]:Array Value)[j]?) ∧ wg.cell? ⟨g1,o1 + k,none⟩ = some (.int .i64 x))
      refine hK _ _ (fun _=>hS) ?_
      clear hK K RT f12 f13 hb1 hg1 hq1 ho1 z0
      try simp only [Act.put,List.getElem_toArray,List.getElem_cons_succ,List.getElem_cons_zero,List.setIfInBounds_toArray,List.set_cons_zero,List.set_cons_succ]
      refine AnyE.take (i:=9) (v:=?_) rfl (by kernel_rfl) (by kernel_rfl) (by kernel_rfl) (by kernel_rfl) (by kernel_rfl) (fun _ _ _ h=>h) (Or.inl ⟨by rfl,?_⟩) hS ?_
      rotate_left
      focus (intro wq hSq;obtain ⟨hS1,hS2,hS3⟩:=hSq;go_simp;with_reducible rfl)
      try simp only [Act.put,List.getElem_toArray,List.getElem_cons_succ,List.getElem_cons_zero,List.setIfInBounds_toArray,List.set_cons_zero,List.set_cons_succ]
      clear hS
      obtain ⟨un1,ub1,uc1,eu⟩:=own_cap' HO1.out
      subst eu
      refine AnyE.one (i:=10) (by kernel_rfl) rfl rfl ?_
      intro K hK
      have cO:=rowc RO.out;have fO:=rowf RO.out
      simp only [List.getElem_toArray,List.getElem_cons_succ,List.getElem_cons_zero]
      go_simp
      refine hK _ _ (fun h=>by cases h) ?_
      clear hK K cO fO
      obtain ⟨s1,s2,s3,s4⟩:=store_cell_row (j:=1) (v:=.slice ub1 un1 uc1) RO.out
      replace RL:=Lib.hid ((s2 _ (by omega)).trans RL.out);replace RC:=Lib.hid ((s2 _ (by omega)).trans RC.out);replace RZ:=Lib.hid ((s2 _ (by omega)).trans RZ.out);replace Hbw:=Lib.hid (Hbw.out.trans (s3.mono (by omega)))
      replace HO1:=Lib.hid (ownK HO1.out fun i hi _=>s2 i (by omega));replace HO2:=Lib.hid (ownK HO2.out fun i hi _=>s2 i (by omega));replace HO3:=Lib.hid (ownK HO3.out fun i hi _=>s2 i (by omega))
      replace RO:=Lib.hid (s1.trans (show _ = some (.cells #[.int .i64 c.id,(.slice ub1 un1 uc1),v2,v3] 27 (0,0)) from rfl))
      clear s1;clear s2;clear s3;clear s4
      try simp only [Act.put,List.getElem_toArray,List.getElem_cons_succ,List.getElem_cons_zero,List.setIfInBounds_toArray,List.set_cons_zero,List.set_cons_succ]
      generalize wg.setCell ⟨w.heap.size + 1 + 1 + 1,1,none⟩ (.slice ub1 un1 uc1) = w2 at *
      refine AnyE.done (by kernel_rfl) ?_ _
      clear hszD
      go_upto_region 12 with fail
      refine AnyE.region (S:=fun w'=>(∀ j,w'.cell? ⟨w.heap.size + 1 + 1 + 1,j,none⟩ = (#[.int .i64 c.id,(Value.slice ub1 un1 uc1),v2,v3]:Array Value)[j]?) ∧ (∀ j,w'.cell? ⟨w.heap.size + 1,j,none⟩ = (#[.int .i64 c.id,.slice (some ⟨g1,o1,none⟩) c.rep.length q1,.slice (some ⟨g2,o2,none⟩) c.df.length q2,.slice a3 c.vals.length q3]:Array Value)[j]?) ∧ w'.cell? ⟨g2,o2 + k,none⟩ = some (.int .i64 y)) (E:=[10]) (by kernel_rfl) ?_
      have hbd:=(Below.refl w2.heap.size w2).drew
      replace RL:=Lib.hid (row_keep hbd RL.out);replace RC:=Lib.hid (row_keep hbd RC.out);replace RZ:=Lib.hid (row_keep hbd RZ.out);replace RO:=Lib.hid (row_keep hbd RO.out);replace HO1:=Lib.hid (ownBelow HO1.out hbd);replace HO2:=Lib.hid (ownBelow HO2.out hbd);replace HO3:=Lib.hid (ownBelow HO3.out hbd);replace Hbw:=Lib.hid (Hbw.out.trans (hbd.mono Hbw.out.size))
      have z0:=cell_in Hbw.out lt2 E2.out
      have hszD:w.heap.size + 4 ≤ w2.drew.heap.size:=row_lt RO.out
      clear hbd
      generalize w2.drew = wd at *
      have hS:=(⟨rowc RO.out,rowc RC.out,z0⟩:(∀ j,wd.cell? ⟨w.heap.size + 1 + 1 + 1,j,none⟩ = (#[.int .i64 c.id,(Value.slice ub1 un1 uc1),v2,v3]:Array Value)[j]?) ∧ (∀ j,wd.cell? ⟨w.heap.size + 1,j,none⟩ = (#[.int .i64 c.id,.slice (some ⟨g1,o1,none⟩) c.rep.length q1,.slice (some ⟨g2,o2,none⟩) c.df.length q2,.slice a3 c.vals.length q3]:Array Value)[j]?) ∧ wd.cell? ⟨g2,o2 + k,none⟩ = some (.int .i64 y))
      refine AnyE.take (i:=0) (v:=?_) rfl (by kernel_rfl) (by kernel_rfl) (by kernel_rfl) (by kernel_rfl) (by kernel_rfl) (fun _ _ _ h=>h) (Or.inl ⟨by rfl,?_⟩) hS ?_
      rotate_left
      focus (intro wq hSq;obtain ⟨hS1,hS2,hS3⟩:=hSq;go_simp;with_reducible rfl)
      try simp only [Act.put,List.getElem_toArray,List.getElem_cons_succ,List.getElem_cons_zero,List.setIfInBounds_toArray,List.set_cons_zero,List.set_cons_succ]
      refine AnyE.take (i:=1) (v:=?_) rfl (by kernel_rfl) (by kernel_rfl) (by kernel_rfl) (by kernel_rfl) (by kernel_rfl) (fun _ _ _ h=>h) (Or.inl ⟨by rfl,?_⟩) hS ?_
      rotate_left
      focus (intro wq hSq;obtain ⟨hS1,hS2,hS3⟩:=hSq;go_simp;with_reducible rfl)
      try simp only [Act.put,List.getElem_toArray,List.getElem_cons_succ,List.getElem_cons_zero,List.setIfInBounds_toArray,List.set_cons_zero,List.set_cons_succ]
      refine AnyE.take (i:=2) (v:=?_) rfl (by kernel_rfl) (by kernel_rfl) (by kernel_rfl) (by kernel_rfl) (by kernel_rfl) (fun _ _ _ h=>h) (Or.inl ⟨by rfl,?_⟩) hS ?_
      rotate_left
      focus (intro wq hSq;obtain ⟨hS1,hS2,hS3⟩:=hSq;go_simp;with_reducible rfl)
      try simp only [Act.put,List.getElem_toArray,List.getElem_cons_succ,List.getElem_cons_zero,List.setIfInBounds_toArray,List.set_cons_zero,List.set_cons_succ]
      refine AnyE.take (i:=3) (v:=?_) rfl (by kernel_rfl) (by kernel_rfl) (by kernel_rfl) (by kernel_rfl) (by kernel_rfl) (fun _ _ _ h=>h) (Or.inl ⟨by rfl,?_⟩) hS ?_
      rotate_left
      focus (intro wq hSq;obtain ⟨hS1,hS2,hS3⟩:=hSq;go_simp;with_reducible rfl)
      try simp only [Act.put,List.getElem_toArray,List.getElem_cons_succ,List.getElem_cons_zero,List.setIfInBounds_toArray,List.set_cons_zero,List.set_cons_succ]
      refine AnyE.take (i:=4) (v:=?_) rfl (by kernel_rfl) (by kernel_rfl) (by kernel_rfl) (by kernel_rfl) (by kernel_rfl) (fun _ _ _ h=>h) (Or.inl ⟨by rfl,?_⟩) hS ?_
      rotate_left
      focus (intro wq hSq;obtain ⟨hS1,hS2,hS3⟩:=hSq;go_simp;with_reducible rfl)
      try simp only [Act.put,List.getElem_toArray,List.getElem_cons_succ,List.getElem_cons_zero,List.setIfInBounds_toArray,List.set_cons_zero,List.set_cons_succ]
      refine AnyE.take (i:=5) (v:=?_) rfl (by kernel_rfl) (by kernel_rfl) (by kernel_rfl) (by kernel_rfl) (by kernel_rfl) (fun _ _ _ h=>h) (Or.inl ⟨by rfl,?_⟩) hS ?_
      rotate_left
      focus (intro wq hSq;obtain ⟨hS1,hS2,hS3⟩:=hSq;go_simp;with_reducible rfl)
      try simp only [Act.put,List.getElem_toArray,List.getElem_cons_succ,List.getElem_cons_zero,List.setIfInBounds_toArray,List.set_cons_zero,List.set_cons_succ]
      refine AnyE.take (i:=6) (v:=?_) rfl (by kernel_rfl) (by kernel_rfl) (by kernel_rfl) (by kernel_rfl) (by kernel_rfl) (fun _ _ _ h=>h) (Or.inl ⟨by rfl,?_⟩) hS ?_
      rotate_left
      focus (intro wq hSq;obtain ⟨hS1,hS2,hS3⟩:=hSq;go_simp;with_reducible rfl)
      try simp only [Act.put,List.getElem_toArray,List.getElem_cons_succ,List.getElem_cons_zero,List.setIfInBounds_toArray,List.set_cons_zero,List.set_cons_succ]
      refine AnyE.one (i:=7) (by kernel_rfl) rfl rfl ?_
      intro K hK
      simp only [List.getElem_toArray,List.getElem_cons_succ,List.getElem_cons_zero]
      go_simp
      have hbe:=(Below.refl wd.heap.size wd).alloc (Nat.le_refl _) (.cells #[.int .i64 y] 3)
      refine hK _ _ (fun _=>⟨rowc_alloc RO.out _,rowc_alloc RC.out _,cell_alloc z0 _⟩) ?_
      clear hK K
      try simp only [Act.put,List.getElem_toArray,List.getElem_cons_succ,List.getElem_cons_zero,List.setIfInBounds_toArray,List.set_cons_zero,List.set_cons_succ]
      have RT:=Lib.hid (heap_alloc_new wd (.cells #[.int .i64 y] 3))
      replace RL:=Lib.hid (row_keep hbe RL.out);replace RC:=Lib.hid (row_keep hbe RC.out);replace RZ:=Lib.hid (row_keep hbe RZ.out);replace RO:=Lib.hid (row_keep hbe RO.out);replace HO1:=Lib.hid (ownBelow HO1.out hbe);replace HO2:=Lib.hid (ownBelow HO2.out hbe);replace HO3:=Lib.hid (ownBelow HO3.out hbe);replace Hbw:=Lib.hid (Hbw.out.trans (hbe.mono Hbw.out.size))
      replace hszD:=Nat.le_trans hszD hbe.size
      replace z0:=cell_alloc z0 (.cells #[.int .i64 y] 3)
      clear hbe hS
      generalize wd.alloc (.cells #[.int .i64 y] 3) = we at *
      generalize wd.heap.size = gt at *
      refine AnyE.one (i:=8) (by kernel_rfl) rfl rfl ?_
      intro K hK
      simp only [List.getElem_toArray,List.getElem_cons_succ,List.getElem_cons_zero]
      refine wp_appI (.tmp 52) (.tmp 58) rfl (w.heap.size + 4) v2 _ ?_ HO2.out (.slice (some ⟨gt,0,none⟩) 1 1) [y] ?_ (isInts_row [y] _ _ _ RT.out) ?_ ?_ ?_
      focus (go_simp)
      focus (go_simp)
      focus (have:=hsp2;simp only [List.length_cons,List.length_nil];omega)
      focus (omega)
      intro u2 wg ho2 hg2 hq2
      have hb2:=(Below.refl (w.heap.size + 4) we).grown hg2 hszD (fun q hq=>(HO2.out.lt q hq).1)
      have f21:=own_far HO1.out hg2 (fun q h1 h2=>D12.out q h1 h2)
      have f23:=own_far HO3.out hg2 (fun q h1 h2=>D23.out q h2 h1)
      replace RL:=Lib.hid (row_below hb2 RL.out (by omega));replace RC:=Lib.hid (row_below hb2 RC.out (by omega));replace RZ:=Lib.hid (row_below hb2 RZ.out (by omega));replace RO:=Lib.hid (row_below hb2 RO.out (by omega))
      replace D12:=Lib.hid (show ∀ q,(Value.slice ub1 un1 uc1).ownBlock = some q → u2.ownBlock ≠ some q from fun q h2 hq=>by
        rcases hq2 with e | e
        · exact D12.out q h2 (e ▸ hq)
        · rw [e] at hq;cases hq;have:=(HO1.out.lt _ h2).2;omega)
      replace D23:=Lib.hid (show ∀ q,u2.ownBlock = some q → v3.ownBlock ≠ some q from fun q hq h2=>by
        rcases hq2 with e | e
        · exact D23.out q (e ▸ hq) h2
        · rw [e] at hq;cases hq;have:=(HO3.out.lt _ h2).2;omega)
      replace HO1:=Lib.hid f21
      replace HO3:=Lib.hid f23
      replace HO2:=Lib.hid ho2
      replace Hbw:=Lib.hid (Hbw.out.trans (hb2.mono (by omega)))
      replace hszD:=Nat.le_trans hszD hb2.size
      have hS:=(⟨rowc RO.out,rowc RC.out,cell_in hb2 (Nat.lt_of_lt_of_le lt2 (Nat.le_add_right _ _)) z0⟩:(∀ j,wg.cell? ⟨w.heap.size + 1 + 1 + 1,j,none⟩ = (#[.int .i64 c.id,(Value.slice ub1 un1 uc1),v2,v3]:Array Value)[j]?) ∧ (∀ j,wg.cell? ⟨w.heap.size + 1,j,none⟩ = (#[.int .i64 c.id,.slice (some ⟨g1,o1,none⟩) c.rep.length q1,.slice (some ⟨g2,o2,none⟩) c.df.length q2,.slice a3 c.vals.length q3]:Array Value)[j]?) ∧ wg.cell? ⟨g2,o2 + k,none⟩ = some (.int .i64 y))
      refine hK _ _ (fun _=>hS) ?_
      clear hK K RT f21 f23 hb2 hg2 hq2 ho2 z0
      try simp only [Act.put,List.getElem_toArray,List.getElem_cons_succ,List.getElem_cons_zero,List.setIfInBounds_toArray,List.set_cons_zero,List.set_cons_succ]
      refine AnyE.take (i:=9) (v:=?_) rfl (by kernel_rfl) (by kernel_rfl) (by kernel_rfl) (by kernel_rfl) (by kernel_rfl) (fun _ _ _ h=>h) (Or.inl ⟨by rfl,?_⟩) hS ?_
      rotate_left
      focus (intro wq hSq;obtain ⟨hS1,hS2,hS3⟩:=hSq;go_simp;with_reducible rfl)
      try simp only [Act.put,List.getElem_toArray,List.getElem_cons_succ,List.getElem_cons_zero,List.setIfInBounds_toArray,List.set_cons_zero,List.set_cons_succ]
      clear hS
      obtain ⟨un2,ub2,uc2,eu⟩:=own_cap' HO2.out
      subst eu
      refine AnyE.one (i:=10) (by kernel_rfl) rfl rfl ?_
      intro K hK
      have cO:=rowc RO.out;have fO:=rowf RO.out
      simp only [List.getElem_toArray,List.getElem_cons_succ,List.getElem_cons_zero]
      go_simp
      refine hK _ _ (fun h=>by cases h) ?_
      clear hK K cO fO
      obtain ⟨s1,s2,s3,s4⟩:=store_cell_row (j:=2) (v:=.slice ub2 un2 uc2) RO.out
      replace RL:=Lib.hid ((s2 _ (by omega)).trans RL.out);replace RC:=Lib.hid ((s2 _ (by omega)).trans RC.out);replace RZ:=Lib.hid ((s2 _ (by omega)).trans RZ.out);replace Hbw:=Lib.hid (Hbw.out.trans (s3.mono (by omega)))
      replace HO1:=Lib.hid (ownK HO1.out fun i hi _=>s2 i (by omega));replace HO2:=Lib.hid (ownK HO2.out fun i hi _=>s2 i (by omega));replace HO3:=Lib.hid (ownK HO3.out fun i hi _=>s2 i (by omega))
      replace RO:=Lib.hid (s1.trans (show _ = some (.cells #[.int .i64 c.id,(Value.slice ub1 un1 uc1),(.slice ub2 un2 uc2),v3] 27 (0,0)) from rfl))
      clear s1;clear s2;clear s3;clear s4
      try simp only [Act.put,List.getElem_toArray,List.getElem_cons_succ,List.getElem_cons_zero,List.setIfInBounds_toArray,List.set_cons_zero,List.set_cons_succ]
      generalize wg.setCell ⟨w.heap.size + 1 + 1 + 1,2,none⟩ (.slice ub2 un2 uc2) = w4 at *
      refine AnyE.done (by kernel_rfl) ?_ _
      clear hszD
      clear cL cC cO y1
      have cL:=rowc RL.out;have cC:=rowc RC.out;have cO:=rowc RO.out
      by_cases hy:y = f.md
      case pos =>
        have hyb:(y == f.md) = true:=by simpa using hy
        rw [if_pos hy] at hpv HMy
        have hMl:=HMl.out hy
        have HPw:=Lib.hid hpv
        clear hy hpv
        obtain ⟨g3,o3,rfl,-,lt3,e3⟩:=HD.out.at (by omega)
        have E3:=Lib.hid (e3 M c.vals[M] (List.getElem?_eq_getElem hMl))
        have hgv:c.vals.getD M ⟨0,0,⟨#[]⟩⟩ = c.vals[M]:=by rw [List.getD_eq_getElem?_getD,List.getElem?_eq_getElem hMl];rfl
        rw [hgv] at HPw
        have hMI:(M:Int) < (c.vals.length:Int):=by omega
        clear hgv e3
        generalize c.vals[M] = z at *
        have y2:=cell_in Hbw.out lt2 E2.out
        go_upto_region 13 with fail
        go_quiet (fail)
        have hbq:=below_drewN (Below.refl w4.heap.size w4) nq
        replace RL:=Lib.hid (row_keep hbq RL.out);replace RC:=Lib.hid (row_keep hbq RC.out);replace RZ:=Lib.hid (row_keep hbq RZ.out);replace RO:=Lib.hid (row_keep hbq RO.out);replace HO1:=Lib.hid (ownBelow HO1.out hbq);replace HO2:=Lib.hid (ownBelow HO2.out hbq);replace HO3:=Lib.hid (ownBelow HO3.out hbq);replace Hbw:=Lib.hid (Hbw.out.trans (hbq.mono Hbw.out.size))
        clear hbq y2 cL cC cO
        generalize w4.drewN nq = w5 at *
        have cL:=rowc RL.out;have cC:=rowc RC.out;have cO:=rowc RO.out
        go_upto_region 15 with fail
        refine AnyE.region (S:=fun w'=>(∀ j,w'.cell? ⟨w.heap.size + 1 + 1 + 1,j,none⟩ = (#[.int .i64 c.id,(Value.slice ub1 un1 uc1),(Value.slice ub2 un2 uc2),v3]:Array Value)[j]?) ∧ (∀ j,w'.cell? ⟨w.heap.size + 1,j,none⟩ = (#[.int .i64 c.id,.slice (some ⟨g1,o1,none⟩) c.rep.length q1,.slice (some ⟨g2,o2,none⟩) c.df.length q2,.slice (some ⟨g3,o3,none⟩) c.vals.length q3]:Array Value)[j]?) ∧ w'.cell? ⟨g3,o3 + M * 3,none⟩ = some (.int .i64 z.k) ∧ w'.cell? ⟨g3,o3 + M * 3 + 1,none⟩ = some (.int .i64 z.n) ∧ w'.cell? ⟨g3,o3 + M * 3 + 2,none⟩ = some (.string z.s)) (E:=[10]) (by kernel_rfl) ?_
        have hbd:=(Below.refl w5.heap.size w5).drew
        replace RL:=Lib.hid (row_keep hbd RL.out);replace RC:=Lib.hid (row_keep hbd RC.out);replace RZ:=Lib.hid (row_keep hbd RZ.out);replace RO:=Lib.hid (row_keep hbd RO.out);replace HO1:=Lib.hid (ownBelow HO1.out hbd);replace HO2:=Lib.hid (ownBelow HO2.out hbd);replace HO3:=Lib.hid (ownBelow HO3.out hbd);replace Hbw:=Lib.hid (Hbw.out.trans (hbd.mono Hbw.out.size))
        have z0:=cell_in Hbw.out lt3 E3.out.1
        have z1:=cell_in Hbw.out lt3 E3.out.2.1
        have z2:=cell_in Hbw.out lt3 E3.out.2.2
        have hszD:w.heap.size + 4 ≤ w5.drew.heap.size:=row_lt RO.out
        clear hbd
        generalize w5.drew = wd at *
        have hS:=(⟨rowc RO.out,rowc RC.out,z0,z1,z2⟩:(∀ j,wd.cell? ⟨w.heap.size + 1 + 1 + 1,j,none⟩ = (#[.int .i64 c.id,(Value.slice ub1 un1 uc1),(Value.slice ub2 un2 uc2),v3]:Array Value)[j]?) ∧ (∀ j,wd.cell? ⟨w.heap.size + 1,j,none⟩ = (#[.int .i64 c.id,.slice (some ⟨g1,o1,none⟩) c.rep.length q1,.slice (some ⟨g2,o2,none⟩) c.df.length q2,.slice (some ⟨g3,o3,none⟩) c.vals.length q3]:Array Value)[j]?) ∧ wd.cell? ⟨g3,o3 + M * 3,none⟩ = some (.int .i64 z.k) ∧ wd.cell? ⟨g3,o3 + M * 3 + 1,none⟩ = some (.int .i64 z.n) ∧ wd.cell? ⟨g3,o3 + M * 3 + 2,none⟩ = some (.string z.s))
        refine AnyE.take (i:=0) (v:=?_) rfl (by kernel_rfl) (by kernel_rfl) (by kernel_rfl) (by kernel_rfl) (by kernel_rfl) (fun _ _ _ h=>h) (Or.inl ⟨by rfl,?_⟩) hS ?_
        rotate_left
        focus (intro wq hSq;obtain ⟨hS1,hS2,hS3,hS4,hS5⟩:=hSq;go_simp;with_reducible rfl)
        try simp only [Act.put,List.getElem_toArray,List.getElem_cons_succ,List.getElem_cons_zero,List.setIfInBounds_toArray,List.set_cons_zero,List.set_cons_succ]
        refine AnyE.take (i:=1) (v:=?_) rfl (by kernel_rfl) (by kernel_rfl) (by kernel_rfl) (by kernel_rfl) (by kernel_rfl) (fun _ _ _ h=>h) (Or.inl ⟨by rfl,?_⟩) hS ?_
        rotate_left
        focus (intro wq hSq;obtain ⟨hS1,hS2,hS3,hS4,hS5⟩:=hSq;go_simp;with_reducible rfl)
        try simp only [Act.put,List.getElem_toArray,List.getElem_cons_succ,List.getElem_cons_zero,List.setIfInBounds_toArray,List.set_cons_zero,List.set_cons_succ]
        refine AnyE.take (i:=2) (v:=?_) rfl (by kernel_rfl) (by kernel_rfl) (by kernel_rfl) (by kernel_rfl) (by kernel_rfl) (fun _ _ _ h=>h) (Or.inl ⟨by rfl,?_⟩) hS ?_
        rotate_left
        focus (intro wq hSq;obtain ⟨hS1,hS2,hS3,hS4,hS5⟩:=hSq;go_simp;with_reducible rfl)
        try simp only [Act.put,List.getElem_toArray,List.getElem_cons_succ,List.getElem_cons_zero,List.setIfInBounds_toArray,List.set_cons_zero,List.set_cons_succ]
        refine AnyE.take (i:=3) (v:=?_) rfl (by kernel_rfl) (by kernel_rfl) (by kernel_rfl) (by kernel_rfl) (by kernel_rfl) (fun _ _ _ h=>h) (Or.inl ⟨by rfl,?_⟩) hS ?_
        rotate_left
        focus (intro wq hSq;obtain ⟨hS1,hS2,hS3,hS4,hS5⟩:=hSq;go_simp;with_reducible rfl)
        try simp only [Act.put,List.getElem_toArray,List.getElem_cons_succ,List.getElem_cons_zero,List.setIfInBounds_toArray,List.set_cons_zero,List.set_cons_succ]
        refine AnyE.take (i:=4) (v:=?_) rfl (by kernel_rfl) (by kernel_rfl) (by kernel_rfl) (by kernel_rfl) (by kernel_rfl) (fun _ _ _ h=>h) (Or.inl ⟨by rfl,?_⟩) hS ?_
        rotate_left
        focus (intro wq hSq;obtain ⟨hS1,hS2,hS3,hS4,hS5⟩:=hSq;go_simp;with_reducible rfl)
        try simp only [Act.put,List.getElem_toArray,List.getElem_cons_succ,List.getElem_cons_zero,List.setIfInBounds_toArray,List.set_cons_zero,List.set_cons_succ]
        refine AnyE.take (i:=5) (v:=?_) rfl (by kernel_rfl) (by kernel_rfl) (by kernel_rfl) (by kernel_rfl) (by kernel_rfl) (fun _ _ _ h=>h) (Or.inl ⟨by rfl,?_⟩) hS ?_
        rotate_left
        focus (intro wq hSq;obtain ⟨hS1,hS2,hS3,hS4,hS5⟩:=hSq;go_simp;with_reducible rfl)
        try simp only [Act.put,List.getElem_toArray,List.getElem_cons_succ,List.getElem_cons_zero,List.setIfInBounds_toArray,List.set_cons_zero,List.set_cons_succ]
        refine AnyE.take (i:=6) (v:=?_) rfl (by kernel_rfl) (by kernel_rfl) (by kernel_rfl) (by kernel_rfl) (by kernel_rfl) (fun _ _ _ h=>h) (Or.inl ⟨by rfl,?_⟩) hS ?_
        rotate_left
        focus (intro wq hSq;obtain ⟨hS1,hS2,hS3,hS4,hS5⟩:=hSq;go_simp;with_reducible rfl)
        try simp only [Act.put,List.getElem_toArray,List.getElem_cons_succ,List.getElem_cons_zero,List.setIfInBounds_toArray,List.set_cons_zero,List.set_cons_succ]
        refine AnyE.one (i:=7) (by kernel_rfl) rfl rfl ?_
        intro K hK
        simp only [List.getElem_toArray,List.getElem_cons_succ,List.getElem_cons_zero]
        go_simp
        have hbe:=(Below.refl wd.heap.size wd).alloc (Nat.le_refl _) (.cells #[.int .i64 z.k,.int .i64 z.n,.string z.s] 62)
        refine hK _ _ (fun _=>⟨rowc_alloc RO.out _,rowc_alloc RC.out _,cell_alloc z0 _,cell_alloc z1 _,cell_alloc z2 _⟩) ?_
        clear hK K
        try simp only [Act.put,List.getElem_toArray,List.getElem_cons_succ,List.getElem_cons_zero,List.setIfInBounds_toArray,List.set_cons_zero,List.set_cons_succ]
        have RT:=Lib.hid (heap_alloc_new wd (.cells #[.int .i64 z.k,.int .i64 z.n,.string z.s] 62))
        replace RL:=Lib.hid (row_keep hbe RL.out);replace RC:=Lib.hid (row_keep hbe RC.out);replace RZ:=Lib.hid (row_keep hbe RZ.out);replace RO:=Lib.hid (row_keep hbe RO.out);replace HO1:=Lib.hid (ownBelow HO1.out hbe);replace HO2:=Lib.hid (ownBelow HO2.out hbe);replace HO3:=Lib.hid (ownBelow HO3.out hbe);replace Hbw:=Lib.hid (Hbw.out.trans (hbe.mono Hbw.out.size))
        replace hszD:=Nat.le_trans hszD hbe.size
        replace z0:=cell_alloc z0 (.cells #[.int .i64 z.k,.int .i64 z.n,.string z.s] 62)
        replace z1:=cell_alloc z1 (.cells #[.int .i64 z.k,.int .i64 z.n,.string z.s] 62)
        replace z2:=cell_alloc z2 (.cells #[.int .i64 z.k,.int .i64 z.n,.string z.s] 62)
        clear hbe hS
        generalize wd.alloc (.cells #[.int .i64 z.k,.int .i64 z.n,.string z.s] 62) = we at *
        generalize wd.heap.size = gt at *
        refine AnyE.one (i:=8) (by kernel_rfl) rfl rfl ?_
        intro K hK
        simp only [List.getElem_toArray,List.getElem_cons_succ,List.getElem_cons_zero]
        refine wp_appV (.tmp 71) (.tmp 77) rfl (w.heap.size + 4) v3 _ ?_ HO3.out (.slice (some ⟨gt,0,none⟩) 1 1) [z] ?_ (isVals_row [z] _ _ _ RT.out) ?_ ?_ ?_
        focus (go_simp)
        focus (go_simp)
        focus (have:=hsp3;simp only [List.length_cons,List.length_nil];omega)
        focus (omega)
        intro u3 wg ho3 hg3 hq3
        have hb3:=(Below.refl (w.heap.size + 4) we).grown hg3 hszD (fun q hq=>(HO3.out.lt q hq).1)
        have f31:=own_far HO1.out hg3 (fun q h1 h2=>D13.out q h1 h2)
        have f32:=own_far HO2.out hg3 (fun q h1 h2=>D23.out q h1 h2)
        replace RL:=Lib.hid (row_below hb3 RL.out (by omega));replace RC:=Lib.hid (row_below hb3 RC.out (by omega));replace RZ:=Lib.hid (row_below hb3 RZ.out (by omega));replace RO:=Lib.hid (row_below hb3 RO.out (by omega))
        replace D13:=Lib.hid (show ∀ q,(Value.slice ub1 un1 uc1).ownBlock = some q → u3.ownBlock ≠ some q from fun q h2 hq=>by
          rcases hq3 with e | e
          · exact D13.out q h2 (e ▸ hq)
          · rw [e] at hq;cases hq;have:=(HO1.out.lt _ h2).2;omega)
        replace D23:=Lib.hid (show ∀ q,(Value.slice ub2 un2 uc2).ownBlock = some q → u3.ownBlock ≠ some q from fun q h2 hq=>by
          rcases hq3 with e | e
          · exact D23.out q h2 (e ▸ hq)
          · rw [e] at hq;cases hq;have:=(HO2.out.lt _ h2).2;omega)
        replace HO1:=Lib.hid f31
        replace HO2:=Lib.hid f32
        replace HO3:=Lib.hid ho3
        replace Hbw:=Lib.hid (Hbw.out.trans (hb3.mono (by omega)))
        replace hszD:=Nat.le_trans hszD hb3.size
        have hS:=(⟨rowc RO.out,rowc RC.out,cell_in hb3 (Nat.lt_of_lt_of_le lt3 (Nat.le_add_right _ _)) z0,cell_in hb3 (Nat.lt_of_lt_of_le lt3 (Nat.le_add_right _ _)) z1,cell_in hb3 (Nat.lt_of_lt_of_le lt3 (Nat.le_add_right _ _)) z2⟩:(∀ j,wg.cell? ⟨w.heap.size + 1 + 1 + 1,j,none⟩ = (#[.int .i64 c.id,(Value.slice ub1 un1 uc1),(Value.slice ub2 un2 uc2),v3]:Array Value)[j]?) ∧ (∀ j,wg.cell? ⟨w.heap.size + 1,j,none⟩ = (#[.int .i64 c.id,.slice (some ⟨g1,o1,none⟩) c.rep.length q1,.slice (some ⟨g2,o2,none⟩) c.df.length q2,.slice (some ⟨g3,o3,none⟩) c.vals.length q3]:Array Value)[j]?) ∧ wg.cell? ⟨g3,o3 + M * 3,none⟩ = some (.int .i64 z.k) ∧ wg.cell? ⟨g3,o3 + M * 3 + 1,none⟩ = some (.int .i64 z.n) ∧ wg.cell? ⟨g3,o3 + M * 3 + 2,none⟩ = some (.string z.s))
        refine hK _ _ (fun _=>hS) ?_
        clear hK K RT f31 f32 hb3 hg3 hq3 ho3 z0 z1 z2
        try simp only [Act.put,List.getElem_toArray,List.getElem_cons_succ,List.getElem_cons_zero,List.setIfInBounds_toArray,List.set_cons_zero,List.set_cons_succ]
        refine AnyE.take (i:=9) (v:=?_) rfl (by kernel_rfl) (by kernel_rfl) (by kernel_rfl) (by kernel_rfl) (by kernel_rfl) (fun _ _ _ h=>h) (Or.inl ⟨by rfl,?_⟩) hS ?_
        rotate_left
        focus (intro wq hSq;obtain ⟨hS1,hS2,hS3,hS4,hS5⟩:=hSq;go_simp;with_reducible rfl)
        try simp only [Act.put,List.getElem_toArray,List.getElem_cons_succ,List.getElem_cons_zero,List.setIfInBounds_toArray,List.set_cons_zero,List.set_cons_succ]
        clear hS
        obtain ⟨un3,ub3,uc3,eu⟩:=own_cap' HO3.out
        subst eu
        refine AnyE.one (i:=10) (by kernel_rfl) rfl rfl ?_
        intro K hK
        have cO:=rowc RO.out;have fO:=rowf RO.out
        simp only [List.getElem_toArray,List.getElem_cons_succ,List.getElem_cons_zero]
        go_simp
        refine hK _ _ (fun h=>by cases h) ?_
        clear hK K cO fO
        obtain ⟨s1,s2,s3,s4⟩:=store_cell_row (j:=3) (v:=.slice ub3 un3 uc3) RO.out
        replace RL:=Lib.hid ((s2 _ (by omega)).trans RL.out);replace RC:=Lib.hid ((s2 _ (by omega)).trans RC.out);replace RZ:=Lib.hid ((s2 _ (by omega)).trans RZ.out);replace Hbw:=Lib.hid (Hbw.out.trans (s3.mono (by omega)))
        replace HO1:=Lib.hid (ownK HO1.out fun i hi _=>s2 i (by omega));replace HO2:=Lib.hid (ownK HO2.out fun i hi _=>s2 i (by omega));replace HO3:=Lib.hid (ownK HO3.out fun i hi _=>s2 i (by omega))
        replace RO:=Lib.hid (s1.trans (show _ = some (.cells #[.int .i64 c.id,(Value.slice ub1 un1 uc1),(Value.slice ub2 un2 uc2),(.slice ub3 un3 uc3)] 27 (0,0)) from rfl))
        clear s1;clear s2;clear s3;clear s4
        try simp only [Act.put,List.getElem_toArray,List.getElem_cons_succ,List.getElem_cons_zero,List.setIfInBounds_toArray,List.set_cons_zero,List.set_cons_succ]
        generalize wg.setCell ⟨w.heap.size + 1 + 1 + 1,3,none⟩ (.slice ub3 un3 uc3) = w7 at *
        refine AnyE.done (by kernel_rfl) ?_ _
        clear hszD
        go_wp2_with fail
        go_roundw
        case rel=>exact ⟨k + 1,(Value.slice ub1 un1 uc1),(Value.slice ub2 un2 uc2),(Value.slice ub3 un3 uc3),Hlt.out,by go_num,(by rw [HRe.out];have:=HR.out;congr 1;omega),(by rw [HMe.out];have:=HMy.out;congr 1;omega),Hbw.out,RL.out,RC.out,RZ.out,RO.out,by rw [Hpb.out,HPr.out];exact HO1.out,by rw [Hpb.out,HPd.out];exact HO2.out,by rw [Hpb.out,HPw.out];exact HO3.out,D12.out,D13.out,D23.out⟩
        case measure=>have:=Hlt.out;simp [intOf];omega
      have hyb:(y == f.md) = false:=by simpa using hy
      rw [if_neg hy] at hpv HMy
      rw [List.append_nil] at hpv
      have HPw:=Lib.hid hpv
      clear hy hpv
      have y2:=cell_in Hbw.out lt2 E2.out
      go_upto_region 13 with fail
      go_quiet (fail)
      have hbq:=below_drewN (Below.refl w4.heap.size w4) nq
      replace RL:=Lib.hid (row_keep hbq RL.out);replace RC:=Lib.hid (row_keep hbq RC.out);replace RZ:=Lib.hid (row_keep hbq RZ.out);replace RO:=Lib.hid (row_keep hbq RO.out);replace HO1:=Lib.hid (ownBelow HO1.out hbq);replace HO2:=Lib.hid (ownBelow HO2.out hbq);replace HO3:=Lib.hid (ownBelow HO3.out hbq);replace Hbw:=Lib.hid (Hbw.out.trans (hbq.mono Hbw.out.size))
      clear hbq y2 cL cC cO
      generalize w4.drewN nq = w5 at *
      have cL:=rowc RL.out;have cC:=rowc RC.out;have cO:=rowc RO.out
      go_wp2_with fail
      go_roundw
      case rel=>exact ⟨k + 1,(Value.slice ub1 un1 uc1),(Value.slice ub2 un2 uc2),v3,Hlt.out,by go_num,(by rw [HRe.out];have:=HR.out;congr 1;omega),(by rw [HMe.out];have:=HMy.out;congr 1;omega),Hbw.out,RL.out,RC.out,RZ.out,RO.out,by rw [Hpb.out,HPr.out];exact HO1.out,by rw [Hpb.out,HPd.out];exact HO2.out,by rw [Hpb.out,HPw.out];exact HO3.out,D12.out,D13.out,D23.out⟩
      case measure=>have:=Hlt.out;simp [intOf];omega
    by_cases hin1:x0 ≤ k
    case pos =>
      have hin2:x1 ≤ k:=by omega
      have hq1:=HR.out
      have t1:(m:Int) ≤ (R:Int) - 1:=by omega
      have t1b:m < R:=by omega
      have t2:¬ (R:Int) - 1 < (n:Int):=by omega
      have t2b:¬ R ≤ n:=by omega
      clear hq1
      have hpo:=HPo.out (by omega)
      subst hpo
      clear HPi HPo HPv HM1 HN1
      by_cases hy:y = f.md
      case pos =>
        have hyb:(y == f.md) = true:=by simpa using hy
        rw [if_pos hy] at HMy
        clear hy
        have y2:=cell_in Hbw.out lt2 E2.out
        go_upto_region 13 with fail
        go_quiet (fail)
        have hbq:=below_drewN (Below.refl wr.heap.size wr) nq
        replace RL:=Lib.hid (row_keep hbq RL.out);replace RC:=Lib.hid (row_keep hbq RC.out);replace RZ:=Lib.hid (row_keep hbq RZ.out);replace RO:=Lib.hid (row_keep hbq RO.out);replace HO1:=Lib.hid (ownBelow HO1.out hbq);replace HO2:=Lib.hid (ownBelow HO2.out hbq);replace HO3:=Lib.hid (ownBelow HO3.out hbq);replace Hbw:=Lib.hid (Hbw.out.trans (hbq.mono Hbw.out.size))
        clear hbq y2 cL cC cO
        generalize wr.drewN nq = w5 at *
        have cL:=rowc RL.out;have cC:=rowc RC.out;have cO:=rowc RO.out
        go_wp2_with fail
        go_roundw
        case rel=>exact ⟨k + 1,v1,v2,v3,Hlt.out,by go_num,(by rw [HRe.out];have:=HR.out;congr 1;omega),(by rw [HMe.out];have:=HMy.out;congr 1;omega),Hbw.out,RL.out,RC.out,RZ.out,RO.out,by rw [Hpb.out];exact HO1.out,by rw [Hpb.out];exact HO2.out,by rw [Hpb.out];exact HO3.out,D12.out,D13.out,D23.out⟩
        case measure=>have:=Hlt.out;simp [intOf];omega
      have hyb:(y == f.md) = false:=by simpa using hy
      rw [if_neg hy] at HMy
      clear hy
      have y2:=cell_in Hbw.out lt2 E2.out
      go_upto_region 13 with fail
      go_quiet (fail)
      have hbq:=below_drewN (Below.refl wr.heap.size wr) nq
      replace RL:=Lib.hid (row_keep hbq RL.out);replace RC:=Lib.hid (row_keep hbq RC.out);replace RZ:=Lib.hid (row_keep hbq RZ.out);replace RO:=Lib.hid (row_keep hbq RO.out);replace HO1:=Lib.hid (ownBelow HO1.out hbq);replace HO2:=Lib.hid (ownBelow HO2.out hbq);replace HO3:=Lib.hid (ownBelow HO3.out hbq);replace Hbw:=Lib.hid (Hbw.out.trans (hbq.mono Hbw.out.size))
      clear hbq y2 cL cC cO
      generalize wr.drewN nq = w5 at *
      have cL:=rowc RL.out;have cC:=rowc RC.out;have cO:=rowc RO.out
      go_wp2_with fail
      go_roundw
      case rel=>exact ⟨k + 1,v1,v2,v3,Hlt.out,by go_num,(by rw [HRe.out];have:=HR.out;congr 1;omega),(by rw [HMe.out];have:=HMy.out;congr 1;omega),Hbw.out,RL.out,RC.out,RZ.out,RO.out,by rw [Hpb.out];exact HO1.out,by rw [Hpb.out];exact HO2.out,by rw [Hpb.out];exact HO3.out,D12.out,D13.out,D23.out⟩
      case measure=>have:=Hlt.out;simp [intOf];omega
    have hq1:=HR.out
    have t1:¬ (m:Int) ≤ (R:Int) - 1:=by omega
    have t1b:¬ m < R:=by omega
    clear hq1
    have hpo:=HPo.out (by omega)
    subst hpo
    clear HPi HPo HPv HM1 HN1
    by_cases hy:y = f.md
    case pos =>
      have hyb:(y == f.md) = true:=by simpa using hy
      rw [if_pos hy] at HMy
      clear hy
      have y2:=cell_in Hbw.out lt2 E2.out
      go_upto_region 13 with fail
      go_quiet (fail)
      have hbq:=below_drewN (Below.refl wr.heap.size wr) nq
      replace RL:=Lib.hid (row_keep hbq RL.out);replace RC:=Lib.hid (row_keep hbq RC.out);replace RZ:=Lib.hid (row_keep hbq RZ.out);replace RO:=Lib.hid (row_keep hbq RO.out);replace HO1:=Lib.hid (ownBelow HO1.out hbq);replace HO2:=Lib.hid (ownBelow HO2.out hbq);replace HO3:=Lib.hid (ownBelow HO3.out hbq);replace Hbw:=Lib.hid (Hbw.out.trans (hbq.mono Hbw.out.size))
      clear hbq y2 cL cC cO
      generalize wr.drewN nq = w5 at *
      have cL:=rowc RL.out;have cC:=rowc RC.out;have cO:=rowc RO.out
      go_wp2_with fail
      go_roundw
      case rel=>exact ⟨k + 1,v1,v2,v3,Hlt.out,by go_num,(by rw [HRe.out];have:=HR.out;congr 1;omega),(by rw [HMe.out];have:=HMy.out;congr 1;omega),Hbw.out,RL.out,RC.out,RZ.out,RO.out,by rw [Hpb.out];exact HO1.out,by rw [Hpb.out];exact HO2.out,by rw [Hpb.out];exact HO3.out,D12.out,D13.out,D23.out⟩
      case measure=>have:=Hlt.out;simp [intOf];omega
    have hyb:(y == f.md) = false:=by simpa using hy
    rw [if_neg hy] at HMy
    clear hy
    have y2:=cell_in Hbw.out lt2 E2.out
    go_upto_region 13 with fail
    go_quiet (fail)
    have hbq:=below_drewN (Below.refl wr.heap.size wr) nq
    replace RL:=Lib.hid (row_keep hbq RL.out);replace RC:=Lib.hid (row_keep hbq RC.out);replace RZ:=Lib.hid (row_keep hbq RZ.out);replace RO:=Lib.hid (row_keep hbq RO.out);replace HO1:=Lib.hid (ownBelow HO1.out hbq);replace HO2:=Lib.hid (ownBelow HO2.out hbq);replace HO3:=Lib.hid (ownBelow HO3.out hbq);replace Hbw:=Lib.hid (Hbw.out.trans (hbq.mono Hbw.out.size))
    clear hbq y2 cL cC cO
    generalize wr.drewN nq = w5 at *
    have cL:=rowc RL.out;have cC:=rowc RC.out;have cO:=rowc RO.out
    go_wp2_with fail
    go_roundw
    case rel=>exact ⟨k + 1,v1,v2,v3,Hlt.out,by go_num,(by rw [HRe.out];have:=HR.out;congr 1;omega),(by rw [HMe.out];have:=HMy.out;congr 1;omega),Hbw.out,RL.out,RC.out,RZ.out,RO.out,by rw [Hpb.out];exact HO1.out,by rw [Hpb.out];exact HO2.out,by rw [Hpb.out];exact HO3.out,D12.out,D13.out,D23.out⟩
    case measure=>have:=Hlt.out;simp [intOf];omega
end Go.Proofs.YtdcgihplkangeaaGreatDoor
