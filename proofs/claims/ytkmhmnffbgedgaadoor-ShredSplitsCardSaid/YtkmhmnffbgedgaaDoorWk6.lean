/- data.Walk. Written by gen_wk6.py. -/
import Derived.Test.YtkmhmnffbgedgaaDoorWk1
import Derived.Test.YtkmhmnffbgedgaaDoorWk3
namespace Go.Proofs.YtkmhmnffbgedgaaDoor
set_option maxHeartbeats 16000000
set_option linter.unusedVariables false
set_option linter.unusedSimpArgs false
open Go Go.RowKit Go.ChangeShapes
def walkE (n:Nd) (d:Dt) (id:Int):Nat:=if recE n d ≠ 0 then recE n d else match findN (nodes n) id with | some p=>if p.kind = 0 then 6 else 0 | none=>6
def walkR (n:Nd) (d:Dt) (id:Int):List Val:=if walkE n d id = 0 then walkV n id false d else []
theorem valid_small {n:Nd} (h:validE n = 0):size n ≤ 40 ∧ hgt n ≤ 6:=by
 have hf:goodB n = true:=by
  unfold validE at h
  repeat' split at h
  all_goals first | assumption | omega
 unfold goodB at hf
 rw [decide_eq_true_iff] at hf
 exact hf
theorem recE_zero {n:Nd} {d:Dt} (h:recE n d = 0):validE n = 0 ∧ datE n false d = 0:=by
 unfold recE at h
 split at h
 ·exact ⟨by assumption,h⟩
 ·omega
def WalkPRet (n:Nd) (d:Dt) (id:Int) (adr:Nat → Addr) (w:World) (e:Ending) (w':World):Prop:=∃ v,e = .returned (.tuple #[v,eV adr (walkE n d id)]) ∧ w'.ownsRow w.heap.size 61 3 v (walkR n d id).length ((walkR n d id).flatMap valCells) ∧ Below w.heap.size w w'
set_option maxRecDepth 100000 in
theorem walkP_any (adr:Nat → Addr) (n:Nd) (d:Dt) (id:Int) (u ul uf:Value) (w:World) (hE:ErrsAt w adr [2,3,4,5,6]) (hN:IsNds (· < w.heap.size) w u n.sub) (hO:∀ x ∈ nodes n,x.Ok1)
  (hl:IsDts (· < w.heap.size) w ul d.l) (hf:IsDts (· < w.heap.size) w uf d.f) (hD:∀ x ∈ dts d,x.Ok1) :
  Calls Tryd.prog 21 #[.agg (ndA n u),.agg (dtA d ul uf),.int .i64 id] w (WalkPRet n d id adr w):=by
 have e6:=hE.cell 6 (by decide)
 have g6:=block_lt_of_cell e6
 unfold gErr at e6 g6
 have HE6:=Lib.hid (fun (w1:World) (h:Below w.heap.size w w1)=>((bcell h).1 _ 0 g6).trans e6)
 have HC:=Lib.hid (fun (w1:World) (h:Below w.heap.size w w1)=>dcheck_any adr n d u ul uf w1 ((hE.sub (by decide)).below h) ((hN.under h).mono fun b hb _=>Nat.lt_of_lt_of_le hb h.size) hO ((hl.under h).mono fun b hb _=>Nat.lt_of_lt_of_le hb h.size) ((hf.under h).mono fun b hb _=>Nat.lt_of_lt_of_le hb h.size) hD)
 have HFd:=Lib.hid (fun (hv:validE n = 0) (w1:World) (h:Below w.heap.size w w1)=>find_any adr n u id w1 ((hE.sub (by decide)).below h) hv ((hN.under h).mono fun b hb _=>Nat.lt_of_lt_of_le hb h.size) hO)
 have HWC:=Lib.hid (fun (h0:recE n d = 0) (gW gI gO:Nat) (hgW:w.heap.size ≤ gW) (hgI:w.heap.size ≤ gI) (hgO:w.heap.size ≤ gO) (hWO:gW ≠ gO) (hIO:gI ≠ gO) (w1:World) (h:Below w.heap.size w w1) (hw:WOut w.heap.size w1 gW gI gO id (.slice none 0 0) []) =>
  walkC_any w.heap.size gW gI gO id hgW hgI hgO hWO hIO d n u ul uf false w1 (.slice none 0 0) [] (hN.under h) hO (valid_okRep (recE_zero h0).1) (hl.under h) (hf.under h) hD (recE_zero h0).2 hw (by
   have h1:=valid_small (recE_zero h0).1
   have:=walkV_cap (id:=id) (recE_zero h0).2 h1.1 h1.2
   rw [List.length_nil];omega))
 obtain ⟨au,cu,rfl⟩:=hN.form
 obtain ⟨al,cl,rfl⟩:=hl.form
 obtain ⟨af,cf,rfl⟩:=hf.form
 obtain ⟨len,hnl0⟩:∃ len,n.sub.length = len:=⟨_,rfl⟩
 obtain ⟨nl,hnl⟩:∃ nl,d.l.length = nl:=⟨_,rfl⟩
 obtain ⟨nf,hnf⟩:∃ nf,d.f.length = nf:=⟨_,rfl⟩
 rw [hnl0,hnl,hnf] at HC HWC;rw [hnl0] at HFd
 rw [hnl0,hnl,hnf]
 unfold WalkPRet
 obtain ⟨E,hE1⟩:∃ E,walkE n d id = E:=⟨_,rfl⟩
 obtain ⟨R,hR1⟩:∃ R,walkR n d id = R:=⟨_,rfl⟩
 obtain ⟨C,hC1⟩:∃ C,recE n d = C:=⟨_,rfl⟩
 rw [hC1] at HC HWC
 rw [hE1,hR1]
 have HE1:=Lib.hid hE1;have HR1:=Lib.hid hR1;have HC1:=Lib.hid hC1
 unfold walkR at hR1
 rw [hE1] at hR1
 unfold walkE at hE1
 rw [hC1] at hE1
 have HEq:=Lib.hid hE1;have HRq:=Lib.hid hR1
 clear hE hN hO hl hf hD e6 g6 hnl0 hnl hnf hE1 hR1 hC1
 unfold ndA dtA at HC HWC
 unfold ndA at HFd
 unfold ndA dtA
 go_enter Tryd.func21,Tryd.ntmps21
 go_upto_region 1 with fail
 obtain ⟨rA,rB,rI,hbw,hz⟩:=rows3 (w:=w) (A:=.cells #[.int .i64 n.id,.string n.name,.int .i64 n.rep,.int .i64 n.kind,.slice au len cu] 47) (B:=.cells #[.bool d.no,.int .i64 d.v.k,.int .i64 d.v.n,.string d.v.s,.slice al nl cl,.slice af nf cf] 63) (C:=.cells #[.int .i64 id] 3) (Below.refl _ _)
 generalize (((w.alloc (.cells #[.int .i64 n.id,.string n.name,.int .i64 n.rep,.int .i64 n.kind,.slice au len cu] 47)).alloc (.cells #[.bool d.no,.int .i64 d.v.k,.int .i64 d.v.n,.string d.v.s,.slice al nl cl,.slice af nf cf] 63)).alloc (.cells #[.int .i64 id] 3)) = w1 at *
 have HW:=Lib.hid hbw;have RA:=Lib.hid rA;have RB:=Lib.hid rB;have RI:=Lib.hid rI
 have cA:=rowc rA;have cB:=rowc rB
 clear rA rB rI hbw hz
 go_wp2_with fail
 refine (HC.out w1 HW.out).mono ?_;rintro e w2 ⟨rfl,hb2⟩
 replace RA:=Lib.hid (row_keep hb2 RA.out);replace RB:=Lib.hid (row_keep hb2 RB.out);replace RI:=Lib.hid (row_keep hb2 RI.out);replace HW:=Lib.hid (HW.out.trans (hb2.mono HW.out.size))
 clear hb2 cA cB HC
 by_cases h0:C = 0
 case neg =>
  obtain ⟨q,rfl⟩:∃ q,C = q + 1:=⟨C - 1,by omega⟩
  have h1:=HEq.out
  rw [if_pos h0] at h1
  subst h1
  have h2:=HRq.out
  rw [if_neg h0] at h2
  subst h2
  unfold eV
  clear h0
  go_wp2_with fail
  go_ret2
  exact ⟨_,rfl,World.ownsRow_nil _ _ _ _,HW.out⟩
 subst h0
 have h1:=HEq.out
 rw [if_neg (by simp)] at h1
 have HEq2:=Lib.hid h1
 have HWC2:=Lib.hid (HWC.out rfl)
 have HFd2:=Lib.hid (HFd.out (recE_zero HC1.out).1)
 have cA:=rowc RA.out;have cI:=rowc RI.out
 unfold eV
 clear HWC HFd h1 HEq
 go_wp2_with fail
 refine (HFd2.out w2 HW.out).mono ?_;rintro e w3 ⟨hb3,hres⟩
 replace RA:=Lib.hid (row_keep hb3 RA.out);replace RB:=Lib.hid (row_keep hb3 RB.out);replace RI:=Lib.hid (row_keep hb3 RI.out);replace HW:=Lib.hid (HW.out.trans (hb3.mono HW.out.size))
 clear hb3 cA cI HFd2
 rcases hres with ⟨p,pa,pc,hp,rfl,-⟩ | ⟨hp,rfl⟩
 case inr =>
  have h1:=HEq2.out
  rw [hp] at h1
  have HV6:=Lib.hid (show (6:Nat) = E from h1)
  have h2:=HRq.out
  rw [if_neg (by rw [← HV6.out];decide)] at h2
  subst h2
  unfold eV
  have hbm:=(Below.refl w3.heap.size w3).alloc (Nat.le_refl _) (.cells #[.int .i64 0,.string ⟨#[]⟩,.int .i64 0,.int .i64 0,.slice none 0 0] 47)
  go_upto_region 5 with fail
  replace HW:=Lib.hid (HW.out.trans (hbm.mono HW.out.size))
  clear hbm h1 hp
  generalize (w3.alloc (.cells #[.int .i64 0,.string ⟨#[]⟩,.int .i64 0,.int .i64 0,.slice none 0 0] 47)) = w4 at *
  go_wp2_with fail
  refine AnyE.region (S:=fun w'=>w'.cell? ⟨1,0,none⟩ = some (.iface 174 (.pointer (some (adr 6))))) (E:=[]) (by kernel_rfl) ?_
  have hbd:=(Below.refl w4.heap.size w4).drew
  replace HW:=Lib.hid (HW.out.trans (hbd.mono HW.out.size))
  clear hbd
  generalize w4.drew = wd at *
  have hS:=(HE6.out wd HW.out:(fun w'=>w'.cell? ⟨1,0,none⟩ = some (.iface 174 (.pointer (some (adr 6))))) wd)
  refine AnyE.take (i:=0) (v:=?_) rfl (by kernel_rfl) (by kernel_rfl) (by kernel_rfl) (by kernel_rfl) (by kernel_rfl) (fun _ _ _ h=>h) (Or.inl ⟨by rfl,?_⟩) hS ?_
  rotate_left
  focus (intro wq hSq;obtain hS1:=hSq;go_simp;with_reducible rfl)
  try simp only [Act.put,List.getElem_toArray,List.getElem_cons_succ,List.getElem_cons_zero,List.setIfInBounds_toArray,List.set_cons_zero,List.set_cons_succ]
  refine AnyE.take (i:=1) (v:=?_) rfl (by kernel_rfl) (by kernel_rfl) (by kernel_rfl) (by kernel_rfl) (by kernel_rfl) (fun _ _ _ h=>h) (Or.inl ⟨by rfl,?_⟩) hS ?_
  rotate_left
  focus (intro wq hSq;obtain hS1:=hSq;go_simp;with_reducible rfl)
  try simp only [Act.put,List.getElem_toArray,List.getElem_cons_succ,List.getElem_cons_zero,List.setIfInBounds_toArray,List.set_cons_zero,List.set_cons_succ]
  refine AnyE.take (i:=2) (v:=?_) rfl (by kernel_rfl) (by kernel_rfl) (by kernel_rfl) (by kernel_rfl) (by kernel_rfl) (fun _ _ _ h=>h) (Or.inl ⟨by rfl,?_⟩) hS ?_
  rotate_left
  focus (intro wq hSq;obtain hS1:=hSq;go_simp;with_reducible rfl)
  try simp only [Act.put,List.getElem_toArray,List.getElem_cons_succ,List.getElem_cons_zero,List.setIfInBounds_toArray,List.set_cons_zero,List.set_cons_succ]
  refine AnyE.done (by kernel_rfl) ?_ _
  clear hS
  go_wp2_with fail
  go_ret2
  exact ⟨.slice none 0 0,by rw [← HV6.out];rfl,World.ownsRow_nil _ _ _ _,HW.out⟩
 have h1:=HEq2.out
 rw [hp] at h1
 have h1':(if p.kind = 0 then 6 else 0) = E:=h1
 have hbm:=(Below.refl w3.heap.size w3).alloc (Nat.le_refl _) (.cells #[.int .i64 p.id,.string p.name,.int .i64 p.rep,.int .i64 p.kind,.slice pa p.sub.length pc] 47)
 have rP:=heap_alloc_new w3 (.cells #[.int .i64 p.id,.string p.name,.int .i64 p.rep,.int .i64 p.kind,.slice pa p.sub.length pc] 47)
 unfold ndA
 go_upto_region 5 with fail
 replace RA:=Lib.hid (row_keep hbm RA.out);replace RB:=Lib.hid (row_keep hbm RB.out);replace RI:=Lib.hid (row_keep hbm RI.out);replace HW:=Lib.hid (HW.out.trans (hbm.mono HW.out.size));have RP:=Lib.hid rP
 have HEQ1:=Lib.hid h1'
 clear hbm h1 h1' hp rP
 generalize (w3.alloc (.cells #[.int .i64 p.id,.string p.name,.int .i64 p.rep,.int .i64 p.kind,.slice pa p.sub.length pc] 47)) = w4 at *
 generalize w3.heap.size = gP at *
 have cP3:w4.cell? ⟨gP,3,none⟩ = some (.int .i64 p.kind):=rowc RP.out 3
 by_cases hk:p.kind = 0
 ·have dk:((p.kind:Int) == 0) = true:=by simpa using hk
  have h1:=HEQ1.out
  rw [if_pos hk] at h1
  have HV6:=Lib.hid (show (6:Nat) = E from h1)
  have h2:=HRq.out
  rw [if_neg (by rw [← HV6.out];decide)] at h2
  subst h2
  clear hk h1
  go_wp2_with fail
  refine AnyE.region (S:=fun w'=>w'.cell? ⟨1,0,none⟩ = some (.iface 174 (.pointer (some (adr 6))))) (E:=[]) (by kernel_rfl) ?_
  have hbd:=(Below.refl w4.heap.size w4).drew
  replace HW:=Lib.hid (HW.out.trans (hbd.mono HW.out.size))
  clear hbd
  generalize w4.drew = wd at *
  have hS:=(HE6.out wd HW.out:(fun w'=>w'.cell? ⟨1,0,none⟩ = some (.iface 174 (.pointer (some (adr 6))))) wd)
  refine AnyE.take (i:=0) (v:=?_) rfl (by kernel_rfl) (by kernel_rfl) (by kernel_rfl) (by kernel_rfl) (by kernel_rfl) (fun _ _ _ h=>h) (Or.inl ⟨by rfl,?_⟩) hS ?_
  rotate_left
  focus (intro wq hSq;obtain hS1:=hSq;go_simp;with_reducible rfl)
  try simp only [Act.put,List.getElem_toArray,List.getElem_cons_succ,List.getElem_cons_zero,List.setIfInBounds_toArray,List.set_cons_zero,List.set_cons_succ]
  refine AnyE.take (i:=1) (v:=?_) rfl (by kernel_rfl) (by kernel_rfl) (by kernel_rfl) (by kernel_rfl) (by kernel_rfl) (fun _ _ _ h=>h) (Or.inl ⟨by rfl,?_⟩) hS ?_
  rotate_left
  focus (intro wq hSq;obtain hS1:=hSq;go_simp;with_reducible rfl)
  try simp only [Act.put,List.getElem_toArray,List.getElem_cons_succ,List.getElem_cons_zero,List.setIfInBounds_toArray,List.set_cons_zero,List.set_cons_succ]
  refine AnyE.take (i:=2) (v:=?_) rfl (by kernel_rfl) (by kernel_rfl) (by kernel_rfl) (by kernel_rfl) (by kernel_rfl) (fun _ _ _ h=>h) (Or.inl ⟨by rfl,?_⟩) hS ?_
  rotate_left
  focus (intro wq hSq;obtain hS1:=hSq;go_simp;with_reducible rfl)
  try simp only [Act.put,List.getElem_toArray,List.getElem_cons_succ,List.getElem_cons_zero,List.setIfInBounds_toArray,List.set_cons_zero,List.set_cons_succ]
  refine AnyE.done (by kernel_rfl) ?_ _
  clear hS
  go_wp2_with fail
  go_ret2
  exact ⟨.slice none 0 0,by rw [← HV6.out];rfl,World.ownsRow_nil _ _ _ _,HW.out⟩
 have dk:((p.kind:Int) == 0) = false:=by simpa using hk
 have h1:=HEQ1.out
 rw [if_neg hk] at h1
 subst h1
 have h2:=HRq.out
 rw [if_pos rfl] at h2
 subst h2
 clear hk
 go_upto_region 10 with fail
 have hIO:=row_lt RI.out
 obtain ⟨rO,rW,hbw,hz⟩:=rows2 (w:=w4) (A:=.cells #[.slice none 0 0] 30) (B:=.cells #[.func (.func 41) #[] #[.pointer (some ⟨w4.heap.size + 1,0,none⟩),.pointer (some ⟨w.heap.size + 1 + 1,0,none⟩),.pointer (some ⟨w4.heap.size,0,none⟩)]] 96) (Below.refl _ _)
 generalize ((w4.alloc (.cells #[.slice none 0 0] 30)).alloc (.cells #[.func (.func 41) #[] #[.pointer (some ⟨w4.heap.size + 1,0,none⟩),.pointer (some ⟨w.heap.size + 1 + 1,0,none⟩),.pointer (some ⟨w4.heap.size,0,none⟩)]] 96)) = w5 at *
 have hsz:=HW.out.size
 replace RA:=Lib.hid (row_keep hbw RA.out);replace RB:=Lib.hid (row_keep hbw RB.out);replace RI:=Lib.hid (row_keep hbw RI.out);replace HW:=Lib.hid (HW.out.trans (hbw.mono HW.out.size))
 have HCL:=Lib.hid (HWC2.out (w4.heap.size + 1) (w.heap.size + 1 + 1) w4.heap.size (by omega) (by omega) hsz (by omega) (by omega) w5 HW.out ⟨⟨rW,RI.out,rO⟩,World.ownsRow_nil _ _ _ _⟩)
 have cA:=rowc RA.out;have cB:=rowc RB.out;have cW:=rowc rW
 clear rO rW hbw hz hIO hsz HWC2 RP cP3
 go_wp2_with fail
 refine HCL.out.mono ?_;rintro e w6 ⟨rfl,v1,hv1,hk⟩
 have HV:=Lib.hid hv1;have HK:=Lib.hid hk.below
 have cO:=rowc hv1.1.out
 clear hv1 hk HCL cA cB cW
 go_wp2_with fail
 go_ret2
 exact ⟨v1,rfl,HV.out.2,HW.out.trans HK.out⟩
end Go.Proofs.YtkmhmnffbgedgaaDoor
