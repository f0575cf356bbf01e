/- schema.Find of a right schema. Written by gen_wk3.py. -/
import Derived.Test.YtkmhmnffbgedgaaDoorWk2
import Derived.Test.YtkmhmnffbgedgaaDoorTa0
import Derived.Test.YtkmhmnffbgedgaaDoorTv3
namespace Go.Proofs.YtkmhmnffbgedgaaDoor
set_option maxHeartbeats 8000000
set_option linter.unusedVariables false
set_option linter.unusedSimpArgs false
open Go Go.RowKit Go.ChangeShapes
def findN (L:List Nd) (id:Int):Option Nd:=L.find? fun x=>decide (x.id = id)
def seeF (id:Int) (x:Nd) (k:Int) (s:Nd):Bool × Nd:=(decide (x.id ≠ id),x)
theorem run_find (id:Int):∀ (L:List (Nd × Int)) (s:Nd),(∀ p,findN (L.map Prod.fst) id = some p → runF (seeF id) L s = (false,p)) ∧ (findN (L.map Prod.fst) id = none → (runF (seeF id) L s).1 = true)
 | [],s=>⟨fun p h=>by simp [findN] at h,fun _=>rfl⟩
 | (x,k) :: r,s=>by
  obtain ⟨h1,h2⟩:=run_find id r x
  unfold findN at h1 h2 ⊢
  simp only [List.map_cons,List.find?_cons,runF,seeF]
  by_cases h:x.id = id
  ·simp [h]
  ·simp only [h,decide_false,decide_true,ne_eq,not_false_eq_true,if_true]
   exact ⟨h1,h2⟩
theorem mem_nodesL2 {x:Nd}:∀ {l:List Nd},x ∈ nodesL l → ∃ y ∈ l,x ∈ nodes y
 | [],h=>by simp [nodesL] at h
 | a :: r,h=>by
  simp only [nodesL] at h
  rcases List.mem_append.1 h with h | h
  ·exact ⟨a,List.mem_cons_self ..,h⟩
  ·obtain ⟨y,hy,h2⟩:=mem_nodesL2 h
   exact ⟨y,List.mem_cons_of_mem _ hy,h2⟩
theorem nodes_sub:∀ (n m z:Nd),m ∈ nodes n → z ∈ nodes m → z ∈ nodes n:=by
 apply Nd.ind
 intro n IH m z hm hz
 rw [nodes_eq] at hm ⊢
 rcases List.mem_cons.1 hm with rfl | hm
 ·rw [nodes_eq] at hz;exact hz
 ·obtain ⟨y,hy,hmy⟩:=mem_nodesL2 hm
  exact List.mem_cons_of_mem _ (nodesL_mem hy (IH y hy m z hmy hz))
def SeenAt (B gF gI:Nat) (id:Int) (m:Nat) (s:Nd) (w:World):Prop:=∃ u,w.heap[gF]? = some (.cells (ndA s u) 47 (0,0)) ∧ IsNds (· < B) w u s.sub ∧ w.heap[gI]? = some (.cells #[.int .i64 id] 3 (0,0))
set_option maxRecDepth 100000 in
theorem find1_any (B gF gI:Nat) (id:Int) (hF:B ≤ gF) (hI:B ≤ gI):SeeAt B (· < B) (· = gF) (SeenAt B gF gI id) (seeF id) 56 #[.pointer (some ⟨gF,0,none⟩),.pointer (some ⟨gI,0,none⟩)]:=by
  intro m n u k s w hB hS hN hO
  obtain ⟨us,hf,hus,hi⟩:=hS
  obtain ⟨au,cu,rfl⟩:=hN.form
  obtain ⟨ao,cs,rfl⟩:=hus.form
  obtain ⟨len,hlen⟩:∃ len,n.sub.length = len:=⟨_,rfl⟩
  have hne:gF ≠ gI:=by
    rintro rfl
    rw [hf] at hi
    injection hi with hi
    injection hi with e1 e2
    exact absurd e2 (by decide)
  have hbw:=(Below.refl w.heap.size w).alloc (Nat.le_refl _) (.cells (ndA n (.slice au n.sub.length cu)) 47)
  have rA:=heap_alloc_new w (.cells (ndA n (.slice au n.sub.length cu)) 47)
  have hFz:=row_lt hf
  have HN:=Lib.hid hN;have HF:=Lib.hid (row_keep hbw hf);have HI:=Lib.hid (row_keep hbw hi);have HW:=Lib.hid hbw;have RA:=Lib.hid rA;have HNE:=Lib.hid hne
  have HK:=Lib.hid (Kp.of_below (B:=B) (M:=(· = gF)) hbw hB)
  have HFB:=Lib.hid hF;have HFZ:=Lib.hid hFz
  have HLN:=Lib.hid hlen
  clear hN hus hf hi hO hne hF hI hbw rA hFz
  rw [hlen] at HN RA HF HI HW HK ⊢
  clear hlen
  unfold ndA at *
  go_enter Tryd.func56,Tryd.ntmps56
  go_upto_region 1 with fail
  generalize (w.alloc (.cells #[.int .i64 n.id,.string n.name,.int .i64 n.rep,.int .i64 n.kind,.slice au len cu] 47)) = w1 at *
  have cA:=rowc RA.out
  go_upto_region 2 with (refine wpList_store_part rfl 47 _ _ rfl gF 0 _ 47 #[.int .i64 n.id,.string n.name,.int .i64 n.rep,.int .i64 n.kind,.slice au len cu] rfl rfl HF.out nd_info (by simp [Value.oneCell']) (Nat.le_of_ble_eq_true rfl) #[.int .i64 n.id,.string n.name,.int .i64 n.rep,.int .i64 n.kind,.slice au len cu] rfl ?_;intro w2 hr2 ho2 hb2 hz2;have R2:=Lib.hid hr2;have HO2:=Lib.hid ho2;have HB2:=Lib.hid hb2;have HZ2:=Lib.hid hz2;clear hr2 ho2 hb2 hz2)
  have RA2:=Lib.hid ((HO2.out w.heap.size (by have:=HFZ.out;omega)).trans RA.out)
  have RI2:=Lib.hid ((HO2.out gI (Ne.symm HNE.out)).trans HI.out)
  clear cA
  have cA:=rowc RA2.out;have cI:=rowc RI2.out
  have HE:=Lib.hid (show SeenAt B gF gI id m n w2 from ⟨_,R2.out,by
    have h1:=HN.out.under (HK.out.below)
    exact h1.keep (Nat.le_of_eq HZ2.out.symm) (fun b hb _=>HO2.out b (by have:=HFB.out;omega)),RI2.out⟩)
  have HKE:=Lib.hid (HK.out.trans (⟨HB2.out.mono HFB.out,fun g cs T fz hT hM hg=>(HO2.out g hM).trans hg⟩:Kp B (· = gF) w1 w2))
  by_cases hid:n.id = id
  · have d1:((n.id:Int) != id) = false:=by rw [hid];simp
    have hb:(seeF id n k s).1 = false:=decide_eq_false (fun h=>h hid)
    have HBB:=Lib.hid hb
    clear hb hid
    go_wp2_with fail
    go_ret
    exact ⟨by rw [HBB.out];rfl,HE.out,HKE.out⟩
  · have d1:((n.id:Int) != id) = true:=by simpa using hid
    have hb:(seeF id n k s).1 = true:=decide_eq_true hid
    have HBB:=Lib.hid hb
    clear hb hid
    go_wp2_with fail
    go_ret
    exact ⟨by rw [HBB.out];rfl,HE.out,HKE.out⟩
def FindPRet (n:Nd) (id:Int) (adr:Nat → Addr) (w:World) (e:Ending) (w':World):Prop:=Below w.heap.size w w' ∧
 ((∃ p a c,findN (nodes n) id = some p ∧ e = .returned (.tuple #[.agg (ndA p (.slice a p.sub.length c)),.nilIface]) ∧ IsNds (fun b=>w.heap.size ≤ b) w' (.slice a p.sub.length c) p.sub) ∨ (findN (nodes n) id = none ∧ e = .returned (.tuple #[.agg #[.int .i64 0,.string ⟨#[]⟩,.int .i64 0,.int .i64 0,.slice none 0 0],eV adr 6])))
set_option maxRecDepth 100000 in
theorem find_any (adr:Nat → Addr) (n:Nd) (u:Value) (id:Int) (w:World) (hE:ErrsAt w adr [2,3,5,6]) (hv:validE n = 0) (hN:IsNds (· < w.heap.size) w u n.sub) (hO:∀ x ∈ nodes n,x.Ok1) :
  Calls Tryd.prog 40 #[.agg (ndA n u),.int .i64 id] w (FindPRet n id adr w):=by
 have e6:=hE.cell 6 (by decide)
 have g6:=block_lt_of_cell e6
 unfold gErr at e6 g6
 have HE6:=Lib.hid (fun (w1:World) (h:Below w.heap.size w w1)=>((bcell h).1 _ 0 g6).trans e6)
 have HV:=Lib.hid (fun (w1:World) (h:Below w.heap.size w w1)=>valid_any n u w1 adr ((hE.sub (by decide)).below h) ((hN.under h).mono fun b hb _=>Nat.lt_of_lt_of_le hb h.size) hO)
 have HWK:=Lib.hid (fun (gF gI:Nat) (hF:w.heap.size ≤ gF) (hI:w.heap.size ≤ gI) (w1:World) (h:Below w.heap.size w w1) (hs:SeenAt w.heap.size gF gI id (0 + size n) zeroNd w1) =>
  walk_any2 w.heap.size (· < w.heap.size) (· = gF) (SeenAt w.heap.size gF gI id) (seeF id) 56 #[.pointer (some ⟨gF,0,none⟩),.pointer (some ⟨gI,0,none⟩)]
  (enters_of Tryd.func56 (by kernel_rfl) rfl) (fun _ h=>h) (fun _ s w2 h b hb e=>by obtain ⟨us,hf,_⟩:=h;have:=row_lt hf;omega)
  (fun _ s w1 w2 ⟨us,h1,h2,h3⟩ hB hb=>⟨us,row_keep hb h1,h2.under (hb.mono hB),row_keep hb h3⟩) (fun _ _ s w1 h _=>h) (find1_any w.heap.size gF gI id hF hI) n 0 u 0 zeroNd w1 h.size hs (hN.under h) hO)
 have HRF:=Lib.hid (run_find id (pre n 0) zeroNd)
 rw [pre_nodes.1] at HRF
 rw [hv] at HV
 have HO:=Lib.hid hO
 obtain ⟨au,cu,rfl⟩:=hN.form
 obtain ⟨len,hnl⟩:∃ len,n.sub.length = len:=⟨_,rfl⟩
 rw [hnl] at HV HWK ⊢
 unfold ndA at HV HWK
 unfold ndA
 clear hE hv hN hO e6 g6 hnl
 go_enter Tryd.func40,Tryd.ntmps40
 go_upto_region 1 with fail
 obtain ⟨rA,rI,rZ,hbw,hz⟩:=rows3 (w:=w) (A:=.cells #[.int .i64 n.id,.string n.name,.int .i64 n.rep,.int .i64 n.kind,.slice au len cu] 47) (B:=.cells #[.int .i64 id] 3) (C:=.cells #[.int .i64 0,.string ⟨#[]⟩,.int .i64 0,.int .i64 0,.slice none 0 0] 47) (Below.refl _ _)
 generalize (((w.alloc (.cells #[.int .i64 n.id,.string n.name,.int .i64 n.rep,.int .i64 n.kind,.slice au len cu] 47)).alloc (.cells #[.int .i64 id] 3)).alloc (.cells #[.int .i64 0,.string ⟨#[]⟩,.int .i64 0,.int .i64 0,.slice none 0 0] 47)) = w1 at *
 have HW:=Lib.hid hbw;have RA:=Lib.hid rA;have RI:=Lib.hid rI;have RZ:=Lib.hid rZ
 clear rA rI rZ hbw hz
 have cA:=rowc RA.out
 go_wp2_with fail
 refine (HV.out w1 HW.out).mono ?_;rintro e w2 ⟨rfl,hb2⟩
 replace RA:=Lib.hid (row_keep hb2 RA.out);replace RI:=Lib.hid (row_keep hb2 RI.out);replace RZ:=Lib.hid (row_keep hb2 RZ.out);replace HW:=Lib.hid (HW.out.trans (hb2.mono HW.out.size))
 clear hb2 cA HV
 unfold eV
 go_upto_region 5 with fail
 have hba:=(Below.refl w2.heap.size w2).alloc (Nat.le_refl _) (.cells #[.int .i64 0,.string ⟨#[]⟩,.int .i64 0,.int .i64 0,.slice none 0 0] 47)
 have rF:=heap_alloc_new w2 (.cells #[.int .i64 0,.string ⟨#[]⟩,.int .i64 0,.int .i64 0,.slice none 0 0] 47)
 have hsz:=HW.out.size
 have hFI:w.heap.size + 1 ≠ w2.heap.size:=by have:=row_lt RI.out;omega
 have hFA:w.heap.size ≠ w2.heap.size:=by have:=row_lt RI.out;omega
 have hFZ:w.heap.size + 1 + 1 ≠ w2.heap.size:=by have:=row_lt RZ.out;omega
 obtain ⟨gF,hgF⟩:∃ gF,w2.heap.size = gF:=⟨_,rfl⟩
 replace RA:=Lib.hid (row_keep hba RA.out);replace RI:=Lib.hid (row_keep hba RI.out);replace RZ:=Lib.hid (row_keep hba RZ.out);replace HW:=Lib.hid (HW.out.trans (hba.mono HW.out.size));have RF:=Lib.hid rF
 have HFA:=Lib.hid hFA;have HFZ:=Lib.hid hFZ;have HSZ:=Lib.hid hsz
 rw [hgF] at RF HFA HFZ HSZ ⊢
 clear hba rF hgF hFI hFA hFZ hsz
 generalize (w2.alloc (.cells #[.int .i64 0,.string ⟨#[]⟩,.int .i64 0,.int .i64 0,.slice none 0 0] 47)) = w3 at *
 have HC:=Lib.hid (HWK.out gF (w.heap.size + 1) HSZ.out (Nat.le_succ _) w3 HW.out ⟨.slice none 0 0,RF.out,.nil _ _,RI.out⟩)
 clear HWK
 have cA:=rowc RA.out
 go_wp2_with fail
 refine HC.out.mono ?_;rintro e w4 ⟨rfl,hs4,hk4⟩
 obtain ⟨b,s4,hb4⟩:∃ b s4,runF (seeF id) (pre n 0) zeroNd = (b,s4):=⟨_,_,rfl⟩
 rw [hb4] at hs4
 rw [hb4] at HRF
 rw [hb4]
 obtain ⟨us,hsF,hsN,hsI⟩:=hs4
 replace RA:=Lib.hid (hk4.keep _ _ _ _ (.inl rfl) HFA.out RA.out);replace RZ:=Lib.hid (hk4.keep _ _ _ _ (.inl rfl) HFZ.out RZ.out);replace HW:=Lib.hid (HW.out.trans hk4.below)
 obtain ⟨ao,cs,rfl⟩:=hsN.form
 have RS:=Lib.hid hsF;have HSN:=Lib.hid hsN
 clear hsF hsN hsI hk4 hb4 HC cA
 unfold ndA at RS
 cases b with
 | true =>
  have hnone:findN (nodes n) id = none:=by
   cases h:findN (nodes n) id with
   | none=>rfl
   | some p=>have:=HRF.out.1 p h;simp at this
  have HNN:=Lib.hid hnone
  have c6:=HE6.out w4 HW.out
  clear hnone
  go_wp2_with fail
  refine AnyE.region (S:=fun w'=>w'.cell? ⟨1,0,none⟩ = some (.iface 174 (.pointer (some (adr 6))))) (E:=[]) (by kernel_rfl) ?_
  have hbd:=(Below.refl w4.heap.size w4).drew
  replace RZ:=Lib.hid (row_keep hbd RZ.out);replace HW:=Lib.hid (HW.out.trans (hbd.mono HW.out.size))
  clear hbd c6
  generalize w4.drew = wd at *
  have hS:=(HE6.out wd HW.out:(fun w'=>w'.cell? ⟨1,0,none⟩ = some (.iface 174 (.pointer (some (adr 6))))) wd)
  refine AnyE.take (i:=0) (v:=?_) rfl (by kernel_rfl) (by kernel_rfl) (by kernel_rfl) (by kernel_rfl) (by kernel_rfl) (fun _ _ _ h=>h) (Or.inl ⟨by rfl,?_⟩) hS ?_
  rotate_left
  focus (intro wq hSq;obtain hS1:=hSq;go_simp;with_reducible rfl)
  try simp only [Act.put,List.getElem_toArray,List.getElem_cons_succ,List.getElem_cons_zero,List.setIfInBounds_toArray,List.set_cons_zero,List.set_cons_succ]
  refine AnyE.take (i:=1) (v:=?_) rfl (by kernel_rfl) (by kernel_rfl) (by kernel_rfl) (by kernel_rfl) (by kernel_rfl) (fun _ _ _ h=>h) (Or.inl ⟨by rfl,?_⟩) hS ?_
  rotate_left
  focus (intro wq hSq;obtain hS1:=hSq;go_simp;with_reducible rfl)
  try simp only [Act.put,List.getElem_toArray,List.getElem_cons_succ,List.getElem_cons_zero,List.setIfInBounds_toArray,List.set_cons_zero,List.set_cons_succ]
  refine AnyE.one (i:=2) (by kernel_rfl) rfl rfl ?_
  intro K hK
  simp only [List.getElem_toArray,List.getElem_cons_succ,List.getElem_cons_zero]
  refine wp_store_part rfl 47 _ _ rfl (w.heap.size + 1 + 1) 0 #[.int .i64 0,.string ⟨#[]⟩,.int .i64 0,.int .i64 0,.slice none 0 0] 47 #[.int .i64 0,.string ⟨#[]⟩,.int .i64 0,.int .i64 0,.slice none 0 0] rfl rfl RZ.out nd_info (by simp [Value.oneCell']) (Nat.le_of_ble_eq_true rfl) #[.int .i64 0,.string ⟨#[]⟩,.int .i64 0,.int .i64 0,.slice none 0 0] rfl ?_;intro w6 r6 ho6 hb6 hz6
  replace RZ:=Lib.hid r6;replace HW:=Lib.hid (HW.out.trans (hb6.mono (by omega)))
  clear r6 ho6 hb6 hz6
  have hS9:=(HE6.out w6 HW.out:(fun w'=>w'.cell? ⟨1,0,none⟩ = some (.iface 174 (.pointer (some (adr 6))))) w6)
  refine hK _ _ (fun _=>hS9) ?_
  clear hK K hS
  have hS:=hS9;clear hS9
  try simp only [Act.put,List.getElem_toArray,List.getElem_cons_succ,List.getElem_cons_zero,List.setIfInBounds_toArray,List.set_cons_zero,List.set_cons_succ]
  refine AnyE.take (i:=3) (v:=?_) rfl (by kernel_rfl) (by kernel_rfl) (by kernel_rfl) (by kernel_rfl) (by kernel_rfl) (fun _ _ _ h=>h) (Or.inl ⟨by rfl,?_⟩) hS ?_
  rotate_left
  focus (intro wq hSq;obtain hS1:=hSq;go_simp;with_reducible rfl)
  try simp only [Act.put,List.getElem_toArray,List.getElem_cons_succ,List.getElem_cons_zero,List.setIfInBounds_toArray,List.set_cons_zero,List.set_cons_succ]
  refine AnyE.done (by kernel_rfl) ?_ _
  clear hS
  go_wp2_with fail
  refine bodyPost_ret (v:=.tuple #[.agg #[.int .i64 0,.string ⟨#[]⟩,.int .i64 0,.int .i64 0,.slice none 0 0],eV adr 6]) (results_row_tmp Tryd.results40 _ _ (w.heap.size + 1 + 1) 47 _ (0,0) _ rfl RZ.out Tryd.underlying47 rfl (by kernel_rfl)) rfl ⟨HW.out,.inr ⟨HNN.out,rfl⟩⟩
 | false =>
  have hsome:findN (nodes n) id = some s4:=by
   cases h:findN (nodes n) id with
   | none=>have:=HRF.out.2 h;simp at this
   | some p=>have:=HRF.out.1 p h;simp at this;rw [this]
  have HSM:=Lib.hid hsome
  have HZ40:=Lib.hid (row_lt RZ.out)
  have HCP:=Lib.hid (copy_any s4 (.slice ao s4.sub.length cs) w4 (HSN.out.mono fun b hb _=>Nat.lt_of_lt_of_le hb HW.out.size) (fun z hz=>by
   have hm:s4 ∈ nodes n:=List.mem_of_find?_eq_some hsome
   exact HO.out z (nodes_sub _ _ _ hm hz)))
  have cS:=rowc RS.out
  unfold OwnRet ndA at HCP
  clear hsome
  go_wp2_with fail
  refine HCP.out.mono ?_;rintro e w5 ⟨a5,c5,rfl,hn5,hb5⟩
  replace RZ:=Lib.hid (row_keep hb5 RZ.out);replace HW:=Lib.hid (HW.out.trans (hb5.mono HW.out.size))
  have HN5:=Lib.hid hn5
  have hz45:=hb5.size
  have HZ4:=Lib.hid (row_lt RZ.out)
  clear hn5 hb5 cS HCP
  go_wp2_with (refine wpList_store_part rfl 47 _ _ rfl (w.heap.size + 1 + 1) 0 _ 47 #[.int .i64 s4.id,.string s4.name,.int .i64 s4.rep,.int .i64 s4.kind,.slice a5 s4.sub.length c5] rfl rfl RZ.out nd_info (by simp [Value.oneCell']) (Nat.le_of_ble_eq_true rfl) #[.int .i64 s4.id,.string s4.name,.int .i64 s4.rep,.int .i64 s4.kind,.slice a5 s4.sub.length c5] rfl ?_;intro w6 hr6 ho6 hb6 hz6;have R6:=Lib.hid hr6;have HO6:=Lib.hid ho6;have HB6:=Lib.hid hb6;have HZ6:=Lib.hid hz6;clear hr6 ho6 hb6 hz6)
  refine bodyPost_ret (v:=.tuple #[.agg #[.int .i64 s4.id,.string s4.name,.int .i64 s4.rep,.int .i64 s4.kind,.slice a5 s4.sub.length c5],.nilIface]) (results_row_tmp Tryd.results40 _ _ (w.heap.size + 1 + 1) 47 _ (0,0) _ rfl R6.out Tryd.underlying47 rfl (by kernel_rfl)) rfl ⟨HW.out.trans (HB6.out.mono (by omega)),.inl ⟨s4,a5,c5,HSM.out,rfl,?_⟩⟩
  have hz4:=HZ40.out
  exact (HN5.out.keep (Nat.le_of_eq HZ6.out.symm) (fun b hb _=>HO6.out b (by omega))).mono (fun b hb _=>by omega)
end Go.Proofs.YtkmhmnffbgedgaaDoor
