/- The walk of shred.Part where all is right. Written by gen_sp2.py. -/
import Derived.Test.YtkmhmnffbgedgaaDoorMCe
import Derived.Test.YtkmhmnffbgedgaaDoorTv3
import Derived.Test.YtkmhmnffbgedgaaDoorDc2
namespace Go.Proofs.YtkmhmnffbgedgaaDoor
set_option maxHeartbeats 8000000
set_option linter.unusedVariables false
set_option linter.unusedSimpArgs false
open Go Go.RowKit Go.ChangeShapes
def natC (x:Nat):List Value:=[.int .i64 (x:Int)]
theorem natC_one (x:Nat):∀ u ∈ natC x,u.oneCell' = true:=by intro u hu;obtain rfl:=List.mem_singleton.1 hu;rfl
theorem natC_map (l:List Nat):l.flatMap natC = l.map natV:=by
 induction l with
 | nil=>rfl
 | cons x r ih=>rw [List.flatMap_cons,ih];rfl
theorem own_natC {w:World} {B n:Nat} {e:TypeId} {v:Value} {l:List Nat} (h:w.ownsRow B e 1 v n (l.map natV)):w.ownsRow B e 1 v n (l.flatMap natC):=by rw [natC_map];exact h
theorem CutOwn.off {B gz:Nat} {w w9:World} {u:Value} {c:Col} {cs:Array Value} (h:CutOwn B w u c) (hr:w.heap[gz]? = some (.cells cs 32 (0,0))) (ho:∀ i,i ≠ gz → w9.heap[i]? = w.heap[i]?):CutOwn B w9 u c:=by
 obtain ⟨p,q,d,e,h1,h2,h3⟩:=h
 have key:∀ {n s:Nat} {e:TypeId} {v:Value} {xs:List Value},w.ownsRow B e s v n xs → e ≠ 32 → w9.ownsRow B e s v n xs:=fun h he=>own_stay h fun b _ _ hb=>ho b (fun e1=>own_neB h hr (Ne.symm he) (by rw [hb];exact congrArg some e1))
 exact ⟨p,q,d,e,key h1 (by decide),key h2 (by decide),key h3 (by decide)⟩
theorem CutOwn.base {B B':Nat} {w:World} {u:Value} {c:Col} (h:CutOwn B w u c) (hB:B' ≤ B):CutOwn B' w u c:=by
 obtain ⟨p,q,d,e,h1,h2,h3⟩:=h
 exact ⟨p,q,d,e,own_baseN h1 hB,own_baseN h2 hB,own_baseN h3 hB⟩
def PartU (adr:Nat → Addr) (G:GErr) (C:Col) (w:World) (e:Ending) (w':World):Prop:=∃ P Q V ue,e = .returned (.tuple #[.agg #[.int .i64 C.id,P,Q,V],ue]) ∧ CutOwn w.heap.size w' (.agg #[.int .i64 C.id,P,Q,V]) C ∧ IsErr w' adr G ue ∧ Below w.heap.size w w'
theorem PartBad.u {adr:Nat → Addr} {G:GErr} {w w':World} {e:Ending} (h:PartBad adr G w e w'):PartU adr G ⟨0,[],[],[]⟩ w e w':=by
 obtain ⟨⟨u,h1,h2⟩,h3⟩:=h
 exact ⟨_,_,_,u,h1,⟨_,_,_,rfl,World.ownsRow_nil _ _ _ _,World.ownsRow_nil _ _ _ _,World.ownsRow_nil _ _ _ _⟩,h2,h3⟩
theorem CutOwn.isCol {B:Nat} {w:World} {u:Value} {c:Col} (h:CutOwn B w u c):IsCol w u c:=by
 obtain ⟨p,q,d,e,h1,h2,h3⟩:=h
 exact ⟨p,q,d,e,IsInts_of_own h1,IsInts_of_own h2,IsVals.of_own h3⟩
set_option maxRecDepth 100000 in
theorem part_ok (f:Lf) (c:Col) (m n x0 x1:Nat) (vf vc:Value) (w:World) (adr:Nat → Addr) (hE:ErrsAt w adr [3,4]) (hf:IsLf w vf f) (hc:IsCol w vc c) (hroom:RoomCol vc) (fo:f.Ok) (co:c.Ok) (hG:colErr f c false = .nil) (hl:c.rep.length ≤ 100000)
  (hmn:m ≤ n) (hm:(marksOf c.rep)[m]? = some x0) (hn:(marksOf c.rep)[n]? = some x1) (h01:x0 ≤ x1) (h1l:x1 ≤ c.rep.length) :
  Calls Tryd.prog 24 #[vf,vc,.int .i64 (m:Nat),.int .i64 (n:Nat)] w (PartU adr .nil (cutC f c x0 x1) w):=by
 have hR:=(right_of hG).1
 have HCK:=Lib.hid (fun (w1:World) (h:Below w.heap.size w w1)=>ck_any f c false vf vc w1 adr (hE.below h) (hf.below h (Nat.le_refl _)) (hc.below h (Nat.le_refl _)) fo co)
 have HCT:=Lib.hid (fun (w1:World) (h:Below w.heap.size w w1)=>count_any c vc w1 (hc.below h (Nat.le_refl _)) hl)
 have HBG:=Lib.hid (fun (w1:World) (h:Below w.heap.size w w1)=>begins_any c vc w1 (hc.below h (Nat.le_refl _)) hl)
 have HCU:=Lib.hid (fun (w1:World) (h:Below w.heap.size w w1)=>cut_anyL f c x0 x1 vf vc w1 (hf.below h (Nat.le_refl _)) (hc.below h (Nat.le_refl _)) hroom hR hl h01 h1l)
 obtain ⟨p,rfl,hp⟩:=hf
 obtain ⟨a,b,d,rfl,ha,hb,hd⟩:=hc
 have HFL:=Lib.hid hp;have HA:=Lib.hid ha;have HB:=Lib.hid hb;have HD:=Lib.hid hd
 obtain ⟨pa,pc,rfl⟩:=hp.form
 obtain ⟨a1,q1,rfl⟩:=ha.form
 obtain ⟨a2,q2,rfl⟩:=hb.form
 obtain ⟨a3,q3,rfl⟩:=hd.form
 rw [hG] at HCK
 have hnl:n < (marksOf c.rep).length:=(List.getElem?_eq_some_iff.1 hn).1
 have hml:=marksOf_len c.rep
 have hcl:countC c.rep ≤ 100000:=Nat.le_trans (by unfold countC;exact List.length_filter_le _ _) hl
 obtain ⟨N,hN⟩:∃ N,countC c.rep = N:=⟨_,rfl⟩
 rw [hN] at HCT hml hcl
 have hnN:n ≤ N:=by omega
 have HML:=Lib.hid hml;have HM:=Lib.hid hm;have HN:=Lib.hid hn
 have hBL:=Lib.hid (begs_len c.rep)
 rw [hN] at hBL
 have d1:¬ (m:Int) < 0:=by omega
 have d2:¬ (n:Int) < (m:Int):=by omega
 have d3:¬ (N:Int) < (n:Int):=by omega
 have hrl:c.rep.length ≤ 100000:=hl
 clear hE ha hb hd hp fo co hG hN hl hR hroom hm hn hml hnl
 obtain ⟨i0,hi,hz0,hz1,hz2⟩:=info_parts info_intC
 unfold lfA colA at *
 go_enter Tryd.func24,Tryd.ntmps24
 go_upto_region 1 with fail
 obtain ⟨rL,rC,rZ,hbw,hz⟩:=rows3 (w:=w) (A:=.cells #[.int .i64 f.id,.int .i64 f.kind,.int .i64 f.mr,.int .i64 f.md,.slice pa f.path.length pc] 39) (B:=.cells #[.int .i64 c.id,.slice a1 c.rep.length q1,.slice a2 c.df.length q2,.slice a3 c.vals.length q3] 32) (C:=.cells #[.int .i64 0,.slice none 0 0,.slice none 0 0,.slice none 0 0] 32) (Below.refl _ _)
 have RL:=Lib.hid rL;have RC:=Lib.hid rC;have RZ:=Lib.hid rZ;have HW:=Lib.hid hbw
 clear rL rC rZ hbw hz
 generalize (((w.alloc (.cells #[.int .i64 f.id,.int .i64 f.kind,.int .i64 f.mr,.int .i64 f.md,.slice pa f.path.length pc] 39)).alloc (.cells #[.int .i64 c.id,.slice a1 c.rep.length q1,.slice a2 c.df.length q2,.slice a3 c.vals.length q3] 32)).alloc (.cells #[.int .i64 0,.slice none 0 0,.slice none 0 0,.slice none 0 0] 32)) = w1 at *
 have cL:=rowc RL.out;have cC:=rowc RC.out
 go_wp2_with fail
 refine (HCK.out w1 HW.out).mono ?_;rintro e w2 ⟨⟨u,rfl,hu⟩,hb2⟩
 replace RL:=Lib.hid (row_keep hb2 RL.out);replace RC:=Lib.hid (row_keep hb2 RC.out);replace RZ:=Lib.hid (row_keep hb2 RZ.out);replace HW:=Lib.hid (HW.out.trans (hb2.mono HW.out.size))
 clear hb2 cL cC
 obtain rfl:u = .nilIface:=hu
 have cC:=rowc RC.out
 go_upto_region 6 with (refine (HCT.out w2 HW.out).mono ?_;rintro e w3 ⟨rfl,hb3⟩;replace RL:=Lib.hid (row_keep hb3 RL.out);replace RZ:=Lib.hid (row_keep hb3 RZ.out);replace RC:=Lib.hid (row_keep hb3 RC.out);replace HW:=Lib.hid (HW.out.trans (hb3.mono HW.out.size));clear hb3)
 clear cC HCT
 go_cut [11] (fun s11 wx=>∃ (am:Option Addr) (nm cm:Nat),s11 = .slice am nm cm ∧ Hid (wx.ownsRow w3.heap.size 3 1 (.slice am nm cm) (marksOf c.rep).length ((marksOf c.rep).flatMap natC)) ∧ Hid (Below w3.heap.size w3 wx))
 case first =>
  refine AnyE.region (S:=fun w'=>∀ j_1,w'.cell? ⟨w.heap.size + 1,j_1,none⟩ = (#[.int .i64 c.id,.slice a1 c.rep.length q1,.slice a2 c.df.length q2,.slice a3 c.vals.length q3]:Array Value)[j_1]?) (E:=[]) (by kernel_rfl) ?_
  have hbd:=(Below.refl w3.heap.size w3).drew
  have HB:=Lib.hid hbd;have HB0:=hbd.size
  clear hbd
  generalize hwd:w3.drew = wd at HB HB0 ⊢
  clear hwd
  have hS:=(rowc (row_keep HB.out RC.out):(fun w'=>∀ j_1,w'.cell? ⟨w.heap.size + 1,j_1,none⟩ = (#[.int .i64 c.id,.slice a1 c.rep.length q1,.slice a2 c.df.length q2,.slice a3 c.vals.length q3]:Array Value)[j_1]?) wd)
  refine AnyE.take (i:=0) (v:=.agg #[.int .i64 c.id,.slice a1 c.rep.length q1,.slice a2 c.df.length q2,.slice a3 c.vals.length q3]) rfl (by kernel_rfl) (by kernel_rfl) (by kernel_rfl) (by kernel_rfl) (by kernel_rfl) (fun _ _ _ h=>h) (yields_load 32 _ rfl rfl (w.heap.size + 1) (0) rfl #[.int .i64 c.id,.slice a1 c.rep.length q1,.slice a2 c.df.length q2,.slice a3 c.vals.length q3] _ (fun w h=>fun j v hj=>by rw [Nat.zero_add];exact (h j).trans hj) Tryd.underlying32 rfl (by kernel_rfl)) hS ?_
  try simp only [Act.put,List.getElem_toArray,List.getElem_cons_succ,List.getElem_cons_zero,List.setIfInBounds_toArray,List.set_cons_zero,List.set_cons_succ]
  refine AnyE.take (i:=2) (v:=?_) rfl (by kernel_rfl) (by kernel_rfl) (by kernel_rfl) (by kernel_rfl) (by kernel_rfl) (fun _ _ _ h=>h) (Or.inl ⟨by rfl,?_⟩) hS ?_
  rotate_left
  focus (intro wq hSq;obtain hS1:=hSq;go_simp;with_reducible rfl)
  try simp only [Act.put,List.getElem_toArray,List.getElem_cons_succ,List.getElem_cons_zero,List.setIfInBounds_toArray,List.set_cons_zero,List.set_cons_succ]
  refine AnyE.take (i:=3) (v:=?_) rfl (by kernel_rfl) (by kernel_rfl) (by kernel_rfl) (by kernel_rfl) (by kernel_rfl) (fun _ _ _ h=>h) (Or.inl ⟨by rfl,?_⟩) hS ?_
  rotate_left
  focus (intro wq hSq;obtain hS1:=hSq;go_simp;with_reducible rfl)
  try simp only [Act.put,List.getElem_toArray,List.getElem_cons_succ,List.getElem_cons_zero,List.setIfInBounds_toArray,List.set_cons_zero,List.set_cons_succ]
  refine AnyE.take (i:=4) (v:=?_) rfl (by kernel_rfl) (by kernel_rfl) (by kernel_rfl) (by kernel_rfl) (by kernel_rfl) (fun _ _ _ h=>h) (Or.inl ⟨by rfl,?_⟩) hS ?_
  rotate_left
  focus (intro wq hSq;obtain hS1:=hSq;go_simp;with_reducible rfl)
  try simp only [Act.put,List.getElem_toArray,List.getElem_cons_succ,List.getElem_cons_zero,List.setIfInBounds_toArray,List.set_cons_zero,List.set_cons_succ]
  refine AnyE.two (i:=1) (j:=5) (by kernel_rfl) rfl rfl rfl rfl ?_ ?_
  ·intro K hK
   simp only [List.getElem_toArray,List.getElem_cons_succ,List.getElem_cons_zero]
   go_simp
   refine (HBG.out wd (HW.out.trans (HB.out.mono HW.out.size))).mono ?_;rintro e w5 ⟨⟨u5,rfl,hu5⟩,hb5⟩
   obtain ⟨ua,um,uc,rfl⟩:=own_capS hu5
   have hu6:=own_baseN (B':=w3.heap.size) hu5 HB0
   replace HB:=Lib.hid (HB.out.trans (hb5.mono HB0));replace HB0:=Nat.le_trans HB0 hb5.size
   have hult:∀ k,(Value.slice ua um uc).ownBlock = some k → k < w5.heap.size:=fun k hk=>(hu6.lt k hk).2
   refine hK _ _ (fun _=>rowc (row_keep HB.out RC.out)) ?_
   have HU:=Lib.hid hu6
   clear hK K hS hu5 hb5 hu6
   try simp only [Act.put,List.getElem_toArray,List.getElem_cons_succ,List.getElem_cons_zero,List.setIfInBounds_toArray,List.set_cons_zero,List.set_cons_succ]
   have hS:=(rowc (row_keep HB.out RC.out):(fun w'=>∀ j_1,w'.cell? ⟨w.heap.size + 1,j_1,none⟩ = (#[.int .i64 c.id,.slice a1 c.rep.length q1,.slice a2 c.df.length q2,.slice a3 c.vals.length q3]:Array Value)[j_1]?) w5)
   refine AnyE.one (i:=5) (by kernel_rfl) rfl rfl ?_
   intro K hK
   simp only [List.getElem_toArray,List.getElem_cons_succ,List.getElem_cons_zero]
   go_simp
   have hbe:=(Below.refl w5.heap.size w5).alloc (Nat.le_refl _) (.cells #[.int .i64 (c.rep.length:Nat)] 3)
   have hlt:=heap_alloc_new w5 (.cells #[.int .i64 (c.rep.length:Nat)] 3)
   have hglt:w5.heap.size < (w5.alloc (.cells #[.int .i64 (c.rep.length:Nat)] 3)).heap.size:=row_lt hlt
   replace HU:=Lib.hid (own_blw HU.out hbe)
   have hune:∀ k,(Value.slice ua um uc).ownBlock = some k → k ≠ w5.heap.size:=fun k hk e=>by have:=hult k hk;omega
   replace HB:=Lib.hid (HB.out.trans (hbe.mono HB0));replace HB0:=Nat.le_trans HB0 hbe.size
   have HLIT:=Lib.hid hlt
   refine hK _ _ (fun _=>rowc (row_keep HB.out RC.out)) ?_
   clear hK K hS hlt hbe hult
   try simp only [Act.put,List.getElem_toArray,List.getElem_cons_succ,List.getElem_cons_zero,List.setIfInBounds_toArray,List.set_cons_zero,List.set_cons_succ]
   generalize w5.alloc (.cells #[.int .i64 (c.rep.length:Nat)] 3) = wb at *
   generalize w5.heap.size = glit at *
   have hS:=(rowc (row_keep HB.out RC.out):(fun w'=>∀ j_1,w'.cell? ⟨w.heap.size + 1,j_1,none⟩ = (#[.int .i64 c.id,.slice a1 c.rep.length q1,.slice a2 c.df.length q2,.slice a3 c.vals.length q3]:Array Value)[j_1]?) wb)
   refine AnyE.one (i:=6) (by kernel_rfl) rfl rfl ?_
   intro K hK
   simp only [List.getElem_toArray,List.getElem_cons_succ,List.getElem_cons_zero]
   refine wp_pushRow (.tmp 35) (.tmp 39) 22 rfl w3.heap.size 3 i0 _ 1 8 Tryd.underlying22 hi hz0 hz1 hz2 rfl (by decide) natC (fun _=>rfl) natC_one (.slice ua um uc) (begs c.rep) ?_ (own_natC HU.out) glit ?_ c.rep.length #[.int .i64 (c.rep.length:Nat)] 3 HLIT.out rfl (by have:=hBL.out;unfold maxLen;omega) (by have:=hBL.out;omega) HB0 ?_
   focus (go_simp)
   focus (go_simp)
   intro v7 w7 hn7 hg7 hq7
   obtain ⟨am,nm,cm,rfl⟩:=own_capS hn7
   have hb7:Below w3.heap.size wb w7:=(Below.refl w3.heap.size wb).grown hg7 HB0 (fun k hk=>(HU.out.lt k hk).1)
   replace HB:=Lib.hid (HB.out.trans hb7)
   have HN7:=Lib.hid hn7
   refine hK _ _ (fun _=>rowc (row_keep HB.out RC.out)) ?_
   clear hK K hS hn7 hg7 hq7 hb7
   try simp only [Act.put,List.getElem_toArray,List.getElem_cons_succ,List.getElem_cons_zero,List.setIfInBounds_toArray,List.set_cons_zero,List.set_cons_succ]
   have hS:=(rowc (row_keep HB.out RC.out):(fun w'=>∀ j_1,w'.cell? ⟨w.heap.size + 1,j_1,none⟩ = (#[.int .i64 c.id,.slice a1 c.rep.length q1,.slice a2 c.df.length q2,.slice a3 c.vals.length q3]:Array Value)[j_1]?) w7)
   refine AnyE.take (i:=7) (v:=?_) rfl (by kernel_rfl) (by kernel_rfl) (by kernel_rfl) (by kernel_rfl) (by kernel_rfl) (fun _ _ _ h=>h) (Or.inl ⟨by rfl,?_⟩) hS ?_
   rotate_left
   focus (intro wq hSq;obtain hS1:=hSq;go_simp;with_reducible rfl)
   try simp only [Act.put,List.getElem_toArray,List.getElem_cons_succ,List.getElem_cons_zero,List.setIfInBounds_toArray,List.set_cons_zero,List.set_cons_succ]
   refine AnyE.done (by kernel_rfl) ?_ _
   go_wp2_with fail
   go_meet
   exact ⟨am,nm,cm,rfl,HN7.out,HB.out⟩
  ·intro K hK
   simp only [List.getElem_toArray,List.getElem_cons_succ,List.getElem_cons_zero]
   go_simp
   have hbe:=(Below.refl wd.heap.size wd).alloc (Nat.le_refl _) (.cells #[.int .i64 (c.rep.length:Nat)] 3)
   have hlt:=heap_alloc_new wd (.cells #[.int .i64 (c.rep.length:Nat)] 3)
   have hglt:wd.heap.size < (wd.alloc (.cells #[.int .i64 (c.rep.length:Nat)] 3)).heap.size:=row_lt hlt
   replace HB:=Lib.hid (HB.out.trans (hbe.mono HB0));replace HB0:=Nat.le_trans HB0 hbe.size
   have HLIT:=Lib.hid hlt
   refine hK _ _ (fun _=>rowc (row_keep HB.out RC.out)) ?_
   clear hK K hS hlt hbe
   try simp only [Act.put,List.getElem_toArray,List.getElem_cons_succ,List.getElem_cons_zero,List.setIfInBounds_toArray,List.set_cons_zero,List.set_cons_succ]
   generalize wd.alloc (.cells #[.int .i64 (c.rep.length:Nat)] 3) = wb at *
   generalize wd.heap.size = glit at *
   have hS:=(rowc (row_keep HB.out RC.out):(fun w'=>∀ j_1,w'.cell? ⟨w.heap.size + 1,j_1,none⟩ = (#[.int .i64 c.id,.slice a1 c.rep.length q1,.slice a2 c.df.length q2,.slice a3 c.vals.length q3]:Array Value)[j_1]?) wb)
   refine AnyE.one (i:=1) (by kernel_rfl) rfl rfl ?_
   intro K hK
   simp only [List.getElem_toArray,List.getElem_cons_succ,List.getElem_cons_zero]
   go_simp
   refine (HBG.out wb (HW.out.trans (HB.out.mono HW.out.size))).mono ?_;rintro e w5 ⟨⟨u5,rfl,hu5⟩,hb5⟩
   obtain ⟨ua,um,uc,rfl⟩:=own_capS hu5
   replace HLIT:=Lib.hid (row_keep hb5 HLIT.out)
   have hu6:=own_baseN (B':=w3.heap.size) hu5 HB0
   replace HB:=Lib.hid (HB.out.trans (hb5.mono HB0));replace HB0:=Nat.le_trans HB0 hb5.size
   have hune:∀ k,(Value.slice ua um uc).ownBlock = some k → k ≠ glit:=fun k hk e=>by have h1:=(hu5.lt k hk).1;omega
   refine hK _ _ (fun _=>rowc (row_keep HB.out RC.out)) ?_
   have HU:=Lib.hid hu6
   clear hK K hS hu5 hb5 hu6
   try simp only [Act.put,List.getElem_toArray,List.getElem_cons_succ,List.getElem_cons_zero,List.setIfInBounds_toArray,List.set_cons_zero,List.set_cons_succ]
   have hS:=(rowc (row_keep HB.out RC.out):(fun w'=>∀ j_1,w'.cell? ⟨w.heap.size + 1,j_1,none⟩ = (#[.int .i64 c.id,.slice a1 c.rep.length q1,.slice a2 c.df.length q2,.slice a3 c.vals.length q3]:Array Value)[j_1]?) w5)
   refine AnyE.one (i:=6) (by kernel_rfl) rfl rfl ?_
   intro K hK
   simp only [List.getElem_toArray,List.getElem_cons_succ,List.getElem_cons_zero]
   refine wp_pushRow (.tmp 35) (.tmp 39) 22 rfl w3.heap.size 3 i0 _ 1 8 Tryd.underlying22 hi hz0 hz1 hz2 rfl (by decide) natC (fun _=>rfl) natC_one (.slice ua um uc) (begs c.rep) ?_ (own_natC HU.out) glit ?_ c.rep.length #[.int .i64 (c.rep.length:Nat)] 3 HLIT.out rfl (by have:=hBL.out;unfold maxLen;omega) (by have:=hBL.out;omega) HB0 ?_
   focus (go_simp)
   focus (go_simp)
   intro v7 w7 hn7 hg7 hq7
   obtain ⟨am,nm,cm,rfl⟩:=own_capS hn7
   have hb7:Below w3.heap.size w5 w7:=(Below.refl w3.heap.size w5).grown hg7 HB0 (fun k hk=>(HU.out.lt k hk).1)
   replace HB:=Lib.hid (HB.out.trans hb7)
   have HN7:=Lib.hid hn7
   refine hK _ _ (fun _=>rowc (row_keep HB.out RC.out)) ?_
   clear hK K hS hn7 hg7 hq7 hb7
   try simp only [Act.put,List.getElem_toArray,List.getElem_cons_succ,List.getElem_cons_zero,List.setIfInBounds_toArray,List.set_cons_zero,List.set_cons_succ]
   have hS:=(rowc (row_keep HB.out RC.out):(fun w'=>∀ j_1,w'.cell? ⟨w.heap.size + 1,j_1,none⟩ = (#[.int .i64 c.id,.slice a1 c.rep.length q1,.slice a2 c.df.length q2,.slice a3 c.vals.length q3]:Array Value)[j_1]?) w7)
   refine AnyE.take (i:=7) (v:=?_) rfl (by kernel_rfl) (by kernel_rfl) (by kernel_rfl) (by kernel_rfl) (by kernel_rfl) (fun _ _ _ h=>h) (Or.inl ⟨by rfl,?_⟩) hS ?_
   rotate_left
   focus (intro wq hSq;obtain hS1:=hSq;go_simp;with_reducible rfl)
   try simp only [Act.put,List.getElem_toArray,List.getElem_cons_succ,List.getElem_cons_zero,List.setIfInBounds_toArray,List.set_cons_zero,List.set_cons_succ]
   refine AnyE.done (by kernel_rfl) ?_ _
   go_wp2_with fail
   go_meet
   exact ⟨am,nm,cm,rfl,HN7.out,HB.out⟩
 case rest =>
  obtain ⟨am,nm,cm,rfl,HR,HB⟩:=hcut
  replace RL:=Lib.hid (row_keep HB.out RL.out);replace RZ:=Lib.hid (row_keep HB.out RZ.out);replace RC:=Lib.hid (row_keep HB.out RC.out);replace HW:=Lib.hid (HW.out.trans (HB.out.mono HW.out.size))
  obtain ⟨gm,cpm,cur,e1,hgm,hgr,hgc,hgv⟩:=own_rowS HR.out (by have:=HML.out;omega)
  injection e1 with e1 e2 e3
  subst e1 e2 e3
  have hm0:cur[m]? = some (.int .i64 (x0:Nat)):=by
   refine hgv m _ ?_
   have:=flat_atK natC 1 (fun _=>rfl) (marksOf c.rep) m x0 HM.out 0 (by omega)
   rw [Nat.mul_one,Nat.add_zero] at this
   exact this
  have hn0:cur[n]? = some (.int .i64 (x1:Nat)):=by
   refine hgv n _ ?_
   have:=flat_atK natC 1 (fun _=>rfl) (marksOf c.rep) n x1 HN.out 0 (by omega)
   rw [Nat.mul_one,Nat.add_zero] at this
   exact this
  obtain ⟨nm,hnm⟩:∃ nm,(marksOf c.rep).length = nm:=⟨_,rfl⟩
  have hnm1:nm = N + 1:=by rw [← hnm];exact HML.out
  rw [hnm]
  clear hgv hnm HR
  have RM:=Lib.hid hgr;have HM0:=Lib.hid hm0;have HN0:=Lib.hid hn0
  clear hgr hm0 hn0
  have hin1:(m:Int) < (nm:Int):=by omega
  have hin2:(n:Int) < (nm:Int):=by omega
  clear hnm1
  go_upto_region 7 with fail
  refine AnyE.region (S:=fun w'=>(∀ j_1,w'.cell? ⟨w.heap.size,j_1,none⟩ = (#[.int .i64 f.id,.int .i64 f.kind,.int .i64 f.mr,.int .i64 f.md,.slice pa f.path.length pc]:Array Value)[j_1]?) ∧ (∀ j_1,w'.cell? ⟨w.heap.size + 1,j_1,none⟩ = (#[.int .i64 c.id,.slice a1 c.rep.length q1,.slice a2 c.df.length q2,.slice a3 c.vals.length q3]:Array Value)[j_1]?) ∧ w'.cell? ⟨gm,m,none⟩ = some (.int .i64 (x0:Nat)) ∧ w'.cell? ⟨gm,n,none⟩ = some (.int .i64 (x1:Nat))) (E:=[11,12]) (by kernel_rfl) ?_
  have hbd:=(Below.refl wc.heap.size wc).drew
  replace RL:=Lib.hid (row_keep hbd RL.out);replace RZ:=Lib.hid (row_keep hbd RZ.out);replace RC:=Lib.hid (row_keep hbd RC.out);replace RM:=Lib.hid (row_keep hbd RM.out);replace HW:=Lib.hid (HW.out.trans (hbd.mono HW.out.size))
  clear hbd
  generalize wc.drew = wd at *
  have hS:=(⟨rowc RL.out,rowc RC.out,(rowc RM.out m).trans HM0.out,(rowc RM.out n).trans HN0.out⟩:(fun w'=>(∀ j_1,w'.cell? ⟨w.heap.size,j_1,none⟩ = (#[.int .i64 f.id,.int .i64 f.kind,.int .i64 f.mr,.int .i64 f.md,.slice pa f.path.length pc]:Array Value)[j_1]?) ∧ (∀ j_1,w'.cell? ⟨w.heap.size + 1,j_1,none⟩ = (#[.int .i64 c.id,.slice a1 c.rep.length q1,.slice a2 c.df.length q2,.slice a3 c.vals.length q3]:Array Value)[j_1]?) ∧ w'.cell? ⟨gm,m,none⟩ = some (.int .i64 (x0:Nat)) ∧ w'.cell? ⟨gm,n,none⟩ = some (.int .i64 (x1:Nat))) wd)
  refine AnyE.take (i:=0) (v:=.agg #[.int .i64 f.id,.int .i64 f.kind,.int .i64 f.mr,.int .i64 f.md,.slice pa f.path.length pc]) rfl (by kernel_rfl) (by kernel_rfl) (by kernel_rfl) (by kernel_rfl) (by kernel_rfl) (fun _ _ _ h=>h) (yields_load 39 _ rfl rfl w.heap.size (0) rfl #[.int .i64 f.id,.int .i64 f.kind,.int .i64 f.mr,.int .i64 f.md,.slice pa f.path.length pc] _ (fun w h=>fun j v hj=>by rw [Nat.zero_add];exact (h.1 j).trans hj) Tryd.underlying39 rfl (by kernel_rfl)) hS ?_
  try simp only [Act.put,List.getElem_toArray,List.getElem_cons_succ,List.getElem_cons_zero,List.setIfInBounds_toArray,List.set_cons_zero,List.set_cons_succ]
  refine AnyE.take (i:=1) (v:=.agg #[.int .i64 c.id,.slice a1 c.rep.length q1,.slice a2 c.df.length q2,.slice a3 c.vals.length q3]) rfl (by kernel_rfl) (by kernel_rfl) (by kernel_rfl) (by kernel_rfl) (by kernel_rfl) (fun _ _ _ h=>h) (yields_load 32 _ rfl rfl (w.heap.size + 1) (0) rfl #[.int .i64 c.id,.slice a1 c.rep.length q1,.slice a2 c.df.length q2,.slice a3 c.vals.length q3] _ (fun w h=>fun j v hj=>by rw [Nat.zero_add];exact (h.2.1 j).trans hj) Tryd.underlying32 rfl (by kernel_rfl)) hS ?_
  try simp only [Act.put,List.getElem_toArray,List.getElem_cons_succ,List.getElem_cons_zero,List.setIfInBounds_toArray,List.set_cons_zero,List.set_cons_succ]
  refine AnyE.take (i:=2) (v:=?_) rfl (by kernel_rfl) (by kernel_rfl) (by kernel_rfl) (by kernel_rfl) (by kernel_rfl) (fun _ _ _ h=>h) (Or.inl ⟨by rfl,?_⟩) hS ?_
  rotate_left
  focus (intro wq hSq;obtain ⟨hS1,hS2,hS3,hS4⟩:=hSq;go_simp;with_reducible rfl)
  try simp only [Act.put,List.getElem_toArray,List.getElem_cons_succ,List.getElem_cons_zero,List.setIfInBounds_toArray,List.set_cons_zero,List.set_cons_succ]
  refine AnyE.take (i:=3) (v:=?_) rfl (by kernel_rfl) (by kernel_rfl) (by kernel_rfl) (by kernel_rfl) (by kernel_rfl) (fun _ _ _ h=>h) (Or.inl ⟨by rfl,?_⟩) hS ?_
  rotate_left
  focus (intro wq hSq;obtain ⟨hS1,hS2,hS3,hS4⟩:=hSq;go_simp;with_reducible rfl)
  try simp only [Act.put,List.getElem_toArray,List.getElem_cons_succ,List.getElem_cons_zero,List.setIfInBounds_toArray,List.set_cons_zero,List.set_cons_succ]
  refine AnyE.take (i:=4) (v:=?_) rfl (by kernel_rfl) (by kernel_rfl) (by kernel_rfl) (by kernel_rfl) (by kernel_rfl) (fun _ _ _ h=>h) (Or.inl ⟨by rfl,?_⟩) hS ?_
  rotate_left
  focus (intro wq hSq;obtain ⟨hS1,hS2,hS3,hS4⟩:=hSq;go_simp;with_reducible rfl)
  try simp only [Act.put,List.getElem_toArray,List.getElem_cons_succ,List.getElem_cons_zero,List.setIfInBounds_toArray,List.set_cons_zero,List.set_cons_succ]
  refine AnyE.take (i:=5) (v:=?_) rfl (by kernel_rfl) (by kernel_rfl) (by kernel_rfl) (by kernel_rfl) (by kernel_rfl) (fun _ _ _ h=>h) (Or.inl ⟨by rfl,?_⟩) hS ?_
  rotate_left
  focus (intro wq hSq;obtain ⟨hS1,hS2,hS3,hS4⟩:=hSq;go_simp;with_reducible rfl)
  try simp only [Act.put,List.getElem_toArray,List.getElem_cons_succ,List.getElem_cons_zero,List.setIfInBounds_toArray,List.set_cons_zero,List.set_cons_succ]
  refine AnyE.take (i:=6) (v:=?_) rfl (by kernel_rfl) (by kernel_rfl) (by kernel_rfl) (by kernel_rfl) (by kernel_rfl) (fun _ _ _ h=>h) (Or.inl ⟨by rfl,?_⟩) hS ?_
  rotate_left
  focus (intro wq hSq;obtain ⟨hS1,hS2,hS3,hS4⟩:=hSq;go_simp;with_reducible rfl)
  try simp only [Act.put,List.getElem_toArray,List.getElem_cons_succ,List.getElem_cons_zero,List.setIfInBounds_toArray,List.set_cons_zero,List.set_cons_succ]
  refine AnyE.take (i:=7) (v:=?_) rfl (by kernel_rfl) (by kernel_rfl) (by kernel_rfl) (by kernel_rfl) (by kernel_rfl) (fun _ _ _ h=>h) (Or.inl ⟨by rfl,?_⟩) hS ?_
  rotate_left
  focus (intro wq hSq;obtain ⟨hS1,hS2,hS3,hS4⟩:=hSq;go_simp;with_reducible rfl)
  try simp only [Act.put,List.getElem_toArray,List.getElem_cons_succ,List.getElem_cons_zero,List.setIfInBounds_toArray,List.set_cons_zero,List.set_cons_succ]
  refine AnyE.take (i:=8) (v:=?_) rfl (by kernel_rfl) (by kernel_rfl) (by kernel_rfl) (by kernel_rfl) (by kernel_rfl) (fun _ _ _ h=>h) (Or.inl ⟨by rfl,?_⟩) hS ?_
  rotate_left
  focus (intro wq hSq;obtain ⟨hS1,hS2,hS3,hS4⟩:=hSq;go_simp;with_reducible rfl)
  try simp only [Act.put,List.getElem_toArray,List.getElem_cons_succ,List.getElem_cons_zero,List.setIfInBounds_toArray,List.set_cons_zero,List.set_cons_succ]
  refine AnyE.take (i:=9) (v:=?_) rfl (by kernel_rfl) (by kernel_rfl) (by kernel_rfl) (by kernel_rfl) (by kernel_rfl) (fun _ _ _ h=>h) (Or.inl ⟨by rfl,?_⟩) hS ?_
  rotate_left
  focus (intro wq hSq;obtain ⟨hS1,hS2,hS3,hS4⟩:=hSq;go_simp;with_reducible rfl)
  try simp only [Act.put,List.getElem_toArray,List.getElem_cons_succ,List.getElem_cons_zero,List.setIfInBounds_toArray,List.set_cons_zero,List.set_cons_succ]
  have hwdz:w.heap.size ≤ wd.heap.size:=HW.out.size
  refine AnyE.one (i:=10) (by kernel_rfl) rfl rfl ?_
  intro K hK
  simp only [List.getElem_toArray,List.getElem_cons_succ,List.getElem_cons_zero]
  go_simp
  refine (HCU.out wd HW.out).mono ?_;rintro e w5 ⟨⟨u5,rfl,-,-,hu5⟩,hb5⟩
  replace RZ:=Lib.hid (row_keep hb5 RZ.out)
  have hS9:=(⟨rowc (row_keep hb5 RL.out),rowc (row_keep hb5 RC.out),(rowc (row_keep hb5 RM.out) m).trans HM0.out,(rowc (row_keep hb5 RM.out) n).trans HN0.out⟩:(fun w'=>(∀ j_1,w'.cell? ⟨w.heap.size,j_1,none⟩ = (#[.int .i64 f.id,.int .i64 f.kind,.int .i64 f.mr,.int .i64 f.md,.slice pa f.path.length pc]:Array Value)[j_1]?) ∧ (∀ j_1,w'.cell? ⟨w.heap.size + 1,j_1,none⟩ = (#[.int .i64 c.id,.slice a1 c.rep.length q1,.slice a2 c.df.length q2,.slice a3 c.vals.length q3]:Array Value)[j_1]?) ∧ w'.cell? ⟨gm,m,none⟩ = some (.int .i64 (x0:Nat)) ∧ w'.cell? ⟨gm,n,none⟩ = some (.int .i64 (x1:Nat))) w5)
  replace HW:=Lib.hid (HW.out.trans (hb5.mono HW.out.size))
  obtain ⟨p5,q5,v5,e5,h51,h52,h53⟩:=hu5
  obtain ⟨Pa,Pm,Pc,rfl⟩:=own_capS h51;obtain ⟨Qa,Qm,Qc,rfl⟩:=own_capS h52;obtain ⟨Va,Vm,Vc,rfl⟩:=own_capS h53
  subst e5
  have HU:=Lib.hid (show CutOwn wd.heap.size w5 _ (cutC f c x0 x1) from ⟨_,_,_,rfl,h51,h52,h53⟩)
  rw [show (cutC f c x0 x1).id = c.id from rfl] at HU ⊢
  refine hK _ _ (fun _=>hS9) ?_
  clear hK K hS hS9 h51 h52 h53 hb5
  try simp only [Act.put,List.getElem_toArray,List.getElem_cons_succ,List.getElem_cons_zero,List.setIfInBounds_toArray,List.set_cons_zero,List.set_cons_succ]
  refine AnyE.one (i:=11) (by kernel_rfl) rfl rfl ?_
  intro K hK
  simp only [List.getElem_toArray,List.getElem_cons_succ,List.getElem_cons_zero]
  refine wp_store_part rfl 32 _ _ rfl (w.heap.size + 1 + 1) 0 #[.int .i64 0,.slice none 0 0,.slice none 0 0,.slice none 0 0] 32 #[.int .i64 c.id,.slice Pa Pm Pc,.slice Qa Qm Qc,.slice Va Vm Vc] rfl rfl RZ.out (by kernel_rfl) (by simp [Value.oneCell']) (Nat.le_of_ble_eq_true rfl) #[.int .i64 c.id,.slice Pa Pm Pc,.slice Qa Qm Qc,.slice Va Vm Vc] rfl ?_;intro w9 r9 ho9 hb9 hz9
  refine hK _ _ (fun h=>absurd h (by decide)) ?_
  clear hK K
  try simp only [Act.put,List.getElem_toArray,List.getElem_cons_succ,List.getElem_cons_zero,List.setIfInBounds_toArray,List.set_cons_zero,List.set_cons_succ]
  refine AnyE.one (i:=12) (by kernel_rfl) rfl rfl ?_
  intro K hK
  simp only [List.getElem_toArray,List.getElem_cons_succ,List.getElem_cons_zero]
  go_simp
  refine hK _ _ (fun h=>absurd h (by decide)) ?_
  clear hK K
  try simp only [Act.put,List.getElem_toArray,List.getElem_cons_succ,List.getElem_cons_zero,List.setIfInBounds_toArray,List.set_cons_zero,List.set_cons_succ]
  refine AnyE.done (by kernel_rfl) ?_ _
  have R9:=Lib.hid r9;have HB9:=Lib.hid hb9;have HU9:=Lib.hid (HU.out.off RZ.out ho9)
  clear r9 ho9 hb9 hz9
  go_wp2_with fail
  refine bodyPost_ret (v:=.tuple #[.agg #[.int .i64 c.id,.slice Pa Pm Pc,.slice Qa Qm Qc,.slice Va Vm Vc],.nilIface]) (results_row_tmp Tryd.results24 _ _ (w.heap.size + 1 + 1) 32 _ (0,0) _ rfl R9.out Tryd.underlying32 rfl (by kernel_rfl)) rfl ⟨_,_,_,_,rfl,HU9.out.base hwdz,rfl,HW.out.trans (HB9.out.mono (by omega))⟩
end Go.Proofs.YtkmhmnffbgedgaaDoor
