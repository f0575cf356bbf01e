/- The walk of shred's (*writer).put: an entry more. Written by gen_sh2.py. -/
import Derived.Test.YtkmhmnffbgedgaaDoorTr2
import Derived.Test.YtkmhmnffbgedgaaDoorTv3
namespace Go.Proofs.YtkmhmnffbgedgaaDoor
set_option maxHeartbeats 16000000
set_option linter.unusedVariables false
set_option linter.unusedSimpArgs false
open Go Go.RowKit Go.ChangeShapes
theorem own_capS {w:World} {B n s:Nat} {e:TypeId} {v:Value} {xs:List Value} (h:w.ownsRow B e s v n xs):∃ m b c,v = .slice m b c:=by
 rcases h.2 with ⟨rfl,rfl⟩ | ⟨g,cap,cur,rfl,_⟩ <;> exact ⟨_,_,_,rfl⟩
theorem valCells_one (x:Val):∀ u ∈ valCells x,u.oneCell' = true:=by
 intro u hu
 simp only [valCells,List.mem_cons,List.not_mem_nil,or_false] at hu
 rcases hu with rfl | rfl | rfl <;> rfl
theorem upd_upd {α:Type} (f:Nat → α) (j:Nat) (a b:α):upd (upd f j a) j b = upd f j b:=by funext i;unfold upd;split <;> rfl
theorem own_as {w:World} {B n s:Nat} {e:TypeId} {v v':Value} {xs:List Value} (hv:v = v') (h:w.ownsRow B e s v n xs):w.ownsRow B e s v' n xs:=hv ▸ h
theorem grown_keep {w w':World} {B s n b:Nat} {e T:TypeId} {v:Value} {xs:List Value} {cs:Array Value} {fr:Nat × Nat} (hown:w.ownsRow B e s v n xs) (hg:w.grownBy w' v.ownBlock) (hb:w.heap[b]? = some (.cells cs T fr)) (he:T ≠ e) :
  w'.heap[b]? = some (.cells cs T fr):=(hg.block b (row_lt hb) (fun e1=>own_neB hown hb he e1.symm)).trans hb
theorem grown_old {w w':World} {b z:Nat} {v:Value} {o:Obj} (hv:∀ k,v.ownBlock = some k → k < z) (hz:z ≤ b) (hg:w.grownBy w' v.ownBlock) (hb:w.heap[b]? = some o):w'.heap[b]? = some o :=
 (hg.block b (row_lt hb) (fun e1=>by have:=hv b e1.symm;omega)).trans hb
def putC (mx:Nat → Int) (C:Nat → Col) (j:Nat) (e:Ent):Nat → Col:=upd C j (addC (mx j) (C j) [e])
def PutRet (B0 B W g cap n:Nat) (mv:Value) (mx ids:Nat → Int) (C:Nat → Col) (w:World) (e:Ending) (w':World):Prop :=
 e = .returned (.tuple #[]) ∧ Wr B0 B W g cap n mv mx ids w' C ∧ Fr B0 B g w w'
theorem put_levels {B0 B W g cap n:Nat} {mv:Value} {mx ids:Nat → Int} {w w5 w6:World} {C:Nat → Col} {cs:Array Value} {P Q D:Nat → Value} {j:Nat} {r d:Int} {v1 v2:Value}
  (hw:Wr B0 B W g cap n mv mx ids w C) (hj:j < n) (hC:CCells cs n ids P Q D) (hG:w5.heap[g]? = some (.cells cs 32 (0,0))) (hF:Fr B0 B g w w5) (hB:B ≤ w5.heap.size)
  (hR:CRows w5 B n (upd P j v1) (upd Q j v2) D (upd C j ⟨(C j).id,(C j).rep ++ [r],(C j).df ++ [d],(C j).vals⟩)) (h6:w6 = (w5.setCell ⟨g,j * 4 + 1,none⟩ v1).setCell ⟨g,j * 4 + 2,none⟩ v2) :
  (∃ cs',w6.heap[g]? = some (.cells cs' 32 (0,0)) ∧ CCells cs' n ids (upd P j v1) (upd Q j v2) D) ∧ CRows w6 B n (upd P j v1) (upd Q j v2) D (upd C j ⟨(C j).id,(C j).rep ++ [r],(C j).df ++ [d],(C j).vals⟩) ∧ Fr B0 B g w w6 ∧ B ≤ w6.heap.size ∧ w6.heap.size = w5.heap.size:=by
 subst h6
 have g1:=heap_setCell_same _ _ (j * 4 + 1) _ _ v1 hG
 have g2:=heap_setCell_same _ _ (j * 4 + 2) _ _ v2 g1
 refine ⟨⟨_,g2,(hC.setP hj v1).setQ hj v2⟩,hR.keep fun b h1 _=>?_,(hF.trans (Fr.store w5 _ v1 hw.h0g)).trans (Fr.store _ _ v2 hw.h0g),?_,?_⟩
 ·have hne:b ≠ g:=by have:=hw.hg;omega
  rw [heap_setCell_other _ _ _ _ hne,heap_setCell_other _ _ _ _ hne]
 ·simpa [World.setCell] using hB
 ·simp [World.setCell]
theorem own_same {w:World} {B s:Nat} {e:TypeId} {v:Value} {c c':Col} (h:w.ownsRow B e s v c.df.length (c.df.flatMap intC)) (hc:c = c'):w.ownsRow B e s v c'.df.length (c'.df.flatMap intC):=hc ▸ h
def MidP (B0 B g n:Nat) (ids:Nat → Int) (w wx:World) (P Q D:Nat → Value) (C:Nat → Col) (j:Nat) (r d:Int) (cs0:Array Value):Prop :=
 ∃ (cs:Array Value) (P' Q':Nat → Value),wx.heap[g]? = some (.cells cs 32 (0,0)) ∧ CCells cs n ids P' Q' D ∧ CRows wx B n P' Q' D (upd C j ⟨(C j).id,(C j).rep ++ [r],(C j).df ++ [d],(C j).vals⟩) ∧ Fr B0 B g w wx ∧ B ≤ wx.heap.size
theorem mid_of {B0 B W g cap n gv:Nat} {mv:Value} {mx ids:Nat → Int} {w w5:World} {C:Nat → Col} {cs:Array Value} {P Q D:Nat → Value} {j:Nat} {r d:Int} {v1 v2:Value} {o:Obj}
  (hw:Wr B0 B W g cap n mv mx ids w C) (hj:j < n) (hC:CCells cs n ids P Q D) (hG:w5.heap[g]? = some (.cells cs 32 (0,0))) (hF:Fr B0 B g w w5) (hB:B ≤ w5.heap.size)
  (hR:CRows w5 B n (upd P j v1) (upd Q j v2) D (upd C j ⟨(C j).id,(C j).rep ++ [r],(C j).df ++ [d],(C j).vals⟩)) (hV:w5.heap[gv]? = some o) (hne:g ≠ gv) :
  MidP B0 B g n ids w ((w5.setCell ⟨g,j * 4 + 1,none⟩ v1).setCell ⟨g,j * 4 + 2,none⟩ v2) P Q D C j r d cs ∧ ((w5.setCell ⟨g,j * 4 + 1,none⟩ v1).setCell ⟨g,j * 4 + 2,none⟩ v2).heap[gv]? = some o:=by
 obtain ⟨⟨cs',k1,k2⟩,k3,k4,k5,_⟩:=put_levels hw hj hC hG hF hB hR rfl
 refine ⟨⟨cs',_,_,k1,k2,k3,k4,k5⟩,?_⟩
 rw [heap_setCell_other _ _ _ _ (Ne.symm hne),heap_setCell_other _ _ _ _ (Ne.symm hne)]
 exact hV
theorem own_sameV {w:World} {B s:Nat} {e:TypeId} {v:Value} {c c':Col} (h:w.ownsRow B e s v c.vals.length (c.vals.flatMap valCells)) (hc:c = c'):w.ownsRow B e s v c'.vals.length (c'.vals.flatMap valCells):=hc ▸ h
theorem Wr.back {B0 B W g cap n:Nat} {mv:Value} {mx ids:Nat → Int} {w w':World} {C C':Nat → Col} (hw:Wr B0 B W g cap n mv mx ids w C) (hF:Fr B0 B g w w')
  (hs:∃ (cs:Array Value) (P Q D:Nat → Value),w'.heap[g]? = some (.cells cs 32 (0,0)) ∧ CCells cs n ids P Q D ∧ CRows w' B n P Q D C') (hl:∀ j,j < n → (C' j).df.length = (C' j).rep.length ∧ (C' j).vals.length ≤ (C' j).rep.length) :
  Wr B0 B W g cap n mv mx ids w' C':=by
 obtain ⟨gm,mc,cur,h1,h2,h3,h4,h5⟩:=hw.mx
 exact ⟨hw.hW,hw.hg,hw.hgW,Nat.le_trans hw.hB hF.size,hw.h0,hw.h0g,hw.nc,hw.n1,(hF.lo W hw.hW (Ne.symm hw.hgW)).trans hw.wr,⟨gm,mc,cur,h1,h2,h3,(hF.lo gm h2 h3).trans h4,h5⟩,hs,hl⟩
theorem putC_len {mx:Nat → Int} {C:Nat → Col} {n j:Nat} {e:Ent} (h:∀ i,i < n → (C i).df.length = (C i).rep.length ∧ (C i).vals.length ≤ (C i).rep.length):∀ i,i < n → (putC mx C j e i).df.length = (putC mx C j e i).rep.length ∧ (putC mx C j e i).vals.length ≤ (putC mx C j e i).rep.length:=by
 intro i hi
 have h1:=h i hi
 unfold putC
 by_cases hij:i = j
 ·subst hij
  rw [upd_same]
  by_cases hm:e.d = mx i
  ·rw [addC_yes hm];simp;omega
  ·rw [addC_no hm];simp;omega
 ·rw [upd_ne _ _ hij];exact h1
theorem put_yes {B0 B W g cap n:Nat} {mv:Value} {mx ids:Nat → Int} {w w5:World} {C:Nat → Col} {cs:Array Value} {P Q D:Nat → Value} {j:Nat} {r d:Int} {v:Val} {v3:Value}
  (hw:Wr B0 B W g cap n mv mx ids w C) (hj:j < n) (hm:d = mx j) (hC:CCells cs n ids P Q D) (hG:w5.heap[g]? = some (.cells cs 32 (0,0))) (hF:Fr B0 B g w w5)
  (hR:CRows w5 B n P Q (upd D j v3) (upd C j ⟨(C j).id,(C j).rep ++ [r],(C j).df ++ [d],(C j).vals ++ [v]⟩)) :
  Wr B0 B W g cap n mv mx ids (w5.setCell ⟨g,j * 4 + 3,none⟩ v3) (putC mx C j ⟨r,d,v⟩) ∧ Fr B0 B g w (w5.setCell ⟨g,j * 4 + 3,none⟩ v3):=by
 have g1:=heap_setCell_same _ _ (j * 4 + 3) _ _ v3 hG
 have hf:=hF.trans (Fr.store w5 (j * 4 + 3) v3 hw.h0g)
 refine ⟨hw.back hf ⟨_,P,Q,_,g1,hC.setD hj v3,?_⟩ (putC_len hw.len),hf⟩
 unfold putC
 rw [addC_yes (e:=⟨r,d,v⟩) hm]
 exact hR.keep fun b h1 _=>heap_setCell_other _ _ _ _ (show b ≠ g by have:=hw.hg;omega)
set_option maxRecDepth 100000 in
theorem putE_any {B0 B W g cap n:Nat} {mv:Value} {mx ids:Nat → Int} (w:World) (C:Nat → Col) (j:Nat) (r d:Int) (v:Val) (hw:Wr B0 B W g cap n mv mx ids w C) (hj:j < n) (hl:(C j).rep.length + 1 ≤ 1000000) :
  Calls Tryd.prog 53 #[.pointer (some ⟨W,0,none⟩),.int .i64 (j:Nat),.int .i64 r,.int .i64 d,.agg (valA v)] w (PutRet B0 B W g cap n mv mx ids (putC mx C j ⟨r,d,v⟩) w):=by
 have HW:=Lib.hid hw
 obtain ⟨gm,mc,cur,rfl,hgm,hgmg,hcur,hcurj⟩:=hw.mx
 obtain ⟨cs,P,Q,D,hcs,hcc,hrw⟩:=hw.st
 obtain ⟨hc0,hc1,hc2,hc3⟩:=hcc j hj
 have hlen:=hw.len j hj
 have hnc:=hw.nc;have hn1:=hw.n1
 obtain ⟨i0,hi,hz0,hz1,hz2⟩:=info_parts info_intC
 obtain ⟨i1,hi1,hy0,hy1,hy2⟩:=info_parts info_valC
 obtain ⟨a1,l1,c1,hP⟩:=own_capS (hrw.p j hj)
 obtain ⟨a2,l2,c2,hQ⟩:=own_capS (hrw.q j hj)
 obtain ⟨a3,l3,c3,hD⟩:=own_capS (hrw.d j hj)
 have hp0:=(hrw.p j hj).lt;have hq0:=(hrw.q j hj).lt;have hd0:=(hrw.d j hj).lt
 have hP1:∀ k,(Value.slice a1 l1 c1).ownBlock = some k → k < w.heap.size:=fun k hk=>(hp0 k (hP ▸ hk)).2
 have hQ1:∀ k,(Value.slice a2 l2 c2).ownBlock = some k → k < w.heap.size:=fun k hk=>(hq0 k (hQ ▸ hk)).2
 have hD1:∀ k,(Value.slice a3 l3 c3).ownBlock = some k → k < w.heap.size:=fun k hk=>(hd0 k (hD ▸ hk)).2
 rw [hP] at hc1;rw [hQ] at hc2;rw [hD] at hc3
 have HP1:=Lib.hid hP1;have HQ1:=Lib.hid hQ1;have HD1:=Lib.hid hD1;have HP:=Lib.hid hP;have HQ:=Lib.hid hQ;have HD:=Lib.hid hD
 have HC1:=Lib.hid hc1;have HC2:=Lib.hid hc2;have HC3:=Lib.hid hc3;have HCC:=Lib.hid hcc
 have hwr:=hw.wr
 have hBz:B ≤ w.heap.size:=hw.hB
 have hBv:B ≤ w.heap.size:=hw.hB
 have H0:=Lib.hid hw.h0
 have H63:Hid ((C j).rep.length + 1 ≤ maxLen):=Lib.hid (by unfold maxLen;omega)
 have H64:Hid ((C j).rep.length + 1 ≤ 1000000):=Lib.hid hl
 have HLEN:=Lib.hid hlen
 have HMX:=Lib.hid (hcurj j hj)
 have HJ:=Lib.hid hj
 have HGM:Hid (gm < B ∧ gm ≠ g):=Lib.hid ⟨hgm,hgmg⟩;have HCU:=Lib.hid hcur
 have hbx:=(Below.refl w.heap.size w).alloc (Nat.le_refl _) (.cells #[.int .i64 v.k,.int .i64 v.n,.string v.s] 61)
 have hrv:=heap_alloc_new w (.cells #[.int .i64 v.k,.int .i64 v.n,.string v.s] 61)
 have RW:=Lib.hid (row_keep hbx hwr);have RG:=Lib.hid (row_keep hbx hcs);have RM:=Lib.hid (row_keep hbx hcur);have HR:=Lib.hid (hrw.below hbx);have HF:Hid (Fr B0 B g w _):=Lib.hid (Fr.of_below hbx hw.h0 hBz)
 have RV:=Lib.hid hrv
 replace hBz:=Nat.le_trans hBz hbx.size
 have hz:w.heap.size < (w.alloc (.cells #[.int .i64 v.k,.int .i64 v.n,.string v.s] 61)).heap.size:=row_lt hrv
 have hin:(j:Int) < (n:Int):=Int.ofNat_lt.2 hj
 have hjn:j ≤ 1000000:=by omega
 clear hcs hcc hrw hc0 hc1 hc2 hc3 hlen hP hQ hD hp0 hq0 hd0 hP1 hQ1 hD1 hwr hcur hcurj hbx hrv hw hj hl
 unfold valA
 go_enter Tryd.func53,Tryd.ntmps53
 go_upto_region 1 with fail
 generalize w.alloc (.cells #[.int .i64 v.k,.int .i64 v.n,.string v.s] 61) = w1 at *
 generalize w.heap.size = gv at *
 have hzv:gv ≤ gv:=Nat.le_refl _
 have cW:=rowc RW.out
 go_upto_region 2 with fail
 clear cW
 have HC2r:Hid (∀ (wx:World),CRows wx B n P Q D C → CRows wx B n P Q D C):=Lib.hid fun _ h=>h
 go_cut [] (fun wx=>Hid (MidP B0 B g n ids w wx P Q D C j r d cs) ∧ Hid (wx.heap[gv]? = some (.cells #[.int .i64 v.k,.int .i64 v.n,.string v.s] 61 (0,0))))
 case first =>
  refine AnyE.region (S:=fun w'=>w'.cell? ⟨g,j * 4 + 1,none⟩ = some (.slice a1 l1 c1) ∧ w'.cell? ⟨g,j * 4 + 2,none⟩ = some (.slice a2 l2 c2)) (E:=[1,16,17,18,19,20,21]) (by kernel_rfl) ?_
  have hbd:=(Below.refl w1.heap.size w1).drew
  replace RG:=Lib.hid (row_keep hbd RG.out);replace HR:=Lib.hid (HR.out.below hbd);replace HF:=Lib.hid (HF.out.trans (Fr.of_below hbd H0.out hBz));replace RV:=Lib.hid (row_keep hbd RV.out)
  replace hBz:=Nat.le_trans hBz hbd.size;replace hz:=Nat.lt_of_lt_of_le hz hbd.size
  clear RW RM hbd
  generalize w1.drew = wd at *
  have hS:=(⟨(rowc RG.out _).trans HC1.out,(rowc RG.out _).trans HC2.out⟩:wd.cell? ⟨g,j * 4 + 1,none⟩ = some (.slice a1 l1 c1) ∧ wd.cell? ⟨g,j * 4 + 2,none⟩ = some (.slice a2 l2 c2))
  refine AnyE.takeP (i:=1) (v:=?_) rfl (by kernel_rfl) (by kernel_rfl) (by kernel_rfl) (by kernel_rfl) (fun _ _ _ h=>h) (Or.inl ⟨by rfl,?_⟩) ?_
  rotate_left
  focus (intro wq hSq;go_simp;with_reducible rfl)
  try simp only [Act.put,List.getElem_toArray,List.getElem_cons_succ,List.getElem_cons_zero,List.setIfInBounds_toArray,List.set_cons_zero,List.set_cons_succ]
  refine AnyE.takeL (i:=0) (v:=?_) rfl (by kernel_rfl) (by kernel_rfl) (by kernel_rfl) (by kernel_rfl) (by kernel_rfl) (fun _ _ _ h=>h) (Or.inl ⟨by rfl,?_⟩) hS ?_
  rotate_left
  focus (intro wq hSq;obtain ⟨hS1,hS2⟩:=hSq;go_simp;with_reducible rfl)
  try simp only [Act.put,List.getElem_toArray,List.getElem_cons_succ,List.getElem_cons_zero,List.setIfInBounds_toArray,List.set_cons_zero,List.set_cons_succ]
  refine AnyE.takeL (i:=2) (v:=?_) rfl (by kernel_rfl) (by kernel_rfl) (by kernel_rfl) (by kernel_rfl) (by kernel_rfl) (fun _ _ _ h=>h) (Or.inl ⟨by rfl,?_⟩) hS ?_
  rotate_left
  focus (intro wq hSq;obtain ⟨hS1,hS2⟩:=hSq;go_simp;with_reducible rfl)
  try simp only [Act.put,List.getElem_toArray,List.getElem_cons_succ,List.getElem_cons_zero,List.setIfInBounds_toArray,List.set_cons_zero,List.set_cons_succ]
  refine AnyE.takeL (i:=3) (v:=?_) rfl (by kernel_rfl) (by kernel_rfl) (by kernel_rfl) (by kernel_rfl) (by kernel_rfl) (fun _ _ _ h=>h) (Or.inl ⟨by rfl,?_⟩) hS ?_
  rotate_left
  focus (intro wq hSq;obtain ⟨hS1,hS2⟩:=hSq;go_simp;with_reducible rfl)
  try simp only [Act.put,List.getElem_toArray,List.getElem_cons_succ,List.getElem_cons_zero,List.setIfInBounds_toArray,List.set_cons_zero,List.set_cons_succ]
  refine AnyE.takeL (i:=4) (v:=?_) rfl (by kernel_rfl) (by kernel_rfl) (by kernel_rfl) (by kernel_rfl) (by kernel_rfl) (fun _ _ _ h=>h) (Or.inl ⟨by rfl,?_⟩) hS ?_
  rotate_left
  focus (intro wq hSq;obtain ⟨hS1,hS2⟩:=hSq;go_simp;with_reducible rfl)
  try simp only [Act.put,List.getElem_toArray,List.getElem_cons_succ,List.getElem_cons_zero,List.setIfInBounds_toArray,List.set_cons_zero,List.set_cons_succ]
  refine AnyE.takeL (i:=5) (v:=?_) rfl (by kernel_rfl) (by kernel_rfl) (by kernel_rfl) (by kernel_rfl) (by kernel_rfl) (fun _ _ _ h=>h) (Or.inl ⟨by rfl,?_⟩) hS ?_
  rotate_left
  focus (intro wq hSq;obtain ⟨hS1,hS2⟩:=hSq;go_simp;with_reducible rfl)
  try simp only [Act.put,List.getElem_toArray,List.getElem_cons_succ,List.getElem_cons_zero,List.setIfInBounds_toArray,List.set_cons_zero,List.set_cons_succ]
  refine AnyE.takeL (i:=6) (v:=?_) rfl (by kernel_rfl) (by kernel_rfl) (by kernel_rfl) (by kernel_rfl) (by kernel_rfl) (fun _ _ _ h=>h) (Or.inl ⟨by rfl,?_⟩) hS ?_
  rotate_left
  focus (intro wq hSq;obtain ⟨hS1,hS2⟩:=hSq;go_simp;with_reducible rfl)
  try simp only [Act.put,List.getElem_toArray,List.getElem_cons_succ,List.getElem_cons_zero,List.setIfInBounds_toArray,List.set_cons_zero,List.set_cons_succ]
  refine AnyE.takeL (i:=9) (v:=?_) rfl (by kernel_rfl) (by kernel_rfl) (by kernel_rfl) (by kernel_rfl) (by kernel_rfl) (fun _ _ _ h=>h) (Or.inl ⟨by rfl,?_⟩) hS ?_
  rotate_left
  focus (intro wq hSq;obtain ⟨hS1,hS2⟩:=hSq;go_simp;with_reducible rfl)
  try simp only [Act.put,List.getElem_toArray,List.getElem_cons_succ,List.getElem_cons_zero,List.setIfInBounds_toArray,List.set_cons_zero,List.set_cons_succ]
  refine AnyE.takeL (i:=10) (v:=?_) rfl (by kernel_rfl) (by kernel_rfl) (by kernel_rfl) (by kernel_rfl) (by kernel_rfl) (fun _ _ _ h=>h) (Or.inl ⟨by rfl,?_⟩) hS ?_
  rotate_left
  focus (intro wq hSq;obtain ⟨hS1,hS2⟩:=hSq;go_simp;with_reducible rfl)
  try simp only [Act.put,List.getElem_toArray,List.getElem_cons_succ,List.getElem_cons_zero,List.setIfInBounds_toArray,List.set_cons_zero,List.set_cons_succ]
  refine AnyE.takeL (i:=11) (v:=?_) rfl (by kernel_rfl) (by kernel_rfl) (by kernel_rfl) (by kernel_rfl) (by kernel_rfl) (fun _ _ _ h=>h) (Or.inl ⟨by rfl,?_⟩) hS ?_
  rotate_left
  focus (intro wq hSq;obtain ⟨hS1,hS2⟩:=hSq;go_simp;with_reducible rfl)
  try simp only [Act.put,List.getElem_toArray,List.getElem_cons_succ,List.getElem_cons_zero,List.setIfInBounds_toArray,List.set_cons_zero,List.set_cons_succ]
  refine AnyE.takeL (i:=12) (v:=?_) rfl (by kernel_rfl) (by kernel_rfl) (by kernel_rfl) (by kernel_rfl) (by kernel_rfl) (fun _ _ _ h=>h) (Or.inl ⟨by rfl,?_⟩) hS ?_
  rotate_left
  focus (intro wq hSq;obtain ⟨hS1,hS2⟩:=hSq;go_simp;with_reducible rfl)
  try simp only [Act.put,List.getElem_toArray,List.getElem_cons_succ,List.getElem_cons_zero,List.setIfInBounds_toArray,List.set_cons_zero,List.set_cons_succ]
  refine AnyE.takeL (i:=13) (v:=?_) rfl (by kernel_rfl) (by kernel_rfl) (by kernel_rfl) (by kernel_rfl) (by kernel_rfl) (fun _ _ _ h=>h) (Or.inl ⟨by rfl,?_⟩) hS ?_
  rotate_left
  focus (intro wq hSq;obtain ⟨hS1,hS2⟩:=hSq;go_simp;with_reducible rfl)
  try simp only [Act.put,List.getElem_toArray,List.getElem_cons_succ,List.getElem_cons_zero,List.setIfInBounds_toArray,List.set_cons_zero,List.set_cons_succ]
  refine AnyE.two (i:=7) (j:=14) (by kernel_rfl) rfl rfl rfl rfl ?_ ?_
  ·intro K hK
   simp only [List.getElem_toArray,List.getElem_cons_succ,List.getElem_cons_zero]
   go_simp
   have hbe:=(Below.refl wd.heap.size wd).alloc (Nat.le_refl _) (.cells #[.int .i64 r] 3)
   have hlt:=heap_alloc_new wd (.cells #[.int .i64 r] 3)
   replace RG:=Lib.hid (row_keep hbe RG.out);replace HR:=Lib.hid (HR.out.below hbe);replace HF:=Lib.hid (HF.out.trans (Fr.of_below hbe H0.out hBz));replace RV:=Lib.hid (row_keep hbe RV.out)
   have RL1:=Lib.hid hlt;have hzL1:=hz
   replace hBz:=Nat.le_trans hBz hbe.size;replace hz:=Nat.le_trans hz hbe.size
   refine hK _ _ (fun _=>⟨(rowc RG.out _).trans HC1.out,(rowc RG.out _).trans HC2.out⟩) ?_
   clear hK K hS hlt hbe
   try simp only [Act.put,List.getElem_toArray,List.getElem_cons_succ,List.getElem_cons_zero,List.setIfInBounds_toArray,List.set_cons_zero,List.set_cons_succ]
   generalize wd.alloc (.cells #[.int .i64 r] 3) = wb1 at *
   generalize wd.heap.size = gl1 at *
   have hS:=(⟨(rowc RG.out _).trans HC1.out,(rowc RG.out _).trans HC2.out⟩:wb1.cell? ⟨g,j * 4 + 1,none⟩ = some (.slice a1 l1 c1) ∧ wb1.cell? ⟨g,j * 4 + 2,none⟩ = some (.slice a2 l2 c2))
   refine AnyE.two (i:=8) (j:=14) (by kernel_rfl) rfl rfl rfl rfl ?_ ?_
   ·intro K hK
    simp only [List.getElem_toArray,List.getElem_cons_succ,List.getElem_cons_zero]
    have ho1:=HR.out.p j HJ.out
    refine wp_pushRow (.tmp 22) (.tmp 24) 22 rfl B 3 i0 _ 1 8 Tryd.underlying22 hi hz0 hz1 hz2 rfl (by decide) intC (fun _=>rfl) intC_one (.slice a1 l1 c1) (C j).rep ?_ (own_as HP.out ho1) gl1 ?_ r #[.int .i64 r] 3 RL1.out rfl H63.out ?_ hBz ?_
    focus (go_simp)
    focus (go_simp)
    focus (have:=H64.out;omega)
    intro v1 wa1 hn1 hg1 hq1
    have hgP:wb1.grownBy wa1 (P j).ownBlock:=by rw [HP.out];exact hg1
    replace RG:=Lib.hid (grown_keep ho1 hgP RG.out (by decide));replace RV:=Lib.hid (grown_keep ho1 hgP RV.out (by decide));replace HF:=Lib.hid (HF.out.trans (Fr.grown ho1 (.inl rfl) hgP H0.out hBz))
    have HR2:=Lib.hid (HR.out.addP HJ.out (c':=⟨(C j).id,(C j).rep ++ [r],(C j).df,(C j).vals⟩) hgP hn1 (by rw [HP.out];exact hq1) rfl rfl)
    replace hBz:=Nat.le_trans hBz hg1.size;replace hz:=Nat.lt_of_lt_of_le hz hg1.size
    clear HR
    have HR:=HR2;clear HR2
    refine hK _ _ (fun _=>⟨(rowc RG.out _).trans HC1.out,(rowc RG.out _).trans HC2.out⟩) ?_
    clear hK K hS ho1 hgP hn1 hg1 hq1
    try simp only [Act.put,List.getElem_toArray,List.getElem_cons_succ,List.getElem_cons_zero,List.setIfInBounds_toArray,List.set_cons_zero,List.set_cons_succ]
    have hS:=(⟨(rowc RG.out _).trans HC1.out,(rowc RG.out _).trans HC2.out⟩:wa1.cell? ⟨g,j * 4 + 1,none⟩ = some (.slice a1 l1 c1) ∧ wa1.cell? ⟨g,j * 4 + 2,none⟩ = some (.slice a2 l2 c2))
    refine AnyE.one (i:=14) (by kernel_rfl) rfl rfl ?_
    intro K hK
    simp only [List.getElem_toArray,List.getElem_cons_succ,List.getElem_cons_zero]
    go_simp
    have hbe:=(Below.refl wa1.heap.size wa1).alloc (Nat.le_refl _) (.cells #[.int .i64 d] 3)
    have hlt:=heap_alloc_new wa1 (.cells #[.int .i64 d] 3)
    replace RG:=Lib.hid (row_keep hbe RG.out);replace HR:=Lib.hid (HR.out.below hbe);replace HF:=Lib.hid (HF.out.trans (Fr.of_below hbe H0.out hBz));replace RV:=Lib.hid (row_keep hbe RV.out)
    have RL2:=Lib.hid hlt;have hzL2:=hz
    replace hBz:=Nat.le_trans hBz hbe.size;replace hz:=Nat.le_trans hz hbe.size
    refine hK _ _ (fun _=>⟨(rowc RG.out _).trans HC1.out,(rowc RG.out _).trans HC2.out⟩) ?_
    clear hK K hS hlt hbe
    try simp only [Act.put,List.getElem_toArray,List.getElem_cons_succ,List.getElem_cons_zero,List.setIfInBounds_toArray,List.set_cons_zero,List.set_cons_succ]
    generalize wa1.alloc (.cells #[.int .i64 d] 3) = wb2 at *
    generalize wa1.heap.size = gl2 at *
    have hS:=(⟨(rowc RG.out _).trans HC1.out,(rowc RG.out _).trans HC2.out⟩:wb2.cell? ⟨g,j * 4 + 1,none⟩ = some (.slice a1 l1 c1) ∧ wb2.cell? ⟨g,j * 4 + 2,none⟩ = some (.slice a2 l2 c2))
    refine AnyE.one (i:=15) (by kernel_rfl) rfl rfl ?_
    intro K hK
    simp only [List.getElem_toArray,List.getElem_cons_succ,List.getElem_cons_zero]
    have ho2:=own_same (HR.out.q j HJ.out) (upd_same C j _)
    refine wp_pushRow (.tmp 29) (.tmp 31) 22 rfl B 3 i0 _ 1 8 Tryd.underlying22 hi hz0 hz1 hz2 rfl (by decide) intC (fun _=>rfl) intC_one (.slice a2 l2 c2) (C j).df ?_ (own_as HQ.out ho2) gl2 ?_ d #[.int .i64 d] 3 RL2.out rfl ?_ ?_ hBz ?_
    focus (go_simp)
    focus (go_simp)
    focus (have:=H63.out;have:=HLEN.out;omega)
    focus (have:=H64.out;have:=HLEN.out;omega)
    intro v2 wa2 hn2 hg2 hq2
    have hgQ:wb2.grownBy wa2 (Q j).ownBlock:=by rw [HQ.out];exact hg2
    replace RG:=Lib.hid (grown_keep ho2 hgQ RG.out (by decide));replace RV:=Lib.hid (grown_keep ho2 hgQ RV.out (by decide));replace HF:=Lib.hid (HF.out.trans (Fr.grown ho2 (.inl rfl) hgQ H0.out hBz))
    have HR2:=Lib.hid (HR.out.addQ HJ.out (c':=⟨(C j).id,(C j).rep ++ [r],(C j).df ++ [d],(C j).vals⟩) hgQ hn2 (by rw [HQ.out];exact hq2) (by rw [upd_same]) (by rw [upd_same]))
    rw [upd_upd] at HR2
    replace hBz:=Nat.le_trans hBz hg2.size;replace hz:=Nat.lt_of_lt_of_le hz hg2.size
    clear HR
    have HR:=HR2;clear HR2
    refine hK _ _ (fun _=>⟨(rowc RG.out _).trans HC1.out,(rowc RG.out _).trans HC2.out⟩) ?_
    clear hK K hS ho2 hgQ hn2 hg2 hq2
    try simp only [Act.put,List.getElem_toArray,List.getElem_cons_succ,List.getElem_cons_zero,List.setIfInBounds_toArray,List.set_cons_zero,List.set_cons_succ]
    obtain ⟨b1,m1,d1,hv1⟩:=own_capS (HR.out.p j HJ.out)
    rw [upd_same] at hv1;subst hv1
    obtain ⟨b2,m2,d2,hv2⟩:=own_capS (HR.out.q j HJ.out)
    rw [upd_same] at hv2;subst hv2
    refine AnyE.one (i:=16) (by kernel_rfl) rfl rfl ?_
    intro K hK
    simp only [List.getElem_toArray,List.getElem_cons_succ,List.getElem_cons_zero]
    go_simp
    refine hK _ _ (fun h=>absurd h (by decide)) ?_
    clear hK K
    try simp only [Act.put,List.getElem_toArray,List.getElem_cons_succ,List.getElem_cons_zero,List.setIfInBounds_toArray,List.set_cons_zero,List.set_cons_succ]
    refine AnyE.one (i:=17) (by kernel_rfl) rfl rfl ?_
    intro K hK
    simp only [List.getElem_toArray,List.getElem_cons_succ,List.getElem_cons_zero]
    go_simp
    refine hK _ _ (fun h=>absurd h (by decide)) ?_
    clear hK K
    try simp only [Act.put,List.getElem_toArray,List.getElem_cons_succ,List.getElem_cons_zero,List.setIfInBounds_toArray,List.set_cons_zero,List.set_cons_succ]
    refine AnyE.one (i:=18) (by kernel_rfl) rfl rfl ?_
    intro K hK
    simp only [List.getElem_toArray,List.getElem_cons_succ,List.getElem_cons_zero]
    have cg:=(rowc RG.out (j * 4 + 1)).trans HC1.out;have fg:=rowf RG.out (j * 4 + 1)
    go_simp
    refine hK _ _ (fun h=>absurd h (by decide)) ?_
    clear hK K cg fg
    try simp only [Act.put,List.getElem_toArray,List.getElem_cons_succ,List.getElem_cons_zero,List.setIfInBounds_toArray,List.set_cons_zero,List.set_cons_succ]
    refine AnyE.one (i:=19) (by kernel_rfl) rfl rfl ?_
    intro K hK
    simp only [List.getElem_toArray,List.getElem_cons_succ,List.getElem_cons_zero]
    go_simp
    refine hK _ _ (fun h=>absurd h (by decide)) ?_
    clear hK K
    try simp only [Act.put,List.getElem_toArray,List.getElem_cons_succ,List.getElem_cons_zero,List.setIfInBounds_toArray,List.set_cons_zero,List.set_cons_succ]
    refine AnyE.one (i:=20) (by kernel_rfl) rfl rfl ?_
    intro K hK
    simp only [List.getElem_toArray,List.getElem_cons_succ,List.getElem_cons_zero]
    go_simp
    refine hK _ _ (fun h=>absurd h (by decide)) ?_
    clear hK K
    try simp only [Act.put,List.getElem_toArray,List.getElem_cons_succ,List.getElem_cons_zero,List.setIfInBounds_toArray,List.set_cons_zero,List.set_cons_succ]
    refine AnyE.one (i:=21) (by kernel_rfl) rfl rfl ?_
    intro K hK
    simp only [List.getElem_toArray,List.getElem_cons_succ,List.getElem_cons_zero]
    have cg:=(rowc (heap_setCell_same _ _ (j * 4 + 1) _ _ (.slice b1 m1 d1) RG.out) (j * 4 + 2)).trans (set_get HC2.out (by omega));have fg:=rowf (heap_setCell_same _ _ (j * 4 + 1) _ _ (.slice b1 m1 d1) RG.out) (j * 4 + 2)
    go_simp
    refine hK _ _ (fun h=>absurd h (by decide)) ?_
    clear hK K cg fg
    try simp only [Act.put,List.getElem_toArray,List.getElem_cons_succ,List.getElem_cons_zero,List.setIfInBounds_toArray,List.set_cons_zero,List.set_cons_succ]
    refine AnyE.done (by kernel_rfl) ?_ _
    go_wp2_with fail
    go_meet
    exact mid_of HW.out HJ.out HCC.out RG.out HF.out hBz HR.out RV.out (Nat.ne_of_lt (Nat.lt_of_lt_of_le HW.out.hg hBv))
   ·intro K hK
    simp only [List.getElem_toArray,List.getElem_cons_succ,List.getElem_cons_zero]
    go_simp
    have hbe:=(Below.refl wb1.heap.size wb1).alloc (Nat.le_refl _) (.cells #[.int .i64 d] 3)
    have hlt:=heap_alloc_new wb1 (.cells #[.int .i64 d] 3)
    replace RG:=Lib.hid (row_keep hbe RG.out);replace HR:=Lib.hid (HR.out.below hbe);replace HF:=Lib.hid (HF.out.trans (Fr.of_below hbe H0.out hBz));replace RV:=Lib.hid (row_keep hbe RV.out)
    replace RL1:=Lib.hid (row_keep hbe RL1.out)
    have RL2:=Lib.hid hlt;have hzL2:=hz
    replace hBz:=Nat.le_trans hBz hbe.size;replace hz:=Nat.le_trans hz hbe.size
    refine hK _ _ (fun _=>⟨(rowc RG.out _).trans HC1.out,(rowc RG.out _).trans HC2.out⟩) ?_
    clear hK K hS hlt hbe
    try simp only [Act.put,List.getElem_toArray,List.getElem_cons_succ,List.getElem_cons_zero,List.setIfInBounds_toArray,List.set_cons_zero,List.set_cons_succ]
    generalize wb1.alloc (.cells #[.int .i64 d] 3) = wb2 at *
    generalize wb1.heap.size = gl2 at *
    have hS:=(⟨(rowc RG.out _).trans HC1.out,(rowc RG.out _).trans HC2.out⟩:wb2.cell? ⟨g,j * 4 + 1,none⟩ = some (.slice a1 l1 c1) ∧ wb2.cell? ⟨g,j * 4 + 2,none⟩ = some (.slice a2 l2 c2))
    refine AnyE.one (i:=8) (by kernel_rfl) rfl rfl ?_
    intro K hK
    simp only [List.getElem_toArray,List.getElem_cons_succ,List.getElem_cons_zero]
    have ho1:=HR.out.p j HJ.out
    refine wp_pushRow (.tmp 22) (.tmp 24) 22 rfl B 3 i0 _ 1 8 Tryd.underlying22 hi hz0 hz1 hz2 rfl (by decide) intC (fun _=>rfl) intC_one (.slice a1 l1 c1) (C j).rep ?_ (own_as HP.out ho1) gl1 ?_ r #[.int .i64 r] 3 RL1.out rfl H63.out ?_ hBz ?_
    focus (go_simp)
    focus (go_simp)
    focus (have:=H64.out;omega)
    intro v1 wa1 hn1 hg1 hq1
    have hgP:wb2.grownBy wa1 (P j).ownBlock:=by rw [HP.out];exact hg1
    replace RG:=Lib.hid (grown_keep ho1 hgP RG.out (by decide));replace RV:=Lib.hid (grown_keep ho1 hgP RV.out (by decide));replace HF:=Lib.hid (HF.out.trans (Fr.grown ho1 (.inl rfl) hgP H0.out hBz))
    replace RL2:=Lib.hid (grown_old HP1.out (Nat.le_of_lt hzL2) hg1 RL2.out)
    have HR2:=Lib.hid (HR.out.addP HJ.out (c':=⟨(C j).id,(C j).rep ++ [r],(C j).df,(C j).vals⟩) hgP hn1 (by rw [HP.out];exact hq1) rfl rfl)
    replace hBz:=Nat.le_trans hBz hg1.size;replace hz:=Nat.lt_of_lt_of_le hz hg1.size
    clear HR
    have HR:=HR2;clear HR2
    refine hK _ _ (fun _=>⟨(rowc RG.out _).trans HC1.out,(rowc RG.out _).trans HC2.out⟩) ?_
    clear hK K hS ho1 hgP hn1 hg1 hq1
    try simp only [Act.put,List.getElem_toArray,List.getElem_cons_succ,List.getElem_cons_zero,List.setIfInBounds_toArray,List.set_cons_zero,List.set_cons_succ]
    have hS:=(⟨(rowc RG.out _).trans HC1.out,(rowc RG.out _).trans HC2.out⟩:wa1.cell? ⟨g,j * 4 + 1,none⟩ = some (.slice a1 l1 c1) ∧ wa1.cell? ⟨g,j * 4 + 2,none⟩ = some (.slice a2 l2 c2))
    refine AnyE.one (i:=15) (by kernel_rfl) rfl rfl ?_
    intro K hK
    simp only [List.getElem_toArray,List.getElem_cons_succ,List.getElem_cons_zero]
    have ho2:=own_same (HR.out.q j HJ.out) (upd_same C j _)
    refine wp_pushRow (.tmp 29) (.tmp 31) 22 rfl B 3 i0 _ 1 8 Tryd.underlying22 hi hz0 hz1 hz2 rfl (by decide) intC (fun _=>rfl) intC_one (.slice a2 l2 c2) (C j).df ?_ (own_as HQ.out ho2) gl2 ?_ d #[.int .i64 d] 3 RL2.out rfl ?_ ?_ hBz ?_
    focus (go_simp)
    focus (go_simp)
    focus (have:=H63.out;have:=HLEN.out;omega)
    focus (have:=H64.out;have:=HLEN.out;omega)
    intro v2 wa2 hn2 hg2 hq2
    have hgQ:wa1.grownBy wa2 (Q j).ownBlock:=by rw [HQ.out];exact hg2
    replace RG:=Lib.hid (grown_keep ho2 hgQ RG.out (by decide));replace RV:=Lib.hid (grown_keep ho2 hgQ RV.out (by decide));replace HF:=Lib.hid (HF.out.trans (Fr.grown ho2 (.inl rfl) hgQ H0.out hBz))
    have HR2:=Lib.hid (HR.out.addQ HJ.out (c':=⟨(C j).id,(C j).rep ++ [r],(C j).df ++ [d],(C j).vals⟩) hgQ hn2 (by rw [HQ.out];exact hq2) (by rw [upd_same]) (by rw [upd_same]))
    rw [upd_upd] at HR2
    replace hBz:=Nat.le_trans hBz hg2.size;replace hz:=Nat.lt_of_lt_of_le hz hg2.size
    clear HR
    have HR:=HR2;clear HR2
    refine hK _ _ (fun _=>⟨(rowc RG.out _).trans HC1.out,(rowc RG.out _).trans HC2.out⟩) ?_
    clear hK K hS ho2 hgQ hn2 hg2 hq2
    try simp only [Act.put,List.getElem_toArray,List.getElem_cons_succ,List.getElem_cons_zero,List.setIfInBounds_toArray,List.set_cons_zero,List.set_cons_succ]
    obtain ⟨b1,m1,d1,hv1⟩:=own_capS (HR.out.p j HJ.out)
    rw [upd_same] at hv1;subst hv1
    obtain ⟨b2,m2,d2,hv2⟩:=own_capS (HR.out.q j HJ.out)
    rw [upd_same] at hv2;subst hv2
    refine AnyE.one (i:=16) (by kernel_rfl) rfl rfl ?_
    intro K hK
    simp only [List.getElem_toArray,List.getElem_cons_succ,List.getElem_cons_zero]
    go_simp
    refine hK _ _ (fun h=>absurd h (by decide)) ?_
    clear hK K
    try simp only [Act.put,List.getElem_toArray,List.getElem_cons_succ,List.getElem_cons_zero,List.setIfInBounds_toArray,List.set_cons_zero,List.set_cons_succ]
    refine AnyE.one (i:=17) (by kernel_rfl) rfl rfl ?_
    intro K hK
    simp only [List.getElem_toArray,List.getElem_cons_succ,List.getElem_cons_zero]
    go_simp
    refine hK _ _ (fun h=>absurd h (by decide)) ?_
    clear hK K
    try simp only [Act.put,List.getElem_toArray,List.getElem_cons_succ,List.getElem_cons_zero,List.setIfInBounds_toArray,List.set_cons_zero,List.set_cons_succ]
    refine AnyE.one (i:=18) (by kernel_rfl) rfl rfl ?_
    intro K hK
    simp only [List.getElem_toArray,List.getElem_cons_succ,List.getElem_cons_zero]
    have cg:=(rowc RG.out (j * 4 + 1)).trans HC1.out;have fg:=rowf RG.out (j * 4 + 1)
    go_simp
    refine hK _ _ (fun h=>absurd h (by decide)) ?_
    clear hK K cg fg
    try simp only [Act.put,List.getElem_toArray,List.getElem_cons_succ,List.getElem_cons_zero,List.setIfInBounds_toArray,List.set_cons_zero,List.set_cons_succ]
    refine AnyE.one (i:=19) (by kernel_rfl) rfl rfl ?_
    intro K hK
    simp only [List.getElem_toArray,List.getElem_cons_succ,List.getElem_cons_zero]
    go_simp
    refine hK _ _ (fun h=>absurd h (by decide)) ?_
    clear hK K
    try simp only [Act.put,List.getElem_toArray,List.getElem_cons_succ,List.getElem_cons_zero,List.setIfInBounds_toArray,List.set_cons_zero,List.set_cons_succ]
    refine AnyE.one (i:=20) (by kernel_rfl) rfl rfl ?_
    intro K hK
    simp only [List.getElem_toArray,List.getElem_cons_succ,List.getElem_cons_zero]
    go_simp
    refine hK _ _ (fun h=>absurd h (by decide)) ?_
    clear hK K
    try simp only [Act.put,List.getElem_toArray,List.getElem_cons_succ,List.getElem_cons_zero,List.setIfInBounds_toArray,List.set_cons_zero,List.set_cons_succ]
    refine AnyE.one (i:=21) (by kernel_rfl) rfl rfl ?_
    intro K hK
    simp only [List.getElem_toArray,List.getElem_cons_succ,List.getElem_cons_zero]
    have cg:=(rowc (heap_setCell_same _ _ (j * 4 + 1) _ _ (.slice b1 m1 d1) RG.out) (j * 4 + 2)).trans (set_get HC2.out (by omega));have fg:=rowf (heap_setCell_same _ _ (j * 4 + 1) _ _ (.slice b1 m1 d1) RG.out) (j * 4 + 2)
    go_simp
    refine hK _ _ (fun h=>absurd h (by decide)) ?_
    clear hK K cg fg
    try simp only [Act.put,List.getElem_toArray,List.getElem_cons_succ,List.getElem_cons_zero,List.setIfInBounds_toArray,List.set_cons_zero,List.set_cons_succ]
    refine AnyE.done (by kernel_rfl) ?_ _
    go_wp2_with fail
    go_meet
    exact mid_of HW.out HJ.out HCC.out RG.out HF.out hBz HR.out RV.out (Nat.ne_of_lt (Nat.lt_of_lt_of_le HW.out.hg hBv))
  ·intro K hK
   simp only [List.getElem_toArray,List.getElem_cons_succ,List.getElem_cons_zero]
   go_simp
   have hbe:=(Below.refl wd.heap.size wd).alloc (Nat.le_refl _) (.cells #[.int .i64 d] 3)
   have hlt:=heap_alloc_new wd (.cells #[.int .i64 d] 3)
   replace RG:=Lib.hid (row_keep hbe RG.out);replace HR:=Lib.hid (HR.out.below hbe);replace HF:=Lib.hid (HF.out.trans (Fr.of_below hbe H0.out hBz));replace RV:=Lib.hid (row_keep hbe RV.out)
   have RL2:=Lib.hid hlt;have hzL2:=hz
   replace hBz:=Nat.le_trans hBz hbe.size;replace hz:=Nat.le_trans hz hbe.size
   refine hK _ _ (fun _=>⟨(rowc RG.out _).trans HC1.out,(rowc RG.out _).trans HC2.out⟩) ?_
   clear hK K hS hlt hbe
   try simp only [Act.put,List.getElem_toArray,List.getElem_cons_succ,List.getElem_cons_zero,List.setIfInBounds_toArray,List.set_cons_zero,List.set_cons_succ]
   generalize wd.alloc (.cells #[.int .i64 d] 3) = wb2 at *
   generalize wd.heap.size = gl2 at *
   have hS:=(⟨(rowc RG.out _).trans HC1.out,(rowc RG.out _).trans HC2.out⟩:wb2.cell? ⟨g,j * 4 + 1,none⟩ = some (.slice a1 l1 c1) ∧ wb2.cell? ⟨g,j * 4 + 2,none⟩ = some (.slice a2 l2 c2))
   refine AnyE.one (i:=7) (by kernel_rfl) rfl rfl ?_
   intro K hK
   simp only [List.getElem_toArray,List.getElem_cons_succ,List.getElem_cons_zero]
   go_simp
   have hbe:=(Below.refl wb2.heap.size wb2).alloc (Nat.le_refl _) (.cells #[.int .i64 r] 3)
   have hlt:=heap_alloc_new wb2 (.cells #[.int .i64 r] 3)
   replace RG:=Lib.hid (row_keep hbe RG.out);replace HR:=Lib.hid (HR.out.below hbe);replace HF:=Lib.hid (HF.out.trans (Fr.of_below hbe H0.out hBz));replace RV:=Lib.hid (row_keep hbe RV.out)
   replace RL2:=Lib.hid (row_keep hbe RL2.out)
   have RL1:=Lib.hid hlt;have hzL1:=hz
   replace hBz:=Nat.le_trans hBz hbe.size;replace hz:=Nat.le_trans hz hbe.size
   refine hK _ _ (fun _=>⟨(rowc RG.out _).trans HC1.out,(rowc RG.out _).trans HC2.out⟩) ?_
   clear hK K hS hlt hbe
   try simp only [Act.put,List.getElem_toArray,List.getElem_cons_succ,List.getElem_cons_zero,List.setIfInBounds_toArray,List.set_cons_zero,List.set_cons_succ]
   generalize wb2.alloc (.cells #[.int .i64 r] 3) = wb1 at *
   generalize wb2.heap.size = gl1 at *
   have hS:=(⟨(rowc RG.out _).trans HC1.out,(rowc RG.out _).trans HC2.out⟩:wb1.cell? ⟨g,j * 4 + 1,none⟩ = some (.slice a1 l1 c1) ∧ wb1.cell? ⟨g,j * 4 + 2,none⟩ = some (.slice a2 l2 c2))
   refine AnyE.one (i:=8) (by kernel_rfl) rfl rfl ?_
   intro K hK
   simp only [List.getElem_toArray,List.getElem_cons_succ,List.getElem_cons_zero]
   have ho1:=HR.out.p j HJ.out
   refine wp_pushRow (.tmp 22) (.tmp 24) 22 rfl B 3 i0 _ 1 8 Tryd.underlying22 hi hz0 hz1 hz2 rfl (by decide) intC (fun _=>rfl) intC_one (.slice a1 l1 c1) (C j).rep ?_ (own_as HP.out ho1) gl1 ?_ r #[.int .i64 r] 3 RL1.out rfl H63.out ?_ hBz ?_
   focus (go_simp)
   focus (go_simp)
   focus (have:=H64.out;omega)
   intro v1 wa1 hn1 hg1 hq1
   have hgP:wb1.grownBy wa1 (P j).ownBlock:=by rw [HP.out];exact hg1
   replace RG:=Lib.hid (grown_keep ho1 hgP RG.out (by decide));replace RV:=Lib.hid (grown_keep ho1 hgP RV.out (by decide));replace HF:=Lib.hid (HF.out.trans (Fr.grown ho1 (.inl rfl) hgP H0.out hBz))
   replace RL2:=Lib.hid (grown_old HP1.out (Nat.le_of_lt hzL2) hg1 RL2.out)
   have HR2:=Lib.hid (HR.out.addP HJ.out (c':=⟨(C j).id,(C j).rep ++ [r],(C j).df,(C j).vals⟩) hgP hn1 (by rw [HP.out];exact hq1) rfl rfl)
   replace hBz:=Nat.le_trans hBz hg1.size;replace hz:=Nat.lt_of_lt_of_le hz hg1.size
   clear HR
   have HR:=HR2;clear HR2
   refine hK _ _ (fun _=>⟨(rowc RG.out _).trans HC1.out,(rowc RG.out _).trans HC2.out⟩) ?_
   clear hK K hS ho1 hgP hn1 hg1 hq1
   try simp only [Act.put,List.getElem_toArray,List.getElem_cons_succ,List.getElem_cons_zero,List.setIfInBounds_toArray,List.set_cons_zero,List.set_cons_succ]
   have hS:=(⟨(rowc RG.out _).trans HC1.out,(rowc RG.out _).trans HC2.out⟩:wa1.cell? ⟨g,j * 4 + 1,none⟩ = some (.slice a1 l1 c1) ∧ wa1.cell? ⟨g,j * 4 + 2,none⟩ = some (.slice a2 l2 c2))
   refine AnyE.one (i:=15) (by kernel_rfl) rfl rfl ?_
   intro K hK
   simp only [List.getElem_toArray,List.getElem_cons_succ,List.getElem_cons_zero]
   have ho2:=own_same (HR.out.q j HJ.out) (upd_same C j _)
   refine wp_pushRow (.tmp 29) (.tmp 31) 22 rfl B 3 i0 _ 1 8 Tryd.underlying22 hi hz0 hz1 hz2 rfl (by decide) intC (fun _=>rfl) intC_one (.slice a2 l2 c2) (C j).df ?_ (own_as HQ.out ho2) gl2 ?_ d #[.int .i64 d] 3 RL2.out rfl ?_ ?_ hBz ?_
   focus (go_simp)
   focus (go_simp)
   focus (have:=H63.out;have:=HLEN.out;omega)
   focus (have:=H64.out;have:=HLEN.out;omega)
   intro v2 wa2 hn2 hg2 hq2
   have hgQ:wa1.grownBy wa2 (Q j).ownBlock:=by rw [HQ.out];exact hg2
   replace RG:=Lib.hid (grown_keep ho2 hgQ RG.out (by decide));replace RV:=Lib.hid (grown_keep ho2 hgQ RV.out (by decide));replace HF:=Lib.hid (HF.out.trans (Fr.grown ho2 (.inl rfl) hgQ H0.out hBz))
   have HR2:=Lib.hid (HR.out.addQ HJ.out (c':=⟨(C j).id,(C j).rep ++ [r],(C j).df ++ [d],(C j).vals⟩) hgQ hn2 (by rw [HQ.out];exact hq2) (by rw [upd_same]) (by rw [upd_same]))
   rw [upd_upd] at HR2
   replace hBz:=Nat.le_trans hBz hg2.size;replace hz:=Nat.lt_of_lt_of_le hz hg2.size
   clear HR
   have HR:=HR2;clear HR2
   refine hK _ _ (fun _=>⟨(rowc RG.out _).trans HC1.out,(rowc RG.out _).trans HC2.out⟩) ?_
   clear hK K hS ho2 hgQ hn2 hg2 hq2
   try simp only [Act.put,List.getElem_toArray,List.getElem_cons_succ,List.getElem_cons_zero,List.setIfInBounds_toArray,List.set_cons_zero,List.set_cons_succ]
   obtain ⟨b1,m1,d1,hv1⟩:=own_capS (HR.out.p j HJ.out)
   rw [upd_same] at hv1;subst hv1
   obtain ⟨b2,m2,d2,hv2⟩:=own_capS (HR.out.q j HJ.out)
   rw [upd_same] at hv2;subst hv2
   refine AnyE.one (i:=16) (by kernel_rfl) rfl rfl ?_
   intro K hK
   simp only [List.getElem_toArray,List.getElem_cons_succ,List.getElem_cons_zero]
   go_simp
   refine hK _ _ (fun h=>absurd h (by decide)) ?_
   clear hK K
   try simp only [Act.put,List.getElem_toArray,List.getElem_cons_succ,List.getElem_cons_zero,List.setIfInBounds_toArray,List.set_cons_zero,List.set_cons_succ]
   refine AnyE.one (i:=17) (by kernel_rfl) rfl rfl ?_
   intro K hK
   simp only [List.getElem_toArray,List.getElem_cons_succ,List.getElem_cons_zero]
   go_simp
   refine hK _ _ (fun h=>absurd h (by decide)) ?_
   clear hK K
   try simp only [Act.put,List.getElem_toArray,List.getElem_cons_succ,List.getElem_cons_zero,List.setIfInBounds_toArray,List.set_cons_zero,List.set_cons_succ]
   refine AnyE.one (i:=18) (by kernel_rfl) rfl rfl ?_
   intro K hK
   simp only [List.getElem_toArray,List.getElem_cons_succ,List.getElem_cons_zero]
   have cg:=(rowc RG.out (j * 4 + 1)).trans HC1.out;have fg:=rowf RG.out (j * 4 + 1)
   go_simp
   refine hK _ _ (fun h=>absurd h (by decide)) ?_
   clear hK K cg fg
   try simp only [Act.put,List.getElem_toArray,List.getElem_cons_succ,List.getElem_cons_zero,List.setIfInBounds_toArray,List.set_cons_zero,List.set_cons_succ]
   refine AnyE.one (i:=19) (by kernel_rfl) rfl rfl ?_
   intro K hK
   simp only [List.getElem_toArray,List.getElem_cons_succ,List.getElem_cons_zero]
   go_simp
   refine hK _ _ (fun h=>absurd h (by decide)) ?_
   clear hK K
   try simp only [Act.put,List.getElem_toArray,List.getElem_cons_succ,List.getElem_cons_zero,List.setIfInBounds_toArray,List.set_cons_zero,List.set_cons_succ]
   refine AnyE.one (i:=20) (by kernel_rfl) rfl rfl ?_
   intro K hK
   simp only [List.getElem_toArray,List.getElem_cons_succ,List.getElem_cons_zero]
   go_simp
   refine hK _ _ (fun h=>absurd h (by decide)) ?_
   clear hK K
   try simp only [Act.put,List.getElem_toArray,List.getElem_cons_succ,List.getElem_cons_zero,List.setIfInBounds_toArray,List.set_cons_zero,List.set_cons_succ]
   refine AnyE.one (i:=21) (by kernel_rfl) rfl rfl ?_
   intro K hK
   simp only [List.getElem_toArray,List.getElem_cons_succ,List.getElem_cons_zero]
   have cg:=(rowc (heap_setCell_same _ _ (j * 4 + 1) _ _ (.slice b1 m1 d1) RG.out) (j * 4 + 2)).trans (set_get HC2.out (by omega));have fg:=rowf (heap_setCell_same _ _ (j * 4 + 1) _ _ (.slice b1 m1 d1) RG.out) (j * 4 + 2)
   go_simp
   refine hK _ _ (fun h=>absurd h (by decide)) ?_
   clear hK K cg fg
   try simp only [Act.put,List.getElem_toArray,List.getElem_cons_succ,List.getElem_cons_zero,List.setIfInBounds_toArray,List.set_cons_zero,List.set_cons_succ]
   refine AnyE.done (by kernel_rfl) ?_ _
   go_wp2_with fail
   go_meet
   exact mid_of HW.out HJ.out HCC.out RG.out HF.out hBz HR.out RV.out (Nat.ne_of_lt (Nat.lt_of_lt_of_le HW.out.hg hBv))
 case rest =>
  obtain ⟨hm,RV2⟩:=hcut
  obtain ⟨cs2,P2,Q2,kG,kC,kR,kF,kB⟩:=hm.out
  have rW:=(kF.lo W HW.out.hW (Ne.symm HW.out.hgW)).trans HW.out.wr
  have rM:=(kF.lo gm HGM.out.1 HGM.out.2).trans HCU.out
  have KG:=Lib.hid kG;have KC:=Lib.hid kC;have KR:=Lib.hid kR;have KF:=Lib.hid kF
  have hk3:=(kC j HJ.out).2.2.2
  rw [HD.out] at hk3
  have HK3:=Lib.hid hk3
  clear kG kC kR kF hk3 hm RG HR HF RV RW RM hBz hz
  have cW:=rowc rW
  have cM:wc.cell? ⟨gm,j,none⟩ = some (.int .i64 (mx j)):=(rowc rM j).trans HMX.out
  have HRW:=Lib.hid rW;have HRM:=Lib.hid rM
  clear rW rM
  have hbk:=kB
  by_cases hm:d = mx j
  ·have dd:((d:Int) == mx j) = true:=by simpa using hm
   have HM:=Lib.hid hm
   clear hm
   go_upto_region 4 with fail
   clear cW cM
   refine AnyE.region (S:=fun w'=>w'.cell? ⟨g,j * 4 + 3,none⟩ = some (.slice a3 l3 c3) ∧ ∀ q,w'.cell? ⟨gv,q,none⟩ = (#[.int .i64 v.k,.int .i64 v.n,.string v.s]:Array Value)[q]?) (E:=[8,9,10]) (by kernel_rfl) ?_
   have hbd:=(Below.refl wc.heap.size wc).drew
   have RG:=Lib.hid (row_keep hbd KG.out);have HR:=Lib.hid (KR.out.below hbd);have HF:=Lib.hid (KF.out.trans (Fr.of_below hbd H0.out hbk));have RV:=Lib.hid (row_keep hbd RV2.out)
   have hBz:=Nat.le_trans hbk hbd.size
   clear KG KR KF RV2 hbd HRW HRM kB hbk
   generalize wc.drew = wd at *
   have hS:=(⟨(rowc RG.out _).trans HK3.out,rowc RV.out⟩:wd.cell? ⟨g,j * 4 + 3,none⟩ = some (.slice a3 l3 c3) ∧ ∀ q,wd.cell? ⟨gv,q,none⟩ = (#[.int .i64 v.k,.int .i64 v.n,.string v.s]:Array Value)[q]?)
   refine AnyE.takeL (i:=0) (v:=?_) rfl (by kernel_rfl) (by kernel_rfl) (by kernel_rfl) (by kernel_rfl) (by kernel_rfl) (fun _ _ _ h=>h) (Or.inl ⟨by rfl,?_⟩) hS ?_
   rotate_left
   focus (intro wq hSq;obtain ⟨hS1,hS2⟩:=hSq;go_simp;with_reducible rfl)
   try simp only [Act.put,List.getElem_toArray,List.getElem_cons_succ,List.getElem_cons_zero,List.setIfInBounds_toArray,List.set_cons_zero,List.set_cons_succ]
   refine AnyE.takeL (i:=1) (v:=?_) rfl (by kernel_rfl) (by kernel_rfl) (by kernel_rfl) (by kernel_rfl) (by kernel_rfl) (fun _ _ _ h=>h) (Or.inl ⟨by rfl,?_⟩) hS ?_
   rotate_left
   focus (intro wq hSq;obtain ⟨hS1,hS2⟩:=hSq;go_simp;with_reducible rfl)
   try simp only [Act.put,List.getElem_toArray,List.getElem_cons_succ,List.getElem_cons_zero,List.setIfInBounds_toArray,List.set_cons_zero,List.set_cons_succ]
   refine AnyE.takeL (i:=2) (v:=?_) rfl (by kernel_rfl) (by kernel_rfl) (by kernel_rfl) (by kernel_rfl) (by kernel_rfl) (fun _ _ _ h=>h) (Or.inl ⟨by rfl,?_⟩) hS ?_
   rotate_left
   focus (intro wq hSq;obtain ⟨hS1,hS2⟩:=hSq;go_simp;with_reducible rfl)
   try simp only [Act.put,List.getElem_toArray,List.getElem_cons_succ,List.getElem_cons_zero,List.setIfInBounds_toArray,List.set_cons_zero,List.set_cons_succ]
   refine AnyE.takeL (i:=3) (v:=?_) rfl (by kernel_rfl) (by kernel_rfl) (by kernel_rfl) (by kernel_rfl) (by kernel_rfl) (fun _ _ _ h=>h) (Or.inl ⟨by rfl,?_⟩) hS ?_
   rotate_left
   focus (intro wq hSq;obtain ⟨hS1,hS2⟩:=hSq;go_simp;with_reducible rfl)
   try simp only [Act.put,List.getElem_toArray,List.getElem_cons_succ,List.getElem_cons_zero,List.setIfInBounds_toArray,List.set_cons_zero,List.set_cons_succ]
   refine AnyE.takeL (i:=4) (v:=?_) rfl (by kernel_rfl) (by kernel_rfl) (by kernel_rfl) (by kernel_rfl) (by kernel_rfl) (fun _ _ _ h=>h) (Or.inl ⟨by rfl,?_⟩) hS ?_
   rotate_left
   focus (intro wq hSq;obtain ⟨hS1,hS2⟩:=hSq;go_simp;with_reducible rfl)
   try simp only [Act.put,List.getElem_toArray,List.getElem_cons_succ,List.getElem_cons_zero,List.setIfInBounds_toArray,List.set_cons_zero,List.set_cons_succ]
   refine AnyE.takeL (i:=5) (v:=.agg #[.int .i64 v.k,.int .i64 v.n,.string v.s]) rfl (by kernel_rfl) (by kernel_rfl) (by kernel_rfl) (by kernel_rfl) (by kernel_rfl) (fun _ _ _ h=>h) (yields_load 61 _ rfl rfl gv 0 rfl #[.int .i64 v.k,.int .i64 v.n,.string v.s] _ (fun w h j u hj=>by rw [Nat.zero_add];exact (h.2 j).trans hj) Tryd.underlying61 rfl (by kernel_rfl)) hS ?_
   try simp only [Act.put,List.getElem_toArray,List.getElem_cons_succ,List.getElem_cons_zero,List.setIfInBounds_toArray,List.set_cons_zero,List.set_cons_succ]
   refine AnyE.one (i:=6) (by kernel_rfl) rfl rfl ?_
   intro K hK
   simp only [List.getElem_toArray,List.getElem_cons_succ,List.getElem_cons_zero]
   go_simp
   have hbe:=(Below.refl wd.heap.size wd).alloc (Nat.le_refl _) (.cells #[.int .i64 v.k,.int .i64 v.n,.string v.s] 61)
   have hlt:=heap_alloc_new wd (.cells #[.int .i64 v.k,.int .i64 v.n,.string v.s] 61)
   replace RG:=Lib.hid (row_keep hbe RG.out);replace HR:=Lib.hid (HR.out.below hbe);replace HF:=Lib.hid (HF.out.trans (Fr.of_below hbe H0.out hBz));replace RV:=Lib.hid (row_keep hbe RV.out)
   have RL:=Lib.hid hlt
   replace hBz:=Nat.le_trans hBz hbe.size
   refine hK _ _ (fun _=>⟨(rowc RG.out _).trans HK3.out,rowc RV.out⟩) ?_
   clear hK K hS hlt hbe
   try simp only [Act.put,List.getElem_toArray,List.getElem_cons_succ,List.getElem_cons_zero,List.setIfInBounds_toArray,List.set_cons_zero,List.set_cons_succ]
   generalize wd.alloc (.cells #[.int .i64 v.k,.int .i64 v.n,.string v.s] 61) = wb at *
   generalize wd.heap.size = gl at *
   refine AnyE.one (i:=7) (by kernel_rfl) rfl rfl ?_
   intro K hK
   simp only [List.getElem_toArray,List.getElem_cons_succ,List.getElem_cons_zero]
   have ho3:=own_sameV (HR.out.d j HJ.out) (upd_same C j _)
   refine wp_pushRow (.tmp 50) (.tmp 52) 30 rfl B 61 i1 _ 3 32 Tryd.underlying30 hi1 hy0 hy1 hy2 rfl (by decide) valCells (fun _=>rfl) valCells_one (.slice a3 l3 c3) (C j).vals ?_ (own_as HD.out ho3) gl ?_ v #[.int .i64 v.k,.int .i64 v.n,.string v.s] 61 RL.out rfl ?_ ?_ hBz ?_
   focus (go_simp)
   focus (go_simp)
   focus (have:=H63.out;have:=HLEN.out;omega)
   focus (have:=H64.out;have:=HLEN.out;omega)
   intro v3 wa hn3 hg3 hq3
   have hgD:wb.grownBy wa (D j).ownBlock:=by rw [HD.out];exact hg3
   replace RG:=Lib.hid (grown_keep ho3 hgD RG.out (by decide));replace HF:=Lib.hid (HF.out.trans (Fr.grown ho3 (.inr rfl) hgD H0.out hBz))
   have HR2:=Lib.hid (HR.out.addD HJ.out (c':=⟨(C j).id,(C j).rep ++ [r],(C j).df ++ [d],(C j).vals ++ [v]⟩) hgD hn3 (by rw [HD.out];exact hq3) (by rw [upd_same]) (by rw [upd_same]))
   rw [upd_upd] at HR2
   replace hBz:=Nat.le_trans hBz hg3.size
   refine hK _ _ (fun _=>⟨(rowc RG.out _).trans HK3.out,rowc (grown_old HD1.out hzv hg3 RV.out)⟩) ?_
   clear hK K ho3 hgD hn3 hg3 hq3
   try simp only [Act.put,List.getElem_toArray,List.getElem_cons_succ,List.getElem_cons_zero,List.setIfInBounds_toArray,List.set_cons_zero,List.set_cons_succ]
   obtain ⟨b3,m3,d3,hv3⟩:=own_capS (HR2.out.d j HJ.out)
   rw [upd_same] at hv3;subst hv3
   refine AnyE.one (i:=8) (by kernel_rfl) rfl rfl ?_
   intro K hK
   simp only [List.getElem_toArray,List.getElem_cons_succ,List.getElem_cons_zero]
   go_simp
   refine hK _ _ (fun h=>absurd h (by decide)) ?_
   clear hK K
   try simp only [Act.put,List.getElem_toArray,List.getElem_cons_succ,List.getElem_cons_zero,List.setIfInBounds_toArray,List.set_cons_zero,List.set_cons_succ]
   refine AnyE.one (i:=9) (by kernel_rfl) rfl rfl ?_
   intro K hK
   simp only [List.getElem_toArray,List.getElem_cons_succ,List.getElem_cons_zero]
   go_simp
   refine hK _ _ (fun h=>absurd h (by decide)) ?_
   clear hK K
   try simp only [Act.put,List.getElem_toArray,List.getElem_cons_succ,List.getElem_cons_zero,List.setIfInBounds_toArray,List.set_cons_zero,List.set_cons_succ]
   refine AnyE.one (i:=10) (by kernel_rfl) rfl rfl ?_
   intro K hK
   simp only [List.getElem_toArray,List.getElem_cons_succ,List.getElem_cons_zero]
   have cg:=(rowc RG.out (j * 4 + 3)).trans HK3.out;have fg:=rowf RG.out (j * 4 + 3)
   go_simp
   refine hK _ _ (fun h=>absurd h (by decide)) ?_
   clear hK K cg fg
   try simp only [Act.put,List.getElem_toArray,List.getElem_cons_succ,List.getElem_cons_zero,List.setIfInBounds_toArray,List.set_cons_zero,List.set_cons_succ]
   refine AnyE.done (by kernel_rfl) ?_ _
   go_wp2_with fail
   go_end0
   exact ⟨rfl,put_yes HW.out HJ.out HM.out KC.out RG.out HF.out HR2.out⟩
  ·have dd:((d:Int) == mx j) = false:=by simpa using hm
   have HM:=Lib.hid hm
   clear hm
   go_wp2_with fail
   go_end0
   exact ⟨rfl,HW.out.back KF.out ⟨cs2,P2,Q2,D,KG.out,KC.out,by have h:=KR.out;unfold putC;rw [addC_no (e:=⟨r,d,v⟩) HM.out];exact h⟩ (putC_len HW.out.len),KF.out⟩
end Go.Proofs.YtkmhmnffbgedgaaDoor
/- The walk of shred's (*writer).none: an entry without a value for each leaf in a node. -/
namespace Go.Proofs.YtkmhmnffbgedgaaDoor
set_option maxHeartbeats 16000000
set_option linter.unusedVariables false
set_option linter.unusedSimpArgs false
open Go Go.RowKit Go.ChangeShapes
def addE (mx:Nat → Int) (C:Nat → Col) (E:Nat → List Ent):Nat → Col:=fun j=>addC (mx j) (C j) (E j)
theorem addE_nil (mx:Nat → Int) (C:Nat → Col):addE mx C (fun _=>[]) = C:=by funext j;exact addC_nil _ _
theorem addE_app (mx:Nat → Int) (C:Nat → Col) (E F:Nat → List Ent):addE mx (addE mx C E) F = addE mx C (fun j=>E j ++ F j):=by funext j;exact addC_app _ _ _ _
theorem addE_rep (mx:Nat → Int) (C:Nat → Col) (E:Nat → List Ent) (j:Nat):(addE mx C E j).rep.length = (C j).rep.length + (E j).length:=by simp [addE,addC]
theorem putC_one (mx:Nat → Int) (C:Nat → Col) (j:Nat) (e:Ent):putC mx C j e = addE mx C (noneE 1 j e):=by
 funext i
 unfold putC addE noneE
 by_cases h:i = j
 ·subst h;rw [upd_same,if_pos (by omega)]
 ·rw [upd_ne _ _ h,if_neg (by omega),addC_nil]
theorem noneE_zero (leaf:Nat) (e:Ent):noneE 0 leaf e = fun _=>[]:=by funext j;exact noneE_out (by omega)
theorem noneE_add (a b leaf:Nat) (e:Ent):(fun j=>noneE a leaf e j ++ noneE b (leaf + a) e j) = noneE (a + b) leaf e:=by
 funext j
 unfold noneE
 by_cases h1:leaf ≤ j ∧ j < leaf + a
 ·rw [if_pos h1,if_neg (by omega),if_pos (by omega)];rfl
 ·rw [if_neg h1]
  by_cases h2:leaf + a ≤ j ∧ j < leaf + a + b
  ·rw [if_pos h2,if_pos (by omega)];rfl
  ·rw [if_neg h2,if_neg (by omega)];rfl
def WrRet (B0 B W g cap n:Nat) (mv:Value) (mx ids:Nat → Int) (C:Nat → Col) (E:Nat → List Ent) (m:Nat) (w:World) (e:Ending) (w':World):Prop :=
 e = .returned (.int .i64 (m:Nat)) ∧ Wr B0 B W g cap n mv mx ids w' (addE mx C E) ∧ Fr B0 B g w w'
theorem Fr.node {B0 B g b:Nat} {w w':World} {cs:Array Value} (h:Fr B0 B g w w') (hb:w.heap[b]? = some (.cells cs 47 (0,0))) (hne:b ≠ g):w'.heap[b]? = some (.cells cs 47 (0,0)):=h.tag b cs _ _ (by decide) (by decide) hne hb
set_option maxRecDepth 100000 in
theorem none_any {B0 B W g cap n:Nat} {mv:Value} {mx ids:Nat → Int} (rep df:Int):∀ (nd:Nd) (u:Value) (C:Nat → Col) (leaf:Nat) (w:World),Wr B0 B W g cap n mv mx ids w C → IsNds (· < B0) w u nd.sub → (∀ x ∈ nodes nd,x.Ok1) → leaf + lvs nd ≤ n →
  (∀ j,j < n → leaf ≤ j → j < leaf + lvs nd → (C j).rep.length + 1 ≤ 1000000) →
  Calls Tryd.prog 52 #[.pointer (some ⟨W,0,none⟩),.agg (ndA nd u),.int .i64 (leaf:Nat),.int .i64 rep,.int .i64 df] w (WrRet B0 B W g cap n mv mx ids C (noneE (lvs nd) leaf ⟨rep,df,zeroV⟩) (lvs nd) w):=by
 apply Nd.ind
 intro nd IH u C leaf w hw hN hO hlf hC
 have hOs:∀ x ∈ nodesL nd.sub,x.Ok1:=fun x hx=>hO x (by rw [nodes_eq];exact List.mem_cons_of_mem _ hx)
 have hlen:=(hO nd (by rw [nodes_eq];exact List.mem_cons_self ..)).sub
 have hn1:=hw.n1
 have hB:=hw.hB
 have hgB:=hw.hg
 rw [lvs_eq] at hlf hC ⊢
 obtain ⟨l,hl⟩:∃ l,nd.sub = l:=⟨_,rfl⟩
 obtain ⟨ad,cp,rfl⟩:=hN.form
 rw [hl] at hN hlen hOs IH hlf hC ⊢
 obtain ⟨len,hnl⟩:∃ len,l.length = len:=⟨_,rfl⟩
 rw [hnl] at hN hlen ⊢
 obtain ⟨m,hm⟩:∃ m,(if nd.kind = 0 then lvsL l else 1) = m:=⟨_,rfl⟩
 rw [hm] at hlf hC ⊢
 have HM:=Lib.hid hm
 clear hm
 have HL:=Lib.hid hnl;have HN:=Lib.hid hN;have HOs:=Lib.hid hOs;have HIH:=Lib.hid IH;have HC:=Lib.hid hC;have HW:=Lib.hid hw;have H0:=Lib.hid hw.h0
 clear hnl hl hN hOs IH hO hC hw
 have hbx:=(Below.refl w.heap.size w).alloc (Nat.le_refl _) (.cells #[.int .i64 nd.id,.string nd.name,.int .i64 nd.rep,.int .i64 nd.kind,.slice ad len cp] 47)
 have hrx:=heap_alloc_new w (.cells #[.int .i64 nd.id,.string nd.name,.int .i64 nd.rep,.int .i64 nd.kind,.slice ad len cp] 47)
 have HF:=Lib.hid (Fr.of_below (g:=g) hbx H0.out hB);have RN:=Lib.hid hrx;have HWX:=Lib.hid (HW.out.keep hbx)
 have hgx:g ≠ w.heap.size:=by omega
 clear hbx hrx
 unfold ndA
 go_enter Tryd.func52,Tryd.ntmps52
 go_upto_region 1 with fail
 generalize w.alloc (.cells #[.int .i64 nd.id,.string nd.name,.int .i64 nd.rep,.int .i64 nd.kind,.slice ad len cp] 47) = w1 at *
 have cN:=rowc RN.out
 by_cases hk:nd.kind = 0
 case neg =>
  have dk:((nd.kind:Int) != 0) = true:=by simpa using hk
  have HK:=Lib.hid hk
  obtain rfl:m = 1:=by rw [← HM.out,if_neg hk]
  have HP:=Lib.hid (putE_any (r:=rep) (d:=df) w1 C leaf zeroV HWX.out (by omega) (HC.out leaf (by omega) (Nat.le_refl _) (by omega)))
  rw [show valA zeroV = #[.int .i64 0,.int .i64 0,.string ByteArray.empty] from rfl] at HP
  clear hk
  go_wp2_with fail
  refine HP.out.mono ?_;rintro e w4 ⟨rfl,hw4,hf4⟩
  have HW4:=Lib.hid hw4;have HF4:=Lib.hid (HF.out.trans hf4)
  clear hw4 hf4 cN HP
  go_wp2_with fail
  go_ret
  exact ⟨rfl,by rw [← putC_one];exact HW4.out,HF4.out⟩
 have dk:((nd.kind:Int) != 0) = false:=by simpa using hk
 obtain rfl:m = lvsL l:=by rw [← HM.out,if_pos hk]
 have HLF:=Lib.hid hlf
 clear hk hlf
 go_wp2_with fail
 clear cN
 go_loopw [11,26] (fun s11 i wr=>∃ (k:Nat),k ≤ len ∧ i = .int .i64 (k:Nat) ∧ s11 = .int .i64 (lvsL (l.take k):Nat) ∧ Hid (Wr B0 B W g cap n mv mx ids wr (addE mx C (noneE (lvsL (l.take k)) leaf ⟨rep,df,zeroV⟩))) ∧ Hid (Fr B0 B g w1 wr)) (fun _ i _=>len - (intOf i).toNat)
 case atStart=>exact ⟨0,Nat.zero_le _,rfl,rfl,by simp only [List.take_zero,lvsL];rw [noneE_zero,addE_nil];exact HWX.out,Fr.refl _ _ _ _⟩
 case round =>
  obtain ⟨k,hk,rfl,rfl,HR,HFr⟩:=hrel
  by_cases hlt:k < len
  case neg =>
   obtain rfl:k = len:=by omega
   have hT:l.take k = l:=List.take_of_length_le (Nat.le_of_eq HL.out)
   have HT:=Lib.hid hT
   clear hT
   go_wp2_with fail
   go_ret
   rw [HT.out] at HR ⊢
   exact ⟨rfl,HR.out,HF.out.trans HFr.out⟩
  have hkl:k < l.length:=by rw [HL.out];exact hlt
  have hb0w:=HF.out.below.trans HFr.out.below
  obtain ⟨b0,off,rfl,hPb,hb0,hat⟩:=(HN.out.under hb0w).at (by omega)
  obtain ⟨ux,hcx,hnx⟩:=hat k l[k] (List.getElem?_eq_getElem hkl)
  have hsn:l.take (k + 1) = l.take k ++ [l[k]]:=List.take_succ_eq_append_getElem hkl
  have hsv:lvsL (l.take (k + 1)) = lvsL (l.take k) + lvs l[k]:=by rw [hsn,lvsL_app];simp [lvsL]
  have hle:lvsL (l.take k) + lvs l[k] ≤ lvsL l:=by
   have:=lvsL_app (l.take k) (l.drop k);rw [List.take_append_drop,List.drop_eq_getElem_cons hkl] at this;simp only [lvsL] at this;omega
  have hOx:∀ y ∈ nodes l[k],y.Ok1:=fun y hy=>HOs.out y (nodesL_mem (List.getElem_mem hkl) hy)
  have hIx:=HIH.out l[k] (List.getElem_mem hkl)
  have hin:(k:Int) < (len:Int):=by omega
  have Hlt:=Lib.hid hlt
  generalize l[k] = x at *
  obtain ⟨ax,cx,rfl⟩:=hnx.form
  unfold NdAt ndA at hcx
  obtain ⟨kv,hkv⟩:∃ kv,lvsL (l.take k) = kv:=⟨_,rfl⟩
  rw [hkv] at hsv hle HR ⊢
  have hbig:leaf + kv + lvs x ≤ 1000000:=by have:=HLF.out;omega
  have hlk:leaf + kv + lvs x ≤ n:=by have:=HLF.out;omega
  have hsz:=HR.out.hB
  have hbx:=(Below.refl wr.heap.size wr).alloc (Nat.le_refl _) (.cells #[.int .i64 x.id,.string x.name,.int .i64 x.rep,.int .i64 x.kind,.slice ax x.sub.length cx] 47)
  have hcl:=hIx (.slice ax x.sub.length cx) _ (leaf + kv) _ (HR.out.keep hbx) (hnx.under (hbx.mono (Nat.le_trans HW.out.h0 hsz))) hOx hlk (by
   intro j hj hge hlt2
   rw [addE_rep,noneE_out (by omega)]
   exact HC.out j hj (by omega) (by omega))
  unfold ndA at hcl
  have hca:((leaf + kv:Nat):Int) = (leaf:Int) + (kv:Int):=by omega
  rw [hca] at hcl
  have HCX:=Lib.hid hcx;have HCL:=Lib.hid hcl;have HSV:=Lib.hid hsv;have HKV:=Lib.hid hkv;have HBG:=Lib.hid hbig
  have HFX:=Lib.hid (HFr.out.trans (Fr.of_below (g:=g) hbx HW.out.h0 hsz))
  have hkv1:kv ≤ 1000000:=by omega
  have hlf1:leaf ≤ 1000000:=by omega
  have hxv1:lvs x ≤ 1000000:=by omega
  clear hat hkl hsn hnx hOx hIx hcx hPb hcl hsv hle hkv hbx hb0w hlk hbig hlt hk hb0 hca
  go_wp2_with (refine wpList_load_cells rfl 47 _ rfl b0 (off + k * 5) rfl #[.int .i64 x.id,.string x.name,.int .i64 x.rep,.int .i64 x.kind,.slice ax x.sub.length cx] _ HCX.out Tryd.underlying47 rfl nd_info ?_)
  refine HCL.out.mono ?_;rintro e w4 ⟨rfl,hw4,hf4⟩
  have HW4:=Lib.hid hw4;have HF4:=Lib.hid (HFX.out.trans hf4)
  clear hw4 hf4 HCL HCX
  go_wp2_with fail
  go_roundw
  case rel =>
   refine ⟨k + 1,Hlt.out,by go_num,by rw [HSV.out];go_num,?_,HF4.out⟩
   have h:=HW4.out
   rw [addE_app,noneE_add] at h
   rw [HSV.out]
   exact h
  case measure=>have:=Hlt.out;simp [intOf];omega
end Go.Proofs.YtkmhmnffbgedgaaDoor
