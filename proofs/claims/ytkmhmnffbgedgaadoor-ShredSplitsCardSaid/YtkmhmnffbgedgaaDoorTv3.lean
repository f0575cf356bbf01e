/- The walks of the document's FindOf and HasInt. -/
import Derived.Test.YtkmhmnffbgedgaaDoorTv2
import Derived.Test.YtkmhmnffbgedgaaDoorTr2
import Derived.Deep.RegionHeld3
import Derived.Laws.Closers25b
import Derived.Deep.DeepCutAuto
import Derived.Test.YtkmhmnffbgedgaaDoorRegE
namespace Go.Proofs.YtkmhmnffbgedgaaDoor
set_option linter.unusedVariables false
set_option linter.unusedSimpArgs false
open Go Go.RowKit Go.ChangeShapes
def findD (F:List Pl) (id:Int):Option Pl:=F.find? fun p=>decide (p.n.id = id)
def zeroNd:Nd:=.mk 0 ByteArray.empty 0 0 []
def FindRet (F:List Pl) (id:Int) (w:World) (e:Ending) (w':World):Prop :=
 Below w.heap.size w w' ∧ ((∃ p a c,findD F id = some p ∧ e = .returned (.tuple #[.agg (ndA p.n (.slice a p.n.sub.length c)),.bool true]) ∧ IsNds (· < w.heap.size) w' (.slice a p.n.sub.length c) p.n.sub) ∨
  (findD F id = none ∧ e = .returned (.tuple #[.agg (ndA zeroNd (.slice none 0 0)),.bool false])))
end Go.Proofs.YtkmhmnffbgedgaaDoor
/- The walk of the document's LeavesOf at a right schema. -/
namespace Go.Proofs.YtkmhmnffbgedgaaDoor
set_option maxHeartbeats 16000000
set_option linter.unusedVariables false
set_option linter.unusedSimpArgs false
open Go Go.RowKit Go.ChangeShapes
theorem wpList_appN {w:World} {ops:Array Oper} {rest:List Oper} {o:Oper} {a:Act} {Q:Exit → Act → World → Prop} (hgd:o.guard = none) (s x:Operand)
  (ho:o.op = .call { callee:=.builtin .append,args:=#[s,x],argTypes:=#[22,22] }) (B:Nat) (v:Value) (l0:List Int) (hs:a.eval s = v) (hown:w.ownsRow B 3 1 v l0.length (l0.map intN))
  (B2:Nat) (u:Value) (l:List Int) (hx:a.eval x = u) (hI:w.ownsRow B2 3 1 u l.length (l.map intN)) (h8:(l0.length + l.length) * 8 ≤ 140737488355328) (hB:B ≤ w.heap.size)
  (h:∀ v' w',w'.ownsRow B 3 1 v' (l0 ++ l).length ((l0 ++ l).map intN) → w.grownBy w' v.ownBlock → wpList Tryd.prog ops Q rest (a.put o.dst v') w'):wpList Tryd.prog ops Q (o :: rest) a w:=by
 obtain ⟨i0,hi,hz0,hz1,hz2⟩:=info_parts info_intN
 refine wpList_plain hgd fun K hK=>?_
 rcases hI.2 with ⟨rfl,h0⟩ | ⟨g,cap,cur,rfl,hBg,hg,_⟩
 ·have hl:l = []:=List.eq_nil_of_length_eq_zero h0
  subst hl
  have hcap:∃ vb vc,v = .slice vb l0.length vc ∧ l0.length ≤ vc:=by
   rcases hown.2 with ⟨h1,h0⟩ | ⟨g,cap,cur,h1,_,_,h3,_⟩
   ·exact ⟨none,0,by rw [h1,h0],by omega⟩
   ·exact ⟨_,cap,h1,h3⟩
  obtain ⟨vb,vc,rfl,hvc⟩:=hcap
  unfold Oper.wp execOp
  have hr:=run_append_none (P:=Tryd.prog) w 22 o.type 3 0 i0 Tryd.underlying22 hi vb l0.length vc none 0 hvc
  simp only [ho,resolve,invoke,builtin,Sem.run_bind,Sem.run_pure,Result.andThen_ok,List.map_toArray,List.map_cons,List.map_nil,hs,hx,hr]
  exact hK _ _ (h _ _ (by simpa using hown) ⟨rfl,rfl,rfl,Nat.le_refl _,fun _ _ _=>rfl⟩)
 ·obtain ⟨v',w',hr,h2,h3,_,h5⟩:=run_append_own_at (P:=Tryd.prog) w B 22 o.type 3 i0 (.int .i64 0) 1 8 Tryd.underlying22 hi hz0 hz1 hz2 rfl (by decide) v l0.length _ hown ⟨g,0,none⟩ l.length cap (l.map intN) (by simp) (by
    intro j u hj
    have hjl:j < l.length:=by have:=(List.getElem?_eq_some_iff.1 hj).1;simpa using this
    rw [Go.WideShapes.add_plain,Nat.zero_add,hI.cellAt j (by omega),hj]) (one_map (fun _=>rfl) l) (by unfold maxLen;omega) h8 hB
  unfold Oper.wp execOp
  simp only [ho,resolve,invoke,builtin,Sem.run_bind,Sem.run_pure,Result.andThen_ok,List.map_toArray,List.map_cons,List.map_nil,hs,hx,hr]
  exact hK _ _ (h v' w' (by simpa using h2) h3)
theorem cellA {w:World} {b o:Nat} {v:Value} (h:w.cell? ⟨b,o,none⟩ = some v) (ob:Obj):(w.alloc ob).cell? ⟨b,o,none⟩ = some v:=(((Below.refl w.heap.size w).alloc (Nat.le_refl _) ob).cell (p:=⟨b,o,none⟩) (block_lt_of_cell h)).trans h
theorem own_baseN {w:World} {B B' n s:Nat} {e:TypeId} {v:Value} {xs:List Value} (h:w.ownsRow B e s v n xs) (hB:B' ≤ B):w.ownsRow B' e s v n xs:=by
 refine ⟨h.1,?_⟩
 rcases h.2 with h0 | ⟨g,cap,cur,hv,h1,h2,h3⟩
 ·exact .inl h0
 ·exact .inr ⟨g,cap,cur,hv,Nat.le_trans hB h1,h2,h3⟩
theorem own_pastN {w w':World} {B B2 s s2 n n2:Nat} {e e2:TypeId} {v v2:Value} {xs xs2:List Value} {o:Obj} (h:w.ownsRow B e s v n xs) (h2:w.ownsRow B2 e2 s2 v2 n2 xs2) (he:e ≠ e2) (hg:(w.alloc o).grownBy w' v2.ownBlock):w'.ownsRow B e s v n xs:=by
 refine ⟨h.1,?_⟩
 rcases h.2 with h0 | ⟨g,cap,cur,hv,h1,h3,h4⟩
 ·exact .inl h0
 ·exact .inr ⟨g,cap,cur,hv,h1,grown_row h2 hg h3 he,h4⟩
def lfC (x:Lvf × Value):List Value:=[.int .i64 x.1.id,.int .i64 x.1.kind,.int .i64 x.1.mr,.int .i64 x.1.md,cell1 x.2]
theorem lfC_one (p:Lvf × Value):∀ u ∈ lfC p,u.oneCell' = true:=by
 intro u hu
 simp only [lfC,List.mem_cons,List.not_mem_nil,or_false] at hu
 rcases hu with rfl | rfl | rfl | rfl | rfl <;> first | rfl | exact cell1_one _
theorem lfd_info:(Tryd.prog.info? 24).map (fun i=>(i.zero,i.size,i.bytes)) = some (some (.agg #[.int .i64 0,.int .i64 0,.int .i64 0,.int .i64 0,.slice none 0 0]),5,56):=by kernel_rfl
def LvsRow (B:Nat) (w:World) (v:Value) (LO:List (Lvf × Value)):Prop:=w.ownsRow B 24 5 v LO.length (LO.flatMap lfC) ∧ ∀ p ∈ LO,w.ownsRow B 3 1 p.2 p.1.path.length (p.1.path.map intN)
theorem LvsRow.below {B:Nat} {w w':World} {v:Value} {LO:List (Lvf × Value)} (h:LvsRow B w v LO) (hb:Below w.heap.size w w'):LvsRow B w' v LO:=⟨own_blw h.1 hb,fun p hp=>own_blw (h.2 p hp) hb⟩
def LvsRet (n:Nd) (w:World) (e:Ending) (w':World):Prop:=∃ v LO,e = .returned v ∧ LvsRow w.heap.size w' v LO ∧ LO.map Prod.fst = leavesN n ∧ Below w.heap.size w w'
set_option maxRecDepth 100000 in
theorem leavesOf_any (n:Nd) (u:Value) (w:World) (hN:IsNds (· < w.heap.size) w u n.sub) (hO:∀ x ∈ nodes n,x.Ok1) (hg:goodB n = true) (hs:∀ x ∈ nodesL n.sub,shaped x) :
    Calls Tryd.prog 19 #[.agg (ndA n u)] w (LvsRet n w):=by
  have hw:Below w.heap.size w (w.alloc (.cells (ndA n u) 47)):=(Below.refl _ _).alloc (Nat.le_refl _) _
  have HC:=Lib.hid (flatB_any w.heap.size n u _ hw.size (hN.under hw) hO)
  have hsz:size n ≤ 40:=by unfold goodB at hg;rw [decide_eq_true_iff] at hg;exact hg.1
  have hF:=flat_of_good hg
  rw [hF] at HC
  have HUP:=Lib.hid (way_up n);have HWL:=Lib.hid (way_len n);have HLV:=Lib.hid (leaves_at n hs)
  obtain ⟨ad,cp,hu⟩:=hN.form
  obtain ⟨len,hlen⟩:∃ len,n.sub.length = len:=⟨_,rfl⟩
  rw [hlen] at hu
  subst hu
  have hpl:(plc 0 n 1 (-1)).length ≤ 40:=by rw [plc_len];exact hsz
  have hne:0 < (plc 0 n 1 (-1)).length:=by rw [plc_len,size_eq];omega
  obtain ⟨F,hFF⟩:∃ F,plc 0 n 1 (-1) = F:=⟨_,rfl⟩
  rw [hFF] at HC HUP HWL HLV hpl hne
  have HW0:=Lib.hid hw
  unfold ndA at *
  obtain ⟨i0,hi,hz0,hz1,hz2⟩:=info_parts lfd_info
  clear hw hF hFF hN hO hg hs hlen hsz
  go_enter Tryd.func19,Tryd.ntmps19
  go_wp2_with fail
  refine HC.out.mono ?_;rintro e w1 ⟨v,L,rfl,ho,hm,hok,hk⟩
  have HB:=Lib.hid (HW0.out.trans hk.below)
  have hgN:w.heap.size + 1 ≤ w1.heap.size:=Nat.le_trans (by simp) hk.below.size
  have HM:=Lib.hid hm
  rw [← hm,List.length_map] at hne hpl
  obtain ⟨g,cv,rfl,hgB,hgz,hpa⟩:=pls_at ho hne
  have HPA:=Lib.hid hpa
  clear ho hok hk hpa HC HW0 hm
  obtain ⟨N,hN⟩:∃ N,L.length = N:=⟨_,rfl⟩
  rw [hN] at hne hpl ⊢
  have HLN:=Lib.hid hN
  clear hN
  have HAT:=Lib.hid (fun (i:Nat) (p:PlV) (hp:L[i]? = some p)=>show F[i]? = some p.pl by rw [← HM.out];exact map_at hp)
  have HFL:=Lib.hid (show F.length = N by rw [← HM.out,List.length_map,HLN.out])
  go_wp2_with fail
  go_loopw [4,5] (fun s4 i wr=>∃ (j:Nat) (v4:Value) (LO:List (Lvf × Value)),1 ≤ j ∧ j ≤ N ∧ i = .int .i64 (j:Nat) ∧ v4 = s4 ∧ Hid (LvsRow w1.heap.size wr v4 LO) ∧ Hid (LO.map Prod.fst = (List.range j).filterMap (lvAt n F)) ∧ Hid (LO.length ≤ j) ∧ Hid (Below w1.heap.size w1 wr) ∧ Hid (w1.heap.size ≤ wr.heap.size) ∧ Hid (PlsAt wr g L)) (fun _ i _=>N - (intOf i).toNat)
  case atStart=>exact ⟨1,_,[],Nat.le_refl _,hne,rfl,rfl,⟨World.ownsRow_nil _ _ _ _,fun p hp=>by simp at hp⟩,rfl,Nat.zero_le _,Below.refl _ _,Nat.le_refl _,HPA.out⟩
  case round =>
    obtain ⟨j,v4,LO,hj1,hj,rfl,hv4,HLR,HLM,HLL,HBr,HSZ,HPr⟩:=hrel
    subst hv4
    by_cases hlt:j < N
    · have hjl:j < L.length:=by rw [HLN.out];exact hlt
      have hgt:=List.getElem?_eq_getElem hjl
      have e0:=HPr.out.id j _ hgt;have e3:=HPr.out.kind j _ hgt
      have hin:(j:Int) < (N:Int):=by omega
      have HGP:=Lib.hid hgt
      generalize L[j] = p at *
      clear hgt hjl
      by_cases hk0:p.n.kind = 0
      · have dk:((p.n.kind:Int) == 0) = true:=by simpa using hk0
        have HLM2:=Lib.hid (show LO.map Prod.fst = (List.range (j + 1)).filterMap (lvAt n F) by
          rw [List.range_succ,List.filterMap_append,← HLM.out]
          have:lvAt n F j = none:=by unfold lvAt;rw [if_neg (by omega),HAT.out j p HGP.out];show lvOf (p.n,_) = none;unfold lvOf;rw [if_pos hk0]
          simp [this])
        clear hk0 HLM
        go_wp2_with fail
        go_roundw
        case rel=>exact ⟨j + 1,v4,LO,by omega,by omega,by go_num,rfl,HLR.out,HLM2.out,Nat.le_succ_of_le HLL.out,HBr.out,HSZ.out,HPr.out⟩
        case measure=>simp [intOf];omega
      · have dk:((p.n.kind:Int) == 0) = false:=by simpa using hk0
        have HK0:=Lib.hid hk0
        clear hk0
        go_wp2_with fail
        have E0:=Lib.hid e0;have E3:=Lib.hid e3
        go_region_held3 (fun w'=>w'.cell? ⟨g,j * 7,none⟩ = some (.int .i64 p.n.id) ∧ w'.cell? ⟨g,j * 7 + 3,none⟩ = some (.int .i64 p.n.kind)) (first | (with_reducible exact ⟨E0.out,E3.out⟩) | (with_reducible exact ⟨cell_drew E0.out,cell_drew E3.out⟩) | (with_reducible exact ⟨cellA (cell_drew E0.out) _,cellA (cell_drew E3.out) _⟩) | (with_reducible exact ⟨cell_drew (cellA E0.out _),cell_drew (cellA E3.out _)⟩)) (fail)
        have hw2:Below wr.heap.size wr (wr.alloc (.cells #[.int .i64 p.n.id,.int .i64 p.n.kind,.int .i64 0,.int .i64 0,.slice none 0 0] 24)).drew:=((Below.refl _ _).alloc (Nat.le_refl _) _).drew
        have hrf:((wr.alloc (.cells #[.int .i64 p.n.id,.int .i64 p.n.kind,.int .i64 0,.int .i64 0,.slice none 0 0] 24)).drew).heap[wr.heap.size]? = some (.cells #[.int .i64 p.n.id,.int .i64 p.n.kind,.int .i64 0,.int .i64 0,.slice none 0 0] 24 (0,0)):=heap_alloc_new wr _
        generalize (wr.alloc (.cells #[.int .i64 p.n.id,.int .i64 p.n.kind,.int .i64 0,.int .i64 0,.slice none 0 0] 24)).drew = w2 at *
        obtain ⟨wo,hwo⟩:∃ wo,wo = wr:=⟨_,rfl⟩
        subst hwo
        have HW2:=Lib.hid hw2;have RF:=Lib.hid hrf
        clear hw2 hrf e0 e3 E0 E3
        go_wp2_with fail
        go_loopw [7] (fun i wx=>∃ (k:Nat) (mr md:Int) (path:List Int) (pa:Option Addr) (pn pc:Nat),k ≤ j ∧ i = .int .i64 (k:Nat) ∧ wx.heap[wo.heap.size]? = some (.cells #[.int .i64 p.n.id,.int .i64 p.n.kind,.int .i64 mr,.int .i64 md,.slice pa pn pc] 24 (0,0)) ∧ Hid (path.length = pn) ∧ Hid (wx.ownsRow (wo.heap.size + 1) 3 1 (.slice pa pn pc) path.length (path.map intN)) ∧ Hid (mr + reps (wayTo n k) = reps (wayTo n j)) ∧ Hid (md + opts (wayTo n k) = opts (wayTo n j)) ∧ Hid (idsOf (wayTo n k) ++ path = idsOf (wayTo n j)) ∧ Hid (Below wo.heap.size wo wx) ∧ 0 ≤ mr ∧ 0 ≤ md) (fun i _=>(intOf i).toNat)
        case atStart=>exact ⟨j,0,0,[],none,0,0,Nat.le_refl _,rfl,RF.out,rfl,World.ownsRow_nil _ _ _ _,by simp [Hid],by simp [Hid],by simp [Hid],HW2.out,Int.le_refl _,Int.le_refl _⟩
        case round =>
          obtain ⟨k,mr,md,path,pa,pn,pc,hkj,rfl,rF,HPN,HPO,HMR,HMD,HPI,HWX,hmr0,hmd0⟩:=hrel
          clear RF HW2
          have RF:=Lib.hid rF
          clear rF
          by_cases hk0:0 < k
          · have hkl:k < L.length:=by rw [HLN.out];omega
            have hgk:=List.getElem?_eq_getElem hkl
            have hpx:=HPr.out.keep (HWX.out.block g (Nat.lt_of_lt_of_le hgz HSZ.out))
            obtain ⟨a,ha,hak,hway⟩:=HUP.out k _ hk0 (HAT.out k _ hgk)
            have e0:=hpx.id k _ hgk;have e2:=hpx.rep k _ hgk;have e6:=hpx.around k _ hgk
            have ha':L[k].around = (a:Int):=ha
            rw [ha'] at e6
            have hin2:(k:Int) < (N:Int):=by omega
            have hrj:reps (wayTo n j) ≤ 40:=by
              have h1:=HWL.out j (by rw [HFL.out];exact hlt)
              have:((wayTo n j).filter fun n=>decide (n.rep = 3)).length ≤ (wayTo n j).length:=List.length_filter_le _ _
              unfold reps;omega
            have hoj:opts (wayTo n j) ≤ 40:=by
              have h1:=HWL.out j (by rw [HFL.out];exact hlt)
              have:((wayTo n j).filter fun n=>decide (n.rep ≠ 1)).length ≤ (wayTo n j).length:=List.length_filter_le _ _
              unfold opts;omega
            have hr0:0 ≤ reps (wayTo n k):=by unfold reps;omega
            have ho0:0 ≤ opts (wayTo n k):=by unfold opts;omega
            have hmr1:mr ≤ 40:=by have:=HMR.out;omega
            have hmd1:md ≤ 40:=by have:=HMD.out;omega
            have hpn1:pn ≤ 40:=by
              have h1:=HWL.out j (by rw [HFL.out];exact hlt)
              have h2:=congrArg List.length HPI.out
              rw [List.length_append,HPN.out] at h2
              unfold idsOf at h2
              rw [List.length_map,List.length_map] at h2
              omega
            have HGK:=Lib.hid hgk;have HAR:=Lib.hid ha'
            generalize L[k] = q at *
            have HWY:=Lib.hid (show wayTo n k = wayTo n a ++ [q.n] from hway)
            clear hgk hkl hpx ha ha' hway hrj hoj hr0 ho0
            have cF:=rowc RF.out;have fF:=rowf RF.out
            by_cases hr3:q.n.rep = 3
            · have d3:((q.n.rep:Int) == 3) = true:=by simpa using hr3
              have d1:((q.n.rep:Int) != 1) = true:=by simp [hr3]
              have HR3:=Lib.hid hr3
              clear hr3
              go_upto_region 15 with fail
              have hry:((wr.setCell ⟨wo.heap.size,2,none⟩ (.int .i64 (mr + 1))).setCell ⟨wo.heap.size,3,none⟩ (.int .i64 (md + 1))).heap[wo.heap.size]? = some (.cells #[.int .i64 p.n.id,.int .i64 p.n.kind,.int .i64 (mr + 1),.int .i64 (md + 1),.slice pa pn pc] 24 (0,0)):=heap_setCell_same _ _ _ _ _ _ (heap_setCell_same _ _ _ _ _ _ RF.out)
              have hoy:((wr.setCell ⟨wo.heap.size,2,none⟩ (.int .i64 (mr + 1))).setCell ⟨wo.heap.size,3,none⟩ (.int .i64 (md + 1))).ownsRow (wo.heap.size + 1) 3 1 (.slice pa pn pc) path.length (path.map intN):=ownsRow_setCell_below (ownsRow_setCell_below HPO.out (a:=⟨wo.heap.size,2,none⟩) (Nat.lt_succ_self _) _) (a:=⟨wo.heap.size,3,none⟩) (Nat.lt_succ_self _) _
              have hby:Below wo.heap.size wo ((wr.setCell ⟨wo.heap.size,2,none⟩ (.int .i64 (mr + 1))).setCell ⟨wo.heap.size,3,none⟩ (.int .i64 (md + 1))):=(HWX.out.setCell (p:=⟨wo.heap.size,2,none⟩) (Nat.le_refl _) _).setCell (p:=⟨wo.heap.size,3,none⟩) (Nat.le_refl _) _
              have HMR2:=Lib.hid (show (mr + 1) + reps (wayTo n a) = reps (wayTo n j) by have h:=HMR.out;rw [HWY.out,reps_snoc] at h;rw [if_pos HR3.out] at h;omega)
              have HMD2:=Lib.hid (show (md + 1) + opts (wayTo n a) = opts (wayTo n j) by have h:=HMD.out;rw [HWY.out,opts_snoc] at h;rw [if_pos (by rw [HR3.out];decide)] at h;omega)
              have hm20:0 ≤ (mr + 1):=by omega
              have hm30:0 ≤ (md + 1):=by omega
              have RY:=Lib.hid hry;have OY:=Lib.hid hoy;have BY:=Lib.hid hby
              clear hry hoy hby HMR HMD RF HPO HWX cF fF
              generalize (wr.setCell ⟨wo.heap.size,2,none⟩ (.int .i64 (mr + 1))).setCell ⟨wo.heap.size,3,none⟩ (.int .i64 (md + 1)) = wy at *
              have hyz:wo.heap.size + 1 ≤ wy.heap.size:=row_lt RY.out
              have e0y:=(HPr.out.keep (BY.out.block g (Nat.lt_of_lt_of_le hgz HSZ.out))).id k _ HGK.out
              clear e0 e2 e6
              go_upto_region 16 with fail
              have hbz:=(Below.refl wy.heap.size wy).alloc (Nat.le_refl _) (.cells #[.int .i64 q.n.id] 3)
              have hlit:=World.ownsRow_lit (base:=wo.heap.size + 1) (e:=3) (size:=1) wy #[.int .i64 q.n.id] 1 hyz (by decide) rfl
              replace RY:=Lib.hid (row_keep hbz RY.out);replace OY:=Lib.hid (own_blw OY.out hbz);replace BY:=Lib.hid (BY.out.trans (hbz.mono BY.out.size))
              have hzz:wo.heap.size + 1 ≤ (wy.alloc (.cells #[.int .i64 q.n.id] 3)).heap.size:=Nat.le_trans hyz hbz.size
              have HLIT:=Lib.hid (show (wy.alloc (.cells #[.int .i64 q.n.id] 3)).ownsRow (wo.heap.size + 1) 3 1 (.slice (some ⟨wy.heap.size,0,none⟩) 1 1) [q.n.id].length ([q.n.id].map intN) from hlit)
              clear hbz hlit e0y
              generalize wy.alloc (.cells #[.int .i64 q.n.id] 3) = wz at *
              have hgx:wo.heap.size < wy.heap.size:=hyz
              generalize wy.heap.size = gx at *
              have cZ:=rowc RY.out
              have h8:([q.n.id].length + path.length) * 8 ≤ 140737488355328:=by have:=HPN.out;simp only [List.length_cons,List.length_nil];omega
              go_wp2_with (refine wpList_appN rfl _ _ rfl (wo.heap.size + 1) _ [q.n.id] rfl HLIT.out (wo.heap.size + 1) _ path rfl OY.out h8 hzz ?_;intro v5 w5 ho5 hg5;obtain ⟨a5,c5,rfl⟩:=own_form ho5;have hr5:=(hg5.block wo.heap.size (Nat.lt_of_succ_le hzz) (fun e=>absurd (Option.some.inj e) (Nat.ne_of_lt hgx))).trans RY.out;have hb5:=(Below.refl (wo.heap.size + 1) wz).grown hg5 hzz (fun k hk=>(HLIT.out.lt k hk).1);have RY5:=Lib.hid hr5;have OY5:=Lib.hid ho5;have BY5:=Lib.hid (BY.out.trans (hb5.mono (Nat.le_succ _)));clear ho5 hg5 hb5 cZ;have c5':=rowc hr5;have f5':=rowf hr5;have e6':=(HPr.out.keep (BY5.out.block g (Nat.lt_of_lt_of_le hgz HSZ.out))).around k _ HGK.out;rw [HAR.out] at e6';clear hr5)
              go_roundw
              case rel =>
                have hlen:([q.n.id] ++ path).length = path.length + 1:=by simp
                have hown:=ownsRow_setCell_below OY5.out (a:=⟨wo.heap.size,4,none⟩) (Nat.lt_succ_self _) (.slice a5 (path.length + 1) c5)
                rw [hlen] at hown
                refine ⟨a,_,_,[q.n.id] ++ path,a5,path.length + 1,c5,by omega,rfl,?_,hlen,by rw [hlen];exact hown,HMR2.out,HMD2.out,?_,BY5.out.setCell (p:=⟨wo.heap.size,4,none⟩) (Nat.le_refl _) _,hm20,hm30⟩
                · rw [heap_setCell_same _ _ _ _ _ _ RY5.out];simp
                · show idsOf (wayTo n a) ++ ([q.n.id] ++ path) = _
                  rw [← HPI.out,HWY.out];simp [idsOf]
              case measure=>simp [intOf];omega
            · have d3:((q.n.rep:Int) == 3) = false:=by simpa using hr3
              by_cases hr1:q.n.rep = 1
              · have d1:((q.n.rep:Int) != 1) = false:=by simpa using hr1
                have HR3:=Lib.hid hr3;have HR1:=Lib.hid hr1
                clear hr3 hr1
                go_upto_region 15 with fail
                have hry:(wr).heap[wo.heap.size]? = some (.cells #[.int .i64 p.n.id,.int .i64 p.n.kind,.int .i64 mr,.int .i64 md,.slice pa pn pc] 24 (0,0)):=RF.out
                have hoy:(wr).ownsRow (wo.heap.size + 1) 3 1 (.slice pa pn pc) path.length (path.map intN):=HPO.out
                have hby:Below wo.heap.size wo (wr):=HWX.out
                have HMR2:=Lib.hid (show mr + reps (wayTo n a) = reps (wayTo n j) by have h:=HMR.out;rw [HWY.out,reps_snoc] at h;rw [if_neg HR3.out] at h;exact h)
                have HMD2:=Lib.hid (show md + opts (wayTo n a) = opts (wayTo n j) by have h:=HMD.out;rw [HWY.out,opts_snoc] at h;rw [if_neg (by rw [HR1.out];decide)] at h;exact h)
                have hm20:0 ≤ mr:=by omega
                have hm30:0 ≤ md:=by omega
                have RY:=Lib.hid hry;have OY:=Lib.hid hoy;have BY:=Lib.hid hby
                clear hry hoy hby HMR HMD RF HPO HWX cF fF
                generalize wr = wy at *
                have hyz:wo.heap.size + 1 ≤ wy.heap.size:=row_lt RY.out
                have e0y:=(HPr.out.keep (BY.out.block g (Nat.lt_of_lt_of_le hgz HSZ.out))).id k _ HGK.out
                clear e0 e2 e6
                go_upto_region 16 with fail
                have hbz:=(Below.refl wy.heap.size wy).alloc (Nat.le_refl _) (.cells #[.int .i64 q.n.id] 3)
                have hlit:=World.ownsRow_lit (base:=wo.heap.size + 1) (e:=3) (size:=1) wy #[.int .i64 q.n.id] 1 hyz (by decide) rfl
                replace RY:=Lib.hid (row_keep hbz RY.out);replace OY:=Lib.hid (own_blw OY.out hbz);replace BY:=Lib.hid (BY.out.trans (hbz.mono BY.out.size))
                have hzz:wo.heap.size + 1 ≤ (wy.alloc (.cells #[.int .i64 q.n.id] 3)).heap.size:=Nat.le_trans hyz hbz.size
                have HLIT:=Lib.hid (show (wy.alloc (.cells #[.int .i64 q.n.id] 3)).ownsRow (wo.heap.size + 1) 3 1 (.slice (some ⟨wy.heap.size,0,none⟩) 1 1) [q.n.id].length ([q.n.id].map intN) from hlit)
                clear hbz hlit e0y
                generalize wy.alloc (.cells #[.int .i64 q.n.id] 3) = wz at *
                have hgx:wo.heap.size < wy.heap.size:=hyz
                generalize wy.heap.size = gx at *
                have cZ:=rowc RY.out
                have h8:([q.n.id].length + path.length) * 8 ≤ 140737488355328:=by have:=HPN.out;simp only [List.length_cons,List.length_nil];omega
                go_wp2_with (refine wpList_appN rfl _ _ rfl (wo.heap.size + 1) _ [q.n.id] rfl HLIT.out (wo.heap.size + 1) _ path rfl OY.out h8 hzz ?_;intro v5 w5 ho5 hg5;obtain ⟨a5,c5,rfl⟩:=own_form ho5;have hr5:=(hg5.block wo.heap.size (Nat.lt_of_succ_le hzz) (fun e=>absurd (Option.some.inj e) (Nat.ne_of_lt hgx))).trans RY.out;have hb5:=(Below.refl (wo.heap.size + 1) wz).grown hg5 hzz (fun k hk=>(HLIT.out.lt k hk).1);have RY5:=Lib.hid hr5;have OY5:=Lib.hid ho5;have BY5:=Lib.hid (BY.out.trans (hb5.mono (Nat.le_succ _)));clear ho5 hg5 hb5 cZ;have c5':=rowc hr5;have f5':=rowf hr5;have e6':=(HPr.out.keep (BY5.out.block g (Nat.lt_of_lt_of_le hgz HSZ.out))).around k _ HGK.out;rw [HAR.out] at e6';clear hr5)
                go_roundw
                case rel =>
                  have hlen:([q.n.id] ++ path).length = path.length + 1:=by simp
                  have hown:=ownsRow_setCell_below OY5.out (a:=⟨wo.heap.size,4,none⟩) (Nat.lt_succ_self _) (.slice a5 (path.length + 1) c5)
                  rw [hlen] at hown
                  refine ⟨a,_,_,[q.n.id] ++ path,a5,path.length + 1,c5,by omega,rfl,?_,hlen,by rw [hlen];exact hown,HMR2.out,HMD2.out,?_,BY5.out.setCell (p:=⟨wo.heap.size,4,none⟩) (Nat.le_refl _) _,hm20,hm30⟩
                  · rw [heap_setCell_same _ _ _ _ _ _ RY5.out];simp
                  · show idsOf (wayTo n a) ++ ([q.n.id] ++ path) = _
                    rw [← HPI.out,HWY.out];simp [idsOf]
                case measure=>simp [intOf];omega
              · have d1:((q.n.rep:Int) != 1) = true:=by simpa using hr1
                have HR3:=Lib.hid hr3;have HR1:=Lib.hid hr1
                clear hr3 hr1
                go_upto_region 15 with fail
                have hry:(wr.setCell ⟨wo.heap.size,3,none⟩ (.int .i64 (md + 1))).heap[wo.heap.size]? = some (.cells #[.int .i64 p.n.id,.int .i64 p.n.kind,.int .i64 mr,.int .i64 (md + 1),.slice pa pn pc] 24 (0,0)):=heap_setCell_same _ _ _ _ _ _ RF.out
                have hoy:(wr.setCell ⟨wo.heap.size,3,none⟩ (.int .i64 (md + 1))).ownsRow (wo.heap.size + 1) 3 1 (.slice pa pn pc) path.length (path.map intN):=ownsRow_setCell_below HPO.out (a:=⟨wo.heap.size,3,none⟩) (Nat.lt_succ_self _) _
                have hby:Below wo.heap.size wo (wr.setCell ⟨wo.heap.size,3,none⟩ (.int .i64 (md + 1))):=HWX.out.setCell (p:=⟨wo.heap.size,3,none⟩) (Nat.le_refl _) _
                have HMR2:=Lib.hid (show mr + reps (wayTo n a) = reps (wayTo n j) by have h:=HMR.out;rw [HWY.out,reps_snoc] at h;rw [if_neg HR3.out] at h;exact h)
                have HMD2:=Lib.hid (show (md + 1) + opts (wayTo n a) = opts (wayTo n j) by have h:=HMD.out;rw [HWY.out,opts_snoc] at h;rw [if_pos HR1.out] at h;omega)
                have hm20:0 ≤ mr:=by omega
                have hm30:0 ≤ (md + 1):=by omega
                have RY:=Lib.hid hry;have OY:=Lib.hid hoy;have BY:=Lib.hid hby
                clear hry hoy hby HMR HMD RF HPO HWX cF fF
                generalize wr.setCell ⟨wo.heap.size,3,none⟩ (.int .i64 (md + 1)) = wy at *
                have hyz:wo.heap.size + 1 ≤ wy.heap.size:=row_lt RY.out
                have e0y:=(HPr.out.keep (BY.out.block g (Nat.lt_of_lt_of_le hgz HSZ.out))).id k _ HGK.out
                clear e0 e2 e6
                go_upto_region 16 with fail
                have hbz:=(Below.refl wy.heap.size wy).alloc (Nat.le_refl _) (.cells #[.int .i64 q.n.id] 3)
                have hlit:=World.ownsRow_lit (base:=wo.heap.size + 1) (e:=3) (size:=1) wy #[.int .i64 q.n.id] 1 hyz (by decide) rfl
                replace RY:=Lib.hid (row_keep hbz RY.out);replace OY:=Lib.hid (own_blw OY.out hbz);replace BY:=Lib.hid (BY.out.trans (hbz.mono BY.out.size))
                have hzz:wo.heap.size + 1 ≤ (wy.alloc (.cells #[.int .i64 q.n.id] 3)).heap.size:=Nat.le_trans hyz hbz.size
                have HLIT:=Lib.hid (show (wy.alloc (.cells #[.int .i64 q.n.id] 3)).ownsRow (wo.heap.size + 1) 3 1 (.slice (some ⟨wy.heap.size,0,none⟩) 1 1) [q.n.id].length ([q.n.id].map intN) from hlit)
                clear hbz hlit e0y
                generalize wy.alloc (.cells #[.int .i64 q.n.id] 3) = wz at *
                have hgx:wo.heap.size < wy.heap.size:=hyz
                generalize wy.heap.size = gx at *
                have cZ:=rowc RY.out
                have h8:([q.n.id].length + path.length) * 8 ≤ 140737488355328:=by have:=HPN.out;simp only [List.length_cons,List.length_nil];omega
                go_wp2_with (refine wpList_appN rfl _ _ rfl (wo.heap.size + 1) _ [q.n.id] rfl HLIT.out (wo.heap.size + 1) _ path rfl OY.out h8 hzz ?_;intro v5 w5 ho5 hg5;obtain ⟨a5,c5,rfl⟩:=own_form ho5;have hr5:=(hg5.block wo.heap.size (Nat.lt_of_succ_le hzz) (fun e=>absurd (Option.some.inj e) (Nat.ne_of_lt hgx))).trans RY.out;have hb5:=(Below.refl (wo.heap.size + 1) wz).grown hg5 hzz (fun k hk=>(HLIT.out.lt k hk).1);have RY5:=Lib.hid hr5;have OY5:=Lib.hid ho5;have BY5:=Lib.hid (BY.out.trans (hb5.mono (Nat.le_succ _)));clear ho5 hg5 hb5 cZ;have c5':=rowc hr5;have f5':=rowf hr5;have e6':=(HPr.out.keep (BY5.out.block g (Nat.lt_of_lt_of_le hgz HSZ.out))).around k _ HGK.out;rw [HAR.out] at e6';clear hr5)
                go_roundw
                case rel =>
                  have hlen:([q.n.id] ++ path).length = path.length + 1:=by simp
                  have hown:=ownsRow_setCell_below OY5.out (a:=⟨wo.heap.size,4,none⟩) (Nat.lt_succ_self _) (.slice a5 (path.length + 1) c5)
                  rw [hlen] at hown
                  refine ⟨a,_,_,[q.n.id] ++ path,a5,path.length + 1,c5,by omega,rfl,?_,hlen,by rw [hlen];exact hown,HMR2.out,HMD2.out,?_,BY5.out.setCell (p:=⟨wo.heap.size,4,none⟩) (Nat.le_refl _) _,hm20,hm30⟩
                  · rw [heap_setCell_same _ _ _ _ _ _ RY5.out];simp
                  · show idsOf (wayTo n a) ++ ([q.n.id] ++ path) = _
                    rw [← HPI.out,HWY.out];simp [idsOf]
                case measure=>simp [intOf];omega
          · obtain rfl:k = 0:=by omega
            have hmr:=HMR.out;have hmd:=HMD.out;have hpi:=HPI.out
            rw [way_zero] at hmr hmd hpi
            have cF:=rowc RF.out
            obtain ⟨x,hx⟩:∃ x:Lvf,x = ⟨p.n.id,p.n.kind,mr,md,path⟩:=⟨_,rfl⟩
            have HXC:=Lib.hid (show [.int .i64 p.n.id,.int .i64 p.n.kind,.int .i64 mr,.int .i64 md,.slice pa pn pc] = lfC (x,.slice pa pn pc) by subst hx;rfl)
            have HXP:=Lib.hid (show x.path = path by rw [hx])
            have HLM2:=Lib.hid (show LO.map Prod.fst ++ [x] = (List.range (j + 1)).filterMap (lvAt n F) by
              rw [List.range_succ,List.filterMap_append,← HLM.out]
              have:lvAt n F j = some x:=by
                unfold lvAt
                rw [if_neg (by omega),HAT.out j p HGP.out]
                show lvOf (p.n,_) = some x
                unfold lvOf
                rw [if_neg HK0.out,hx]
                have e1:mr = reps (wayTo n j):=by rw [← hmr];simp [reps]
                have e2:md = opts (wayTo n j):=by rw [← hmd];simp [opts]
                have e3:path = idsOf (wayTo n j):=by rw [← hpi];simp [idsOf]
                rw [e1,e2,e3]
              simp [this])
            clear hmr hmd hpi hx HMR HMD HPI HLM
            have hbx:=HBr.out.trans (HWX.out.mono HBr.out.size)
            have HLR2:=Lib.hid (HLR.out.below HWX.out)
            have h63:LO.length + 1 ≤ maxLen:=by have:=HLL.out;unfold maxLen;omega
            have h64:(LO.length + 1) * 56 ≤ 140737488355328:=by have:=HLL.out;omega
            have hbz:=hbx.size
            have HBX:=Lib.hid hbx
            clear hbx
            go_wp2_with (at_builtin;refine wpList_pushRow rfl _ _ 55 rfl w1.heap.size 24 i0 _ 5 56 Tryd.underlying55 hi hz0 hz1 hz2 rfl (by decide) lfC (fun _=>rfl) lfC_one _ LO rfl HLR2.out.1 _ _ rfl rfl h63 h64 hbz (x,.slice pa pn pc) _ HXC.out ?_;intro v' w6 hown' hgr _;have HO2:=Lib.hid hown';have HG2:=Lib.hid hgr;clear hown' hgr)
            have hb6:=((Below.refl w1.heap.size wr).alloc hbz (.cells #[.int .i64 p.n.id,.int .i64 p.n.kind,.int .i64 mr,.int .i64 md,.slice pa pn pc] 24)).grown HG2.out (by simp;omega) (fun k hk=>(HLR2.out.1.lt k hk).1)
            have hb16:Below w1.heap.size w1 w6:=HBX.out.trans hb6
            have hp6:∀ y ∈ LO ++ [(x,Value.slice pa pn pc)],w6.ownsRow w1.heap.size 3 1 y.2 y.1.path.length (y.1.path.map intN):=fun y hy=>by
              rcases List.mem_append.1 hy with hy | hy
              · exact own_pastN (HLR2.out.2 y hy) HLR2.out.1 (by decide) HG2.out
              · obtain rfl:y = (x,Value.slice pa pn pc):=by simpa using hy
                simp only [HXP.out]
                exact own_pastN (own_baseN HPO.out (Nat.le_succ_of_le HSZ.out)) HLR2.out.1 (by decide) HG2.out
            have hm6:(LO ++ [(x,Value.slice pa pn pc)]).map Prod.fst = LO.map Prod.fst ++ [x]:=by simp
            have HP6:=Lib.hid hp6;have HB6:=Lib.hid hb16;have HM6:=Lib.hid (hm6.trans HLM2.out);have HL6:=Lib.hid (show (LO ++ [(x,Value.slice pa pn pc)]).length ≤ j + 1 by have:=HLL.out;simp;omega)
            clear hp6 hb16 hb6 hm6
            go_roundw
            case rel=>exact ⟨j + 1,v',_,by omega,by omega,by go_num,rfl,⟨HO2.out,HP6.out⟩,HM6.out,HL6.out,HB6.out,HB6.out.size,HPA.out.keep (HB6.out.block g hgz)⟩
            case measure=>simp [intOf];omega
    · obtain rfl:j = N:=by omega
      go_wp2_with fail
      go_ret
      refine ⟨v4,LO,rfl,⟨own_baseN HLR.out.1 HB.out.size,fun y hy=>own_baseN (HLR.out.2 y hy) HB.out.size⟩,?_,HB.out.trans (HBr.out.mono HB.out.size)⟩
      rw [HLM.out,HLV.out,HFL.out]
end Go.Proofs.YtkmhmnffbgedgaaDoor
/- The walk of the document's listsOf. -/
namespace Go.Proofs.YtkmhmnffbgedgaaDoor
set_option linter.unusedVariables false
set_option linter.unusedSimpArgs false
open Go Go.RowKit Go.ChangeShapes
def lsD1 (F:List Pl) (id:Int):List Int:=match findD F id with | some p=>if p.n.rep = 3 then [p.n.id] else [] | none=>[]
def FindOne (F:List Pl) (id:Int) (w:World) (e:Ending) (w':World):Prop :=
 ∃ (i:Int) (nm:ByteArray) (rp kd:Int) (a:Option Addr) (k c:Nat) (b:Bool),e = .returned (.tuple #[.agg #[.int .i64 i,.string nm,.int .i64 rp,.int .i64 kd,.slice a k c],.bool b]) ∧ Below w.heap.size w w' ∧ (rp = 3 → lsD1 F id = [i]) ∧ (rp ≠ 3 → lsD1 F id = [])
theorem FindRet.one {F:List Pl} {id:Int} {w w':World} {e:Ending} (h:FindRet F id w e w'):FindOne F id w e w':=by
 obtain ⟨hb,⟨p,a,c,h1,h2,h3⟩ | ⟨h1,h2⟩⟩:=h
 ·exact ⟨_,_,_,_,_,_,_,_,h2,hb,fun h=>by unfold lsD1;rw [h1];simp [h],fun h=>by unfold lsD1;rw [h1];simp [h]⟩
 ·exact ⟨_,_,_,_,_,_,_,_,h2,hb,fun h=>by simp [zeroNd,Nd.rep] at h,fun h=>by unfold lsD1;rw [h1]⟩
theorem AnyE.two {P:Program} {ops:Array Oper} {Q:Exit → Act → World → Prop} {md:Region.Mode} {S:World → Prop} {E:List Nat} {i j:Nat} {oi oj:Oper} {n:Nat} {listed:Array Bool} {a:Act} {w:World} (hr:Region.ready md ops listed = [i,j]) (hoi:ops[i]? = some oi) (hgi:oi.guard = none) (hoj:ops[j]? = some oj) (hgj:oj.guard = none)
  (hi:∀ K:Act → World → Prop,(∀ a' w',(E.contains i = false → S w') → AnyE P md ops Q S E n (listed.setIfInBounds i true) a' w' → K a' w') → Oper.wp P oi a w K Q)
  (hj:∀ K:Act → World → Prop,(∀ a' w',(E.contains j = false → S w') → AnyE P md ops Q S E n (listed.setIfInBounds j true) a' w' → K a' w') → Oper.wp P oj a w K Q):AnyE P md ops Q S E (n + 1) listed a w:=by
 refine ⟨fun h0=>(by rw [hr] at h0;cases h0),?_⟩
 rw [hr]
 intro q hq
 simp only [List.mem_cons,List.not_mem_nil,or_false] at hq
 rcases hq with rfl | rfl
 ·unfold wpOp
  simp only [hoi]
  have hw:Region.wanted oi (yielded ops a.tmps) = true:=by simp [Region.wanted,hgi]
  rw [if_pos hw]
  exact .inl (hi _ fun a' w' h1 h2=>⟨h1,h2⟩)
 ·unfold wpOp
  simp only [hoj]
  have hw:Region.wanted oj (yielded ops a.tmps) = true:=by simp [Region.wanted,hgj]
  rw [if_pos hw]
  exact .inl (hj _ fun a' w' h1 h2=>⟨h1,h2⟩)
end Go.Proofs.YtkmhmnffbgedgaaDoor
/- A region that draws its order: pure operations that nothing waits for taken first; loads taken where what may spoil them waits or is done. Over any program. -/
namespace Go.Proofs.YtkmhmnffbgedgaaDoor
set_option linter.unusedVariables false
set_option linter.unusedSimpArgs false
open Go Go.RowKit
section
variable {P:Program} {ops:Array Oper} {Q:Exit → Act → World → Prop} {md:Region.Mode} {S:World → Prop} {E:List Nat}
theorem AnyE.firstP {i:Nat} {oi:Oper} {v:Value} (hi:ops[i]? = some oi) (hsel:∀ (j:Nat) (o:Oper) cs b,ops[j]? = some o → o.op ≠ .select cs b)
  (hQ:∀ c a w,Q (.panic c) (a.put oi.dst v) w → Q (.panic c) a w) (hE:E.contains i = true) :
  ∀ (n:Nat) (listed:Array Bool) (a:Act) (w:World),
   (∀ j oj,ops[j]? = some oj → j ≠ i → listed.getD j true = false → (∀ e ∈ oj.after,Region.binds md e = true → e.on ≠ i) → oi.apart ops oj = true) →
   i ∈ Region.ready md ops listed → YieldsIf P ops (fun _=>True) oi v a →
   AnyE P md ops Q S E n (listed.setIfInBounds i true) (a.put oi.dst v) w → AnyE P md ops Q S E (n + 1) listed a w:=by
 intro n
 induction n with
 | zero =>
  intro listed a w _ hr hy H
  refine ⟨fun h=>absurd (h ▸ hr) (by simp),fun j hj=>?_⟩
  by_cases hji:j = i
  ·subst hji;exact hy.wpOp hi trivial ⟨fun h=>absurd (hE.symm.trans h) (by simp),H⟩
  ·have h0:=ready_mono hj hji
   rw [H.1] at h0
   cases h0
 | succ n ih =>
  intro listed a w hfree hr hy H
  refine ⟨fun h=>absurd (h ▸ hr) (by simp),fun j hj=>?_⟩
  by_cases hji:j = i
  ·subst hji;exact hy.wpOp hi trivial ⟨fun h=>absurd (hE.symm.trans h) (by simp),H⟩
  obtain ⟨hjun,oj,hoj,hall⟩:=mem_ready.1 hj
  have hnot:∀ e ∈ oj.after,Region.binds md e = true → e.on ≠ i:=by
   intro e he hb heq
   have h1:=hall e he hb
   have h0:=(mem_ready.1 hr).1
   rw [heq] at h1
   rcases Nat.lt_or_ge i listed.size with h' | h'
   ·simp [h'] at h0 h1;rw [h0] at h1;cases h1
   ·simp [Array.getElem?_eq_none h'] at h1
  have h2:=wpOp_putIf hoj (hfree j oj hoj hji hjun hnot) (fun cs b=>hsel i oi cs b hi) (fun cs b=>hsel j oj cs b hoj) hQ hy (H.2 j (ready_mono hj hji))
  refine wpOp_mono (fun a' w' h3=>⟨h3.2.1,ih (listed.setIfInBounds j true) a' w' (fun k ok hk hki hun hno=>?_) (ready_mono hr (Ne.symm hji)) h3.1 ?_⟩) h2
  ·refine hfree k ok hk hki ?_ hno
   by_cases hjk:j = k
   ·subst hjk;exact hjun
   ·rw [getD_set_ne true hjk] at hun;exact hun
  ·rw [Array.setIfInBounds_comm _ _ hji]
   exact h3.2.2
theorem AnyE.takeP {i:Nat} {oi:Oper} {v:Value} {n:Nat} {listed:Array Bool} {a:Act} {w:World} (hi:ops[i]? = some oi)
  (hs:Region.noSelect ops = true) (hf:Region.free md ops listed i = true) (hr:(Region.ready md ops listed).contains i = true) (hE:E.contains i = true)
  (hQ:∀ c a w,Q (.panic c) (a.put oi.dst v) w → Q (.panic c) a w) (hy:YieldsIf P ops (fun _=>True) oi v a)
  (h:AnyE P md ops Q S E n (listed.setIfInBounds i true) (a.put oi.dst v) w):AnyE P md ops Q S E (n + 1) listed a w :=
 AnyE.firstP hi (Region.noSelect_spec hs) hQ hE n listed a w (Region.free_spec hi hf) (by simpa using hr) hy h
def waitsL (md:Region.Mode) (ops:Array Oper) (E:List Nat) (listed:Array Bool) (i:Nat):Bool:=E.all fun j=>listed.getD j true || reach md ops 8 j i
theorem AnyE.firstL {i:Nat} {oi:Oper} {v:Value} (hi:ops[i]? = some oi) (hsel:∀ (j:Nat) (o:Oper) cs b,ops[j]? = some o → o.op ≠ .select cs b)
  (hQ:∀ c a w,Q (.panic c) (a.put oi.dst v) w → Q (.panic c) a w) :
  ∀ (n:Nat) (listed:Array Bool) (a:Act) (w:World),waitsL md ops E listed i = true →
   closed md ops listed = true → (∀ j oj,ops[j]? = some oj → j ≠ i → listed.getD j true = false → (∀ e ∈ oj.after,Region.binds md e = true → e.on ≠ i) → oi.apart ops oj = true) →
   i ∈ Region.ready md ops listed → YieldsIf P ops S oi v a → S w →
   AnyE P md ops Q S E n (listed.setIfInBounds i true) (a.put oi.dst v) w → AnyE P md ops Q S E (n + 1) listed a w:=by
 intro n
 induction n with
 | zero =>
  intro listed a w _ _ _ hr hy hS H
  refine ⟨fun h=>absurd (h ▸ hr) (by simp),fun j hj=>?_⟩
  by_cases hji:j = i
  ·subst hji;exact hy.wpOp hi hS ⟨fun _=>hS,H⟩
  ·have h0:=ready_mono hj hji
   rw [H.1] at h0
   cases h0
 | succ n ih =>
  intro listed a w hE hcl hfree hr hy hS H
  refine ⟨fun h=>absurd (h ▸ hr) (by simp),fun j hj=>?_⟩
  by_cases hji:j = i
  ·subst hji;exact hy.wpOp hi hS ⟨fun _=>hS,H⟩
  obtain ⟨hjun,oj,hoj,hall⟩:=mem_ready.1 hj
  have hnot:∀ e ∈ oj.after,Region.binds md e = true → e.on ≠ i:=by
   intro e he hb heq
   have h1:=hall e he hb
   have h0:=(mem_ready.1 hr).1
   rw [heq] at h1
   rcases Nat.lt_or_ge i listed.size with h' | h'
   ·simp [h'] at h0 h1;rw [h0] at h1;cases h1
   ·simp [Array.getElem?_eq_none h'] at h1
  have hjE:E.contains j = false:=by
   cases hc:E.contains j with
   | false=>rfl
   | true =>
    exfalso
    have hm:j ∈ E:=by simpa using hc
    have hq:=List.all_eq_true.1 hE j hm
    rw [hjun,Bool.false_or] at hq
    obtain ⟨o',ho',e,he,hb,hu⟩:=reach_spec hcl (mem_ready.1 hr).1 8 j hq
    rw [hoj] at ho'
    cases ho'
    have h1:=getD_up (hall e he hb)
    rw [hu] at h1
    cases h1
  have hcl':closed md ops (listed.setIfInBounds j true) = true:=by
   unfold closed
   rw [List.all_eq_true]
   intro k hk
   cases hok:ops[k]? with
   | none=>simp
   | some o =>
    cases hl:(listed.setIfInBounds j true).getD k true with
    | false=>rfl
    | true =>
     simp only [Bool.not_true,Bool.false_or]
     rw [Array.all_eq_true']
     intro e he
     cases hb:Region.binds md e with
     | false=>rfl
     | true =>
      simp only [Bool.not_true,Bool.false_or]
      refine getD_set_up ?_
      by_cases hjk:j = k
      ·subst hjk
       rw [hoj] at hok
       cases hok
       exact getD_up (hall e he hb)
      ·rw [getD_set_ne true hjk] at hl
       exact closed_spec hcl k o hok hl e he hb
  have hE':waitsL md ops E (listed.setIfInBounds j true) i = true:=by
   unfold waitsL at hE ⊢
   rw [List.all_eq_true] at hE ⊢
   intro k hk
   have h1:=hE k hk
   rw [Bool.or_eq_true] at h1 ⊢
   exact h1.imp (fun h=>getD_set_up h) id
  have h2:=wpOp_putIf hoj (hfree j oj hoj hji hjun hnot) (fun cs b=>hsel i oi cs b hi) (fun cs b=>hsel j oj cs b hoj) hQ hy (H.2 j (ready_mono hj hji))
  refine wpOp_mono (fun a' w' h3=>⟨h3.2.1,ih (listed.setIfInBounds j true) a' w' hE' hcl' (fun k ok hk hki hun hno=>?_) (ready_mono hr (Ne.symm hji)) h3.1 (h3.2.1 hjE) ?_⟩) h2
  ·refine hfree k ok hk hki ?_ hno
   by_cases hjk:j = k
   ·subst hjk;exact hjun
   ·rw [getD_set_ne true hjk] at hun;exact hun
  ·rw [Array.setIfInBounds_comm _ _ hji]
   exact h3.2.2
theorem AnyE.takeL {i:Nat} {oi:Oper} {v:Value} {n:Nat} {listed:Array Bool} {a:Act} {w:World} (hi:ops[i]? = some oi)
  (hs:Region.noSelect ops = true) (hf:Region.free md ops listed i = true) (hr:(Region.ready md ops listed).contains i = true) (hE:waitsL md ops E listed i = true) (hc:closed md ops listed = true)
  (hQ:∀ c a w,Q (.panic c) (a.put oi.dst v) w → Q (.panic c) a w) (hy:YieldsIf P ops S oi v a) (hS:S w)
  (h:AnyE P md ops Q S E n (listed.setIfInBounds i true) (a.put oi.dst v) w):AnyE P md ops Q S E (n + 1) listed a w :=
 AnyE.firstL hi (Region.noSelect_spec hs) hQ n listed a w hE hc (Region.free_spec hi hf) (by simpa using hr) hy hS h
end
end Go.Proofs.YtkmhmnffbgedgaaDoor
