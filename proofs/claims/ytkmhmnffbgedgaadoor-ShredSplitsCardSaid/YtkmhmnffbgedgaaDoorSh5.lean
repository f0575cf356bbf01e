/- The walks of the program's schema.leaves and schema.Leaves. Written by gen_sh5.py. -/
import Derived.Test.YtkmhmnffbgedgaaDoorSh2
import Derived.Test.YtkmhmnffbgedgaaDoorTa0
import Derived.Deep.DeepCutAuto
namespace Go.Proofs.YtkmhmnffbgedgaaDoor
set_option maxHeartbeats 16000000
set_option linter.unusedVariables false
set_option linter.unusedSimpArgs false
open Go Go.RowKit Go.ChangeShapes
theorem AnyE.three {P:Program} {ops:Array Oper} {Q:Exit → Act → World → Prop} {md:Region.Mode} {S:World → Prop} {E:List Nat} {i j k:Nat} {oi oj ok:Oper} {n:Nat} {listed:Array Bool} {a:Act} {w:World} (hr:Region.ready md ops listed = [i,j,k]) (hoi:ops[i]? = some oi) (hgi:oi.guard = none) (hoj:ops[j]? = some oj) (hgj:oj.guard = none) (hok:ops[k]? = some ok) (hgk:ok.guard = none)
  (hi:∀ K:Act → World → Prop,(∀ a' w',(E.contains i = false → S w') → AnyE P md ops Q S E n (listed.setIfInBounds i true) a' w' → K a' w') → Oper.wp P oi a w K Q)
  (hj:∀ K:Act → World → Prop,(∀ a' w',(E.contains j = false → S w') → AnyE P md ops Q S E n (listed.setIfInBounds j true) a' w' → K a' w') → Oper.wp P oj a w K Q)
  (hk:∀ K:Act → World → Prop,(∀ a' w',(E.contains k = false → S w') → AnyE P md ops Q S E n (listed.setIfInBounds k true) a' w' → K a' w') → Oper.wp P ok a w K Q):AnyE P md ops Q S E (n + 1) listed a w:=by
 refine ⟨fun h0=>(by rw [hr] at h0;cases h0),?_⟩
 rw [hr]
 intro q hq
 simp only [List.mem_cons,List.not_mem_nil,or_false] at hq
 rcases hq with rfl | rfl | rfl
 ·unfold wpOp
  simp only [hoi]
  rw [if_pos (by simp [Region.wanted,hgi])]
  exact .inl (hi _ fun a' w' h1 h2=>⟨h1,h2⟩)
 ·unfold wpOp
  simp only [hoj]
  rw [if_pos (by simp [Region.wanted,hgj])]
  exact .inl (hj _ fun a' w' h1 h2=>⟨h1,h2⟩)
 ·unfold wpOp
  simp only [hok]
  rw [if_pos (by simp [Region.wanted,hgk])]
  exact .inl (hk _ fun a' w' h1 h2=>⟨h1,h2⟩)
theorem cloneN_any (v:Value) (l:List Int) (w:World) (hv:IsInts w v l) (h:l.length ≤ 1000000) :
  Calls Tryd.prog 58 #[v] w fun e w'=>∃ u,e = .returned u ∧ w'.ownsRow w.heap.size 3 1 u l.length (l.map intN) ∧ Below w.heap.size w w':=by
 rcases hv with ⟨rfl,ad,cap,rfl⟩ | ⟨b,off,cap,rfl,hlt,hc⟩
 ·cases ad with
  | none=>exact (Tryd.slices_Clone_int_nil 0 cap w).mono fun e w' ⟨h1,h2⟩=>⟨_,h1,by rw [h2];exact World.ownsRow_nil _ _ _ _,by rw [h2];exact Below.refl _ _⟩
  | some a=>exact (Tryd.slices_Clone_int_zero a cap w).mono fun e w' ⟨v',h1,h2,_,h4⟩=>⟨v',h1,h2,h4⟩
 ·refine (Tryd.slices_Clone_int b off l.length cap l w (Nat.le_refl _) (by omega) (fun j hj=>?_)).mono fun e w' ⟨v',h1,h2,_,h4⟩=>⟨v',h1,by rw [List.take_length] at h2;exact h2,h4⟩
  rw [List.getD_eq_getElem?_getD,List.getElem?_eq_getElem hj]
  exact hc j l[j] (List.getElem?_eq_getElem hj)
theorem flat_lenK {α:Type} (f:α → List Value) (k:Nat) (hfk:∀ y,(f y).length = k):∀ l:List α,(l.flatMap f).length = l.length * k
 | []=>by simp
 | y :: r=>by rw [List.flatMap_cons,List.length_append,hfk,flat_lenK f k hfk r,List.length_cons,Nat.succ_mul];omega
theorem wpList_appRows {P:Program} {w:World} {ops:Array Oper} {rest:List Oper} {o:Oper} {a:Act} {Q:Exit → Act → World → Prop} (hgd:o.guard = none) (s x:Operand) (t:TypeId)
  (ho:o.op = .call { callee:=.builtin .append,args:=#[s,x],argTypes:=#[t,t] })
  (B:Nat) (e:TypeId) (i:TypeInfo) (z:Value) (k bytes:Nat) (ht:P.underlying t = some (.slice e)) (hi:P.info? e = some i) (hz:i.zero = some z) (hsize:i.size = k) (hby:i.bytes = bytes) (hzs:z.cells.size = k) (hk0:0 < k)
  {α:Type} (f:α → List Value) (hfk:∀ y,(f y).length = k) (hf:∀ y,∀ u ∈ f y,u.oneCell' = true)
  (v:Value) (l0:List α) (hs:a.eval s = v) (hown:w.ownsRow B e k v l0.length (l0.flatMap f))
  (B2:Nat) (u:Value) (l:List α) (hx:a.eval x = u) (hI:w.ownsRow B2 e k u l.length (l.flatMap f)) (h63:l0.length + l.length ≤ maxLen) (h8:(l0.length + l.length) * bytes ≤ 140737488355328) (hB:B ≤ w.heap.size)
  (h:∀ v' w',w'.ownsRow B e k v' (l0 ++ l).length ((l0 ++ l).flatMap f) → w.grownBy w' v.ownBlock → wpList P ops Q rest (a.put o.dst v') w'):wpList P ops Q (o :: rest) a w:=by
 refine wpList_plain hgd fun K hK=>?_
 rcases hI.2 with ⟨rfl,h0⟩ | ⟨g,cap,cur,rfl,hBg,hg,_⟩
 ·have hl:l = []:=List.eq_nil_of_length_eq_zero h0
  subst hl
  have hcap:∃ vb vc,v = .slice vb l0.length vc ∧ l0.length ≤ vc:=by
   rcases hown.2 with ⟨h1,h0⟩ | ⟨g,cap,cur,h1,_,_,h3,_⟩
   ·exact ⟨none,0,by rw [h1,h0],by omega⟩
   ·exact ⟨_,cap,h1,h3⟩
  obtain ⟨vb,vc,rfl,hvc⟩:=hcap
  unfold Oper.wp execOp
  have hr:=run_append_none (P:=P) w t o.type e 0 i ht hi vb l0.length vc none 0 hvc
  simp only [ho,resolve,invoke,builtin,Sem.run_bind,Sem.run_pure,Result.andThen_ok,List.map_toArray,List.map_cons,List.map_nil,hs,hx,hr]
  exact hK _ _ (h _ _ (by simpa using hown) ⟨rfl,rfl,rfl,Nat.le_refl _,fun _ _ _=>rfl⟩)
 ·have hlen:=flat_lenK f k hfk l
  obtain ⟨v',w',hr,h2,h3,_,h5⟩:=run_append_own_at (P:=P) w B t o.type e i z k bytes ht hi hz hsize hby hzs hk0 v l0.length _ hown ⟨g,0,none⟩ l.length cap (l.flatMap f) hlen (by
    intro j q hj
    have hjl:j < l.length * k:=by have:=(List.getElem?_eq_some_iff.1 hj).1;omega
    rw [Go.WideShapes.add_plain,Nat.zero_add,hI.cellAt j hjl,hj]) (by
    intro q hq
    obtain ⟨y,_,hy⟩:=List.mem_flatMap.1 hq
    exact hf y q hy) h63 h8 hB
  unfold Oper.wp execOp
  simp only [ho,resolve,invoke,builtin,Sem.run_bind,Sem.run_pure,Result.andThen_ok,List.map_toArray,List.map_cons,List.map_nil,hs,hx,hr]
  exact hK _ _ (h v' w' (by simpa using h2) h3)
theorem ls_info:(Tryd.prog.info? 39).map (fun i=>(i.zero,i.size,i.bytes)) = some (some (.agg #[.int .i64 0,.int .i64 0,.int .i64 0,.int .i64 0,.slice none 0 0]),5,56):=by kernel_rfl
theorem ls_size:(Tryd.prog.info? 39).map (·.size) = some 5:=by kernel_rfl
def LsRow (B:Nat) (w:World) (v:Value) (LO:List (Lvf × Value)):Prop:=w.ownsRow B 39 5 v LO.length (LO.flatMap lfC) ∧ ∀ p ∈ LO,IntsT w p.2 p.1.path
theorem LsRow.below {B:Nat} {w w':World} {v:Value} {LO:List (Lvf × Value)} (h:LsRow B w v LO) (hb:Below w.heap.size w w'):LsRow B w' v LO:=⟨own_blw h.1 hb,fun p hp=>(h.2 p hp).below hb⟩
def LsRet (P:List Lvf) (w:World) (e:Ending) (w':World):Prop:=∃ v LO,e = .returned v ∧ LsRow w.heap.size w' v LO ∧ LO.map Prod.fst = P ∧ Below w.heap.size w w'
theorem row_keep2 {w':World} {g:Nat} {o:Obj} {w0:World} (hb:Below w0.heap.size w0 w') (hg:w0.heap[g]? = some o):w'.heap[g]? = some o:=row_keep hb hg
theorem own_mapC {w:World} {B:Nat} {v:Value} {l:List Int} (h:w.ownsRow B 3 1 v l.length (l.map intN)):w.ownsRow B 3 1 v l.length (l.flatMap intC):=by rw [intC_map];exact h
def Lf5 (w2 wx:World) (gl:Nat) (id kd mr md:Int) (qa:Option Addr) (qn qc:Nat) (q:List Int):Prop:=wx.heap[gl]? = some (.cells #[.int .i64 id,.int .i64 kd,.int .i64 mr,.int .i64 md,.slice qa qn qc] 39 (0,0)) ∧ w2.heap.size ≤ gl ∧ qn = q.length ∧ IntsT wx (.slice qa qn qc) q ∧ Below w2.heap.size w2 wx
theorem lf5_of {w2 w5 w6:World} {gl:Nat} {id kd mr md:Int} {qa:Option Addr} {qn qc:Nat} {q:List Int} {c0:Array Value} (r6:w6.heap[gl]? = some (.cells #[.int .i64 id,.int .i64 kd,.int .i64 mr,.int .i64 md,.slice qa qn qc] 39 (0,0)))
  (ho:∀ b,b ≠ gl → w6.heap[b]? = w5.heap[b]?) (hb:Below gl w5 w6) (h5:w5.heap[gl]? = some (.cells c0 39 (0,0))) (hqn:qn = q.length) (hp:w5.ownsRow w2.heap.size 3 1 (.slice qa qn qc) qn (q.flatMap intC)) (hbx:Below w2.heap.size w2 w5) (hg:w2.heap.size ≤ gl):Lf5 w2 w6 gl id kd mr md qa qn qc q:=by
 subst hqn
 refine ⟨r6,hg,rfl,?_,hbx.trans (hb.mono hg)⟩
 rw [intC_map] at hp
 exact IntsT.of_own (B:=w2.heap.size) (own_stay hp fun b h1 h2 h3=>ho b fun e=>own_neB hp h5 (by decide) (e ▸ h3))
theorem Lf5.up {w2 wx:World} {gl:Nat} {id kd mr md:Int} {qa:Option Addr} {qn qc:Nat} {q:List Int} (h:Lf5 w2 wx gl id kd mr md qa qn qc q) :
  (∀ x,Lf5 w2 (wx.setCell ⟨gl,2,none⟩ (.int .i64 x)) gl id kd x md qa qn qc q) ∧ (∀ x,Lf5 w2 (wx.setCell ⟨gl,3,none⟩ (.int .i64 x)) gl id kd mr x qa qn qc q):=by
 have key:∀ i v,(∀ (g:Nat) (cs:Array Value) (fz:Nat × Nat),wx.heap[g]? = some (.cells cs 3 fz) → (wx.setCell ⟨gl,i,none⟩ v).heap[g]? = some (.cells cs 3 fz)):=fun i v g cs fz hg=>by
  refine (heap_setCell_other wx ⟨gl,i,none⟩ g v (fun e=>?_)).trans hg
  simp only at e
  subst e
  rw [h.1] at hg
  simp only [Option.some.injEq,Obj.cells.injEq] at hg
  exact absurd hg.2.1 (by decide)
 exact ⟨fun x=>⟨heap_setCell_same _ _ 2 _ _ _ h.1,h.2.1,h.2.2.1,h.2.2.2.1.keep (by simp [World.setCell]) (key 2 _),h.2.2.2.2.setCell (p:=⟨gl,2,none⟩) h.2.1 _⟩,
  fun x=>⟨heap_setCell_same _ _ 3 _ _ _ h.1,h.2.1,h.2.2.1,h.2.2.2.1.keep (by simp [World.setCell]) (key 3 _),h.2.2.2.2.setCell (p:=⟨gl,3,none⟩) h.2.1 _⟩⟩
theorem lvL_len:(∀ n,∀ (mr md:Int) (p:List Int),(lvN n mr md p).length ≤ size n) ∧ ∀ l,∀ (mr md:Int) (p:List Int),(lvL l mr md p).length ≤ sizeL l:=by
 refine tree2 (fun n h mr md p=>?_) (fun mr md p=>Nat.le_refl _) (fun x r h1 h2 mr md p=>?_)
 ·rw [lvN_eq,size_eq]
  split
  ·have:=h (if n.rep = 3 then mr + 1 else mr) (if n.rep ≠ 1 then md + 1 else md) (p ++ [n.id]);omega
  ·simp
 ·simp only [lvL,sizeL,List.length_append]
  have:=h1 mr md p;have:=h2 mr md p;omega
theorem lvL_app (a b:List Nd) (mr md:Int) (p:List Int):lvL (a ++ b) mr md p = lvL a mr md p ++ lvL b mr md p:=by
 induction a with
 | nil=>rfl
 | cons x r ih=>simp only [List.cons_append,lvL,ih,List.append_assoc]
theorem grown_leaf {w w':World} {s n b:Nat} {e T:TypeId} {v:Value} {xs:List Value} {cs:Array Value} {fr:Nat × Nat} (hown:w.ownsRow (b + 1) e s v n xs) (hg:w.grownBy w' v.ownBlock) (hb:w.heap[b]? = some (.cells cs T fr)) :
  w'.heap[b]? = some (.cells cs T fr):=(hg.block b (row_lt hb) (fun e1=>by have:=(hown.lt b e1.symm).1;omega)).trans hb
theorem grown_leaf2 {w w':World} {s n b:Nat} {e T:TypeId} {v:Value} {xs:List Value} {cs:Array Value} {fr:Nat × Nat} {o:Obj} (hown:w.ownsRow (b + 1) e s v n xs) (hg:(w.alloc o).grownBy w' v.ownBlock) (hb:w.heap[b]? = some (.cells cs T fr)) :
  w'.heap[b]? = some (.cells cs T fr):=by
 have h:=hg.block b (by have:=row_lt hb;simp;omega) (fun e1=>by have:=(hown.lt b e1.symm).1;omega)
 exact h.trans ((Below.heap_alloc w o b (row_lt hb)).trans hb)
set_option maxRecDepth 100000 in
theorem leaves_any:∀ (n:Nd),∀ (u va:Value) (aid akd mr md:Int) (p:List Int) (w:World),IsNds (· < w.heap.size) w u n.sub → (∀ x ∈ nodes n,x.Ok1) → IntsT w va p → p.length + hgt n ≤ 1000 → size n ≤ 1000 → 0 ≤ mr → mr + hgt n ≤ 1000000 → 0 ≤ md → md + hgt n ≤ 1000000 →
  Calls Tryd.prog 50 #[.agg (ndA n u),.agg #[.int .i64 aid,.int .i64 akd,.int .i64 mr,.int .i64 md,va]] w (LsRet (lvL n.sub mr md p) w):=by
 apply Nd.ind
 intro n IH u va aid akd mr md p w hN hO hP hh hs hmr0 hmr hmd0 hmd
 have hOs:∀ x ∈ nodesL n.sub,x.Ok1:=fun x hx=>hO x (by rw [nodes_eq];exact List.mem_cons_of_mem _ hx)
 have hlen:=(hO n (by rw [nodes_eq];exact List.mem_cons_self ..)).sub
 rw [hgt_eq] at hh hmr hmd
 rw [size_eq] at hs
 obtain ⟨l,hl⟩:∃ l,n.sub = l:=⟨_,rfl⟩
 obtain ⟨ad,cp,rfl⟩:=hN.form
 rw [hl] at hN hlen hOs IH hh hs hmr hmd ⊢
 obtain ⟨len,hnl⟩:∃ len,l.length = len:=⟨_,rfl⟩
 rw [hnl] at hN hlen ⊢
 obtain ⟨pa,pc,rfl⟩:=hP.1.form
 obtain ⟨pn,hpn⟩:∃ pn,p.length = pn:=⟨_,rfl⟩
 rw [hpn] at hP hh ⊢
 have HL:=Lib.hid hnl;have HN:=Lib.hid hN;have HOs:=Lib.hid hOs;have HIH:=Lib.hid IH;have HP:=Lib.hid hP;have HH:=Lib.hid hh;have HS:=Lib.hid hs;have HPN:=Lib.hid hpn
 have HMR:=Lib.hid hmr;have HMD:=Lib.hid hmd
 have hmr2:mr ≤ 1000000:=by omega
 have hmd2:md ≤ 1000000:=by omega
 clear hnl hl hN hOs IH hO hP hh hs hmr hmd hpn
 obtain ⟨i0,hi,hz0,hz1,hz2⟩:=info_parts info_intN
 obtain ⟨i1,hj,hy0,hy1,hy2⟩:=info_parts ls_info
 have hb0:=rows2 (w:=w) (A:=.cells #[.int .i64 n.id,.string n.name,.int .i64 n.rep,.int .i64 n.kind,.slice ad len cp] 47) (B:=.cells #[.int .i64 aid,.int .i64 akd,.int .i64 mr,.int .i64 md,.slice pa pn pc] 39) (Below.refl _ _)
 unfold ndA
 go_enter Tryd.func50,Tryd.ntmps50
 go_upto_region 2 with fail
 generalize ((w.alloc (.cells #[.int .i64 n.id,.string n.name,.int .i64 n.rep,.int .i64 n.kind,.slice ad len cp] 47)).alloc (.cells #[.int .i64 aid,.int .i64 akd,.int .i64 mr,.int .i64 md,.slice pa pn pc] 39)) = w1 at *
 obtain ⟨rN,rLF,hbw,hzz⟩:=hb0
 have RN:=Lib.hid rN;have RLF:=Lib.hid rLF;have HB:=Lib.hid hbw
 have cN:=rowc RN.out
 clear rN rLF hbw
 go_wp2_with fail
 clear cN
 go_loopw [5,12] (fun s5 i wr=>∃ (k:Nat) (v5:Value) (LR:List (Lvf × Value)),k ≤ len ∧ i = .int .i64 (k:Nat) ∧ v5 = s5 ∧ Hid (LsRow (w.heap.size + 1 + 1) wr v5 LR) ∧ Hid (LR.map Prod.fst = lvL (l.take k) mr md p) ∧ Hid (Below w1.heap.size w1 wr ∨ True) ∧ Hid (Below w.heap.size w wr) ∧ wr.heap[w.heap.size]? = some (.cells #[.int .i64 n.id,.string n.name,.int .i64 n.rep,.int .i64 n.kind,.slice ad len cp] 47 (0,0)) ∧ wr.heap[w.heap.size + 1]? = some (.cells #[.int .i64 aid,.int .i64 akd,.int .i64 mr,.int .i64 md,.slice pa pn pc] 39 (0,0))) (fun _ i _=>len - (intOf i).toNat)
 case atStart=>exact ⟨0,_,[],Nat.zero_le _,rfl,rfl,⟨World.ownsRow_nil _ _ _ _,fun q hq=>by simp at hq⟩,rfl,.inr trivial,HB.out,RN.out,RLF.out⟩
 case round =>
  obtain ⟨k,v5,LR,hk,rfl,hv5,HR,HM,_,HBr,rN,rLF⟩:=hrel
  subst hv5
  clear RN HB RLF
  have RN:=Lib.hid rN;have RLF:=Lib.hid rLF
  have hsz:w.heap.size + 1 < wr.heap.size:=row_lt rLF
  clear rN rLF
  by_cases hlt:k < len
  case neg =>
   obtain rfl:k = len:=by omega
   have hM:=HM.out
   rw [List.take_of_length_le (Nat.le_of_eq HL.out)] at hM
   have HM2:=Lib.hid hM
   clear hM
   go_wp2_with fail
   go_ret
   exact ⟨v5,LR,rfl,⟨own_baseN HR.out.1 (by omega),HR.out.2⟩,HM2.out,HBr.out⟩
  have hkl:k < l.length:=by rw [HL.out];exact hlt
  obtain ⟨b0,off,rfl,hPb,hb0,hat⟩:=(HN.out.under HBr.out).at (by omega)
  obtain ⟨ux,hcx,hnx⟩:=hat k l[k] (List.getElem?_eq_getElem hkl)
  have hsn:l.take (k + 1) = l.take k ++ [l[k]]:=List.take_succ_eq_append_getElem hkl
  have hOx:∀ y ∈ nodes l[k],y.Ok1:=fun y hy=>HOs.out y (nodesL_mem (List.getElem_mem hkl) hy)
  have hIx:=HIH.out l[k] (List.getElem_mem hkl)
  have hhx:=hgt_mem (List.getElem_mem hkl)
  have hzx:sizeL (l.take k) + size l[k] ≤ sizeL l:=by
   have:=sizeL_app (l.take k) (l.drop k);rw [List.take_append_drop,List.drop_eq_getElem_cons hkl] at this;simp only [sizeL] at this;omega
  have HHX:=Lib.hid hhx;have HZX:=Lib.hid hzx
  clear hhx hzx
  have hin:(k:Int) < (len:Int):=by omega
  have Hlt:=Lib.hid hlt
  generalize l[k] = x at *
  obtain ⟨ax,cx,rfl⟩:=hnx.form
  obtain ⟨xl,hxl⟩:∃ xl,x.sub.length = xl:=⟨_,rfl⟩
  rw [hxl] at hcx hnx
  unfold NdAt ndA at hcx
  have HCX:=Lib.hid hcx;have HNX:=Lib.hid hnx;have HOX:=Lib.hid hOx;have HIX:=Lib.hid hIx;have HSN:=Lib.hid hsn
  clear hat hkl hsn hnx hOx hIx hcx hPb hxl
  go_upto_region 5 with (refine wpList_load_cells rfl 47 _ rfl b0 (off + k * 5) rfl #[.int .i64 x.id,.string x.name,.int .i64 x.rep,.int .i64 x.kind,.slice ax xl cx] _ HCX.out Tryd.underlying47 rfl nd_info ?_)
  have hw2:Below wr.heap.size wr (wr.alloc (.cells #[.int .i64 x.id,.string x.name,.int .i64 x.rep,.int .i64 x.kind,.slice ax xl cx] 47)):=(Below.refl _ _).alloc (Nat.le_refl _) _
  have hrx:=heap_alloc_new wr (.cells #[.int .i64 x.id,.string x.name,.int .i64 x.rep,.int .i64 x.kind,.slice ax xl cx] 47)
  have HPX:=Lib.hid ((HP.out.below (HBr.out.trans (hw2.mono HBr.out.size))))
  replace RN:=Lib.hid (row_keep hw2 RN.out);replace RLF:=Lib.hid (row_keep hw2 RLF.out);replace HR:=Lib.hid (HR.out.below hw2);replace HBr:=Lib.hid (HBr.out.trans (hw2.mono HBr.out.size));replace HNX:=Lib.hid (HNX.out.under (hw2.mono (by omega)));have RX:=Lib.hid hrx
  have hgx:wr.heap.size + 1 ≤ (wr.alloc (.cells #[.int .i64 x.id,.string x.name,.int .i64 x.rep,.int .i64 x.kind,.slice ax xl cx] 47)).heap.size:=row_lt hrx
  generalize (wr.alloc (.cells #[.int .i64 x.id,.string x.name,.int .i64 x.rep,.int .i64 x.kind,.slice ax xl cx] 47)) = w2 at *
  generalize wr.heap.size = gx at *
  clear hw2 hrx
  have HPL:Hid (p.length ≤ 1000):=Lib.hid (by have:=HH.out;have:=HPN.out;omega)
  go_cut [8] (fun s8 wx=>∃ (gl:Nat) (qa:Option Addr) (qn qc:Nat),s8 = .pointer (some ⟨gl,0,none⟩) ∧ Hid (Lf5 w2 wx gl x.id x.kind mr md qa qn qc (p ++ [x.id])))
  case first =>
   refine AnyE.region (S:=fun w'=>(∀ j_1,w'.cell? ⟨gx,j_1,none⟩ = (#[.int .i64 x.id,.string x.name,.int .i64 x.rep,.int .i64 x.kind,.slice ax xl cx]:Array Value)[j_1]?) ∧ (∀ j_1,w'.cell? ⟨w.heap.size + 1,j_1,none⟩ = (#[.int .i64 aid,.int .i64 akd,.int .i64 mr,.int .i64 md,.slice pa pn pc]:Array Value)[j_1]?)) (E:=[17]) (by kernel_rfl) ?_
   have hbd:=(Below.refl w2.heap.size w2).drew
   have HBX:=Lib.hid hbd;have HBX0:=hbd.size
   clear hbd
   generalize hwd:w2.drew = wd at HBX HBX0 ⊢
   clear hwd
   have hS:=(⟨rowc (row_keep2 HBX.out RX.out),rowc (row_keep2 HBX.out RLF.out)⟩:(∀ j_1,wd.cell? ⟨gx,j_1,none⟩ = (#[.int .i64 x.id,.string x.name,.int .i64 x.rep,.int .i64 x.kind,.slice ax xl cx]:Array Value)[j_1]?) ∧ (∀ j_1,wd.cell? ⟨w.heap.size + 1,j_1,none⟩ = (#[.int .i64 aid,.int .i64 akd,.int .i64 mr,.int .i64 md,.slice pa pn pc]:Array Value)[j_1]?))
   refine AnyE.takeL (i:=0) (v:=?_) rfl (by kernel_rfl) (by kernel_rfl) (by kernel_rfl) (by kernel_rfl) (by kernel_rfl) (fun _ _ _ h=>h) (Or.inl ⟨by rfl,?_⟩) hS ?_
   rotate_left
   focus (intro wq hSq;obtain ⟨hS1,hS2⟩:=hSq;go_simp;with_reducible rfl)
   try simp only [Act.put,List.getElem_toArray,List.getElem_cons_succ,List.getElem_cons_zero,List.setIfInBounds_toArray,List.set_cons_zero,List.set_cons_succ]
   refine AnyE.takeL (i:=1) (v:=?_) rfl (by kernel_rfl) (by kernel_rfl) (by kernel_rfl) (by kernel_rfl) (by kernel_rfl) (fun _ _ _ h=>h) (Or.inl ⟨by rfl,?_⟩) hS ?_
   rotate_left
   focus (intro wq hSq;obtain ⟨hS1,hS2⟩:=hSq;go_simp;with_reducible rfl)
   try simp only [Act.put,List.getElem_toArray,List.getElem_cons_succ,List.getElem_cons_zero,List.setIfInBounds_toArray,List.set_cons_zero,List.set_cons_succ]
   refine AnyE.takeL (i:=2) (v:=?_) rfl (by kernel_rfl) (by kernel_rfl) (by kernel_rfl) (by kernel_rfl) (by kernel_rfl) (fun _ _ _ h=>h) (Or.inl ⟨by rfl,?_⟩) hS ?_
   rotate_left
   focus (intro wq hSq;obtain ⟨hS1,hS2⟩:=hSq;go_simp;with_reducible rfl)
   try simp only [Act.put,List.getElem_toArray,List.getElem_cons_succ,List.getElem_cons_zero,List.setIfInBounds_toArray,List.set_cons_zero,List.set_cons_succ]
   refine AnyE.takeL (i:=3) (v:=?_) rfl (by kernel_rfl) (by kernel_rfl) (by kernel_rfl) (by kernel_rfl) (by kernel_rfl) (fun _ _ _ h=>h) (Or.inl ⟨by rfl,?_⟩) hS ?_
   rotate_left
   focus (intro wq hSq;obtain ⟨hS1,hS2⟩:=hSq;go_simp;with_reducible rfl)
   try simp only [Act.put,List.getElem_toArray,List.getElem_cons_succ,List.getElem_cons_zero,List.setIfInBounds_toArray,List.set_cons_zero,List.set_cons_succ]
   refine AnyE.takeL (i:=4) (v:=?_) rfl (by kernel_rfl) (by kernel_rfl) (by kernel_rfl) (by kernel_rfl) (by kernel_rfl) (fun _ _ _ h=>h) (Or.inl ⟨by rfl,?_⟩) hS ?_
   rotate_left
   focus (intro wq hSq;obtain ⟨hS1,hS2⟩:=hSq;go_simp;with_reducible rfl)
   try simp only [Act.put,List.getElem_toArray,List.getElem_cons_succ,List.getElem_cons_zero,List.setIfInBounds_toArray,List.set_cons_zero,List.set_cons_succ]
   refine AnyE.takeL (i:=5) (v:=?_) rfl (by kernel_rfl) (by kernel_rfl) (by kernel_rfl) (by kernel_rfl) (by kernel_rfl) (fun _ _ _ h=>h) (Or.inl ⟨by rfl,?_⟩) hS ?_
   rotate_left
   focus (intro wq hSq;obtain ⟨hS1,hS2⟩:=hSq;go_simp;with_reducible rfl)
   try simp only [Act.put,List.getElem_toArray,List.getElem_cons_succ,List.getElem_cons_zero,List.setIfInBounds_toArray,List.set_cons_zero,List.set_cons_succ]
   refine AnyE.takeL (i:=6) (v:=?_) rfl (by kernel_rfl) (by kernel_rfl) (by kernel_rfl) (by kernel_rfl) (by kernel_rfl) (fun _ _ _ h=>h) (Or.inl ⟨by rfl,?_⟩) hS ?_
   rotate_left
   focus (intro wq hSq;obtain ⟨hS1,hS2⟩:=hSq;go_simp;with_reducible rfl)
   try simp only [Act.put,List.getElem_toArray,List.getElem_cons_succ,List.getElem_cons_zero,List.setIfInBounds_toArray,List.set_cons_zero,List.set_cons_succ]
   refine AnyE.takeL (i:=7) (v:=?_) rfl (by kernel_rfl) (by kernel_rfl) (by kernel_rfl) (by kernel_rfl) (by kernel_rfl) (fun _ _ _ h=>h) (Or.inl ⟨by rfl,?_⟩) hS ?_
   rotate_left
   focus (intro wq hSq;obtain ⟨hS1,hS2⟩:=hSq;go_simp;with_reducible rfl)
   try simp only [Act.put,List.getElem_toArray,List.getElem_cons_succ,List.getElem_cons_zero,List.setIfInBounds_toArray,List.set_cons_zero,List.set_cons_succ]
   refine AnyE.takeL (i:=8) (v:=?_) rfl (by kernel_rfl) (by kernel_rfl) (by kernel_rfl) (by kernel_rfl) (by kernel_rfl) (fun _ _ _ h=>h) (Or.inl ⟨by rfl,?_⟩) hS ?_
   rotate_left
   focus (intro wq hSq;obtain ⟨hS1,hS2⟩:=hSq;go_simp;with_reducible rfl)
   try simp only [Act.put,List.getElem_toArray,List.getElem_cons_succ,List.getElem_cons_zero,List.setIfInBounds_toArray,List.set_cons_zero,List.set_cons_succ]
   refine AnyE.takeL (i:=9) (v:=?_) rfl (by kernel_rfl) (by kernel_rfl) (by kernel_rfl) (by kernel_rfl) (by kernel_rfl) (fun _ _ _ h=>h) (Or.inl ⟨by rfl,?_⟩) hS ?_
   rotate_left
   focus (intro wq hSq;obtain ⟨hS1,hS2⟩:=hSq;go_simp;with_reducible rfl)
   try simp only [Act.put,List.getElem_toArray,List.getElem_cons_succ,List.getElem_cons_zero,List.setIfInBounds_toArray,List.set_cons_zero,List.set_cons_succ]
   refine AnyE.takeL (i:=11) (v:=?_) rfl (by kernel_rfl) (by kernel_rfl) (by kernel_rfl) (by kernel_rfl) (by kernel_rfl) (fun _ _ _ h=>h) (Or.inl ⟨by rfl,?_⟩) hS ?_
   rotate_left
   focus (intro wq hSq;obtain ⟨hS1,hS2⟩:=hSq;go_simp;with_reducible rfl)
   try simp only [Act.put,List.getElem_toArray,List.getElem_cons_succ,List.getElem_cons_zero,List.setIfInBounds_toArray,List.set_cons_zero,List.set_cons_succ]
   refine AnyE.takeL (i:=12) (v:=?_) rfl (by kernel_rfl) (by kernel_rfl) (by kernel_rfl) (by kernel_rfl) (by kernel_rfl) (fun _ _ _ h=>h) (Or.inl ⟨by rfl,?_⟩) hS ?_
   rotate_left
   focus (intro wq hSq;obtain ⟨hS1,hS2⟩:=hSq;go_simp;with_reducible rfl)
   try simp only [Act.put,List.getElem_toArray,List.getElem_cons_succ,List.getElem_cons_zero,List.setIfInBounds_toArray,List.set_cons_zero,List.set_cons_succ]
   refine AnyE.three (i:=10) (j:=13) (k:=16) (by kernel_rfl) rfl rfl rfl rfl rfl rfl ?_ ?_ ?_
   ·intro K hK
    simp only [List.getElem_toArray,List.getElem_cons_succ,List.getElem_cons_zero]
    go_simp
    refine (cloneN_any (.slice pa pn pc) p wd (HPX.out.below (HBX.out)).1 (Nat.le_trans HPL.out (by decide))).mono ?_;rintro e wr1 ⟨u,rfl,hu,hb⟩
    obtain ⟨ua,uc,rfl⟩:=own_form hu
    replace HBX:=Lib.hid (HBX.out.trans (hb.mono HBX.out.size))
    have HU:=Lib.hid (own_baseN hu HBX0)
    replace HBX0:=Nat.le_trans HBX0 hb.size
    refine hK _ _ (fun _=>⟨rowc (row_keep2 HBX.out RX.out),rowc (row_keep2 HBX.out RLF.out)⟩) ?_
    clear hK K hS hu hb
    try simp only [Act.put,List.getElem_toArray,List.getElem_cons_succ,List.getElem_cons_zero,List.setIfInBounds_toArray,List.set_cons_zero,List.set_cons_succ]
    have hS:=(⟨rowc (row_keep2 HBX.out RX.out),rowc (row_keep2 HBX.out RLF.out)⟩:(∀ j_1,wr1.cell? ⟨gx,j_1,none⟩ = (#[.int .i64 x.id,.string x.name,.int .i64 x.rep,.int .i64 x.kind,.slice ax xl cx]:Array Value)[j_1]?) ∧ (∀ j_1,wr1.cell? ⟨w.heap.size + 1,j_1,none⟩ = (#[.int .i64 aid,.int .i64 akd,.int .i64 mr,.int .i64 md,.slice pa pn pc]:Array Value)[j_1]?))
    refine AnyE.two (i:=13) (j:=16) (by kernel_rfl) rfl rfl rfl rfl ?_ ?_
    ·intro K hK
     simp only [List.getElem_toArray,List.getElem_cons_succ,List.getElem_cons_zero]
     go_simp
     have hb:=(Below.refl wr1.heap.size wr1).alloc (Nat.le_refl _) (.cells #[.int .i64 x.id] 3)
     have hlit:=heap_alloc_new wr1 (.cells #[.int .i64 x.id] 3)
     replace HBX:=Lib.hid (HBX.out.trans (hb.mono HBX.out.size))
     replace HU:=Lib.hid (own_blw HU.out hb)
     have HLIT:=Lib.hid hlit;have hzL:w2.heap.size ≤ wr1.heap.size:=HBX0
     skip
     replace HBX0:=Nat.le_trans HBX0 hb.size
     refine hK _ _ (fun _=>⟨rowc (row_keep2 HBX.out RX.out),rowc (row_keep2 HBX.out RLF.out)⟩) ?_
     clear hK K hS hlit hb
     try simp only [Act.put,List.getElem_toArray,List.getElem_cons_succ,List.getElem_cons_zero,List.setIfInBounds_toArray,List.set_cons_zero,List.set_cons_succ]
     generalize wr1.alloc (.cells #[.int .i64 x.id] 3) = wr2 at *
     generalize wr1.heap.size = glit at *
     have hS:=(⟨rowc (row_keep2 HBX.out RX.out),rowc (row_keep2 HBX.out RLF.out)⟩:(∀ j_1,wr2.cell? ⟨gx,j_1,none⟩ = (#[.int .i64 x.id,.string x.name,.int .i64 x.rep,.int .i64 x.kind,.slice ax xl cx]:Array Value)[j_1]?) ∧ (∀ j_1,wr2.cell? ⟨w.heap.size + 1,j_1,none⟩ = (#[.int .i64 aid,.int .i64 akd,.int .i64 mr,.int .i64 md,.slice pa pn pc]:Array Value)[j_1]?))
     refine AnyE.two (i:=14) (j:=16) (by kernel_rfl) rfl rfl rfl rfl ?_ ?_
     ·intro K hK
      simp only [List.getElem_toArray,List.getElem_cons_succ,List.getElem_cons_zero]
      refine wp_pushRow (.tmp 26) (.tmp 29) 22 rfl w2.heap.size 3 i0 _ 1 8 Tryd.underlying22 hi hz0 hz1 hz2 rfl (by decide) intC (fun _=>rfl) intC_one (.slice ua p.length uc) p ?_ (own_mapC HU.out) glit ?_ x.id #[.int .i64 x.id] 3 HLIT.out rfl (by have:=HPL.out;unfold maxLen;omega) (by have:=HPL.out;omega) HBX0 ?_
      focus (go_simp)
      focus (go_simp)
      intro v' wr3 hown hg hq
      obtain ⟨qn,hqn⟩:∃ qn,(p ++ [x.id]).length = qn:=⟨_,rfl⟩
      rw [hqn] at hown
      have HQN:=Lib.hid hqn;clear hqn
      obtain ⟨qa,qc,rfl⟩:=own_form hown
      have hb:Below w2.heap.size wr2 wr3:=(Below.refl w2.heap.size wr2).grown hg HBX0 (fun k hk=>(HU.out.lt k hk).1)
      replace HBX:=Lib.hid (HBX.out.trans hb)
      have HP2:=Lib.hid hown
      replace HBX0:=Nat.le_trans HBX0 hg.size
      refine hK _ _ (fun _=>⟨rowc (row_keep2 HBX.out RX.out),rowc (row_keep2 HBX.out RLF.out)⟩) ?_
      clear hK K hS hown hg hq hb HU HLIT
      try simp only [Act.put,List.getElem_toArray,List.getElem_cons_succ,List.getElem_cons_zero,List.setIfInBounds_toArray,List.set_cons_zero,List.set_cons_succ]
      have hS:=(⟨rowc (row_keep2 HBX.out RX.out),rowc (row_keep2 HBX.out RLF.out)⟩:(∀ j_1,wr3.cell? ⟨gx,j_1,none⟩ = (#[.int .i64 x.id,.string x.name,.int .i64 x.rep,.int .i64 x.kind,.slice ax xl cx]:Array Value)[j_1]?) ∧ (∀ j_1,wr3.cell? ⟨w.heap.size + 1,j_1,none⟩ = (#[.int .i64 aid,.int .i64 akd,.int .i64 mr,.int .i64 md,.slice pa pn pc]:Array Value)[j_1]?))
      refine AnyE.two (i:=15) (j:=16) (by kernel_rfl) rfl rfl rfl rfl ?_ ?_
      ·intro K hK
       simp only [List.getElem_toArray,List.getElem_cons_succ,List.getElem_cons_zero]
       go_simp
       refine hK _ _ (fun _=>⟨rowc (row_keep2 HBX.out RX.out),rowc (row_keep2 HBX.out RLF.out)⟩) ?_
       clear hK K hS
       try simp only [Act.put,List.getElem_toArray,List.getElem_cons_succ,List.getElem_cons_zero,List.setIfInBounds_toArray,List.set_cons_zero,List.set_cons_succ]
       have hS:=(⟨rowc (row_keep2 HBX.out RX.out),rowc (row_keep2 HBX.out RLF.out)⟩:(∀ j_1,wr3.cell? ⟨gx,j_1,none⟩ = (#[.int .i64 x.id,.string x.name,.int .i64 x.rep,.int .i64 x.kind,.slice ax xl cx]:Array Value)[j_1]?) ∧ (∀ j_1,wr3.cell? ⟨w.heap.size + 1,j_1,none⟩ = (#[.int .i64 aid,.int .i64 akd,.int .i64 mr,.int .i64 md,.slice pa pn pc]:Array Value)[j_1]?))
       refine AnyE.one (i:=16) (by kernel_rfl) rfl rfl ?_
       intro K hK
       simp only [List.getElem_toArray,List.getElem_cons_succ,List.getElem_cons_zero]
       go_simp
       have hb:=(Below.refl wr3.heap.size wr3).alloc (Nat.le_refl _) (.cells #[.int .i64 0,.int .i64 0,.int .i64 0,.int .i64 0,.slice none 0 0] 39)
       have hlv:=heap_alloc_new wr3 (.cells #[.int .i64 0,.int .i64 0,.int .i64 0,.int .i64 0,.slice none 0 0] 39)
       replace HBX:=Lib.hid (HBX.out.trans (hb.mono HBX.out.size))
       replace HP2:=Lib.hid (own_blw HP2.out hb)
       have HLV:=Lib.hid hlv;have hzV:w2.heap.size ≤ wr3.heap.size:=HBX0
       replace HBX0:=Nat.le_trans HBX0 hb.size
       refine hK _ _ (fun _=>⟨rowc (row_keep2 HBX.out RX.out),rowc (row_keep2 HBX.out RLF.out)⟩) ?_
       clear hK K hS hlv hb
       try simp only [Act.put,List.getElem_toArray,List.getElem_cons_succ,List.getElem_cons_zero,List.setIfInBounds_toArray,List.set_cons_zero,List.set_cons_succ]
       generalize wr3.alloc (.cells #[.int .i64 0,.int .i64 0,.int .i64 0,.int .i64 0,.slice none 0 0] 39) = wr5 at *
       generalize wr3.heap.size = glv at *
       have hS:=(⟨rowc (row_keep2 HBX.out RX.out),rowc (row_keep2 HBX.out RLF.out)⟩:(∀ j_1,wr5.cell? ⟨gx,j_1,none⟩ = (#[.int .i64 x.id,.string x.name,.int .i64 x.rep,.int .i64 x.kind,.slice ax xl cx]:Array Value)[j_1]?) ∧ (∀ j_1,wr5.cell? ⟨w.heap.size + 1,j_1,none⟩ = (#[.int .i64 aid,.int .i64 akd,.int .i64 mr,.int .i64 md,.slice pa pn pc]:Array Value)[j_1]?))
       refine AnyE.one (i:=17) (by kernel_rfl) rfl rfl ?_
       intro K hK
       simp only [List.getElem_toArray,List.getElem_cons_succ,List.getElem_cons_zero]
       refine wp_store_part rfl 39 _ _ rfl glv 0 #[.int .i64 0,.int .i64 0,.int .i64 0,.int .i64 0,.slice none 0 0] 39 #[.int .i64 x.id,.int .i64 x.kind,.int .i64 mr,.int .i64 md,.slice qa qn qc] rfl rfl HLV.out (by kernel_rfl) (by simp [Value.oneCell']) (Nat.le_of_ble_eq_true rfl) #[.int .i64 x.id,.int .i64 x.kind,.int .i64 mr,.int .i64 md,.slice qa qn qc] rfl ?_;intro w6 r6 ho6 hb6 hz6
       refine hK _ _ (fun h=>absurd h (by decide)) ?_
       clear hK K hS
       try simp only [Act.put,List.getElem_toArray,List.getElem_cons_succ,List.getElem_cons_zero,List.setIfInBounds_toArray,List.set_cons_zero,List.set_cons_succ]
       refine AnyE.done (by kernel_rfl) ?_ _
       have HL6:=Lib.hid (lf5_of r6 ho6 hb6 HLV.out HQN.out.symm HP2.out HBX.out hzV)
       clear r6 ho6 hb6 hz6 HQN HP2 HBX HLV HBX0 hzV
       try clear hzL
       go_wp2_with fail
       go_meet
       exact ⟨glv,qa,qn,qc,rfl,HL6⟩
      ·intro K hK
       simp only [List.getElem_toArray,List.getElem_cons_succ,List.getElem_cons_zero]
       go_simp
       have hb:=(Below.refl wr3.heap.size wr3).alloc (Nat.le_refl _) (.cells #[.int .i64 0,.int .i64 0,.int .i64 0,.int .i64 0,.slice none 0 0] 39)
       have hlv:=heap_alloc_new wr3 (.cells #[.int .i64 0,.int .i64 0,.int .i64 0,.int .i64 0,.slice none 0 0] 39)
       replace HBX:=Lib.hid (HBX.out.trans (hb.mono HBX.out.size))
       replace HP2:=Lib.hid (own_blw HP2.out hb)
       have HLV:=Lib.hid hlv;have hzV:w2.heap.size ≤ wr3.heap.size:=HBX0
       replace HBX0:=Nat.le_trans HBX0 hb.size
       refine hK _ _ (fun _=>⟨rowc (row_keep2 HBX.out RX.out),rowc (row_keep2 HBX.out RLF.out)⟩) ?_
       clear hK K hS hlv hb
       try simp only [Act.put,List.getElem_toArray,List.getElem_cons_succ,List.getElem_cons_zero,List.setIfInBounds_toArray,List.set_cons_zero,List.set_cons_succ]
       generalize wr3.alloc (.cells #[.int .i64 0,.int .i64 0,.int .i64 0,.int .i64 0,.slice none 0 0] 39) = wr7 at *
       generalize wr3.heap.size = glv at *
       have hS:=(⟨rowc (row_keep2 HBX.out RX.out),rowc (row_keep2 HBX.out RLF.out)⟩:(∀ j_1,wr7.cell? ⟨gx,j_1,none⟩ = (#[.int .i64 x.id,.string x.name,.int .i64 x.rep,.int .i64 x.kind,.slice ax xl cx]:Array Value)[j_1]?) ∧ (∀ j_1,wr7.cell? ⟨w.heap.size + 1,j_1,none⟩ = (#[.int .i64 aid,.int .i64 akd,.int .i64 mr,.int .i64 md,.slice pa pn pc]:Array Value)[j_1]?))
       refine AnyE.one (i:=15) (by kernel_rfl) rfl rfl ?_
       intro K hK
       simp only [List.getElem_toArray,List.getElem_cons_succ,List.getElem_cons_zero]
       go_simp
       refine hK _ _ (fun _=>⟨rowc (row_keep2 HBX.out RX.out),rowc (row_keep2 HBX.out RLF.out)⟩) ?_
       clear hK K hS
       try simp only [Act.put,List.getElem_toArray,List.getElem_cons_succ,List.getElem_cons_zero,List.setIfInBounds_toArray,List.set_cons_zero,List.set_cons_succ]
       have hS:=(⟨rowc (row_keep2 HBX.out RX.out),rowc (row_keep2 HBX.out RLF.out)⟩:(∀ j_1,wr7.cell? ⟨gx,j_1,none⟩ = (#[.int .i64 x.id,.string x.name,.int .i64 x.rep,.int .i64 x.kind,.slice ax xl cx]:Array Value)[j_1]?) ∧ (∀ j_1,wr7.cell? ⟨w.heap.size + 1,j_1,none⟩ = (#[.int .i64 aid,.int .i64 akd,.int .i64 mr,.int .i64 md,.slice pa pn pc]:Array Value)[j_1]?))
       refine AnyE.one (i:=17) (by kernel_rfl) rfl rfl ?_
       intro K hK
       simp only [List.getElem_toArray,List.getElem_cons_succ,List.getElem_cons_zero]
       refine wp_store_part rfl 39 _ _ rfl glv 0 #[.int .i64 0,.int .i64 0,.int .i64 0,.int .i64 0,.slice none 0 0] 39 #[.int .i64 x.id,.int .i64 x.kind,.int .i64 mr,.int .i64 md,.slice qa qn qc] rfl rfl HLV.out (by kernel_rfl) (by simp [Value.oneCell']) (Nat.le_of_ble_eq_true rfl) #[.int .i64 x.id,.int .i64 x.kind,.int .i64 mr,.int .i64 md,.slice qa qn qc] rfl ?_;intro w6 r6 ho6 hb6 hz6
       refine hK _ _ (fun h=>absurd h (by decide)) ?_
       clear hK K hS
       try simp only [Act.put,List.getElem_toArray,List.getElem_cons_succ,List.getElem_cons_zero,List.setIfInBounds_toArray,List.set_cons_zero,List.set_cons_succ]
       refine AnyE.done (by kernel_rfl) ?_ _
       have HL6:=Lib.hid (lf5_of r6 ho6 hb6 HLV.out HQN.out.symm HP2.out HBX.out hzV)
       clear r6 ho6 hb6 hz6 HQN HP2 HBX HLV HBX0 hzV
       try clear hzL
       go_wp2_with fail
       go_meet
       exact ⟨glv,qa,qn,qc,rfl,HL6⟩
     ·intro K hK
      simp only [List.getElem_toArray,List.getElem_cons_succ,List.getElem_cons_zero]
      go_simp
      have hb:=(Below.refl wr2.heap.size wr2).alloc (Nat.le_refl _) (.cells #[.int .i64 0,.int .i64 0,.int .i64 0,.int .i64 0,.slice none 0 0] 39)
      have hlv:=heap_alloc_new wr2 (.cells #[.int .i64 0,.int .i64 0,.int .i64 0,.int .i64 0,.slice none 0 0] 39)
      replace HBX:=Lib.hid (HBX.out.trans (hb.mono HBX.out.size))
      replace HU:=Lib.hid (own_blw HU.out hb)
      replace HLIT:=Lib.hid (row_keep hb HLIT.out)
      have HLV:=Lib.hid hlv;have hzV:w2.heap.size ≤ wr2.heap.size:=HBX0
      replace HBX0:=Nat.le_trans HBX0 hb.size
      refine hK _ _ (fun _=>⟨rowc (row_keep2 HBX.out RX.out),rowc (row_keep2 HBX.out RLF.out)⟩) ?_
      clear hK K hS hlv hb
      try simp only [Act.put,List.getElem_toArray,List.getElem_cons_succ,List.getElem_cons_zero,List.setIfInBounds_toArray,List.set_cons_zero,List.set_cons_succ]
      generalize wr2.alloc (.cells #[.int .i64 0,.int .i64 0,.int .i64 0,.int .i64 0,.slice none 0 0] 39) = wr10 at *
      generalize wr2.heap.size = glv at *
      have hS:=(⟨rowc (row_keep2 HBX.out RX.out),rowc (row_keep2 HBX.out RLF.out)⟩:(∀ j_1,wr10.cell? ⟨gx,j_1,none⟩ = (#[.int .i64 x.id,.string x.name,.int .i64 x.rep,.int .i64 x.kind,.slice ax xl cx]:Array Value)[j_1]?) ∧ (∀ j_1,wr10.cell? ⟨w.heap.size + 1,j_1,none⟩ = (#[.int .i64 aid,.int .i64 akd,.int .i64 mr,.int .i64 md,.slice pa pn pc]:Array Value)[j_1]?))
      refine AnyE.one (i:=14) (by kernel_rfl) rfl rfl ?_
      intro K hK
      simp only [List.getElem_toArray,List.getElem_cons_succ,List.getElem_cons_zero]
      refine wp_pushRow (.tmp 26) (.tmp 29) 22 rfl w2.heap.size 3 i0 _ 1 8 Tryd.underlying22 hi hz0 hz1 hz2 rfl (by decide) intC (fun _=>rfl) intC_one (.slice ua p.length uc) p ?_ (own_mapC HU.out) glit ?_ x.id #[.int .i64 x.id] 3 HLIT.out rfl (by have:=HPL.out;unfold maxLen;omega) (by have:=HPL.out;omega) HBX0 ?_
      focus (go_simp)
      focus (go_simp)
      intro v' wr11 hown hg hq
      obtain ⟨qn,hqn⟩:∃ qn,(p ++ [x.id]).length = qn:=⟨_,rfl⟩
      rw [hqn] at hown
      have HQN:=Lib.hid hqn;clear hqn
      obtain ⟨qa,qc,rfl⟩:=own_form hown
      have hb:Below w2.heap.size wr10 wr11:=(Below.refl w2.heap.size wr10).grown hg HBX0 (fun k hk=>(HU.out.lt k hk).1)
      replace HBX:=Lib.hid (HBX.out.trans hb)
      replace HLV:=Lib.hid (grown_keep (own_mapC HU.out) hg HLV.out (by decide))
      have HP2:=Lib.hid hown
      replace HBX0:=Nat.le_trans HBX0 hg.size
      refine hK _ _ (fun _=>⟨rowc (row_keep2 HBX.out RX.out),rowc (row_keep2 HBX.out RLF.out)⟩) ?_
      clear hK K hS hown hg hq hb HU HLIT
      try simp only [Act.put,List.getElem_toArray,List.getElem_cons_succ,List.getElem_cons_zero,List.setIfInBounds_toArray,List.set_cons_zero,List.set_cons_succ]
      have hS:=(⟨rowc (row_keep2 HBX.out RX.out),rowc (row_keep2 HBX.out RLF.out)⟩:(∀ j_1,wr11.cell? ⟨gx,j_1,none⟩ = (#[.int .i64 x.id,.string x.name,.int .i64 x.rep,.int .i64 x.kind,.slice ax xl cx]:Array Value)[j_1]?) ∧ (∀ j_1,wr11.cell? ⟨w.heap.size + 1,j_1,none⟩ = (#[.int .i64 aid,.int .i64 akd,.int .i64 mr,.int .i64 md,.slice pa pn pc]:Array Value)[j_1]?))
      refine AnyE.one (i:=15) (by kernel_rfl) rfl rfl ?_
      intro K hK
      simp only [List.getElem_toArray,List.getElem_cons_succ,List.getElem_cons_zero]
      go_simp
      refine hK _ _ (fun _=>⟨rowc (row_keep2 HBX.out RX.out),rowc (row_keep2 HBX.out RLF.out)⟩) ?_
      clear hK K hS
      try simp only [Act.put,List.getElem_toArray,List.getElem_cons_succ,List.getElem_cons_zero,List.setIfInBounds_toArray,List.set_cons_zero,List.set_cons_succ]
      have hS:=(⟨rowc (row_keep2 HBX.out RX.out),rowc (row_keep2 HBX.out RLF.out)⟩:(∀ j_1,wr11.cell? ⟨gx,j_1,none⟩ = (#[.int .i64 x.id,.string x.name,.int .i64 x.rep,.int .i64 x.kind,.slice ax xl cx]:Array Value)[j_1]?) ∧ (∀ j_1,wr11.cell? ⟨w.heap.size + 1,j_1,none⟩ = (#[.int .i64 aid,.int .i64 akd,.int .i64 mr,.int .i64 md,.slice pa pn pc]:Array Value)[j_1]?))
      refine AnyE.one (i:=17) (by kernel_rfl) rfl rfl ?_
      intro K hK
      simp only [List.getElem_toArray,List.getElem_cons_succ,List.getElem_cons_zero]
      refine wp_store_part rfl 39 _ _ rfl glv 0 #[.int .i64 0,.int .i64 0,.int .i64 0,.int .i64 0,.slice none 0 0] 39 #[.int .i64 x.id,.int .i64 x.kind,.int .i64 mr,.int .i64 md,.slice qa qn qc] rfl rfl HLV.out (by kernel_rfl) (by simp [Value.oneCell']) (Nat.le_of_ble_eq_true rfl) #[.int .i64 x.id,.int .i64 x.kind,.int .i64 mr,.int .i64 md,.slice qa qn qc] rfl ?_;intro w6 r6 ho6 hb6 hz6
      refine hK _ _ (fun h=>absurd h (by decide)) ?_
      clear hK K hS
      try simp only [Act.put,List.getElem_toArray,List.getElem_cons_succ,List.getElem_cons_zero,List.setIfInBounds_toArray,List.set_cons_zero,List.set_cons_succ]
      refine AnyE.done (by kernel_rfl) ?_ _
      have HL6:=Lib.hid (lf5_of r6 ho6 hb6 HLV.out HQN.out.symm HP2.out HBX.out hzV)
      clear r6 ho6 hb6 hz6 HQN HP2 HBX HLV HBX0 hzV
      try clear hzL
      go_wp2_with fail
      go_meet
      exact ⟨glv,qa,qn,qc,rfl,HL6⟩
    ·intro K hK
     simp only [List.getElem_toArray,List.getElem_cons_succ,List.getElem_cons_zero]
     go_simp
     have hb:=(Below.refl wr1.heap.size wr1).alloc (Nat.le_refl _) (.cells #[.int .i64 0,.int .i64 0,.int .i64 0,.int .i64 0,.slice none 0 0] 39)
     have hlv:=heap_alloc_new wr1 (.cells #[.int .i64 0,.int .i64 0,.int .i64 0,.int .i64 0,.slice none 0 0] 39)
     replace HBX:=Lib.hid (HBX.out.trans (hb.mono HBX.out.size))
     replace HU:=Lib.hid (own_blw HU.out hb)
     have HLV:=Lib.hid hlv;have hzV:w2.heap.size ≤ wr1.heap.size:=HBX0
     replace HBX0:=Nat.le_trans HBX0 hb.size
     refine hK _ _ (fun _=>⟨rowc (row_keep2 HBX.out RX.out),rowc (row_keep2 HBX.out RLF.out)⟩) ?_
     clear hK K hS hlv hb
     try simp only [Act.put,List.getElem_toArray,List.getElem_cons_succ,List.getElem_cons_zero,List.setIfInBounds_toArray,List.set_cons_zero,List.set_cons_succ]
     generalize wr1.alloc (.cells #[.int .i64 0,.int .i64 0,.int .i64 0,.int .i64 0,.slice none 0 0] 39) = wr14 at *
     generalize wr1.heap.size = glv at *
     have hS:=(⟨rowc (row_keep2 HBX.out RX.out),rowc (row_keep2 HBX.out RLF.out)⟩:(∀ j_1,wr14.cell? ⟨gx,j_1,none⟩ = (#[.int .i64 x.id,.string x.name,.int .i64 x.rep,.int .i64 x.kind,.slice ax xl cx]:Array Value)[j_1]?) ∧ (∀ j_1,wr14.cell? ⟨w.heap.size + 1,j_1,none⟩ = (#[.int .i64 aid,.int .i64 akd,.int .i64 mr,.int .i64 md,.slice pa pn pc]:Array Value)[j_1]?))
     refine AnyE.one (i:=13) (by kernel_rfl) rfl rfl ?_
     intro K hK
     simp only [List.getElem_toArray,List.getElem_cons_succ,List.getElem_cons_zero]
     go_simp
     have hb:=(Below.refl wr14.heap.size wr14).alloc (Nat.le_refl _) (.cells #[.int .i64 x.id] 3)
     have hlit:=heap_alloc_new wr14 (.cells #[.int .i64 x.id] 3)
     replace HBX:=Lib.hid (HBX.out.trans (hb.mono HBX.out.size))
     replace HU:=Lib.hid (own_blw HU.out hb)
     replace HLV:=Lib.hid (row_keep hb HLV.out)
     have HLIT:=Lib.hid hlit;have hzL:w2.heap.size ≤ wr14.heap.size:=HBX0
     skip
     replace HBX0:=Nat.le_trans HBX0 hb.size
     refine hK _ _ (fun _=>⟨rowc (row_keep2 HBX.out RX.out),rowc (row_keep2 HBX.out RLF.out)⟩) ?_
     clear hK K hS hlit hb
     try simp only [Act.put,List.getElem_toArray,List.getElem_cons_succ,List.getElem_cons_zero,List.setIfInBounds_toArray,List.set_cons_zero,List.set_cons_succ]
     generalize wr14.alloc (.cells #[.int .i64 x.id] 3) = wr15 at *
     generalize wr14.heap.size = glit at *
     have hS:=(⟨rowc (row_keep2 HBX.out RX.out),rowc (row_keep2 HBX.out RLF.out)⟩:(∀ j_1,wr15.cell? ⟨gx,j_1,none⟩ = (#[.int .i64 x.id,.string x.name,.int .i64 x.rep,.int .i64 x.kind,.slice ax xl cx]:Array Value)[j_1]?) ∧ (∀ j_1,wr15.cell? ⟨w.heap.size + 1,j_1,none⟩ = (#[.int .i64 aid,.int .i64 akd,.int .i64 mr,.int .i64 md,.slice pa pn pc]:Array Value)[j_1]?))
     refine AnyE.one (i:=14) (by kernel_rfl) rfl rfl ?_
     intro K hK
     simp only [List.getElem_toArray,List.getElem_cons_succ,List.getElem_cons_zero]
     refine wp_pushRow (.tmp 26) (.tmp 29) 22 rfl w2.heap.size 3 i0 _ 1 8 Tryd.underlying22 hi hz0 hz1 hz2 rfl (by decide) intC (fun _=>rfl) intC_one (.slice ua p.length uc) p ?_ (own_mapC HU.out) glit ?_ x.id #[.int .i64 x.id] 3 HLIT.out rfl (by have:=HPL.out;unfold maxLen;omega) (by have:=HPL.out;omega) HBX0 ?_
     focus (go_simp)
     focus (go_simp)
     intro v' wr16 hown hg hq
     obtain ⟨qn,hqn⟩:∃ qn,(p ++ [x.id]).length = qn:=⟨_,rfl⟩
     rw [hqn] at hown
     have HQN:=Lib.hid hqn;clear hqn
     obtain ⟨qa,qc,rfl⟩:=own_form hown
     have hb:Below w2.heap.size wr15 wr16:=(Below.refl w2.heap.size wr15).grown hg HBX0 (fun k hk=>(HU.out.lt k hk).1)
     replace HBX:=Lib.hid (HBX.out.trans hb)
     replace HLV:=Lib.hid (grown_keep (own_mapC HU.out) hg HLV.out (by decide))
     have HP2:=Lib.hid hown
     replace HBX0:=Nat.le_trans HBX0 hg.size
     refine hK _ _ (fun _=>⟨rowc (row_keep2 HBX.out RX.out),rowc (row_keep2 HBX.out RLF.out)⟩) ?_
     clear hK K hS hown hg hq hb HU HLIT
     try simp only [Act.put,List.getElem_toArray,List.getElem_cons_succ,List.getElem_cons_zero,List.setIfInBounds_toArray,List.set_cons_zero,List.set_cons_succ]
     have hS:=(⟨rowc (row_keep2 HBX.out RX.out),rowc (row_keep2 HBX.out RLF.out)⟩:(∀ j_1,wr16.cell? ⟨gx,j_1,none⟩ = (#[.int .i64 x.id,.string x.name,.int .i64 x.rep,.int .i64 x.kind,.slice ax xl cx]:Array Value)[j_1]?) ∧ (∀ j_1,wr16.cell? ⟨w.heap.size + 1,j_1,none⟩ = (#[.int .i64 aid,.int .i64 akd,.int .i64 mr,.int .i64 md,.slice pa pn pc]:Array Value)[j_1]?))
     refine AnyE.one (i:=15) (by kernel_rfl) rfl rfl ?_
     intro K hK
     simp only [List.getElem_toArray,List.getElem_cons_succ,List.getElem_cons_zero]
     go_simp
     refine hK _ _ (fun _=>⟨rowc (row_keep2 HBX.out RX.out),rowc (row_keep2 HBX.out RLF.out)⟩) ?_
     clear hK K hS
     try simp only [Act.put,List.getElem_toArray,List.getElem_cons_succ,List.getElem_cons_zero,List.setIfInBounds_toArray,List.set_cons_zero,List.set_cons_succ]
     have hS:=(⟨rowc (row_keep2 HBX.out RX.out),rowc (row_keep2 HBX.out RLF.out)⟩:(∀ j_1,wr16.cell? ⟨gx,j_1,none⟩ = (#[.int .i64 x.id,.string x.name,.int .i64 x.rep,.int .i64 x.kind,.slice ax xl cx]:Array Value)[j_1]?) ∧ (∀ j_1,wr16.cell? ⟨w.heap.size + 1,j_1,none⟩ = (#[.int .i64 aid,.int .i64 akd,.int .i64 mr,.int .i64 md,.slice pa pn pc]:Array Value)[j_1]?))
     refine AnyE.one (i:=17) (by kernel_rfl) rfl rfl ?_
     intro K hK
     simp only [List.getElem_toArray,List.getElem_cons_succ,List.getElem_cons_zero]
     refine wp_store_part rfl 39 _ _ rfl glv 0 #[.int .i64 0,.int .i64 0,.int .i64 0,.int .i64 0,.slice none 0 0] 39 #[.int .i64 x.id,.int .i64 x.kind,.int .i64 mr,.int .i64 md,.slice qa qn qc] rfl rfl HLV.out (by kernel_rfl) (by simp [Value.oneCell']) (Nat.le_of_ble_eq_true rfl) #[.int .i64 x.id,.int .i64 x.kind,.int .i64 mr,.int .i64 md,.slice qa qn qc] rfl ?_;intro w6 r6 ho6 hb6 hz6
     refine hK _ _ (fun h=>absurd h (by decide)) ?_
     clear hK K hS
     try simp only [Act.put,List.getElem_toArray,List.getElem_cons_succ,List.getElem_cons_zero,List.setIfInBounds_toArray,List.set_cons_zero,List.set_cons_succ]
     refine AnyE.done (by kernel_rfl) ?_ _
     have HL6:=Lib.hid (lf5_of r6 ho6 hb6 HLV.out HQN.out.symm HP2.out HBX.out hzV)
     clear r6 ho6 hb6 hz6 HQN HP2 HBX HLV HBX0 hzV
     try clear hzL
     go_wp2_with fail
     go_meet
     exact ⟨glv,qa,qn,qc,rfl,HL6⟩
   ·intro K hK
    simp only [List.getElem_toArray,List.getElem_cons_succ,List.getElem_cons_zero]
    go_simp
    have hb:=(Below.refl wd.heap.size wd).alloc (Nat.le_refl _) (.cells #[.int .i64 x.id] 3)
    have hlit:=heap_alloc_new wd (.cells #[.int .i64 x.id] 3)
    replace HBX:=Lib.hid (HBX.out.trans (hb.mono HBX.out.size))
    have HLIT:=Lib.hid hlit;have hzL:w2.heap.size ≤ wd.heap.size:=HBX0
    skip
    replace HBX0:=Nat.le_trans HBX0 hb.size
    refine hK _ _ (fun _=>⟨rowc (row_keep2 HBX.out RX.out),rowc (row_keep2 HBX.out RLF.out)⟩) ?_
    clear hK K hS hlit hb
    try simp only [Act.put,List.getElem_toArray,List.getElem_cons_succ,List.getElem_cons_zero,List.setIfInBounds_toArray,List.set_cons_zero,List.set_cons_succ]
    generalize wd.alloc (.cells #[.int .i64 x.id] 3) = wr19 at *
    generalize wd.heap.size = glit at *
    have hS:=(⟨rowc (row_keep2 HBX.out RX.out),rowc (row_keep2 HBX.out RLF.out)⟩:(∀ j_1,wr19.cell? ⟨gx,j_1,none⟩ = (#[.int .i64 x.id,.string x.name,.int .i64 x.rep,.int .i64 x.kind,.slice ax xl cx]:Array Value)[j_1]?) ∧ (∀ j_1,wr19.cell? ⟨w.heap.size + 1,j_1,none⟩ = (#[.int .i64 aid,.int .i64 akd,.int .i64 mr,.int .i64 md,.slice pa pn pc]:Array Value)[j_1]?))
    refine AnyE.two (i:=10) (j:=16) (by kernel_rfl) rfl rfl rfl rfl ?_ ?_
    ·intro K hK
     simp only [List.getElem_toArray,List.getElem_cons_succ,List.getElem_cons_zero]
     go_simp
     refine (cloneN_any (.slice pa pn pc) p wr19 (HPX.out.below (HBX.out)).1 (Nat.le_trans HPL.out (by decide))).mono ?_;rintro e wr20 ⟨u,rfl,hu,hb⟩
     obtain ⟨ua,uc,rfl⟩:=own_form hu
     replace HBX:=Lib.hid (HBX.out.trans (hb.mono HBX.out.size))
     replace HLIT:=Lib.hid (row_keep hb HLIT.out)
     have HU:=Lib.hid (own_baseN hu HBX0)
     replace HBX0:=Nat.le_trans HBX0 hb.size
     refine hK _ _ (fun _=>⟨rowc (row_keep2 HBX.out RX.out),rowc (row_keep2 HBX.out RLF.out)⟩) ?_
     clear hK K hS hu hb
     try simp only [Act.put,List.getElem_toArray,List.getElem_cons_succ,List.getElem_cons_zero,List.setIfInBounds_toArray,List.set_cons_zero,List.set_cons_succ]
     have hS:=(⟨rowc (row_keep2 HBX.out RX.out),rowc (row_keep2 HBX.out RLF.out)⟩:(∀ j_1,wr20.cell? ⟨gx,j_1,none⟩ = (#[.int .i64 x.id,.string x.name,.int .i64 x.rep,.int .i64 x.kind,.slice ax xl cx]:Array Value)[j_1]?) ∧ (∀ j_1,wr20.cell? ⟨w.heap.size + 1,j_1,none⟩ = (#[.int .i64 aid,.int .i64 akd,.int .i64 mr,.int .i64 md,.slice pa pn pc]:Array Value)[j_1]?))
     refine AnyE.two (i:=14) (j:=16) (by kernel_rfl) rfl rfl rfl rfl ?_ ?_
     ·intro K hK
      simp only [List.getElem_toArray,List.getElem_cons_succ,List.getElem_cons_zero]
      refine wp_pushRow (.tmp 26) (.tmp 29) 22 rfl w2.heap.size 3 i0 _ 1 8 Tryd.underlying22 hi hz0 hz1 hz2 rfl (by decide) intC (fun _=>rfl) intC_one (.slice ua p.length uc) p ?_ (own_mapC HU.out) glit ?_ x.id #[.int .i64 x.id] 3 HLIT.out rfl (by have:=HPL.out;unfold maxLen;omega) (by have:=HPL.out;omega) HBX0 ?_
      focus (go_simp)
      focus (go_simp)
      intro v' wr21 hown hg hq
      obtain ⟨qn,hqn⟩:∃ qn,(p ++ [x.id]).length = qn:=⟨_,rfl⟩
      rw [hqn] at hown
      have HQN:=Lib.hid hqn;clear hqn
      obtain ⟨qa,qc,rfl⟩:=own_form hown
      have hb:Below w2.heap.size wr20 wr21:=(Below.refl w2.heap.size wr20).grown hg HBX0 (fun k hk=>(HU.out.lt k hk).1)
      replace HBX:=Lib.hid (HBX.out.trans hb)
      have HP2:=Lib.hid hown
      replace HBX0:=Nat.le_trans HBX0 hg.size
      refine hK _ _ (fun _=>⟨rowc (row_keep2 HBX.out RX.out),rowc (row_keep2 HBX.out RLF.out)⟩) ?_
      clear hK K hS hown hg hq hb HU HLIT
      try simp only [Act.put,List.getElem_toArray,List.getElem_cons_succ,List.getElem_cons_zero,List.setIfInBounds_toArray,List.set_cons_zero,List.set_cons_succ]
      have hS:=(⟨rowc (row_keep2 HBX.out RX.out),rowc (row_keep2 HBX.out RLF.out)⟩:(∀ j_1,wr21.cell? ⟨gx,j_1,none⟩ = (#[.int .i64 x.id,.string x.name,.int .i64 x.rep,.int .i64 x.kind,.slice ax xl cx]:Array Value)[j_1]?) ∧ (∀ j_1,wr21.cell? ⟨w.heap.size + 1,j_1,none⟩ = (#[.int .i64 aid,.int .i64 akd,.int .i64 mr,.int .i64 md,.slice pa pn pc]:Array Value)[j_1]?))
      refine AnyE.two (i:=15) (j:=16) (by kernel_rfl) rfl rfl rfl rfl ?_ ?_
      ·intro K hK
       simp only [List.getElem_toArray,List.getElem_cons_succ,List.getElem_cons_zero]
       go_simp
       refine hK _ _ (fun _=>⟨rowc (row_keep2 HBX.out RX.out),rowc (row_keep2 HBX.out RLF.out)⟩) ?_
       clear hK K hS
       try simp only [Act.put,List.getElem_toArray,List.getElem_cons_succ,List.getElem_cons_zero,List.setIfInBounds_toArray,List.set_cons_zero,List.set_cons_succ]
       have hS:=(⟨rowc (row_keep2 HBX.out RX.out),rowc (row_keep2 HBX.out RLF.out)⟩:(∀ j_1,wr21.cell? ⟨gx,j_1,none⟩ = (#[.int .i64 x.id,.string x.name,.int .i64 x.rep,.int .i64 x.kind,.slice ax xl cx]:Array Value)[j_1]?) ∧ (∀ j_1,wr21.cell? ⟨w.heap.size + 1,j_1,none⟩ = (#[.int .i64 aid,.int .i64 akd,.int .i64 mr,.int .i64 md,.slice pa pn pc]:Array Value)[j_1]?))
       refine AnyE.one (i:=16) (by kernel_rfl) rfl rfl ?_
       intro K hK
       simp only [List.getElem_toArray,List.getElem_cons_succ,List.getElem_cons_zero]
       go_simp
       have hb:=(Below.refl wr21.heap.size wr21).alloc (Nat.le_refl _) (.cells #[.int .i64 0,.int .i64 0,.int .i64 0,.int .i64 0,.slice none 0 0] 39)
       have hlv:=heap_alloc_new wr21 (.cells #[.int .i64 0,.int .i64 0,.int .i64 0,.int .i64 0,.slice none 0 0] 39)
       replace HBX:=Lib.hid (HBX.out.trans (hb.mono HBX.out.size))
       replace HP2:=Lib.hid (own_blw HP2.out hb)
       have HLV:=Lib.hid hlv;have hzV:w2.heap.size ≤ wr21.heap.size:=HBX0
       replace HBX0:=Nat.le_trans HBX0 hb.size
       refine hK _ _ (fun _=>⟨rowc (row_keep2 HBX.out RX.out),rowc (row_keep2 HBX.out RLF.out)⟩) ?_
       clear hK K hS hlv hb
       try simp only [Act.put,List.getElem_toArray,List.getElem_cons_succ,List.getElem_cons_zero,List.setIfInBounds_toArray,List.set_cons_zero,List.set_cons_succ]
       generalize wr21.alloc (.cells #[.int .i64 0,.int .i64 0,.int .i64 0,.int .i64 0,.slice none 0 0] 39) = wr23 at *
       generalize wr21.heap.size = glv at *
       have hS:=(⟨rowc (row_keep2 HBX.out RX.out),rowc (row_keep2 HBX.out RLF.out)⟩:(∀ j_1,wr23.cell? ⟨gx,j_1,none⟩ = (#[.int .i64 x.id,.string x.name,.int .i64 x.rep,.int .i64 x.kind,.slice ax xl cx]:Array Value)[j_1]?) ∧ (∀ j_1,wr23.cell? ⟨w.heap.size + 1,j_1,none⟩ = (#[.int .i64 aid,.int .i64 akd,.int .i64 mr,.int .i64 md,.slice pa pn pc]:Array Value)[j_1]?))
       refine AnyE.one (i:=17) (by kernel_rfl) rfl rfl ?_
       intro K hK
       simp only [List.getElem_toArray,List.getElem_cons_succ,List.getElem_cons_zero]
       refine wp_store_part rfl 39 _ _ rfl glv 0 #[.int .i64 0,.int .i64 0,.int .i64 0,.int .i64 0,.slice none 0 0] 39 #[.int .i64 x.id,.int .i64 x.kind,.int .i64 mr,.int .i64 md,.slice qa qn qc] rfl rfl HLV.out (by kernel_rfl) (by simp [Value.oneCell']) (Nat.le_of_ble_eq_true rfl) #[.int .i64 x.id,.int .i64 x.kind,.int .i64 mr,.int .i64 md,.slice qa qn qc] rfl ?_;intro w6 r6 ho6 hb6 hz6
       refine hK _ _ (fun h=>absurd h (by decide)) ?_
       clear hK K hS
       try simp only [Act.put,List.getElem_toArray,List.getElem_cons_succ,List.getElem_cons_zero,List.setIfInBounds_toArray,List.set_cons_zero,List.set_cons_succ]
       refine AnyE.done (by kernel_rfl) ?_ _
       have HL6:=Lib.hid (lf5_of r6 ho6 hb6 HLV.out HQN.out.symm HP2.out HBX.out hzV)
       clear r6 ho6 hb6 hz6 HQN HP2 HBX HLV HBX0 hzV
       try clear hzL
       go_wp2_with fail
       go_meet
       exact ⟨glv,qa,qn,qc,rfl,HL6⟩
      ·intro K hK
       simp only [List.getElem_toArray,List.getElem_cons_succ,List.getElem_cons_zero]
       go_simp
       have hb:=(Below.refl wr21.heap.size wr21).alloc (Nat.le_refl _) (.cells #[.int .i64 0,.int .i64 0,.int .i64 0,.int .i64 0,.slice none 0 0] 39)
       have hlv:=heap_alloc_new wr21 (.cells #[.int .i64 0,.int .i64 0,.int .i64 0,.int .i64 0,.slice none 0 0] 39)
       replace HBX:=Lib.hid (HBX.out.trans (hb.mono HBX.out.size))
       replace HP2:=Lib.hid (own_blw HP2.out hb)
       have HLV:=Lib.hid hlv;have hzV:w2.heap.size ≤ wr21.heap.size:=HBX0
       replace HBX0:=Nat.le_trans HBX0 hb.size
       refine hK _ _ (fun _=>⟨rowc (row_keep2 HBX.out RX.out),rowc (row_keep2 HBX.out RLF.out)⟩) ?_
       clear hK K hS hlv hb
       try simp only [Act.put,List.getElem_toArray,List.getElem_cons_succ,List.getElem_cons_zero,List.setIfInBounds_toArray,List.set_cons_zero,List.set_cons_succ]
       generalize wr21.alloc (.cells #[.int .i64 0,.int .i64 0,.int .i64 0,.int .i64 0,.slice none 0 0] 39) = wr25 at *
       generalize wr21.heap.size = glv at *
       have hS:=(⟨rowc (row_keep2 HBX.out RX.out),rowc (row_keep2 HBX.out RLF.out)⟩:(∀ j_1,wr25.cell? ⟨gx,j_1,none⟩ = (#[.int .i64 x.id,.string x.name,.int .i64 x.rep,.int .i64 x.kind,.slice ax xl cx]:Array Value)[j_1]?) ∧ (∀ j_1,wr25.cell? ⟨w.heap.size + 1,j_1,none⟩ = (#[.int .i64 aid,.int .i64 akd,.int .i64 mr,.int .i64 md,.slice pa pn pc]:Array Value)[j_1]?))
       refine AnyE.one (i:=15) (by kernel_rfl) rfl rfl ?_
       intro K hK
       simp only [List.getElem_toArray,List.getElem_cons_succ,List.getElem_cons_zero]
       go_simp
       refine hK _ _ (fun _=>⟨rowc (row_keep2 HBX.out RX.out),rowc (row_keep2 HBX.out RLF.out)⟩) ?_
       clear hK K hS
       try simp only [Act.put,List.getElem_toArray,List.getElem_cons_succ,List.getElem_cons_zero,List.setIfInBounds_toArray,List.set_cons_zero,List.set_cons_succ]
       have hS:=(⟨rowc (row_keep2 HBX.out RX.out),rowc (row_keep2 HBX.out RLF.out)⟩:(∀ j_1,wr25.cell? ⟨gx,j_1,none⟩ = (#[.int .i64 x.id,.string x.name,.int .i64 x.rep,.int .i64 x.kind,.slice ax xl cx]:Array Value)[j_1]?) ∧ (∀ j_1,wr25.cell? ⟨w.heap.size + 1,j_1,none⟩ = (#[.int .i64 aid,.int .i64 akd,.int .i64 mr,.int .i64 md,.slice pa pn pc]:Array Value)[j_1]?))
       refine AnyE.one (i:=17) (by kernel_rfl) rfl rfl ?_
       intro K hK
       simp only [List.getElem_toArray,List.getElem_cons_succ,List.getElem_cons_zero]
       refine wp_store_part rfl 39 _ _ rfl glv 0 #[.int .i64 0,.int .i64 0,.int .i64 0,.int .i64 0,.slice none 0 0] 39 #[.int .i64 x.id,.int .i64 x.kind,.int .i64 mr,.int .i64 md,.slice qa qn qc] rfl rfl HLV.out (by kernel_rfl) (by simp [Value.oneCell']) (Nat.le_of_ble_eq_true rfl) #[.int .i64 x.id,.int .i64 x.kind,.int .i64 mr,.int .i64 md,.slice qa qn qc] rfl ?_;intro w6 r6 ho6 hb6 hz6
       refine hK _ _ (fun h=>absurd h (by decide)) ?_
       clear hK K hS
       try simp only [Act.put,List.getElem_toArray,List.getElem_cons_succ,List.getElem_cons_zero,List.setIfInBounds_toArray,List.set_cons_zero,List.set_cons_succ]
       refine AnyE.done (by kernel_rfl) ?_ _
       have HL6:=Lib.hid (lf5_of r6 ho6 hb6 HLV.out HQN.out.symm HP2.out HBX.out hzV)
       clear r6 ho6 hb6 hz6 HQN HP2 HBX HLV HBX0 hzV
       try clear hzL
       go_wp2_with fail
       go_meet
       exact ⟨glv,qa,qn,qc,rfl,HL6⟩
     ·intro K hK
      simp only [List.getElem_toArray,List.getElem_cons_succ,List.getElem_cons_zero]
      go_simp
      have hb:=(Below.refl wr20.heap.size wr20).alloc (Nat.le_refl _) (.cells #[.int .i64 0,.int .i64 0,.int .i64 0,.int .i64 0,.slice none 0 0] 39)
      have hlv:=heap_alloc_new wr20 (.cells #[.int .i64 0,.int .i64 0,.int .i64 0,.int .i64 0,.slice none 0 0] 39)
      replace HBX:=Lib.hid (HBX.out.trans (hb.mono HBX.out.size))
      replace HU:=Lib.hid (own_blw HU.out hb)
      replace HLIT:=Lib.hid (row_keep hb HLIT.out)
      have HLV:=Lib.hid hlv;have hzV:w2.heap.size ≤ wr20.heap.size:=HBX0
      replace HBX0:=Nat.le_trans HBX0 hb.size
      refine hK _ _ (fun _=>⟨rowc (row_keep2 HBX.out RX.out),rowc (row_keep2 HBX.out RLF.out)⟩) ?_
      clear hK K hS hlv hb
      try simp only [Act.put,List.getElem_toArray,List.getElem_cons_succ,List.getElem_cons_zero,List.setIfInBounds_toArray,List.set_cons_zero,List.set_cons_succ]
      generalize wr20.alloc (.cells #[.int .i64 0,.int .i64 0,.int .i64 0,.int .i64 0,.slice none 0 0] 39) = wr28 at *
      generalize wr20.heap.size = glv at *
      have hS:=(⟨rowc (row_keep2 HBX.out RX.out),rowc (row_keep2 HBX.out RLF.out)⟩:(∀ j_1,wr28.cell? ⟨gx,j_1,none⟩ = (#[.int .i64 x.id,.string x.name,.int .i64 x.rep,.int .i64 x.kind,.slice ax xl cx]:Array Value)[j_1]?) ∧ (∀ j_1,wr28.cell? ⟨w.heap.size + 1,j_1,none⟩ = (#[.int .i64 aid,.int .i64 akd,.int .i64 mr,.int .i64 md,.slice pa pn pc]:Array Value)[j_1]?))
      refine AnyE.one (i:=14) (by kernel_rfl) rfl rfl ?_
      intro K hK
      simp only [List.getElem_toArray,List.getElem_cons_succ,List.getElem_cons_zero]
      refine wp_pushRow (.tmp 26) (.tmp 29) 22 rfl w2.heap.size 3 i0 _ 1 8 Tryd.underlying22 hi hz0 hz1 hz2 rfl (by decide) intC (fun _=>rfl) intC_one (.slice ua p.length uc) p ?_ (own_mapC HU.out) glit ?_ x.id #[.int .i64 x.id] 3 HLIT.out rfl (by have:=HPL.out;unfold maxLen;omega) (by have:=HPL.out;omega) HBX0 ?_
      focus (go_simp)
      focus (go_simp)
      intro v' wr29 hown hg hq
      obtain ⟨qn,hqn⟩:∃ qn,(p ++ [x.id]).length = qn:=⟨_,rfl⟩
      rw [hqn] at hown
      have HQN:=Lib.hid hqn;clear hqn
      obtain ⟨qa,qc,rfl⟩:=own_form hown
      have hb:Below w2.heap.size wr28 wr29:=(Below.refl w2.heap.size wr28).grown hg HBX0 (fun k hk=>(HU.out.lt k hk).1)
      replace HBX:=Lib.hid (HBX.out.trans hb)
      replace HLV:=Lib.hid (grown_keep (own_mapC HU.out) hg HLV.out (by decide))
      have HP2:=Lib.hid hown
      replace HBX0:=Nat.le_trans HBX0 hg.size
      refine hK _ _ (fun _=>⟨rowc (row_keep2 HBX.out RX.out),rowc (row_keep2 HBX.out RLF.out)⟩) ?_
      clear hK K hS hown hg hq hb HU HLIT
      try simp only [Act.put,List.getElem_toArray,List.getElem_cons_succ,List.getElem_cons_zero,List.setIfInBounds_toArray,List.set_cons_zero,List.set_cons_succ]
      have hS:=(⟨rowc (row_keep2 HBX.out RX.out),rowc (row_keep2 HBX.out RLF.out)⟩:(∀ j_1,wr29.cell? ⟨gx,j_1,none⟩ = (#[.int .i64 x.id,.string x.name,.int .i64 x.rep,.int .i64 x.kind,.slice ax xl cx]:Array Value)[j_1]?) ∧ (∀ j_1,wr29.cell? ⟨w.heap.size + 1,j_1,none⟩ = (#[.int .i64 aid,.int .i64 akd,.int .i64 mr,.int .i64 md,.slice pa pn pc]:Array Value)[j_1]?))
      refine AnyE.one (i:=15) (by kernel_rfl) rfl rfl ?_
      intro K hK
      simp only [List.getElem_toArray,List.getElem_cons_succ,List.getElem_cons_zero]
      go_simp
      refine hK _ _ (fun _=>⟨rowc (row_keep2 HBX.out RX.out),rowc (row_keep2 HBX.out RLF.out)⟩) ?_
      clear hK K hS
      try simp only [Act.put,List.getElem_toArray,List.getElem_cons_succ,List.getElem_cons_zero,List.setIfInBounds_toArray,List.set_cons_zero,List.set_cons_succ]
      have hS:=(⟨rowc (row_keep2 HBX.out RX.out),rowc (row_keep2 HBX.out RLF.out)⟩:(∀ j_1,wr29.cell? ⟨gx,j_1,none⟩ = (#[.int .i64 x.id,.string x.name,.int .i64 x.rep,.int .i64 x.kind,.slice ax xl cx]:Array Value)[j_1]?) ∧ (∀ j_1,wr29.cell? ⟨w.heap.size + 1,j_1,none⟩ = (#[.int .i64 aid,.int .i64 akd,.int .i64 mr,.int .i64 md,.slice pa pn pc]:Array Value)[j_1]?))
      refine AnyE.one (i:=17) (by kernel_rfl) rfl rfl ?_
      intro K hK
      simp only [List.getElem_toArray,List.getElem_cons_succ,List.getElem_cons_zero]
      refine wp_store_part rfl 39 _ _ rfl glv 0 #[.int .i64 0,.int .i64 0,.int .i64 0,.int .i64 0,.slice none 0 0] 39 #[.int .i64 x.id,.int .i64 x.kind,.int .i64 mr,.int .i64 md,.slice qa qn qc] rfl rfl HLV.out (by kernel_rfl) (by simp [Value.oneCell']) (Nat.le_of_ble_eq_true rfl) #[.int .i64 x.id,.int .i64 x.kind,.int .i64 mr,.int .i64 md,.slice qa qn qc] rfl ?_;intro w6 r6 ho6 hb6 hz6
      refine hK _ _ (fun h=>absurd h (by decide)) ?_
      clear hK K hS
      try simp only [Act.put,List.getElem_toArray,List.getElem_cons_succ,List.getElem_cons_zero,List.setIfInBounds_toArray,List.set_cons_zero,List.set_cons_succ]
      refine AnyE.done (by kernel_rfl) ?_ _
      have HL6:=Lib.hid (lf5_of r6 ho6 hb6 HLV.out HQN.out.symm HP2.out HBX.out hzV)
      clear r6 ho6 hb6 hz6 HQN HP2 HBX HLV HBX0 hzV
      try clear hzL
      go_wp2_with fail
      go_meet
      exact ⟨glv,qa,qn,qc,rfl,HL6⟩
    ·intro K hK
     simp only [List.getElem_toArray,List.getElem_cons_succ,List.getElem_cons_zero]
     go_simp
     have hb:=(Below.refl wr19.heap.size wr19).alloc (Nat.le_refl _) (.cells #[.int .i64 0,.int .i64 0,.int .i64 0,.int .i64 0,.slice none 0 0] 39)
     have hlv:=heap_alloc_new wr19 (.cells #[.int .i64 0,.int .i64 0,.int .i64 0,.int .i64 0,.slice none 0 0] 39)
     replace HBX:=Lib.hid (HBX.out.trans (hb.mono HBX.out.size))
     replace HLIT:=Lib.hid (row_keep hb HLIT.out)
     have HLV:=Lib.hid hlv;have hzV:w2.heap.size ≤ wr19.heap.size:=HBX0
     replace HBX0:=Nat.le_trans HBX0 hb.size
     refine hK _ _ (fun _=>⟨rowc (row_keep2 HBX.out RX.out),rowc (row_keep2 HBX.out RLF.out)⟩) ?_
     clear hK K hS hlv hb
     try simp only [Act.put,List.getElem_toArray,List.getElem_cons_succ,List.getElem_cons_zero,List.setIfInBounds_toArray,List.set_cons_zero,List.set_cons_succ]
     generalize wr19.alloc (.cells #[.int .i64 0,.int .i64 0,.int .i64 0,.int .i64 0,.slice none 0 0] 39) = wr32 at *
     generalize wr19.heap.size = glv at *
     have hS:=(⟨rowc (row_keep2 HBX.out RX.out),rowc (row_keep2 HBX.out RLF.out)⟩:(∀ j_1,wr32.cell? ⟨gx,j_1,none⟩ = (#[.int .i64 x.id,.string x.name,.int .i64 x.rep,.int .i64 x.kind,.slice ax xl cx]:Array Value)[j_1]?) ∧ (∀ j_1,wr32.cell? ⟨w.heap.size + 1,j_1,none⟩ = (#[.int .i64 aid,.int .i64 akd,.int .i64 mr,.int .i64 md,.slice pa pn pc]:Array Value)[j_1]?))
     refine AnyE.one (i:=10) (by kernel_rfl) rfl rfl ?_
     intro K hK
     simp only [List.getElem_toArray,List.getElem_cons_succ,List.getElem_cons_zero]
     go_simp
     refine (cloneN_any (.slice pa pn pc) p wr32 (HPX.out.below (HBX.out)).1 (Nat.le_trans HPL.out (by decide))).mono ?_;rintro e wr33 ⟨u,rfl,hu,hb⟩
     obtain ⟨ua,uc,rfl⟩:=own_form hu
     replace HBX:=Lib.hid (HBX.out.trans (hb.mono HBX.out.size))
     replace HLIT:=Lib.hid (row_keep hb HLIT.out)
     replace HLV:=Lib.hid (row_keep hb HLV.out)
     have HU:=Lib.hid (own_baseN hu HBX0)
     replace HBX0:=Nat.le_trans HBX0 hb.size
     refine hK _ _ (fun _=>⟨rowc (row_keep2 HBX.out RX.out),rowc (row_keep2 HBX.out RLF.out)⟩) ?_
     clear hK K hS hu hb
     try simp only [Act.put,List.getElem_toArray,List.getElem_cons_succ,List.getElem_cons_zero,List.setIfInBounds_toArray,List.set_cons_zero,List.set_cons_succ]
     have hS:=(⟨rowc (row_keep2 HBX.out RX.out),rowc (row_keep2 HBX.out RLF.out)⟩:(∀ j_1,wr33.cell? ⟨gx,j_1,none⟩ = (#[.int .i64 x.id,.string x.name,.int .i64 x.rep,.int .i64 x.kind,.slice ax xl cx]:Array Value)[j_1]?) ∧ (∀ j_1,wr33.cell? ⟨w.heap.size + 1,j_1,none⟩ = (#[.int .i64 aid,.int .i64 akd,.int .i64 mr,.int .i64 md,.slice pa pn pc]:Array Value)[j_1]?))
     refine AnyE.one (i:=14) (by kernel_rfl) rfl rfl ?_
     intro K hK
     simp only [List.getElem_toArray,List.getElem_cons_succ,List.getElem_cons_zero]
     refine wp_pushRow (.tmp 26) (.tmp 29) 22 rfl w2.heap.size 3 i0 _ 1 8 Tryd.underlying22 hi hz0 hz1 hz2 rfl (by decide) intC (fun _=>rfl) intC_one (.slice ua p.length uc) p ?_ (own_mapC HU.out) glit ?_ x.id #[.int .i64 x.id] 3 HLIT.out rfl (by have:=HPL.out;unfold maxLen;omega) (by have:=HPL.out;omega) HBX0 ?_
     focus (go_simp)
     focus (go_simp)
     intro v' wr34 hown hg hq
     obtain ⟨qn,hqn⟩:∃ qn,(p ++ [x.id]).length = qn:=⟨_,rfl⟩
     rw [hqn] at hown
     have HQN:=Lib.hid hqn;clear hqn
     obtain ⟨qa,qc,rfl⟩:=own_form hown
     have hb:Below w2.heap.size wr33 wr34:=(Below.refl w2.heap.size wr33).grown hg HBX0 (fun k hk=>(HU.out.lt k hk).1)
     replace HBX:=Lib.hid (HBX.out.trans hb)
     replace HLV:=Lib.hid (grown_keep (own_mapC HU.out) hg HLV.out (by decide))
     have HP2:=Lib.hid hown
     replace HBX0:=Nat.le_trans HBX0 hg.size
     refine hK _ _ (fun _=>⟨rowc (row_keep2 HBX.out RX.out),rowc (row_keep2 HBX.out RLF.out)⟩) ?_
     clear hK K hS hown hg hq hb HU HLIT
     try simp only [Act.put,List.getElem_toArray,List.getElem_cons_succ,List.getElem_cons_zero,List.setIfInBounds_toArray,List.set_cons_zero,List.set_cons_succ]
     have hS:=(⟨rowc (row_keep2 HBX.out RX.out),rowc (row_keep2 HBX.out RLF.out)⟩:(∀ j_1,wr34.cell? ⟨gx,j_1,none⟩ = (#[.int .i64 x.id,.string x.name,.int .i64 x.rep,.int .i64 x.kind,.slice ax xl cx]:Array Value)[j_1]?) ∧ (∀ j_1,wr34.cell? ⟨w.heap.size + 1,j_1,none⟩ = (#[.int .i64 aid,.int .i64 akd,.int .i64 mr,.int .i64 md,.slice pa pn pc]:Array Value)[j_1]?))
     refine AnyE.one (i:=15) (by kernel_rfl) rfl rfl ?_
     intro K hK
     simp only [List.getElem_toArray,List.getElem_cons_succ,List.getElem_cons_zero]
     go_simp
     refine hK _ _ (fun _=>⟨rowc (row_keep2 HBX.out RX.out),rowc (row_keep2 HBX.out RLF.out)⟩) ?_
     clear hK K hS
     try simp only [Act.put,List.getElem_toArray,List.getElem_cons_succ,List.getElem_cons_zero,List.setIfInBounds_toArray,List.set_cons_zero,List.set_cons_succ]
     have hS:=(⟨rowc (row_keep2 HBX.out RX.out),rowc (row_keep2 HBX.out RLF.out)⟩:(∀ j_1,wr34.cell? ⟨gx,j_1,none⟩ = (#[.int .i64 x.id,.string x.name,.int .i64 x.rep,.int .i64 x.kind,.slice ax xl cx]:Array Value)[j_1]?) ∧ (∀ j_1,wr34.cell? ⟨w.heap.size + 1,j_1,none⟩ = (#[.int .i64 aid,.int .i64 akd,.int .i64 mr,.int .i64 md,.slice pa pn pc]:Array Value)[j_1]?))
     refine AnyE.one (i:=17) (by kernel_rfl) rfl rfl ?_
     intro K hK
     simp only [List.getElem_toArray,List.getElem_cons_succ,List.getElem_cons_zero]
     refine wp_store_part rfl 39 _ _ rfl glv 0 #[.int .i64 0,.int .i64 0,.int .i64 0,.int .i64 0,.slice none 0 0] 39 #[.int .i64 x.id,.int .i64 x.kind,.int .i64 mr,.int .i64 md,.slice qa qn qc] rfl rfl HLV.out (by kernel_rfl) (by simp [Value.oneCell']) (Nat.le_of_ble_eq_true rfl) #[.int .i64 x.id,.int .i64 x.kind,.int .i64 mr,.int .i64 md,.slice qa qn qc] rfl ?_;intro w6 r6 ho6 hb6 hz6
     refine hK _ _ (fun h=>absurd h (by decide)) ?_
     clear hK K hS
     try simp only [Act.put,List.getElem_toArray,List.getElem_cons_succ,List.getElem_cons_zero,List.setIfInBounds_toArray,List.set_cons_zero,List.set_cons_succ]
     refine AnyE.done (by kernel_rfl) ?_ _
     have HL6:=Lib.hid (lf5_of r6 ho6 hb6 HLV.out HQN.out.symm HP2.out HBX.out hzV)
     clear r6 ho6 hb6 hz6 HQN HP2 HBX HLV HBX0 hzV
     try clear hzL
     go_wp2_with fail
     go_meet
     exact ⟨glv,qa,qn,qc,rfl,HL6⟩
   ·intro K hK
    simp only [List.getElem_toArray,List.getElem_cons_succ,List.getElem_cons_zero]
    go_simp
    have hb:=(Below.refl wd.heap.size wd).alloc (Nat.le_refl _) (.cells #[.int .i64 0,.int .i64 0,.int .i64 0,.int .i64 0,.slice none 0 0] 39)
    have hlv:=heap_alloc_new wd (.cells #[.int .i64 0,.int .i64 0,.int .i64 0,.int .i64 0,.slice none 0 0] 39)
    replace HBX:=Lib.hid (HBX.out.trans (hb.mono HBX.out.size))
    have HLV:=Lib.hid hlv;have hzV:w2.heap.size ≤ wd.heap.size:=HBX0
    replace HBX0:=Nat.le_trans HBX0 hb.size
    refine hK _ _ (fun _=>⟨rowc (row_keep2 HBX.out RX.out),rowc (row_keep2 HBX.out RLF.out)⟩) ?_
    clear hK K hS hlv hb
    try simp only [Act.put,List.getElem_toArray,List.getElem_cons_succ,List.getElem_cons_zero,List.setIfInBounds_toArray,List.set_cons_zero,List.set_cons_succ]
    generalize wd.alloc (.cells #[.int .i64 0,.int .i64 0,.int .i64 0,.int .i64 0,.slice none 0 0] 39) = wr37 at *
    generalize wd.heap.size = glv at *
    have hS:=(⟨rowc (row_keep2 HBX.out RX.out),rowc (row_keep2 HBX.out RLF.out)⟩:(∀ j_1,wr37.cell? ⟨gx,j_1,none⟩ = (#[.int .i64 x.id,.string x.name,.int .i64 x.rep,.int .i64 x.kind,.slice ax xl cx]:Array Value)[j_1]?) ∧ (∀ j_1,wr37.cell? ⟨w.heap.size + 1,j_1,none⟩ = (#[.int .i64 aid,.int .i64 akd,.int .i64 mr,.int .i64 md,.slice pa pn pc]:Array Value)[j_1]?))
    refine AnyE.two (i:=10) (j:=13) (by kernel_rfl) rfl rfl rfl rfl ?_ ?_
    ·intro K hK
     simp only [List.getElem_toArray,List.getElem_cons_succ,List.getElem_cons_zero]
     go_simp
     refine (cloneN_any (.slice pa pn pc) p wr37 (HPX.out.below (HBX.out)).1 (Nat.le_trans HPL.out (by decide))).mono ?_;rintro e wr38 ⟨u,rfl,hu,hb⟩
     obtain ⟨ua,uc,rfl⟩:=own_form hu
     replace HBX:=Lib.hid (HBX.out.trans (hb.mono HBX.out.size))
     replace HLV:=Lib.hid (row_keep hb HLV.out)
     have HU:=Lib.hid (own_baseN hu HBX0)
     replace HBX0:=Nat.le_trans HBX0 hb.size
     refine hK _ _ (fun _=>⟨rowc (row_keep2 HBX.out RX.out),rowc (row_keep2 HBX.out RLF.out)⟩) ?_
     clear hK K hS hu hb
     try simp only [Act.put,List.getElem_toArray,List.getElem_cons_succ,List.getElem_cons_zero,List.setIfInBounds_toArray,List.set_cons_zero,List.set_cons_succ]
     have hS:=(⟨rowc (row_keep2 HBX.out RX.out),rowc (row_keep2 HBX.out RLF.out)⟩:(∀ j_1,wr38.cell? ⟨gx,j_1,none⟩ = (#[.int .i64 x.id,.string x.name,.int .i64 x.rep,.int .i64 x.kind,.slice ax xl cx]:Array Value)[j_1]?) ∧ (∀ j_1,wr38.cell? ⟨w.heap.size + 1,j_1,none⟩ = (#[.int .i64 aid,.int .i64 akd,.int .i64 mr,.int .i64 md,.slice pa pn pc]:Array Value)[j_1]?))
     refine AnyE.one (i:=13) (by kernel_rfl) rfl rfl ?_
     intro K hK
     simp only [List.getElem_toArray,List.getElem_cons_succ,List.getElem_cons_zero]
     go_simp
     have hb:=(Below.refl wr38.heap.size wr38).alloc (Nat.le_refl _) (.cells #[.int .i64 x.id] 3)
     have hlit:=heap_alloc_new wr38 (.cells #[.int .i64 x.id] 3)
     replace HBX:=Lib.hid (HBX.out.trans (hb.mono HBX.out.size))
     replace HU:=Lib.hid (own_blw HU.out hb)
     replace HLV:=Lib.hid (row_keep hb HLV.out)
     have HLIT:=Lib.hid hlit;have hzL:w2.heap.size ≤ wr38.heap.size:=HBX0
     skip
     replace HBX0:=Nat.le_trans HBX0 hb.size
     refine hK _ _ (fun _=>⟨rowc (row_keep2 HBX.out RX.out),rowc (row_keep2 HBX.out RLF.out)⟩) ?_
     clear hK K hS hlit hb
     try simp only [Act.put,List.getElem_toArray,List.getElem_cons_succ,List.getElem_cons_zero,List.setIfInBounds_toArray,List.set_cons_zero,List.set_cons_succ]
     generalize wr38.alloc (.cells #[.int .i64 x.id] 3) = wr39 at *
     generalize wr38.heap.size = glit at *
     have hS:=(⟨rowc (row_keep2 HBX.out RX.out),rowc (row_keep2 HBX.out RLF.out)⟩:(∀ j_1,wr39.cell? ⟨gx,j_1,none⟩ = (#[.int .i64 x.id,.string x.name,.int .i64 x.rep,.int .i64 x.kind,.slice ax xl cx]:Array Value)[j_1]?) ∧ (∀ j_1,wr39.cell? ⟨w.heap.size + 1,j_1,none⟩ = (#[.int .i64 aid,.int .i64 akd,.int .i64 mr,.int .i64 md,.slice pa pn pc]:Array Value)[j_1]?))
     refine AnyE.one (i:=14) (by kernel_rfl) rfl rfl ?_
     intro K hK
     simp only [List.getElem_toArray,List.getElem_cons_succ,List.getElem_cons_zero]
     refine wp_pushRow (.tmp 26) (.tmp 29) 22 rfl w2.heap.size 3 i0 _ 1 8 Tryd.underlying22 hi hz0 hz1 hz2 rfl (by decide) intC (fun _=>rfl) intC_one (.slice ua p.length uc) p ?_ (own_mapC HU.out) glit ?_ x.id #[.int .i64 x.id] 3 HLIT.out rfl (by have:=HPL.out;unfold maxLen;omega) (by have:=HPL.out;omega) HBX0 ?_
     focus (go_simp)
     focus (go_simp)
     intro v' wr40 hown hg hq
     obtain ⟨qn,hqn⟩:∃ qn,(p ++ [x.id]).length = qn:=⟨_,rfl⟩
     rw [hqn] at hown
     have HQN:=Lib.hid hqn;clear hqn
     obtain ⟨qa,qc,rfl⟩:=own_form hown
     have hb:Below w2.heap.size wr39 wr40:=(Below.refl w2.heap.size wr39).grown hg HBX0 (fun k hk=>(HU.out.lt k hk).1)
     replace HBX:=Lib.hid (HBX.out.trans hb)
     replace HLV:=Lib.hid (grown_keep (own_mapC HU.out) hg HLV.out (by decide))
     have HP2:=Lib.hid hown
     replace HBX0:=Nat.le_trans HBX0 hg.size
     refine hK _ _ (fun _=>⟨rowc (row_keep2 HBX.out RX.out),rowc (row_keep2 HBX.out RLF.out)⟩) ?_
     clear hK K hS hown hg hq hb HU HLIT
     try simp only [Act.put,List.getElem_toArray,List.getElem_cons_succ,List.getElem_cons_zero,List.setIfInBounds_toArray,List.set_cons_zero,List.set_cons_succ]
     have hS:=(⟨rowc (row_keep2 HBX.out RX.out),rowc (row_keep2 HBX.out RLF.out)⟩:(∀ j_1,wr40.cell? ⟨gx,j_1,none⟩ = (#[.int .i64 x.id,.string x.name,.int .i64 x.rep,.int .i64 x.kind,.slice ax xl cx]:Array Value)[j_1]?) ∧ (∀ j_1,wr40.cell? ⟨w.heap.size + 1,j_1,none⟩ = (#[.int .i64 aid,.int .i64 akd,.int .i64 mr,.int .i64 md,.slice pa pn pc]:Array Value)[j_1]?))
     refine AnyE.one (i:=15) (by kernel_rfl) rfl rfl ?_
     intro K hK
     simp only [List.getElem_toArray,List.getElem_cons_succ,List.getElem_cons_zero]
     go_simp
     refine hK _ _ (fun _=>⟨rowc (row_keep2 HBX.out RX.out),rowc (row_keep2 HBX.out RLF.out)⟩) ?_
     clear hK K hS
     try simp only [Act.put,List.getElem_toArray,List.getElem_cons_succ,List.getElem_cons_zero,List.setIfInBounds_toArray,List.set_cons_zero,List.set_cons_succ]
     have hS:=(⟨rowc (row_keep2 HBX.out RX.out),rowc (row_keep2 HBX.out RLF.out)⟩:(∀ j_1,wr40.cell? ⟨gx,j_1,none⟩ = (#[.int .i64 x.id,.string x.name,.int .i64 x.rep,.int .i64 x.kind,.slice ax xl cx]:Array Value)[j_1]?) ∧ (∀ j_1,wr40.cell? ⟨w.heap.size + 1,j_1,none⟩ = (#[.int .i64 aid,.int .i64 akd,.int .i64 mr,.int .i64 md,.slice pa pn pc]:Array Value)[j_1]?))
     refine AnyE.one (i:=17) (by kernel_rfl) rfl rfl ?_
     intro K hK
     simp only [List.getElem_toArray,List.getElem_cons_succ,List.getElem_cons_zero]
     refine wp_store_part rfl 39 _ _ rfl glv 0 #[.int .i64 0,.int .i64 0,.int .i64 0,.int .i64 0,.slice none 0 0] 39 #[.int .i64 x.id,.int .i64 x.kind,.int .i64 mr,.int .i64 md,.slice qa qn qc] rfl rfl HLV.out (by kernel_rfl) (by simp [Value.oneCell']) (Nat.le_of_ble_eq_true rfl) #[.int .i64 x.id,.int .i64 x.kind,.int .i64 mr,.int .i64 md,.slice qa qn qc] rfl ?_;intro w6 r6 ho6 hb6 hz6
     refine hK _ _ (fun h=>absurd h (by decide)) ?_
     clear hK K hS
     try simp only [Act.put,List.getElem_toArray,List.getElem_cons_succ,List.getElem_cons_zero,List.setIfInBounds_toArray,List.set_cons_zero,List.set_cons_succ]
     refine AnyE.done (by kernel_rfl) ?_ _
     have HL6:=Lib.hid (lf5_of r6 ho6 hb6 HLV.out HQN.out.symm HP2.out HBX.out hzV)
     clear r6 ho6 hb6 hz6 HQN HP2 HBX HLV HBX0 hzV
     try clear hzL
     go_wp2_with fail
     go_meet
     exact ⟨glv,qa,qn,qc,rfl,HL6⟩
    ·intro K hK
     simp only [List.getElem_toArray,List.getElem_cons_succ,List.getElem_cons_zero]
     go_simp
     have hb:=(Below.refl wr37.heap.size wr37).alloc (Nat.le_refl _) (.cells #[.int .i64 x.id] 3)
     have hlit:=heap_alloc_new wr37 (.cells #[.int .i64 x.id] 3)
     replace HBX:=Lib.hid (HBX.out.trans (hb.mono HBX.out.size))
     replace HLV:=Lib.hid (row_keep hb HLV.out)
     have HLIT:=Lib.hid hlit;have hzL:w2.heap.size ≤ wr37.heap.size:=HBX0
     skip
     replace HBX0:=Nat.le_trans HBX0 hb.size
     refine hK _ _ (fun _=>⟨rowc (row_keep2 HBX.out RX.out),rowc (row_keep2 HBX.out RLF.out)⟩) ?_
     clear hK K hS hlit hb
     try simp only [Act.put,List.getElem_toArray,List.getElem_cons_succ,List.getElem_cons_zero,List.setIfInBounds_toArray,List.set_cons_zero,List.set_cons_succ]
     generalize wr37.alloc (.cells #[.int .i64 x.id] 3) = wr43 at *
     generalize wr37.heap.size = glit at *
     have hS:=(⟨rowc (row_keep2 HBX.out RX.out),rowc (row_keep2 HBX.out RLF.out)⟩:(∀ j_1,wr43.cell? ⟨gx,j_1,none⟩ = (#[.int .i64 x.id,.string x.name,.int .i64 x.rep,.int .i64 x.kind,.slice ax xl cx]:Array Value)[j_1]?) ∧ (∀ j_1,wr43.cell? ⟨w.heap.size + 1,j_1,none⟩ = (#[.int .i64 aid,.int .i64 akd,.int .i64 mr,.int .i64 md,.slice pa pn pc]:Array Value)[j_1]?))
     refine AnyE.one (i:=10) (by kernel_rfl) rfl rfl ?_
     intro K hK
     simp only [List.getElem_toArray,List.getElem_cons_succ,List.getElem_cons_zero]
     go_simp
     refine (cloneN_any (.slice pa pn pc) p wr43 (HPX.out.below (HBX.out)).1 (Nat.le_trans HPL.out (by decide))).mono ?_;rintro e wr44 ⟨u,rfl,hu,hb⟩
     obtain ⟨ua,uc,rfl⟩:=own_form hu
     replace HBX:=Lib.hid (HBX.out.trans (hb.mono HBX.out.size))
     replace HLIT:=Lib.hid (row_keep hb HLIT.out)
     replace HLV:=Lib.hid (row_keep hb HLV.out)
     have HU:=Lib.hid (own_baseN hu HBX0)
     replace HBX0:=Nat.le_trans HBX0 hb.size
     refine hK _ _ (fun _=>⟨rowc (row_keep2 HBX.out RX.out),rowc (row_keep2 HBX.out RLF.out)⟩) ?_
     clear hK K hS hu hb
     try simp only [Act.put,List.getElem_toArray,List.getElem_cons_succ,List.getElem_cons_zero,List.setIfInBounds_toArray,List.set_cons_zero,List.set_cons_succ]
     have hS:=(⟨rowc (row_keep2 HBX.out RX.out),rowc (row_keep2 HBX.out RLF.out)⟩:(∀ j_1,wr44.cell? ⟨gx,j_1,none⟩ = (#[.int .i64 x.id,.string x.name,.int .i64 x.rep,.int .i64 x.kind,.slice ax xl cx]:Array Value)[j_1]?) ∧ (∀ j_1,wr44.cell? ⟨w.heap.size + 1,j_1,none⟩ = (#[.int .i64 aid,.int .i64 akd,.int .i64 mr,.int .i64 md,.slice pa pn pc]:Array Value)[j_1]?))
     refine AnyE.one (i:=14) (by kernel_rfl) rfl rfl ?_
     intro K hK
     simp only [List.getElem_toArray,List.getElem_cons_succ,List.getElem_cons_zero]
     refine wp_pushRow (.tmp 26) (.tmp 29) 22 rfl w2.heap.size 3 i0 _ 1 8 Tryd.underlying22 hi hz0 hz1 hz2 rfl (by decide) intC (fun _=>rfl) intC_one (.slice ua p.length uc) p ?_ (own_mapC HU.out) glit ?_ x.id #[.int .i64 x.id] 3 HLIT.out rfl (by have:=HPL.out;unfold maxLen;omega) (by have:=HPL.out;omega) HBX0 ?_
     focus (go_simp)
     focus (go_simp)
     intro v' wr45 hown hg hq
     obtain ⟨qn,hqn⟩:∃ qn,(p ++ [x.id]).length = qn:=⟨_,rfl⟩
     rw [hqn] at hown
     have HQN:=Lib.hid hqn;clear hqn
     obtain ⟨qa,qc,rfl⟩:=own_form hown
     have hb:Below w2.heap.size wr44 wr45:=(Below.refl w2.heap.size wr44).grown hg HBX0 (fun k hk=>(HU.out.lt k hk).1)
     replace HBX:=Lib.hid (HBX.out.trans hb)
     replace HLV:=Lib.hid (grown_keep (own_mapC HU.out) hg HLV.out (by decide))
     have HP2:=Lib.hid hown
     replace HBX0:=Nat.le_trans HBX0 hg.size
     refine hK _ _ (fun _=>⟨rowc (row_keep2 HBX.out RX.out),rowc (row_keep2 HBX.out RLF.out)⟩) ?_
     clear hK K hS hown hg hq hb HU HLIT
     try simp only [Act.put,List.getElem_toArray,List.getElem_cons_succ,List.getElem_cons_zero,List.setIfInBounds_toArray,List.set_cons_zero,List.set_cons_succ]
     have hS:=(⟨rowc (row_keep2 HBX.out RX.out),rowc (row_keep2 HBX.out RLF.out)⟩:(∀ j_1,wr45.cell? ⟨gx,j_1,none⟩ = (#[.int .i64 x.id,.string x.name,.int .i64 x.rep,.int .i64 x.kind,.slice ax xl cx]:Array Value)[j_1]?) ∧ (∀ j_1,wr45.cell? ⟨w.heap.size + 1,j_1,none⟩ = (#[.int .i64 aid,.int .i64 akd,.int .i64 mr,.int .i64 md,.slice pa pn pc]:Array Value)[j_1]?))
     refine AnyE.one (i:=15) (by kernel_rfl) rfl rfl ?_
     intro K hK
     simp only [List.getElem_toArray,List.getElem_cons_succ,List.getElem_cons_zero]
     go_simp
     refine hK _ _ (fun _=>⟨rowc (row_keep2 HBX.out RX.out),rowc (row_keep2 HBX.out RLF.out)⟩) ?_
     clear hK K hS
     try simp only [Act.put,List.getElem_toArray,List.getElem_cons_succ,List.getElem_cons_zero,List.setIfInBounds_toArray,List.set_cons_zero,List.set_cons_succ]
     have hS:=(⟨rowc (row_keep2 HBX.out RX.out),rowc (row_keep2 HBX.out RLF.out)⟩:(∀ j_1,wr45.cell? ⟨gx,j_1,none⟩ = (#[.int .i64 x.id,.string x.name,.int .i64 x.rep,.int .i64 x.kind,.slice ax xl cx]:Array Value)[j_1]?) ∧ (∀ j_1,wr45.cell? ⟨w.heap.size + 1,j_1,none⟩ = (#[.int .i64 aid,.int .i64 akd,.int .i64 mr,.int .i64 md,.slice pa pn pc]:Array Value)[j_1]?))
     refine AnyE.one (i:=17) (by kernel_rfl) rfl rfl ?_
     intro K hK
     simp only [List.getElem_toArray,List.getElem_cons_succ,List.getElem_cons_zero]
     refine wp_store_part rfl 39 _ _ rfl glv 0 #[.int .i64 0,.int .i64 0,.int .i64 0,.int .i64 0,.slice none 0 0] 39 #[.int .i64 x.id,.int .i64 x.kind,.int .i64 mr,.int .i64 md,.slice qa qn qc] rfl rfl HLV.out (by kernel_rfl) (by simp [Value.oneCell']) (Nat.le_of_ble_eq_true rfl) #[.int .i64 x.id,.int .i64 x.kind,.int .i64 mr,.int .i64 md,.slice qa qn qc] rfl ?_;intro w6 r6 ho6 hb6 hz6
     refine hK _ _ (fun h=>absurd h (by decide)) ?_
     clear hK K hS
     try simp only [Act.put,List.getElem_toArray,List.getElem_cons_succ,List.getElem_cons_zero,List.setIfInBounds_toArray,List.set_cons_zero,List.set_cons_succ]
     refine AnyE.done (by kernel_rfl) ?_ _
     have HL6:=Lib.hid (lf5_of r6 ho6 hb6 HLV.out HQN.out.symm HP2.out HBX.out hzV)
     clear r6 ho6 hb6 hz6 HQN HP2 HBX HLV HBX0 hzV
     try clear hzL
     go_wp2_with fail
     go_meet
     exact ⟨glv,qa,qn,qc,rfl,HL6⟩
  case rest =>
  obtain ⟨gl,qa,qn,qc,hs8,HL5⟩:=hcut
  subst hs8
  have RX5:=Lib.hid (row_keep HL5.out.2.2.2.2 RX.out)
  have cX:=rowc RX5.out
  go_upto_if 34 with (fail)
  go_cut [] (fun wx=>Hid (Lf5 w2 wx gl x.id x.kind (if x.rep = 3 then mr + 1 else mr) md qa qn qc (p ++ [x.id])))
  case first =>
   have cL:=rowc HL5.out.1;have fL:=rowf HL5.out.1
   by_cases h3:x.rep = 3
   ·have d3:((x.rep:Int) == 3) = true:=by simpa using h3
    have H3:=Lib.hid (if_pos h3:(if x.rep = 3 then mr + 1 else mr) = mr + 1)
    clear h3
    go_wp2_with fail
    go_meet
    rw [H3.out]
    exact HL5.out.up.1 _
   ·have d3:((x.rep:Int) == 3) = false:=by simpa using h3
    have H3:=Lib.hid (if_neg h3:(if x.rep = 3 then mr + 1 else mr) = mr)
    clear h3
    go_wp2_with fail
    go_meet
    rw [H3.out]
    exact HL5.out
  case rest =>
  have HL6:=hcut
  clear hcut HL5 RX5 cX
  have RX6:=Lib.hid (row_keep HL6.out.2.2.2.2 RX.out)
  have cX:=rowc RX6.out
  obtain ⟨mr2,hmr2e⟩:∃ m,(if x.rep = 3 then mr + 1 else mr) = m:=⟨_,rfl⟩
  have hmrb:0 ≤ mr2 ∧ mr2 ≤ mr + 1:=by rw [← hmr2e];split <;> omega
  have HME:=Lib.hid hmr2e
  rw [hmr2e] at HL6
  clear hmr2e
  go_upto_if 41 with (fail)
  go_cut [] (fun wx=>Hid (Lf5 w2 wx gl x.id x.kind mr2 (if x.rep ≠ 1 then md + 1 else md) qa qn qc (p ++ [x.id])))
  case first =>
   have cL:=rowc HL6.out.1;have fL:=rowf HL6.out.1
   by_cases h3:x.rep = 1
   ·have d3:((x.rep:Int) != 1) = false:=by simpa using h3
    have H3:=Lib.hid (if_neg (fun h=>h h3):(if x.rep ≠ 1 then md + 1 else md) = md)
    clear h3
    go_wp2_with fail
    go_meet
    rw [H3.out]
    exact HL6.out
   ·have d3:((x.rep:Int) != 1) = true:=by simpa using h3
    have H3:=Lib.hid (if_pos h3:(if x.rep ≠ 1 then md + 1 else md) = md + 1)
    clear h3
    go_wp2_with fail
    go_meet
    rw [H3.out]
    exact HL6.out.up.2 _
  case rest =>
  have HL7:=hcut
  clear hcut HL6 RX6 cX
  obtain ⟨md2,hmd2e⟩:∃ m,(if x.rep ≠ 1 then md + 1 else md) = m:=⟨_,rfl⟩
  have hmdb:0 ≤ md2 ∧ md2 ≤ md + 1:=by rw [← hmd2e];split <;> omega
  have HDE:=Lib.hid hmd2e
  rw [hmd2e] at HL7
  clear hmd2e
  obtain ⟨rL,hgl2,hqn,hqI,hbx⟩:=HL7.out
  have RL:=Lib.hid rL;have HQN:=Lib.hid hqn;have HQI:=Lib.hid hqI
  have RX7:=Lib.hid (row_keep hbx RX.out)
  replace RN:=Lib.hid (row_keep hbx RN.out);replace RLF:=Lib.hid (row_keep hbx RLF.out);replace HR:=Lib.hid (HR.out.below hbx);replace HBr:=Lib.hid (HBr.out.trans (hbx.mono HBr.out.size));replace HNX:=Lib.hid (HNX.out.under (hbx.mono (by omega)))
  have hzc:=hbx.size
  clear hbx rL hqn hqI HL7 HPX
  obtain ⟨wo,hwo⟩:∃ wo,wo = wc:=⟨_,rfl⟩;subst hwo
  have hbo:w.heap.size + 1 + 1 ≤ wo.heap.size:=by omega
  have cX:=rowc RX7.out;have cL:=rowc RL.out
  have hLN:LR.length ≤ sizeL (l.take k):=by have:=congrArg List.length HM.out;rw [List.length_map] at this;rw [this];exact lvL_len.2 _ _ _ _
  have HLN:=Lib.hid hLN
  clear hLN
  have HMB:=Lib.hid hmrb;have HDB:=Lib.hid hmdb
  clear hmrb hmdb
  by_cases h0:x.kind = 0
  ·have d0:((x.kind:Int) == 0) = true:=by simpa using h0
   have H0:=Lib.hid h0
   have HCL:=Lib.hid (HIX.out (.slice ax xl cx) (.slice qa qn qc) x.id x.kind mr2 md2 (p ++ [x.id]) wo (HNX.out.mono fun b hb _=>Nat.lt_of_lt_of_le hb HBr.out.size) HOX.out HQI.out (by have:=HPN.out;have:=HHX.out;have:=HH.out;rw [List.length_append];simp only [List.length_cons,List.length_nil];omega) (by have:=HZX.out;have:=HS.out;omega) HMB.out.1 (by have:=HMB.out.2;have:=HHX.out;have:=HMR.out;omega) HDB.out.1 (by have:=HDB.out.2;have:=HHX.out;have:=HMD.out;omega))
   unfold ndA at HCL
   clear h0
   go_wp2_with fail
   refine HCL.out.mono ?_;rintro e w4 ⟨v4,LR4,rfl,hr4,hm4,hb4⟩
   replace RN:=Lib.hid ((hb4.block w.heap.size (by omega)).trans RN.out);replace RLF:=Lib.hid ((hb4.block (w.heap.size + 1) (by omega)).trans RLF.out);replace HR:=Lib.hid (HR.out.below hb4);replace HBr:=Lib.hid (HBr.out.trans (hb4.mono HBr.out.size))
   have hbz:w.heap.size + 1 + 1 ≤ w4.heap.size:=Nat.le_trans hbo hb4.size
   have H4:=Lib.hid hr4;have HM4:=Lib.hid hm4
   obtain ⟨a4,c4,rfl⟩:=own_form hr4.1
   have h63:LR.length + LR4.length ≤ 100000:=by
    have h1:=congrArg List.length HM4.out;rw [List.length_map] at h1
    have h2:=lvL_len.2 x.sub mr2 md2 (p ++ [x.id])
    have h3:=HZX.out;have h4:=HS.out;have h5:=HLN.out;rw [size_eq] at h3;omega
   have h64:LR.length + LR4.length ≤ maxLen:=by unfold maxLen;omega
   have h65:(LR.length + LR4.length) * 56 ≤ 140737488355328:=by omega
   clear hr4 hm4 hb4 cX cL HCL
   go_wp2_with (at_builtin;refine wpList_appRows rfl _ _ 82 rfl (w.heap.size + 1 + 1) 39 i1 _ 5 56 Tryd.underlying82 hj hy0 hy1 hy2 rfl (by decide) lfC (fun _=>rfl) lfC_one v5 LR rfl HR.out.1 wo.heap.size _ LR4 rfl H4.out.1 h64 h65 hbz ?_;intro v' w6 hown' hgr;obtain ⟨av2,cv2,rfl⟩:=own_form hown';have HO4:=Lib.hid hown';have HG4:=Lib.hid hgr;clear hown' hgr)
   go_roundw
   case rel =>
    have hbg:=(Below.refl w.heap.size w4).grown HG4.out (by omega) (fun k hk=>by have:=(HR.out.1.lt k hk).1;omega)
    have hbg':=HG4.out.size
    refine ⟨k + 1,.slice av2 (LR ++ LR4).length cv2,LR ++ LR4,Hlt.out,by go_num,by rw [List.length_append],⟨HO4.out,fun q hq=>?_⟩,?_,.inr trivial,HBr.out.trans hbg,grown_keep HR.out.1 HG4.out RN.out (by decide),grown_leaf HR.out.1 HG4.out RLF.out⟩
    ·rcases List.mem_append.1 hq with hq | hq
     ·exact (HR.out.2 q hq).keep hbg' fun g cs fz hg=>grown_keep HR.out.1 HG4.out hg (by decide)
     ·exact (H4.out.2 q hq).keep hbg' fun g cs fz hg=>grown_keep HR.out.1 HG4.out hg (by decide)
    ·show List.map Prod.fst _ = lvL _ mr md p
     rw [List.map_append,HM.out,HSN.out,lvL_app,HM4.out]
     simp only [lvL,List.append_nil]
     rw [lvN_eq,if_pos H0.out,HME.out,HDE.out]
   case measure=>have:=Hlt.out;simp [intOf];omega
  ·have d0:((x.kind:Int) == 0) = false:=by simpa using h0
   have H0:=Lib.hid h0
   clear h0
   have h63:LR.length + 1 ≤ maxLen:=by have:=HLN.out;have:=HZX.out;have:=HS.out;unfold maxLen;omega
   have h64:(LR.length + 1) * 56 ≤ 140737488355328:=by have:=HLN.out;have:=HZX.out;have:=HS.out;omega
   go_wp2_with (at_builtin;refine wpList_pushRow rfl _ _ 82 rfl (w.heap.size + 1 + 1) 39 i1 _ 5 56 Tryd.underlying82 hj hy0 hy1 hy2 rfl (by decide) lfC (fun _=>rfl) lfC_one v5 LR rfl HR.out.1 _ _ rfl rfl h63 h64 hbo (⟨x.id,x.kind,mr2,md2,p ++ [x.id]⟩,.slice qa qn qc) _ rfl ?_;intro v' w4 hown' hgr hq5;obtain ⟨av2,cv2,rfl⟩:=own_form hown';have HO4:=Lib.hid hown';have HG4:=Lib.hid hgr;clear hown' hgr hq5)
   go_roundw
   case rel =>
    have hbg:=grow_below HR.out.1 HG4.out hbo
    refine ⟨k + 1,.slice av2 (LR ++ [((⟨x.id,x.kind,mr2,md2,p ++ [x.id]⟩,.slice qa qn qc):Lvf × Value)]).length cv2,LR ++ [(⟨x.id,x.kind,mr2,md2,p ++ [x.id]⟩,.slice qa qn qc)],Hlt.out,by go_num,by rw [List.length_append];rfl,⟨HO4.out,fun q hq=>?_⟩,?_,.inr trivial,HBr.out.trans (hbg.mono (by omega)),grown_row HR.out.1 HG4.out RN.out (by decide),grown_leaf2 HR.out.1 HG4.out RLF.out⟩
    ·rcases List.mem_append.1 hq with hq | hq
     ·exact (HR.out.2 q hq).keep hbg.size fun g cs fz hg=>grown_row HR.out.1 HG4.out hg (by decide)
     ·obtain rfl:=List.mem_singleton.1 hq
      exact HQI.out.keep hbg.size fun g cs fz hg=>grown_row HR.out.1 HG4.out hg (by decide)
    ·show List.map Prod.fst _ = lvL _ mr md p
     rw [List.map_append,HM.out,HSN.out,lvL_app]
     simp only [lvL,List.append_nil,List.map_cons,List.map_nil]
     rw [lvN_eq,if_neg H0.out,HME.out,HDE.out]
   case measure=>have:=Hlt.out;simp [intOf];omega
end Go.Proofs.YtkmhmnffbgedgaaDoor
