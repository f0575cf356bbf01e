/- The walks of the laws' tame and of the document's OwnNode. -/
import Derived.Test.YtkmhmnffbgedgaaDoorTw0
import Derived.Test.YtkmhmnffbgedgaaDoorRegE
import Derived.Deep.DeepCutAuto
namespace Go.Proofs.YtkmhmnffbgedgaaDoor
set_option maxHeartbeats 16000000
set_option linter.unusedVariables false
set_option linter.unusedSimpArgs false
open Go Go.RowKit Go.ChangeShapes
def SomeBool (w:World) (e:Ending) (w':World):Prop:=∃ b,e = .returned (.bool b) ∧ Below w.heap.size w w'
set_option maxRecDepth 100000 in
theorem tame_any (n:Nd) (u:Value) (w:World) (hN:IsNds (· < w.heap.size) w u n.sub) (hO:∀ x ∈ nodes n,x.Ok1) :
  Calls Tryd.prog 14 #[.agg (ndA n u)] w (SomeBool w):=by
 have hw:Below w.heap.size w (w.alloc (.cells (ndA n u) 47)):=(Below.refl _ _).alloc (Nat.le_refl _) _
 have HC:=Lib.hid (flat1_any n u _ ((hN.under hw).mono (fun b hb _=>Nat.lt_of_lt_of_le hb hw.size)) hO)
 have hne:0 < (flatF [] n 1 (-1)).length:=by rw [flatF_eq,if_neg (by simp)];exact Nat.lt_of_lt_of_le (by simp) (flat_pre.2 n.sub _ _ _).length_le
 have hle:(flatF [] n 1 (-1)).length ≤ 2001:=flatF_len.1 n [] 1 (-1) (by simp)
 obtain ⟨F,hF⟩:∃ F,flatF [] n 1 (-1) = F:=⟨_,rfl⟩
 rw [hF] at HC hne hle
 obtain ⟨ad,cp,rfl⟩:=hN.form
 unfold ndA at *
 have HW0:=Lib.hid hw
 clear hw hF hN hO
 go_enter Tryd.func14,Tryd.ntmps14
 go_wp2_with fail
 refine HC.out.mono ?_;rintro e w1 ⟨v,L,rfl,ho,hm,hok,hk⟩
 have HB:=Lib.hid (HW0.out.trans (hk.below.mono HW0.out.size))
 subst hm
 rw [List.length_map] at hne hle
 obtain ⟨g,cv,rfl,hgB,hgz,hpa⟩:=pls_at ho hne
 have HPA:=Lib.hid hpa
 clear ho hok hk hpa HC HW0
 obtain ⟨N,hN⟩:∃ N,L.length = N:=⟨_,rfl⟩
 rw [hN] at hne hle ⊢
 have HLN:=Lib.hid hN
 clear hN
 go_wp2_with fail
 go_loop [4,5] (fun s i=>∃ (k:Nat) (q:Int),k ≤ N ∧ i = .int .i64 (k:Nat) ∧ s = .int .i64 q) (fun _ i=>N - (intOf i).toNat)
 case atStart=>exact ⟨0,0,Nat.zero_le _,rfl,rfl⟩
 case round =>
  obtain ⟨k,q,hk,rfl,rfl⟩:=hrel
  by_cases hlt:k < N
  ·have hkl:k < L.length:=by rw [HLN.out];exact hlt
   have c5:=HPA.out.name k _ (List.getElem?_eq_getElem hkl)
   have hin:(k:Int) < (N:Int):=by omega
   generalize L[k] = p at *
   clear hkl
   go_wp2_with fail
   go_round
   case rel=>exact ⟨k + 1,_,by omega,by go_num,rfl⟩
   case measure=>simp [intOf];omega
  ·obtain rfl:k = N:=by omega
   go_wp2_with fail
   all_goals
    go_ret
    exact ⟨_,rfl,HB.out⟩
def ndC (p:Nd × Value):List Value:=[.int .i64 p.1.id,.string p.1.name,.int .i64 p.1.rep,.int .i64 p.1.kind,cell1 p.2]
theorem ndC_one (p:Nd × Value):∀ u ∈ ndC p,u.oneCell' = true:=by
 intro u hu
 simp only [ndC,List.mem_cons,List.not_mem_nil,or_false] at hu
 rcases hu with rfl | rfl | rfl | rfl | rfl <;> first | rfl | exact cell1_one _
theorem nd_info3:(Tryd.prog.info? 47).map (fun i=>(i.zero,i.size,i.bytes)) = some (some (.agg #[.int .i64 0,.string ByteArray.empty,.int .i64 0,.int .i64 0,.slice none 0 0]),5,64):=by kernel_rfl
theorem flat5 (L:List (Nd × Value)):∀ (i:Nat) p,L[i]? = some p → ∀ j,j < 5 → (L.flatMap ndC)[i * 5 + j]? = (ndC p)[j]?:=by
 induction L with
 | nil=>intro i p h;simp at h
 | cons a r ih =>
  intro i p h j hj
  rw [List.flatMap_cons]
  have e:(ndC a).length = 5:=rfl
  cases i with
  | zero=>simp at h;subst h;rw [List.getElem?_append_left (by rw [e];omega)];simp
  | succ i=>rw [List.getElem?_append_right (by rw [e];omega),e,show (i + 1) * 5 + j - 5 = i * 5 + j by omega];exact ih i p (by simpa using h) j hj
theorem nds_of_own {w:World} {B:Nat} {v:Value} {L:List (Nd × Value)} {P:Nat → Prop} (h:w.ownsRow B 47 5 v L.length (L.flatMap ndC)) (hP:∀ b,v.ownBlock = some b → P b) (hs:∀ p ∈ L,IsNds P w p.2 p.1.sub):IsNds P w v (L.map Prod.fst):=by
 rcases h.2 with ⟨rfl,h0⟩ | ⟨g,cap,cur,rfl,h1,h2,h3⟩
 ·have:L = []:=List.eq_nil_of_length_eq_zero h0
  subst this
  exact .nil none 0
 ·have hh:=IsNds.row (P:=P) (w:=w) g 0 cap (L.map Prod.fst) (fun j=>((L[j]?).map Prod.snd).getD undef) (hP g rfl) (Array.getElem?_eq_some_iff.1 h2).1 (fun j n hj=>?_) (fun j n hj=>?_)
  ·rw [List.length_map] at hh;exact hh
  ·rw [List.getElem?_map] at hj
   cases hx:L[j]? with
   | none=>simp [hx] at hj
   | some p =>
    simp [hx] at hj
    subst hj
    have hjl:=(List.getElem?_eq_some_iff.1 hx).1
    intro q u hu
    have hq:q < 5:=by
     rcases Nat.lt_or_ge q 5 with h | h
     ·exact h
     ·rw [Array.getElem?_eq_none (by simp [ndA];omega)] at hu;cases hu
    rw [Nat.zero_add,h.cellAt _ (by omega),flat5 L j p hx q hq]
    have hone:=(hs p (List.mem_of_getElem? hx)).one
    have e:(ndA p.1 p.2)[q]? = (ndC p)[q]?:=by
     have hc:cell1 p.2 = p.2:=by unfold cell1;rw [if_pos hone]
     unfold ndA ndC
     rw [hc]
     match q,hq with
     | 0,_=>rfl
     | 1,_=>rfl
     | 2,_=>rfl
     | 3,_=>rfl
     | 4,_=>rfl
    simp only [hx,Option.map_some,Option.getD_some] at hu
    rw [← e,hu]
  ·rw [List.getElem?_map] at hj
   cases hx:L[j]? with
   | none=>simp [hx] at hj
   | some p =>
    simp [hx] at hj
    subst hj
    simp only [hx,Option.map_some,Option.getD_some]
    exact hs p (List.mem_of_getElem? hx)
abbrev El5 (w:World) (b o:Nat) (v0 v1 v2 v3 v4:Value):Prop:=w.cell? ⟨b,o,none⟩ = some v0 ∧ w.cell? ⟨b,o + 1,none⟩ = some v1 ∧ w.cell? ⟨b,o + 2,none⟩ = some v2 ∧ w.cell? ⟨b,o + 3,none⟩ = some v3 ∧ w.cell? ⟨b,o + 4,none⟩ = some v4
theorem grow_below {w w':World} {B s n:Nat} {e:TypeId} {v:Value} {xs:List Value} {o:Obj} (hown:w.ownsRow B e s v n xs) (hg:(w.alloc o).grownBy w' v.ownBlock) (hB:B ≤ w.heap.size):Below B w w' :=
 ((Below.refl _ _).alloc hB o).grown hg (by simp;omega) fun k hk=>(hown.lt k hk).1
theorem el5_below {w w':World} {B b o:Nat} {v0 v1 v2 v3 v4:Value} (h:El5 w b o v0 v1 v2 v3 v4) (hb:Below B w w') (hl:b < B):El5 w' b o v0 v1 v2 v3 v4 :=
 ⟨(hb.cell (p:=⟨b,o,none⟩) hl).trans h.1,(hb.cell (p:=⟨b,o + 1,none⟩) hl).trans h.2.1,(hb.cell (p:=⟨b,o + 2,none⟩) hl).trans h.2.2.1,(hb.cell (p:=⟨b,o + 3,none⟩) hl).trans h.2.2.2.1,(hb.cell (p:=⟨b,o + 4,none⟩) hl).trans h.2.2.2.2⟩
theorem el5_alloc {w:World} {b o:Nat} {v0 v1 v2 v3 v4:Value} (h:El5 w b o v0 v1 v2 v3 v4) (hl:b < w.heap.size) (ob:Obj):El5 (w.alloc ob) b o v0 v1 v2 v3 v4:=el5_below h ((Below.refl _ _).alloc (Nat.le_refl _) _) hl
theorem cell_drew {w:World} {a:Addr} {v:Value} (h:w.cell? a = some v):w.drew.cell? a = some v:=h
def OwnRet (n:Nd) (k:Nat) (w:World) (e:Ending) (w':World):Prop:=∃ a c,e = .returned (.agg #[.int .i64 n.id,.string n.name,.int .i64 n.rep,.int .i64 n.kind,.slice a k c]) ∧ IsNds (fun b=>w.heap.size ≤ b) w' (.slice a k c) n.sub ∧ Below w.heap.size w w'
set_option maxRecDepth 100000 in
theorem ownNode_any:∀ (n:Nd),∀ (u:Value) (w:World),IsNds (· < w.heap.size) w u n.sub → (∀ x ∈ nodes n,x.Ok1) → Calls Tryd.prog 17 #[.agg (ndA n u)] w (OwnRet n n.sub.length w):=by
 apply Nd.ind
 intro n IH u w hN hO
 have hOs:∀ x ∈ nodesL n.sub,x.Ok1:=fun x hx=>hO x (by rw [nodes_eq];exact List.mem_cons_of_mem _ hx)
 have hlen:=(hO n (by rw [nodes_eq];exact List.mem_cons_self ..)).sub
 obtain ⟨l,hl⟩:∃ l,n.sub = l:=⟨_,rfl⟩
 have HSB:=Lib.hid hl
 obtain ⟨ad,cp,rfl⟩:=hN.form
 rw [hl] at hN hlen hOs IH ⊢
 obtain ⟨len,hnl⟩:∃ len,l.length = len:=⟨_,rfl⟩
 rw [hnl] at hN hlen ⊢
 have HL:=Lib.hid hnl;have HN:=Lib.hid hN;have HOs:=Lib.hid hOs;have HIH:=Lib.hid IH
 clear hnl hl hN hOs IH hO
 obtain ⟨i0,hi,hz0,hz1,hz2⟩:=info_parts nd_info3
 unfold ndA
 go_enter Tryd.func17,Tryd.ntmps17
 go_upto_region 2 with fail
 obtain ⟨rN,rZ,rO,hbw,hz⟩:=rows3 (w:=w) (A:=.cells #[.int .i64 n.id,.string n.name,.int .i64 n.rep,.int .i64 n.kind,.slice ad len cp] 47) (B:=.cells #[.int .i64 0,.string ⟨#[]⟩,.int .i64 0,.int .i64 0,.slice none 0 0] 47) (C:=.cells #[.int .i64 n.id,.string n.name,.int .i64 n.rep,.int .i64 n.kind,.slice none 0 0] 47) (Below.refl _ _)
 have hb3:w.heap.size + 3 ≤ (((w.alloc (.cells #[.int .i64 n.id,.string n.name,.int .i64 n.rep,.int .i64 n.kind,.slice ad len cp] 47)).alloc (.cells #[.int .i64 0,.string ⟨#[]⟩,.int .i64 0,.int .i64 0,.slice none 0 0] 47)).alloc (.cells #[.int .i64 n.id,.string n.name,.int .i64 n.rep,.int .i64 n.kind,.slice none 0 0] 47)).heap.size:=row_lt rO
 generalize (((w.alloc (.cells #[.int .i64 n.id,.string n.name,.int .i64 n.rep,.int .i64 n.kind,.slice ad len cp] 47)).alloc (.cells #[.int .i64 0,.string ⟨#[]⟩,.int .i64 0,.int .i64 0,.slice none 0 0] 47)).alloc (.cells #[.int .i64 n.id,.string n.name,.int .i64 n.rep,.int .i64 n.kind,.slice none 0 0] 47)) = w3 at *
 have RN:=Lib.hid rN;have RZ:=Lib.hid rZ;have RO:=Lib.hid rO;have HB:=Lib.hid hbw
 clear rN rZ rO hbw hz
 go_wp2_with fail
 go_loopw [4] (fun i wr=>∃ (j:Nat) (a3:Option Addr) (c3:Nat) (L3:List (Nd × Value)),j ≤ len ∧ i = .int .i64 (j:Nat) ∧ Hid (L3.map Prod.fst = l.take j) ∧ Hid (L3.length = j) ∧ Hid (wr.ownsRow (w.heap.size + 3) 47 5 (.slice a3 j c3) L3.length (L3.flatMap ndC)) ∧ Hid (∀ p ∈ L3,IsNds (fun b=>w.heap.size + 3 ≤ b ∧ (Value.slice a3 j c3).ownBlock ≠ some b) wr p.2 p.1.sub) ∧ Hid (Below w.heap.size w wr) ∧
  wr.heap[w.heap.size]? = some (.cells #[.int .i64 n.id,.string n.name,.int .i64 n.rep,.int .i64 n.kind,.slice ad len cp] 47 (0,0)) ∧ wr.heap[w.heap.size + 1]? = some (.cells #[.int .i64 0,.string ⟨#[]⟩,.int .i64 0,.int .i64 0,.slice none 0 0] 47 (0,0)) ∧ wr.heap[w.heap.size + 1 + 1]? = some (.cells #[.int .i64 n.id,.string n.name,.int .i64 n.rep,.int .i64 n.kind,.slice a3 j c3] 47 (0,0))) (fun i _=>len - (intOf i).toNat)
 case atStart=>exact ⟨0,none,0,[],Nat.zero_le _,rfl,by simp [Hid],rfl,World.ownsRow_nil _ _ _ _,fun p hp=>by simp at hp,HB.out,RN.out,RZ.out,RO.out⟩
 case round =>
  obtain ⟨j,a3,c3,L3,hj,rfl,HM,HLj,HO,HT,HBr,rN,rZ,rO⟩:=hrel
  clear RN RZ RO HB
  have RN:=Lib.hid rN;have RZ:=Lib.hid rZ;have RO:=Lib.hid rO
  have hsz3:w.heap.size + 3 ≤ wr.heap.size:=row_lt rO
  clear rN rZ rO hb3
  by_cases hlt:j < len
  ·have hjl:j < l.length:=by rw [HL.out];exact hlt
   obtain ⟨b0,off,rfl,hPb,hb0,hat⟩:=(HN.out.under HBr.out).at (by omega)
   obtain ⟨ux,hcx,hnx⟩:=hat j l[j] (List.getElem?_eq_getElem hjl)
   have hsn:l.take (j + 1) = l.take j ++ [l[j]]:=List.take_succ_eq_append_getElem hjl
   have hOx:∀ y ∈ nodes l[j],y.Ok1:=fun y hy=>HOs.out y (nodesL_mem (List.getElem_mem hjl) hy)
   have hIx:=HIH.out l[j] (List.getElem_mem hjl)
   have hin:(j:Int) < (len:Int):=by omega
   have Hlt:=Lib.hid hlt
   generalize l[j] = x at *
   obtain ⟨ax,cx,rfl⟩:=hnx.form
   have HCL:=Lib.hid (fun (W:World) (hW:Below wr.heap.size wr W)=>hIx (.slice ax x.sub.length cx) W ((hnx.keep hW.size (fun b _ hb=>hW.block b hb)).mono (fun b hb _=>Nat.lt_of_lt_of_le (Nat.lt_of_lt_of_le hb HBr.out.size) hW.size)) hOx)
   unfold ndA at HCL
   unfold NdAt ndA at hcx
   obtain ⟨xl,hxl⟩:∃ xl,x.sub.length = xl:=⟨_,rfl⟩
   rw [hxl] at HCL hcx
   have hel:El5 wr b0 (off + j * 5) (.int .i64 x.id) (.string x.name) (.int .i64 x.rep) (.int .i64 x.kind) (.slice ax xl cx):=⟨hcx 0 _ rfl,hcx 1 _ rfl,hcx 2 _ rfl,hcx 3 _ rfl,hcx 4 _ rfl⟩
   have EL:=Lib.hid hel;have HSN:=Lib.hid hsn
   have HXL:=Lib.hid hxl
   have hPb3:b0 < w.heap.size + 3:=by have:b0 < w.heap.size:=hPb;omega
   have HB2:=Lib.hid (Below.refl wr.heap.size wr)
   have HLT:=Lib.hid (fun q (hq:(Value.slice a3 j c3).ownBlock = some q)=>HO.out.lt q hq)
   have h63:L3.length + 1 ≤ maxLen:=by have:=HLj.out;unfold maxLen;omega
   have h64:(L3.length + 1) * 64 ≤ 140737488355328:=by have:=HLj.out;omega
   clear hcx hel hsn hat hjl hOx hIx hnx hPb hxl
   have cN:=rowc RN.out
   go_wp2_with fail
   clear cN
   refine AnyE.region (S:=fun w'=>(∀ j_1,w'.cell? ⟨w.heap.size + 1 + 1,j_1,none⟩ = (#[.int .i64 n.id,.string n.name,.int .i64 n.rep,.int .i64 n.kind,.slice a3 j c3]:Array Value)[j_1]?) ∧ (∀ j_1,w'.cell? ⟨w.heap.size,j_1,none⟩ = (#[.int .i64 n.id,.string n.name,.int .i64 n.rep,.int .i64 n.kind,.slice (some ⟨b0,off,none⟩) len cp]:Array Value)[j_1]?) ∧ El5 w' b0 (off + j * 5) (.int .i64 x.id) (.string x.name) (.int .i64 x.rep) (.int .i64 x.kind) (.slice ax xl cx)) (E:=[11]) (by kernel_rfl) ?_
   have hbd:=(Below.refl wr.heap.size wr).drew
   replace RN:=Lib.hid (row_keep hbd RN.out);replace RZ:=Lib.hid (row_keep hbd RZ.out);replace RO:=Lib.hid (row_keep hbd RO.out);replace HO:=Lib.hid (own_blw HO.out hbd);replace EL:=Lib.hid (el5_below EL.out hbd hb0);replace HB2:=Lib.hid hbd
   have hszd:w.heap.size + 3 ≤ wr.drew.heap.size:=hsz3
   have hb0d:b0 < wr.drew.heap.size:=hb0
   clear hbd
   generalize wr.drew = wd at *
   have hS:=(⟨rowc RO.out,rowc RN.out,EL.out⟩:(∀ j_1,wd.cell? ⟨w.heap.size + 1 + 1,j_1,none⟩ = (#[.int .i64 n.id,.string n.name,.int .i64 n.rep,.int .i64 n.kind,.slice a3 j c3]:Array Value)[j_1]?) ∧ (∀ j_1,wd.cell? ⟨w.heap.size,j_1,none⟩ = (#[.int .i64 n.id,.string n.name,.int .i64 n.rep,.int .i64 n.kind,.slice (some ⟨b0,off,none⟩) len cp]:Array Value)[j_1]?) ∧ El5 wd b0 (off + j * 5) (.int .i64 x.id) (.string x.name) (.int .i64 x.rep) (.int .i64 x.kind) (.slice ax xl cx))
   refine AnyE.take (i:=0) (v:=?_) rfl (by kernel_rfl) (by kernel_rfl) (by kernel_rfl) (by kernel_rfl) (by kernel_rfl) (fun _ _ _ h=>h) (Or.inl ⟨by rfl,?_⟩) hS ?_
   rotate_left
   focus (intro wq hSq;obtain ⟨hS1,hS2,q0,q1,q2,q3,q4⟩:=hSq;go_simp;with_reducible rfl)
   try simp only [Act.put,List.getElem_toArray,List.getElem_cons_succ,List.getElem_cons_zero,List.setIfInBounds_toArray,List.set_cons_zero,List.set_cons_succ]
   refine AnyE.take (i:=1) (v:=?_) rfl (by kernel_rfl) (by kernel_rfl) (by kernel_rfl) (by kernel_rfl) (by kernel_rfl) (fun _ _ _ h=>h) (Or.inl ⟨by rfl,?_⟩) hS ?_
   rotate_left
   focus (intro wq hSq;obtain ⟨hS1,hS2,q0,q1,q2,q3,q4⟩:=hSq;go_simp;with_reducible rfl)
   try simp only [Act.put,List.getElem_toArray,List.getElem_cons_succ,List.getElem_cons_zero,List.setIfInBounds_toArray,List.set_cons_zero,List.set_cons_succ]
   refine AnyE.take (i:=2) (v:=?_) rfl (by kernel_rfl) (by kernel_rfl) (by kernel_rfl) (by kernel_rfl) (by kernel_rfl) (fun _ _ _ h=>h) (Or.inl ⟨by rfl,?_⟩) hS ?_
   rotate_left
   focus (intro wq hSq;obtain ⟨hS1,hS2,q0,q1,q2,q3,q4⟩:=hSq;go_simp;with_reducible rfl)
   try simp only [Act.put,List.getElem_toArray,List.getElem_cons_succ,List.getElem_cons_zero,List.setIfInBounds_toArray,List.set_cons_zero,List.set_cons_succ]
   refine AnyE.take (i:=3) (v:=?_) rfl (by kernel_rfl) (by kernel_rfl) (by kernel_rfl) (by kernel_rfl) (by kernel_rfl) (fun _ _ _ h=>h) (Or.inl ⟨by rfl,?_⟩) hS ?_
   rotate_left
   focus (intro wq hSq;obtain ⟨hS1,hS2,q0,q1,q2,q3,q4⟩:=hSq;go_simp;with_reducible rfl)
   try simp only [Act.put,List.getElem_toArray,List.getElem_cons_succ,List.getElem_cons_zero,List.setIfInBounds_toArray,List.set_cons_zero,List.set_cons_succ]
   refine AnyE.take (i:=4) (v:=?_) rfl (by kernel_rfl) (by kernel_rfl) (by kernel_rfl) (by kernel_rfl) (by kernel_rfl) (fun _ _ _ h=>h) (Or.inl ⟨by rfl,?_⟩) hS ?_
   rotate_left
   focus (intro wq hSq;obtain ⟨hS1,hS2,q0,q1,q2,q3,q4⟩:=hSq;go_simp;with_reducible rfl)
   try simp only [Act.put,List.getElem_toArray,List.getElem_cons_succ,List.getElem_cons_zero,List.setIfInBounds_toArray,List.set_cons_zero,List.set_cons_succ]
   refine AnyE.take (i:=5) (v:=?_) rfl (by kernel_rfl) (by kernel_rfl) (by kernel_rfl) (by kernel_rfl) (by kernel_rfl) (fun _ _ _ h=>h) (Or.inl ⟨by rfl,?_⟩) hS ?_
   rotate_left
   focus (intro wq hSq;obtain ⟨hS1,hS2,q0,q1,q2,q3,q4⟩:=hSq;go_simp;with_reducible rfl)
   try simp only [Act.put,List.getElem_toArray,List.getElem_cons_succ,List.getElem_cons_zero,List.setIfInBounds_toArray,List.set_cons_zero,List.set_cons_succ]
   refine AnyE.take (i:=6) (v:=?_) rfl (by kernel_rfl) (by kernel_rfl) (by kernel_rfl) (by kernel_rfl) (by kernel_rfl) (fun _ _ _ h=>h) (Or.inl ⟨by rfl,?_⟩) hS ?_
   rotate_left
   focus (intro wq hSq;obtain ⟨hS1,hS2,q0,q1,q2,q3,q4⟩:=hSq;go_simp;with_reducible rfl)
   try simp only [Act.put,List.getElem_toArray,List.getElem_cons_succ,List.getElem_cons_zero,List.setIfInBounds_toArray,List.set_cons_zero,List.set_cons_succ]
   refine AnyE.one (i:=7) (by kernel_rfl) rfl rfl ?_
   intro K hK
   simp only [List.getElem_toArray,List.getElem_cons_succ,List.getElem_cons_zero]
   go_simp
   refine (HCL.out wd HB2.out).mono ?_;rintro e w4 ⟨a4,c4,rfl,hn4,hb4⟩
   replace RN:=Lib.hid (row_keep hb4 RN.out);replace RZ:=Lib.hid (row_keep hb4 RZ.out);replace RO:=Lib.hid (row_keep hb4 RO.out);replace HO:=Lib.hid (own_blw HO.out hb4);replace EL:=Lib.hid (el5_below EL.out hb4 hb0d)
   refine hK _ _ (fun _=>⟨rowc RO.out,rowc RN.out,EL.out⟩) ?_
   clear hK K hS
   try simp only [Act.put,List.getElem_toArray,List.getElem_cons_succ,List.getElem_cons_zero,List.setIfInBounds_toArray,List.set_cons_zero,List.set_cons_succ]
   have HN4:=Lib.hid hn4;have HB4:=Lib.hid hb4
   have hsz4:=Nat.le_trans hszd hb4.size;have hb04:=Nat.lt_of_lt_of_le hb0d hb4.size
   clear hn4 hb4
   refine AnyE.one (i:=8) (by kernel_rfl) rfl rfl ?_
   intro K hK
   simp only [List.getElem_toArray,List.getElem_cons_succ,List.getElem_cons_zero]
   go_simp
   have hbe:=(Below.refl w4.heap.size w4).alloc (Nat.le_refl _) (.cells #[.int .i64 x.id,.string x.name,.int .i64 x.rep,.int .i64 x.kind,.slice a4 xl c4] 47)
   refine hK _ _ (fun _=>⟨rowc_alloc RO.out _,rowc_alloc RN.out _,el5_alloc EL.out hb04 _⟩) ?_
   clear hK K
   try simp only [Act.put,List.getElem_toArray,List.getElem_cons_succ,List.getElem_cons_zero,List.setIfInBounds_toArray,List.set_cons_zero,List.set_cons_succ]
   have RT:=Lib.hid (heap_alloc_new w4 (.cells #[.int .i64 x.id,.string x.name,.int .i64 x.rep,.int .i64 x.kind,.slice a4 xl c4] 47))
   replace RN:=Lib.hid (row_keep hbe RN.out);replace RZ:=Lib.hid (row_keep hbe RZ.out);replace RO:=Lib.hid (row_keep hbe RO.out);replace HO:=Lib.hid (own_blw HO.out hbe);replace EL:=Lib.hid (el5_below EL.out hbe hb04)
   have HBE:=Lib.hid hbe
   have hsze:=Nat.le_trans hsz4 hbe.size
   clear hbe
   generalize w4.alloc (.cells #[.int .i64 x.id,.string x.name,.int .i64 x.rep,.int .i64 x.kind,.slice a4 xl c4] 47) = we at *
   have Hgt:=Lib.hid (rfl:w4.heap.size = w4.heap.size)
   generalize hgt:w4.heap.size = gt at RT ⊢
   have HGT:=Lib.hid hgt
   clear hgt Hgt
   refine AnyE.one (i:=9) (by kernel_rfl) rfl rfl ?_
   intro K hK
   simp only [List.getElem_toArray,List.getElem_cons_succ,List.getElem_cons_zero]
   refine wp_pushRow (.tmp 22) (.tmp 29) 45 rfl (w.heap.size + 3) 47 i0 _ 5 64 Tryd.underlying45 hi hz0 hz1 hz2 rfl (by decide) ndC (fun _=>rfl) ndC_one (.slice a3 j c3) L3 ?_ HO.out gt ?_ (x,.slice a4 xl c4) _ _ RT.out rfl h63 h64 hsze ?_
   focus (go_simp)
   focus (go_simp)
   intro v5 w5 ho5 hg5 hq5
   obtain ⟨a5,c5,rfl⟩:=own_form ho5
   have hlen5:(L3 ++ [(x,Value.slice a4 xl c4)]).length = j + 1:=by simp [HLj.out]
   rw [hlen5] at ho5 hq5 ⊢
   have hbg:=(Below.refl (w.heap.size + 3) we).grown hg5 hsze (fun k hk=>(HO.out.lt k hk).1)
   replace RN:=Lib.hid (row_below hbg RN.out (by omega));replace RZ:=Lib.hid (row_below hbg RZ.out (by omega));replace RO:=Lib.hid (row_below hbg RO.out (by omega));replace EL:=Lib.hid (el5_below EL.out hbg hPb3)
   have HG5:=Lib.hid hg5;have HQ5:=Lib.hid hq5;have HO5:=Lib.hid ho5;have HBG:=Lib.hid hbg;have HL5:=Lib.hid hlen5
   clear hg5 hq5 ho5 hbg HO hlen5
   refine hK _ _ (fun _=>⟨rowc RO.out,rowc RN.out,EL.out⟩) ?_
   clear hK K
   try simp only [Act.put,List.getElem_toArray,List.getElem_cons_succ,List.getElem_cons_zero,List.setIfInBounds_toArray,List.set_cons_zero,List.set_cons_succ]
   refine AnyE.one (i:=10) (by kernel_rfl) rfl rfl ?_
   intro K hK
   simp only [List.getElem_toArray,List.getElem_cons_succ,List.getElem_cons_zero]
   go_simp
   refine hK _ _ (fun _=>⟨rowc RO.out,rowc RN.out,EL.out⟩) ?_
   clear hK K
   try simp only [Act.put,List.getElem_toArray,List.getElem_cons_succ,List.getElem_cons_zero,List.setIfInBounds_toArray,List.set_cons_zero,List.set_cons_succ]
   refine AnyE.one (i:=11) (by kernel_rfl) rfl rfl ?_
   intro K hK
   simp only [List.getElem_toArray,List.getElem_cons_succ,List.getElem_cons_zero]
   have r5:=rowc RO.out;have f5:=rowf RO.out
   go_simp
   refine hK _ _ (fun h=>absurd h (by decide)) ?_
   clear hK K r5 f5
   try simp only [Act.put,List.getElem_toArray,List.getElem_cons_succ,List.getElem_cons_zero,List.setIfInBounds_toArray,List.set_cons_zero,List.set_cons_succ]
   refine AnyE.done (by kernel_rfl) ?_ _
   have hm5:(L3 ++ [(x,Value.slice a4 xl c4)]).map Prod.fst = l.take (j + 1):=by rw [HSN.out,List.map_append,HM.out];rfl
   have hbw6:Below w.heap.size w (w5.setCell ⟨w.heap.size + 1 + 1,4,none⟩ (.slice a5 (j + 1) c5)):=(((((HBr.out.trans (HB2.out.mono HBr.out.size)).trans (HB4.out.mono (Nat.le_trans (by omega) hszd))).trans (HBE.out.mono (Nat.le_trans (by omega) hsz4))).trans (HBG.out.mono (by omega)))).setCell (by show w.heap.size ≤ w.heap.size + 1 + 1;omega) _
   have hwr:wr.heap.size ≤ wd.heap.size:=HB2.out.size
   have hd4:wd.heap.size ≤ w4.heap.size:=HB4.out.size
   have h4e:w4.heap.size ≤ we.heap.size:=HBE.out.size
   have hq6:∀ b,w.heap.size + 3 ≤ b → b < w4.heap.size → (Value.slice a3 j c3).ownBlock ≠ some b → (w5.setCell ⟨w.heap.size + 1 + 1,4,none⟩ (.slice a5 (j + 1) c5)).heap[b]? = w4.heap[b]?:=fun b h1 h2 h3=>by
    rw [heap_setCell_other _ _ _ _ (by show b ≠ w.heap.size + 1 + 1;omega),HG5.out.block b (by omega) (fun e=>h3 e.symm),HBE.out.block b h2]
   have hz6:w4.heap.size ≤ (w5.setCell ⟨w.heap.size + 1 + 1,4,none⟩ (.slice a5 (j + 1) c5)).heap.size:=Nat.le_trans h4e (Nat.le_trans HBG.out.size (by simp [World.setCell]))
   have hne5:∀ b,b < w4.heap.size → (Value.slice a3 j c3).ownBlock ≠ some b → (Value.slice a5 (j + 1) c5).ownBlock ≠ some b:=fun b h1 h2=>by
    rcases HQ5.out with h | h
    ·rw [h];exact h2
    ·rw [h];intro e;injection e with e;omega
   have ht6:∀ p ∈ L3 ++ [(x,Value.slice a4 xl c4)],IsNds (fun b=>w.heap.size + 3 ≤ b ∧ (Value.slice a5 (j + 1) c5).ownBlock ≠ some b) (w5.setCell ⟨w.heap.size + 1 + 1,4,none⟩ (.slice a5 (j + 1) c5)) p.2 p.1.sub:=fun p hp=>by
    rcases List.mem_append.1 hp with hp | hp
    ·have h1:=((HT.out p hp).mono (Q:=fun b=>(w.heap.size + 3 ≤ b ∧ (Value.slice a3 j c3).ownBlock ≠ some b) ∧ b < wr.heap.size) (fun b hb hl=>⟨hb,hl⟩)).keep (w':=w4) (by omega) (fun b hb hl=>by rw [HB4.out.block b (by omega),HB2.out.block b hl])
     exact (h1.keep hz6 (fun b hb hl=>hq6 b hb.1.1 hl hb.1.2)).mono (fun b hb hl=>⟨hb.1.1,hne5 b (by have:=hb.2;omega) hb.1.2⟩)
    ·obtain rfl:p = (x,Value.slice a4 xl c4):=by simpa using hp
     have hno:∀ b,wd.heap.size ≤ b → (Value.slice a3 j c3).ownBlock ≠ some b:=fun b hb e=>by have:=(HLT.out b e).2;omega
     have h1:=(HN4.out.mono (Q:=fun b=>wd.heap.size ≤ b ∧ b < w4.heap.size) (fun b hb hl=>⟨hb,hl⟩)).keep hz6 (fun b hb hl=>hq6 b (by omega) hl (hno b hb.1))
     exact h1.mono (fun b hb hl=>⟨by omega,hne5 b hb.2 (hno b hb.1)⟩)
   have ho6:=ownsRow_setCell_below HO5.out (a:=⟨w.heap.size + 1 + 1,4,none⟩) (by show w.heap.size + 1 + 1 < w.heap.size + 3;omega) (.slice a5 (j + 1) c5)
   have rO6:=heap_setCell_same w5 (w.heap.size + 1 + 1) 4 _ _ (.slice a5 (j + 1) c5) RO.out
   have rN6:=(heap_setCell_other w5 ⟨w.heap.size + 1 + 1,4,none⟩ w.heap.size (.slice a5 (j + 1) c5) (by show w.heap.size ≠ w.heap.size + 1 + 1;omega)).trans RN.out
   have rZ6:=(heap_setCell_other w5 ⟨w.heap.size + 1 + 1,4,none⟩ (w.heap.size + 1) (.slice a5 (j + 1) c5) (by show w.heap.size + 1 ≠ w.heap.size + 1 + 1;omega)).trans RZ.out
   have HM6:=Lib.hid hm5;have HB6:=Lib.hid hbw6;have HT6:=Lib.hid ht6;have HO6:=Lib.hid (own_len ho6 HL5.out);have RO6:=Lib.hid rO6;have RN6:=Lib.hid rN6;have RZ6:=Lib.hid rZ6
   clear hm5 hbw6 hwr hd4 h4e hq6 hz6 hne5 ht6 ho6 rO6 rN6 rZ6 RN RZ RO
   generalize w5.setCell ⟨w.heap.size + 1 + 1,4,none⟩ (.slice a5 (j + 1) c5) = w6 at *
   go_wp2_with fail
   go_roundw
   case rel=>exact ⟨j + 1,a5,c5,_,Hlt.out,by go_num,HM6.out,HL5.out,HO6.out,HT6.out,HB6.out,RN6.out,RZ6.out,RO6.out⟩
   case measure=>have:=Hlt.out;simp [intOf];omega
  ·obtain rfl:j = len:=by omega
   have cN:=rowc RN.out;have cO:=rowc RO.out
   go_wp2_with (refine wpList_store_part rfl 47 _ _ rfl (w.heap.size + 1) 0 _ 47 #[.int .i64 n.id,.string n.name,.int .i64 n.rep,.int .i64 n.kind,.slice a3 j c3] rfl rfl RZ.out nd_info (by simp [Value.oneCell']) (Nat.le_of_ble_eq_true rfl) #[.int .i64 n.id,.string n.name,.int .i64 n.rep,.int .i64 n.kind,.slice a3 j c3] rfl ?_;intro w7 hr7 ho7 hb7 hz7;have RZ7:=Lib.hid hr7;have HO7:=Lib.hid ho7;have HB7:=Lib.hid hb7;have HZ7:=Lib.hid hz7;clear hr7 ho7 hb7 hz7)
   refine bodyPost_ret (v:=.agg #[.int .i64 n.id,.string n.name,.int .i64 n.rep,.int .i64 n.kind,.slice a3 j c3]) (results_cell_row Tryd.results17 _ _ (w.heap.size + 1) 47 _ (0,0) _ rfl RZ7.out Tryd.underlying47 rfl (by kernel_rfl)) rfl ⟨a3,c3,rfl,?_,HBr.out.trans (HB7.out.mono (by omega))⟩
   rw [HSB.out]
   have h1:=nds_of_own (P:=fun b=>w.heap.size + 3 ≤ b) HO.out (fun b hb=>(HO.out.lt b hb).1) (fun p hp=>(HT.out p hp).mono (fun b hb _=>hb.1))
   rw [HM.out,List.take_of_length_le (Nat.le_of_eq HL.out)] at h1
   exact (h1.keep (Nat.le_of_eq HZ7.out.symm) (fun b hb _=>HO7.out b (by omega))).mono (fun b hb _=>by omega)
end Go.Proofs.YtkmhmnffbgedgaaDoor
