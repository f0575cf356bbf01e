/- The walk of shred.Join. -/
import Derived.Test.YtkmhmnffbgedgaaDoorMPp
import Derived.Test.YtkmhmnffbgedgaaDoorRegE
import Derived.Deep.RegionHeld3
import Derived.Deep.DeepCutAuto
import Derived.Test.YtkmhmnffbgedgaaDoorSo1
import Derived.Test.YtkmhmnffbgedgaaDoorSameN
namespace Go.Proofs.YtkmhmnffbgedgaaDoor
set_option maxHeartbeats 16000000
set_option linter.unusedVariables false
set_option linter.unusedSimpArgs false
open Go Go.RowKit Go.ChangeShapes
def OwnCol (B:Nat) (w:World) (u:Value) (c:Col):Prop:=∃ p q d,u = .agg (colA c p q d) ∧ w.ownsRow B 3 1 p c.rep.length (c.rep.map iV) ∧ w.ownsRow B 3 1 q c.df.length (c.df.map iV) ∧ w.ownsRow B 61 3 d c.vals.length (c.vals.flatMap valCells)
theorem OwnCol.isCol {B:Nat} {w:World} {u:Value} {c:Col} (h:OwnCol B w u c):IsCol w u c:=by
 obtain ⟨p,q,d,h1,h2,h3,h4⟩:=h
 exact ⟨p,q,d,h1,IsInts_of_own h2,IsInts_of_own h3,IsVals.of_own h4⟩
theorem OwnCol.kept {B:Nat} {w w':World} {u:Value} {c:Col} (h:OwnCol B w u c) (hk:∀ i,B ≤ i → i < w.heap.size → w'.heap[i]? = w.heap[i]?):OwnCol B w' u c:=by
 obtain ⟨p,q,d,h1,h2,h3,h4⟩:=h
 exact ⟨p,q,d,h1,ownK h2 hk,ownK h3 hk,ownK h4 hk⟩
theorem OwnCol.below {B:Nat} {w w':World} {u:Value} {c:Col} (h:OwnCol B w u c) (hb:Below w.heap.size w w'):OwnCol B w' u c:=h.kept fun i _ hi=>hb.block i hi
theorem own_baseJ {w:World} {B B' n s:Nat} {e:TypeId} {v:Value} {xs:List Value} (h:w.ownsRow B e s v n xs) (hB:B' ≤ B):w.ownsRow B' e s v n xs:=by
 refine ⟨h.1,?_⟩
 rcases h.2 with h0 | ⟨g,cap,cur,hv,h1,h2,h3⟩
 ·exact .inl h0
 ·exact .inr ⟨g,cap,cur,hv,Nat.le_trans hB h1,h2,h3⟩
def JnRet (B:Nat) (adr:Nat → Addr) (id:Int) (l:List Col) (e:Ending) (w':World):Prop :=
 (¬ 20000 < (l.flatMap Col.rep).length ∧ ∃ u,e = .returned (.tuple #[u,.nilIface]) ∧ OwnCol B w' u (joinC id l) ∧ RoomCol u) ∨
 (20000 < (l.flatMap Col.rep).length ∧ e = .returned (.tuple #[.agg #[.int .i64 0,.slice none 0 0,.slice none 0 0,.slice none 0 0],.iface 174 (.pointer (some (adr 2)))]))
set_option maxRecDepth 100000 in
theorem join_all (f:Lf) (l:List Col) (vf v:Value) (w:World) (adr:Nat → Addr) (hE:ErrsAt w adr [2,3,4]) (hf:IsLf w vf f) (hl:IsCols w v l) (fo:f.Ok) (lo:∀ c ∈ l,c.Ok) (hn:∀ c ∈ l,colErr f c false = .nil) (hlm:l.length ≤ 1000000) (h1:(l.flatMap Col.rep).length ≤ 1000000) :
    Calls Tryd.prog 9 #[vf,v] w fun e w'=>JnRet w.heap.size adr f.id l e w' ∧ Below w.heap.size w w':=by
  have hg2:gErr 2 < w.heap.size:=block_lt_of_cell (hE.cell 2 (by decide))
  have e2:=hE.cell 2 (by decide)
  unfold gErr at hg2 e2
  have HK2:=Lib.hid (fun (w1:World) (h:Below w.heap.size w w1)=>((bcell h).1 _ 0 hg2).trans e2)
  clear e2
  obtain ⟨p,rfl,hp⟩:=hf
  have HE:=Lib.hid hE;have Hp:=Lib.hid hp;have HI:=Lib.hid hl
  have HK:=Lib.hid (fun (w1:World) (h:Below w.heap.size w w1) (c:Col) (a b d:Value) (hc:IsCol w1 (.agg (colA c a b d)) c) (co:c.Ok)=>ck_any f c false (.agg (lfA f p)) (.agg (colA c a b d)) w1 adr ((HE.out.sub (by decide)).below h) ⟨p,rfl,Hp.out.below h (Nat.le_refl _)⟩ hc fo co)
  have HO:=Lib.hid lo;have HN:=Lib.hid hn
  obtain ⟨ad,cp,rfl⟩:=hl.form
  have h2:(l.flatMap Col.df).length ≤ 1000000:=Nat.le_trans (flat_len_le Col.df Col.rep l fun c hc=>Nat.le_of_eq (right_of (hn c hc)).1.len.symm) h1
  have h3:(l.flatMap Col.vals).length ≤ 1000000:=Nat.le_trans (flat_len_le Col.vals Col.rep l fun c hc=>(right_of (hn c hc)).1.vals_leJ) h1
  have HT1:=Lib.hid h1;have HT2:=Lib.hid h2;have HT3:=Lib.hid h3
  clear hE hp hl fo lo hn h1 h2 h3
  obtain ⟨n,hnl⟩:∃ n,l.length = n:=⟨_,rfl⟩
  rw [hnl] at HI hlm ⊢
  have HL:=Lib.hid hnl
  clear hnl
  unfold lfA colA at HK
  unfold lfA
  go_enter Tryd.func9,Tryd.ntmps9
  go_upto_region 2 with fail
  obtain ⟨rF,rR,rO,hbw,hz⟩:=rows3 (w:=w) (A:=.cells #[.int .i64 f.id,.int .i64 f.kind,.int .i64 f.mr,.int .i64 f.md,p] 39) (B:=.cells #[.int .i64 0,.slice none 0 0,.slice none 0 0,.slice none 0 0] 32) (C:=.cells #[.int .i64 f.id,.slice none 0 0,.slice none 0 0,.slice none 0 0] 32) (Below.refl _ _)
  have RF:=Lib.hid rF;have RR:=Lib.hid rR;have RO:=Lib.hid rO;have Hbw:=Lib.hid hbw
  clear rF rR rO hbw hz
  generalize ((w.alloc (.cells #[.int .i64 f.id,.int .i64 f.kind,.int .i64 f.mr,.int .i64 f.md,p] 39)).alloc (.cells #[.int .i64 0,.slice none 0 0,.slice none 0 0,.slice none 0 0] 32)).alloc (.cells #[.int .i64 f.id,.slice none 0 0,.slice none 0 0,.slice none 0 0] 32) = w0 at *
  go_wp2_with fail
  go_loopw [17] (fun i wr=>∃ k:Nat,k ≤ n ∧ i = .int .i64 (k:Nat) ∧ Below w.heap.size w wr ∧ wr.heap[w.heap.size]? = some (.cells #[.int .i64 f.id,.int .i64 f.kind,.int .i64 f.mr,.int .i64 f.md,p] 39 (0,0)) ∧ wr.heap[w.heap.size + 1]? = some (.cells #[.int .i64 0,.slice none 0 0,.slice none 0 0,.slice none 0 0] 32 (0,0)) ∧ wr.heap[w.heap.size + 1 + 1]? = some (.cells #[.int .i64 f.id,.slice none 0 0,.slice none 0 0,.slice none 0 0] 32 (0,0))) (fun i _=>n - (intOf i).toNat)
  case atStart=>exact ⟨0,Nat.zero_le _,rfl,Hbw.out,RF.out,RR.out,RO.out⟩
  case round =>
    obtain ⟨k,hk,rfl,hbr,rF,rR,rO⟩:=hrel
    clear RF RR RO Hbw
    have RF:=Lib.hid rF;have RR:=Lib.hid rR;have RO:=Lib.hid rO;have Hbw:=Lib.hid hbr
    clear rF rR rO hbr
    by_cases hlt:k < n
    · have hkl:k < l.length:=by rw [HL.out];exact hlt
      obtain ⟨b0,off,rfl,-,hlt0,hcv⟩:=(HI.out.below Hbw.out (Nat.le_refl _)).at (by omega)
      have hin:(k:Int) < (n:Int):=by omega
      have Hlt:=Lib.hid hlt
      obtain ⟨pc,qc,dc,i1,i2,i3,hcx⟩:=hcv k l[k] (List.getElem?_eq_getElem hkl)
      have hox:=HO.out l[k] (List.getElem_mem hkl)
      have hnx:=HN.out l[k] (List.getElem_mem hkl)
      generalize l[k] = c at *
      obtain ⟨x1,y1,rfl⟩:=i1.form;obtain ⟨x2,y2,rfl⟩:=i2.form;obtain ⟨x3,y3,rfl⟩:=i3.form
      have I1:=Lib.hid i1;have I2:=Lib.hid i2;have I3:=Lib.hid i3;have Hcx:=Lib.hid hcx;have Hox:=Lib.hid hox;have Hnx:=Lib.hid hnx
      clear i1 i2 i3 hcx hox hnx hcv hkl
      unfold colA at Hcx
      go_upto_region 5 with (refine wpList_load_cells rfl 32 _ rfl b0 (off + k * 4) rfl #[.int .i64 c.id,.slice x1 c.rep.length y1,.slice x2 c.df.length y2,.slice x3 c.vals.length y3] _ Hcx.out Tryd.underlying32 rfl col_info ?_)
      have hb3:=(Below.refl wr.heap.size wr).alloc (Nat.le_refl _) (.cells #[.int .i64 c.id,.slice x1 c.rep.length y1,.slice x2 c.df.length y2,.slice x3 c.vals.length y3] 32)
      replace RF:=Lib.hid (row_keep hb3 RF.out);replace RR:=Lib.hid (row_keep hb3 RR.out);replace RO:=Lib.hid (row_keep hb3 RO.out)
      have RC:=Lib.hid (heap_alloc_new wr (.cells #[.int .i64 c.id,.slice x1 c.rep.length y1,.slice x2 c.df.length y2,.slice x3 c.vals.length y3] 32))
      replace I1:=Lib.hid (I1.out.below hb3 (Nat.le_refl _));replace I2:=Lib.hid (I2.out.below hb3 (Nat.le_refl _));replace I3:=Lib.hid (I3.out.below hb3 (Nat.le_refl _))
      replace Hbw:=Lib.hid (Hbw.out.trans (hb3.mono Hbw.out.size))
      clear hb3
      generalize wr.alloc (.cells #[.int .i64 c.id,.slice x1 c.rep.length y1,.slice x2 c.df.length y2,.slice x3 c.vals.length y3] 32) = w3 at *
      generalize wr.heap.size = gc at *
      have cC:=rowc RC.out;have cF:=rowc RF.out
      go_wp2_with fail
      refine (HK.out _ Hbw.out c _ _ _ ⟨_,_,_,rfl,I1.out,I2.out,I3.out⟩ Hox.out).mono ?_;rintro e w4 ⟨⟨u,rfl,hu⟩,hb4⟩
      rw [Hnx.out] at hu
      obtain rfl:u = .nilIface:=hu
      replace RF:=Lib.hid (row_keep hb4 RF.out);replace RR:=Lib.hid (row_keep hb4 RR.out);replace RO:=Lib.hid (row_keep hb4 RO.out);replace Hbw:=Lib.hid (Hbw.out.trans (hb4.mono Hbw.out.size))
      clear hb4 cC cF
      go_wp2_with fail
      go_roundw
      case rel=>exact ⟨k + 1,Hlt.out,by go_num,Hbw.out,RF.out,RR.out,RO.out⟩
      case measure=>have:=Hlt.out;simp [intOf];omega
    · obtain rfl:k = n:=by omega
      go_wp2_with fail
      clear hlt hk
      go_loopw [31] (fun i wr=>∃ (j:Nat) (v1 v2 v3:Value),j ≤ k ∧ i = .int .i64 (j:Nat) ∧ Below w.heap.size w wr ∧ wr.heap[w.heap.size + 1]? = some (.cells #[.int .i64 0,.slice none 0 0,.slice none 0 0,.slice none 0 0] 32 (0,0)) ∧ wr.heap[w.heap.size + 1 + 1]? = some (.cells #[.int .i64 f.id,v1,v2,v3] 32 (0,0)) ∧ wr.ownsRow (w.heap.size + 3) 3 1 v1 ((l.take j).flatMap Col.rep).length (((l.take j).flatMap Col.rep).map iV) ∧ wr.ownsRow (w.heap.size + 3) 3 1 v2 ((l.take j).flatMap Col.df).length (((l.take j).flatMap Col.df).map iV) ∧ wr.ownsRow (w.heap.size + 3) 61 3 v3 ((l.take j).flatMap Col.vals).length (((l.take j).flatMap Col.vals).flatMap valCells) ∧
        (∀ q,v1.ownBlock = some q → v2.ownBlock ≠ some q) ∧ (∀ q,v1.ownBlock = some q → v3.ownBlock ≠ some q) ∧ (∀ q,v2.ownBlock = some q → v3.ownBlock ≠ some q) ∧ w.heap.size + 3 ≤ wr.heap.size) (fun i _=>k - (intOf i).toNat)
      case atStart=>exact ⟨0,.slice none 0 0,.slice none 0 0,.slice none 0 0,Nat.zero_le _,rfl,Hbw.out,RR.out,RO.out,World.ownsRow_nil _ _ _ _,World.ownsRow_nil _ _ _ _,World.ownsRow_nil _ _ _ _,fun q h=>(by cases h),fun q h=>(by cases h),fun q h=>(by cases h),row_lt RO.out⟩
      case round =>
        obtain ⟨j,v1,v2,v3,hj,rfl,hbr,rR,rO,ho1,ho2,ho3,d12,d13,d23,hsz⟩:=hrel
        clear RF RR RO Hbw
        have RR:=Lib.hid rR;have RO:=Lib.hid rO;have Hbw:=Lib.hid hbr
        have HO1:=Lib.hid ho1;have HO2:=Lib.hid ho2;have HO3:=Lib.hid ho3;have D12:=Lib.hid d12;have D13:=Lib.hid d13;have D23:=Lib.hid d23
        clear rR rO hbr ho1 ho2 ho3 d12 d13 d23
        by_cases hlt:j < k
        · have hkl:j < l.length:=by rw [HL.out];exact hlt
          obtain ⟨b0,off,rfl,-,hlt0,hcv⟩:=HI.out.at (by omega)
          have hin:(j:Int) < (k:Int):=by omega
          have Hlt:=Lib.hid hlt
          obtain ⟨pc,qc,dc,i1,i2,i3,hcw⟩:=hcv j l[j] (List.getElem?_eq_getElem hkl)
          have hcx:∀ jj v,(colA l[j] pc qc dc)[jj]? = some v → wr.cell? ⟨b0,off + j * 4 + jj,none⟩ = some v:=fun jj v h=>(Hbw.out.cell (p:=⟨b0,off + j * 4 + jj,none⟩) hlt0).trans (hcw jj v h)
          clear hcw
          have htk:l.take (j + 1) = l.take j ++ [l[j]]:=List.take_succ_eq_append_getElem hkl
          have hnx:=HN.out l[j] (List.getElem_mem hkl)
          have hlr:=Nat.le_trans (flat_take_le Col.rep l j hkl) HT1.out
          have hlr2:=Nat.le_trans (flat_take_le Col.df l j hkl) HT2.out
          have hlr3:=Nat.le_trans (flat_take_le Col.vals l j hkl) HT3.out
          generalize l[j] = c at *
          have hRc:=(right_of hnx).1
          have Htk:=Lib.hid htk
          obtain ⟨x1,y1,rfl⟩:=i1.form;obtain ⟨x2,y2,rfl⟩:=i2.form;obtain ⟨x3,y3,rfl⟩:=i3.form
          have I1:=Lib.hid i1;have I2:=Lib.hid i2;have I3:=Lib.hid i3;have Hcx:=Lib.hid hcx;have HRc:=Lib.hid hRc
          clear i1 i2 i3 hcx hnx hcv hkl htk hRc
          unfold colA at Hcx
          go_upto_region 12 with (refine wpList_load_cells rfl 32 _ rfl b0 (off + j * 4) rfl #[.int .i64 c.id,.slice x1 c.rep.length y1,.slice x2 c.df.length y2,.slice x3 c.vals.length y3] _ Hcx.out Tryd.underlying32 rfl col_info ?_)
          have hb3:=(Below.refl wr.heap.size wr).alloc (Nat.le_refl _) (.cells #[.int .i64 c.id,.slice x1 c.rep.length y1,.slice x2 c.df.length y2,.slice x3 c.vals.length y3] 32)
          replace RR:=Lib.hid (row_keep hb3 RR.out);replace RO:=Lib.hid (row_keep hb3 RO.out)
          have RC:=Lib.hid (heap_alloc_new wr (.cells #[.int .i64 c.id,.slice x1 c.rep.length y1,.slice x2 c.df.length y2,.slice x3 c.vals.length y3] 32))
          have L1:=Lib.hid (fun q (h:v1.ownBlock = some q)=>(HO1.out.lt q h).2);have L2:=Lib.hid (fun q (h:v2.ownBlock = some q)=>(HO2.out.lt q h).2);have L3:=Lib.hid (fun q (h:v3.ownBlock = some q)=>(HO3.out.lt q h).2)
          replace HO1:=Lib.hid (ownBelow HO1.out hb3);replace HO2:=Lib.hid (ownBelow HO2.out hb3);replace HO3:=Lib.hid (ownBelow HO3.out hb3)
          replace Hbw:=Lib.hid (Hbw.out.trans (hb3.mono Hbw.out.size))
          have hszc:w.heap.size + 3 ≤ wr.heap.size:=hsz
          have hsz3:=Nat.le_trans hsz hb3.size
          clear hb3 hsz
          generalize wr.alloc (.cells #[.int .i64 c.id,.slice x1 c.rep.length y1,.slice x2 c.df.length y2,.slice x3 c.vals.length y3] 32) = w3 at *
          generalize wr.heap.size = gc at *
          refine AnyE.region (S:=fun w'=>(∀ j,w'.cell? ⟨w.heap.size + 1 + 1,j,none⟩ = (#[.int .i64 f.id,v1,v2,v3]:Array Value)[j]?) ∧ (∀ j,w'.cell? ⟨gc,j,none⟩ = (#[.int .i64 c.id,.slice x1 c.rep.length y1,.slice x2 c.df.length y2,.slice x3 c.vals.length y3]:Array Value)[j]?)) (E:=[16,17,18,19,20]) (by kernel_rfl) ?_
          have hbd:=(Below.refl w3.heap.size w3).drew
          replace RR:=Lib.hid (row_keep hbd RR.out);replace RO:=Lib.hid (row_keep hbd RO.out);replace RC:=Lib.hid (row_keep hbd RC.out)
          replace HO1:=Lib.hid (ownBelow HO1.out hbd);replace HO2:=Lib.hid (ownBelow HO2.out hbd);replace HO3:=Lib.hid (ownBelow HO3.out hbd)
          replace Hbw:=Lib.hid (Hbw.out.trans (hbd.mono Hbw.out.size))
          have hszD:w.heap.size + 3 ≤ w3.drew.heap.size:=hsz3
          clear hbd hsz3
          generalize w3.drew = wd at *
          have hS:(∀ j,wd.cell? ⟨w.heap.size + 1 + 1,j,none⟩ = (#[.int .i64 f.id,v1,v2,v3]:Array Value)[j]?) ∧ (∀ j,wd.cell? ⟨gc,j,none⟩ = (#[.int .i64 c.id,.slice x1 c.rep.length y1,.slice x2 c.df.length y2,.slice x3 c.vals.length y3]:Array Value)[j]?):=⟨rowc RO.out,rowc RC.out⟩
          refine AnyE.take (i:=0) (v:=?_) rfl (by kernel_rfl) (by kernel_rfl) (by kernel_rfl) (by kernel_rfl) (by kernel_rfl) (fun _ _ _ h=>h) (Or.inl ⟨by rfl,?_⟩) hS ?_
          rotate_left
          focus (intro wq hSq;obtain ⟨hS1,hS2⟩:=hSq;go_simp;with_reducible rfl)
          try simp only [Act.put,List.setIfInBounds_toArray,List.set_cons_zero,List.set_cons_succ]
          refine AnyE.take (i:=1) (v:=?_) rfl (by kernel_rfl) (by kernel_rfl) (by kernel_rfl) (by kernel_rfl) (by kernel_rfl) (fun _ _ _ h=>h) (Or.inl ⟨by rfl,?_⟩) hS ?_
          rotate_left
          focus (intro wq hSq;obtain ⟨hS1,hS2⟩:=hSq;go_simp;with_reducible rfl)
          try simp only [Act.put,List.setIfInBounds_toArray,List.set_cons_zero,List.set_cons_succ]
          refine AnyE.take (i:=2) (v:=?_) rfl (by kernel_rfl) (by kernel_rfl) (by kernel_rfl) (by kernel_rfl) (by kernel_rfl) (fun _ _ _ h=>h) (Or.inl ⟨by rfl,?_⟩) hS ?_
          rotate_left
          focus (intro wq hSq;obtain ⟨hS1,hS2⟩:=hSq;go_simp;with_reducible rfl)
          try simp only [Act.put,List.setIfInBounds_toArray,List.set_cons_zero,List.set_cons_succ]
          refine AnyE.take (i:=3) (v:=?_) rfl (by kernel_rfl) (by kernel_rfl) (by kernel_rfl) (by kernel_rfl) (by kernel_rfl) (fun _ _ _ h=>h) (Or.inl ⟨by rfl,?_⟩) hS ?_
          rotate_left
          focus (intro wq hSq;obtain ⟨hS1,hS2⟩:=hSq;go_simp;with_reducible rfl)
          try simp only [Act.put,List.setIfInBounds_toArray,List.set_cons_zero,List.set_cons_succ]
          refine AnyE.take (i:=5) (v:=?_) rfl (by kernel_rfl) (by kernel_rfl) (by kernel_rfl) (by kernel_rfl) (by kernel_rfl) (fun _ _ _ h=>h) (Or.inl ⟨by rfl,?_⟩) hS ?_
          rotate_left
          focus (intro wq hSq;obtain ⟨hS1,hS2⟩:=hSq;go_simp;with_reducible rfl)
          try simp only [Act.put,List.setIfInBounds_toArray,List.set_cons_zero,List.set_cons_succ]
          refine AnyE.take (i:=6) (v:=?_) rfl (by kernel_rfl) (by kernel_rfl) (by kernel_rfl) (by kernel_rfl) (by kernel_rfl) (fun _ _ _ h=>h) (Or.inl ⟨by rfl,?_⟩) hS ?_
          rotate_left
          focus (intro wq hSq;obtain ⟨hS1,hS2⟩:=hSq;go_simp;with_reducible rfl)
          try simp only [Act.put,List.setIfInBounds_toArray,List.set_cons_zero,List.set_cons_succ]
          refine AnyE.take (i:=7) (v:=?_) rfl (by kernel_rfl) (by kernel_rfl) (by kernel_rfl) (by kernel_rfl) (by kernel_rfl) (fun _ _ _ h=>h) (Or.inl ⟨by rfl,?_⟩) hS ?_
          rotate_left
          focus (intro wq hSq;obtain ⟨hS1,hS2⟩:=hSq;go_simp;with_reducible rfl)
          try simp only [Act.put,List.setIfInBounds_toArray,List.set_cons_zero,List.set_cons_succ]
          refine AnyE.take (i:=8) (v:=?_) rfl (by kernel_rfl) (by kernel_rfl) (by kernel_rfl) (by kernel_rfl) (by kernel_rfl) (fun _ _ _ h=>h) (Or.inl ⟨by rfl,?_⟩) hS ?_
          rotate_left
          focus (intro wq hSq;obtain ⟨hS1,hS2⟩:=hSq;go_simp;with_reducible rfl)
          try simp only [Act.put,List.setIfInBounds_toArray,List.set_cons_zero,List.set_cons_succ]
          refine AnyE.take (i:=10) (v:=?_) rfl (by kernel_rfl) (by kernel_rfl) (by kernel_rfl) (by kernel_rfl) (by kernel_rfl) (fun _ _ _ h=>h) (Or.inl ⟨by rfl,?_⟩) hS ?_
          rotate_left
          focus (intro wq hSq;obtain ⟨hS1,hS2⟩:=hSq;go_simp;with_reducible rfl)
          try simp only [Act.put,List.setIfInBounds_toArray,List.set_cons_zero,List.set_cons_succ]
          refine AnyE.take (i:=11) (v:=?_) rfl (by kernel_rfl) (by kernel_rfl) (by kernel_rfl) (by kernel_rfl) (by kernel_rfl) (fun _ _ _ h=>h) (Or.inl ⟨by rfl,?_⟩) hS ?_
          rotate_left
          focus (intro wq hSq;obtain ⟨hS1,hS2⟩:=hSq;go_simp;with_reducible rfl)
          try simp only [Act.put,List.setIfInBounds_toArray,List.set_cons_zero,List.set_cons_succ]
          refine AnyE.take (i:=12) (v:=?_) rfl (by kernel_rfl) (by kernel_rfl) (by kernel_rfl) (by kernel_rfl) (by kernel_rfl) (fun _ _ _ h=>h) (Or.inl ⟨by rfl,?_⟩) hS ?_
          rotate_left
          focus (intro wq hSq;obtain ⟨hS1,hS2⟩:=hSq;go_simp;with_reducible rfl)
          try simp only [Act.put,List.setIfInBounds_toArray,List.set_cons_zero,List.set_cons_succ]
          refine AnyE.take (i:=13) (v:=?_) rfl (by kernel_rfl) (by kernel_rfl) (by kernel_rfl) (by kernel_rfl) (by kernel_rfl) (fun _ _ _ h=>h) (Or.inl ⟨by rfl,?_⟩) hS ?_
          rotate_left
          focus (intro wq hSq;obtain ⟨hS1,hS2⟩:=hSq;go_simp;with_reducible rfl)
          try simp only [Act.put,List.setIfInBounds_toArray,List.set_cons_zero,List.set_cons_succ]
          refine AnyE.one (i:=4) (by kernel_rfl) rfl rfl ?_
          intro K hK
          simp only [List.getElem_toArray,List.getElem_cons_succ,List.getElem_cons_zero]
          refine wp_appI (.tmp 36) (.tmp 38) rfl (w.heap.size + 3) v1 _ ?_ HO1.out (.slice x1 c.rep.length y1) c.rep ?_ (I1.out.below Hbw.out (Nat.le_refl _)) ?_ ?_ ?_
          focus (go_simp)
          focus (go_simp)
          focus (omega)
          focus (omega)
          intro u1 w4 ho1 hg1 hq1
          have hb1:=(Below.refl (w.heap.size + 3) wd).grown hg1 hszD (fun q hq=>(HO1.out.lt q hq).1)
          have f12:=own_far HO2.out hg1 (fun q h1 h2=>D12.out q h2 h1)
          have f13:=own_far HO3.out hg1 (fun q h1 h2=>D13.out q h2 h1)
          replace RR:=Lib.hid (row_below hb1 RR.out (by omega));replace RO:=Lib.hid (row_below hb1 RO.out (by omega));replace RC:=Lib.hid ((hg1.block gc (row_lt RC.out) (fun e=>by have:=L1.out gc e.symm;omega)).trans RC.out)
          replace D12:=Lib.hid (show ∀ q,u1.ownBlock = some q → v2.ownBlock ≠ some q from fun q hq h2=>by
            rcases hq1 with e | e
            · exact D12.out q (e ▸ hq) h2
            · rw [e] at hq;cases hq;have:=(HO2.out.lt _ h2).2;omega)
          replace D13:=Lib.hid (show ∀ q,u1.ownBlock = some q → v3.ownBlock ≠ some q from fun q hq h2=>by
            rcases hq1 with e | e
            · exact D13.out q (e ▸ hq) h2
            · rw [e] at hq;cases hq;have:=(HO3.out.lt _ h2).2;omega)
          replace HO2:=Lib.hid f12
          replace HO3:=Lib.hid f13
          have HU1:=Lib.hid ho1
          replace Hbw:=Lib.hid (Hbw.out.trans (hb1.mono (by omega)))
          replace hszD:=Nat.le_trans hszD hb1.size
          have hS:=(⟨rowc RO.out,rowc RC.out⟩:(∀ j,w4.cell? ⟨w.heap.size + 1 + 1,j,none⟩ = (#[.int .i64 f.id,v1,v2,v3]:Array Value)[j]?) ∧ _)
          refine hK _ _ (fun _=>hS) ?_
          clear hK K
          simp only [Act.put,List.setIfInBounds_toArray,List.set_cons_zero,List.set_cons_succ]
          refine AnyE.take (i:=15) (v:=?_) rfl (by kernel_rfl) (by kernel_rfl) (by kernel_rfl) (by kernel_rfl) (by kernel_rfl) (fun _ _ _ h=>h) (Or.inl ⟨by rfl,?_⟩) hS ?_
          rotate_left
          focus (intro wq hSq;obtain ⟨hS1,hS2⟩:=hSq;go_simp;with_reducible rfl)
          try simp only [Act.put,List.setIfInBounds_toArray,List.set_cons_zero,List.set_cons_succ]
          refine AnyE.one (i:=9) (by kernel_rfl) rfl rfl ?_
          intro K hK
          simp only [List.getElem_toArray,List.getElem_cons_succ,List.getElem_cons_zero]
          refine wp_appI (.tmp 41) (.tmp 43) rfl (w.heap.size + 3) v2 _ ?_ HO2.out (.slice x2 c.df.length y2) c.df ?_ (I2.out.below Hbw.out (Nat.le_refl _)) ?_ ?_ ?_
          focus (go_simp)
          focus (go_simp)
          focus (omega)
          focus (omega)
          intro u2 w5 ho2 hg2 hq2
          have hb2:=(Below.refl (w.heap.size + 3) w4).grown hg2 hszD (fun q hq=>(HO2.out.lt q hq).1)
          have f21:=own_far HU1.out hg2 (fun q h1 h2=>D12.out q h1 h2)
          have f23:=own_far HO3.out hg2 (fun q h1 h2=>D23.out q h2 h1)
          replace RR:=Lib.hid (row_below hb2 RR.out (by omega));replace RO:=Lib.hid (row_below hb2 RO.out (by omega));replace RC:=Lib.hid ((hg2.block gc (row_lt RC.out) (fun e=>by have:=L2.out gc e.symm;omega)).trans RC.out)
          replace D12:=Lib.hid (show ∀ q,u1.ownBlock = some q → u2.ownBlock ≠ some q from fun q h2 hq=>by
            rcases hq2 with e | e
            · exact D12.out q h2 (e ▸ hq)
            · rw [e] at hq;cases hq;have:=(HU1.out.lt _ h2).2;omega)
          replace D23:=Lib.hid (show ∀ q,u2.ownBlock = some q → v3.ownBlock ≠ some q from fun q hq h2=>by
            rcases hq2 with e | e
            · exact D23.out q (e ▸ hq) h2
            · rw [e] at hq;cases hq;have:=(HO3.out.lt _ h2).2;omega)
          replace HU1:=Lib.hid f21
          replace HO3:=Lib.hid f23
          have HU2:=Lib.hid ho2
          replace Hbw:=Lib.hid (Hbw.out.trans (hb2.mono (by omega)))
          replace hszD:=Nat.le_trans hszD hb2.size
          have hS:=(⟨rowc RO.out,rowc RC.out⟩:(∀ j,w5.cell? ⟨w.heap.size + 1 + 1,j,none⟩ = (#[.int .i64 f.id,v1,v2,v3]:Array Value)[j]?) ∧ _)
          refine hK _ _ (fun _=>hS) ?_
          clear hK K
          simp only [Act.put,List.setIfInBounds_toArray,List.set_cons_zero,List.set_cons_succ]
          refine AnyE.one (i:=14) (by kernel_rfl) rfl rfl ?_
          intro K hK
          simp only [List.getElem_toArray,List.getElem_cons_succ,List.getElem_cons_zero]
          refine wp_appV (.tmp 46) (.tmp 48) rfl (w.heap.size + 3) v3 _ ?_ HO3.out (.slice x3 c.vals.length y3) c.vals ?_ (I3.out.below Hbw.out (Nat.le_refl _)) ?_ ?_ ?_
          focus (go_simp)
          focus (go_simp)
          focus (omega)
          focus (omega)
          intro u3 w6 ho3 hg3 hq3
          have hb3:=(Below.refl (w.heap.size + 3) w5).grown hg3 hszD (fun q hq=>(HO3.out.lt q hq).1)
          have f31:=own_far HU1.out hg3 (fun q h1 h2=>D13.out q h1 h2)
          have f32:=own_far HU2.out hg3 (fun q h1 h2=>D23.out q h1 h2)
          replace RR:=Lib.hid (row_below hb3 RR.out (by omega));replace RO:=Lib.hid (row_below hb3 RO.out (by omega));replace RC:=Lib.hid ((hg3.block gc (row_lt RC.out) (fun e=>by have:=L3.out gc e.symm;omega)).trans RC.out)
          replace D13:=Lib.hid (show ∀ q,u1.ownBlock = some q → u3.ownBlock ≠ some q from fun q h2 hq=>by
            rcases hq3 with e | e
            · exact D13.out q h2 (e ▸ hq)
            · rw [e] at hq;cases hq;have:=(HU1.out.lt _ h2).2;omega)
          replace D23:=Lib.hid (show ∀ q,u2.ownBlock = some q → u3.ownBlock ≠ some q from fun q h2 hq=>by
            rcases hq3 with e | e
            · exact D23.out q h2 (e ▸ hq)
            · rw [e] at hq;cases hq;have:=(HU2.out.lt _ h2).2;omega)
          replace HU1:=Lib.hid f31
          replace HU2:=Lib.hid f32
          have HU3:=Lib.hid ho3
          replace Hbw:=Lib.hid (Hbw.out.trans (hb3.mono (by omega)))
          replace hszD:=Nat.le_trans hszD hb3.size
          have hS:=(⟨rowc RO.out,rowc RC.out⟩:(∀ j,w6.cell? ⟨w.heap.size + 1 + 1,j,none⟩ = (#[.int .i64 f.id,v1,v2,v3]:Array Value)[j]?) ∧ _)
          refine hK _ _ (fun _=>hS) ?_
          clear hK K
          simp only [Act.put,List.setIfInBounds_toArray,List.set_cons_zero,List.set_cons_succ]
          obtain ⟨un1,ub1,uc1,eu1⟩:=own_cap' HU1.out
          obtain ⟨un2,ub2,uc2,eu2⟩:=own_cap' HU2.out
          obtain ⟨un3,ub3,uc3,eu3⟩:=own_cap' HU3.out
          subst eu1 eu2 eu3
          refine AnyE.one (i:=16) (by kernel_rfl) rfl rfl ?_
          intro K hK
          have cO:=rowc RO.out;have fO:=rowf RO.out
          simp only [List.getElem_toArray,List.getElem_cons_succ,List.getElem_cons_zero]
          go_simp
          refine hK _ _ (fun h=>by cases h) ?_
          clear hK K cO fO
          obtain ⟨s1,s2,s3,s4⟩:=store_cell_row (j:=1) (v:=(.slice ub1 un1 uc1)) RO.out
          replace RR:=Lib.hid ((s2 _ (by omega)).trans RR.out);replace Hbw:=Lib.hid (Hbw.out.trans (s3.mono (by omega)))
          replace HU1:=Lib.hid (ownK HU1.out fun i hi _=>s2 i (by omega));replace HU2:=Lib.hid (ownK HU2.out fun i hi _=>s2 i (by omega));replace HU3:=Lib.hid (ownK HU3.out fun i hi _=>s2 i (by omega))
          replace RO:=Lib.hid (s1.trans (show _ = some (.cells #[.int .i64 f.id,(.slice ub1 un1 uc1),v2,v3] 32 (0,0)) from rfl))
          replace hszD:=Nat.le_trans hszD (Nat.le_of_eq s4.symm)
          clear s1;clear s2;clear s3;clear s4
          try simp only [Act.put,List.setIfInBounds_toArray,List.set_cons_zero,List.set_cons_succ]
          generalize w6.setCell ⟨w.heap.size + 1 + 1,1,none⟩ (.slice ub1 un1 uc1) = w7 at *
          refine AnyE.one (i:=17) (by kernel_rfl) rfl rfl ?_
          intro K hK
          simp only [List.getElem_toArray,List.getElem_cons_succ,List.getElem_cons_zero]
          go_simp
          refine hK _ _ (fun h=>by cases h) ?_
          clear hK K
          try simp only [Act.put,List.setIfInBounds_toArray,List.set_cons_zero,List.set_cons_succ]
          refine AnyE.one (i:=18) (by kernel_rfl) rfl rfl ?_
          intro K hK
          have cO:=rowc RO.out;have fO:=rowf RO.out
          simp only [List.getElem_toArray,List.getElem_cons_succ,List.getElem_cons_zero]
          go_simp
          refine hK _ _ (fun h=>by cases h) ?_
          clear hK K cO fO
          obtain ⟨s1,s2,s3,s4⟩:=store_cell_row (j:=2) (v:=(.slice ub2 un2 uc2)) RO.out
          replace RR:=Lib.hid ((s2 _ (by omega)).trans RR.out);replace Hbw:=Lib.hid (Hbw.out.trans (s3.mono (by omega)))
          replace HU1:=Lib.hid (ownK HU1.out fun i hi _=>s2 i (by omega));replace HU2:=Lib.hid (ownK HU2.out fun i hi _=>s2 i (by omega));replace HU3:=Lib.hid (ownK HU3.out fun i hi _=>s2 i (by omega))
          replace RO:=Lib.hid (s1.trans (show _ = some (.cells #[.int .i64 f.id,(.slice ub1 un1 uc1),(.slice ub2 un2 uc2),v3] 32 (0,0)) from rfl))
          replace hszD:=Nat.le_trans hszD (Nat.le_of_eq s4.symm)
          clear s1;clear s2;clear s3;clear s4
          try simp only [Act.put,List.setIfInBounds_toArray,List.set_cons_zero,List.set_cons_succ]
          generalize w7.setCell ⟨w.heap.size + 1 + 1,2,none⟩ (.slice ub2 un2 uc2) = w8 at *
          refine AnyE.one (i:=19) (by kernel_rfl) rfl rfl ?_
          intro K hK
          simp only [List.getElem_toArray,List.getElem_cons_succ,List.getElem_cons_zero]
          go_simp
          refine hK _ _ (fun h=>by cases h) ?_
          clear hK K
          try simp only [Act.put,List.setIfInBounds_toArray,List.set_cons_zero,List.set_cons_succ]
          refine AnyE.one (i:=20) (by kernel_rfl) rfl rfl ?_
          intro K hK
          have cO:=rowc RO.out;have fO:=rowf RO.out
          simp only [List.getElem_toArray,List.getElem_cons_succ,List.getElem_cons_zero]
          go_simp
          refine hK _ _ (fun h=>by cases h) ?_
          clear hK K cO fO
          obtain ⟨s1,s2,s3,s4⟩:=store_cell_row (j:=3) (v:=(.slice ub3 un3 uc3)) RO.out
          replace RR:=Lib.hid ((s2 _ (by omega)).trans RR.out);replace Hbw:=Lib.hid (Hbw.out.trans (s3.mono (by omega)))
          replace HU1:=Lib.hid (ownK HU1.out fun i hi _=>s2 i (by omega));replace HU2:=Lib.hid (ownK HU2.out fun i hi _=>s2 i (by omega));replace HU3:=Lib.hid (ownK HU3.out fun i hi _=>s2 i (by omega))
          replace RO:=Lib.hid (s1.trans (show _ = some (.cells #[.int .i64 f.id,(.slice ub1 un1 uc1),(.slice ub2 un2 uc2),(.slice ub3 un3 uc3)] 32 (0,0)) from rfl))
          replace hszD:=Nat.le_trans hszD (Nat.le_of_eq s4.symm)
          clear s1;clear s2;clear s3;clear s4
          try simp only [Act.put,List.setIfInBounds_toArray,List.set_cons_zero,List.set_cons_succ]
          generalize w8.setCell ⟨w.heap.size + 1 + 1,3,none⟩ (.slice ub3 un3 uc3) = w9 at *
          refine AnyE.done (by kernel_rfl) ?_ _
          clear hS RC L1 L2 L3 HO1 HO2 HO3
          go_wp2_with fail
          go_roundw
          case rel=>exact ⟨j + 1,_,_,_,Hlt.out,by go_num,Hbw.out,RR.out,RO.out,by rw [Htk.out,List.flatMap_append,List.flatMap_singleton];exact HU1.out,by rw [Htk.out,List.flatMap_append,List.flatMap_singleton];exact HU2.out,by rw [Htk.out,List.flatMap_append,List.flatMap_singleton];exact HU3.out,D12.out,D13.out,D23.out,hszD⟩
          case measure=>have:=Hlt.out;simp [intOf];omega
        · obtain rfl:j = k:=by omega
          have htk:l.take j = l:=List.take_of_length_le (Nat.le_of_eq HL.out)
          have ho1:=HO1.out;have ho2:=HO2.out;have ho3:=HO3.out
          rw [htk] at ho1 ho2 ho3
          clear HO1 HO2 HO3 htk hlt hj D12 D13 D23
          obtain ⟨n1,vb,vc,rfl,hn1,hr1⟩:=own_cap3 ho1;obtain ⟨n2,vb2,vc2,rfl,hn2,hr2⟩:=own_cap3 ho2;obtain ⟨n3,vb3,vc3,rfl⟩:=own_cap' ho3
          have Hr:=Lib.hid (And.intro hr1 hr2);have Hn1:=Lib.hid hn1
          clear hr1 hr2 hn2
          have HO1:=Lib.hid ho1;have HO2:=Lib.hid ho2;have HO3:=Lib.hid ho3
          clear ho1 ho2 ho3
          have cO:=rowc RO.out;have cR:=rowc RR.out;have fR:=rowf RR.out
          by_cases hb:n1 ≤ 20000
          · have hb1:¬ (20000:Int) < (n1:Int):=by omega
            have Hb:=Lib.hid (show ¬ 20000 < (l.flatMap Col.rep).length by rw [← Hn1.out];omega)
            clear hb hn1
            go_wp2_with fail
            refine bodyPost_ret (v:=.tuple #[.agg #[.int .i64 f.id,.slice vb n1 vc,.slice vb2 n2 vc2,.slice vb3 n3 vc3],.nilIface]) ?_ rfl ⟨?_,?_⟩
            focus (refine results_row_tmp Tryd.results9 _ _ (w.heap.size + 1) 32 _ (0,0) _ rfl ?_ Tryd.underlying32 rfl (by kernel_rfl);with_reducible exact row_set4 RR.out rfl _ _ _ _)
            focus (exact .inl ⟨Hb.out,_,rfl,⟨_,_,_,rfl,own_baseJ (ownK HO1.out fun i hi _=>set4_other (by omega) _ _ _ _) (by omega),own_baseJ (ownK HO2.out fun i hi _=>set4_other (by omega) _ _ _ _) (by omega),own_baseJ (ownK HO3.out fun i hi _=>set4_other (by omega) _ _ _ _) (by omega)⟩,room_lit Hr.out.1 Hr.out.2⟩)
            focus (with_reducible exact below_set4 Hbw.out _ (by omega) _ _ _ _)
          · have hb1:(20000:Int) < (n1:Int):=by omega
            have Hb:=Lib.hid (show 20000 < (l.flatMap Col.rep).length by rw [← Hn1.out];omega)
            clear hb hn1
            go_upto_region 15 with fail
            have e2:=HK2.out wr Hbw.out
            have e2d:wr.drew.cell? ⟨0,0,none⟩ = some (.iface 174 (.pointer (some (adr 2)))):=e2
            have hnb:(0:Nat) ≠ w.heap.size + 1:=Nat.ne_of_lt (Nat.lt_succ_of_lt hg2)
            have RRd:=Lib.hid (show wr.drew.heap[w.heap.size + 1]? = _ from RR.out)
            go_region_held3 (fun w'=>w'.cell? ⟨0,0,none⟩ = some (.iface 174 (.pointer (some (adr 2))))) (first | (with_reducible exact e2) | (with_reducible exact e2d) | (with_reducible exact cell_set4 hnb e2d _ _ _ _) | (with_reducible exact cell_set4 hnb e2 _ _ _ _) | (with_reducible exact cell_set4d hnb e2 _ _ _ _)) (fail)
            all_goals go_wp2_with fail
            all_goals refine bodyPost_ret (v:=.tuple #[.agg #[.int .i64 0,.slice none 0 0,.slice none 0 0,.slice none 0 0],.iface 174 (.pointer (some (adr 2)))]) ?_ rfl ⟨.inr ⟨Hb.out,rfl⟩,?_⟩
            all_goals first
              | (refine results_row_tmp Tryd.results9 _ _ (w.heap.size + 1) 32 _ (0,0) _ rfl ?_ Tryd.underlying32 rfl (by kernel_rfl);first | (with_reducible exact row_set4 RR.out rfl _ _ _ _) | (with_reducible exact row_set4 RRd.out rfl _ _ _ _) | (with_reducible exact row_set4d RR.out rfl _ _ _ _))
              | (with_reducible exact below_set4 Hbw.out _ (Nat.le_succ _) _ _ _ _)
              | (with_reducible exact (below_set4 Hbw.out _ (Nat.le_succ _) _ _ _ _).drew)
              | (with_reducible exact (below_set4 Hbw.out.drew _ (Nat.le_succ _) _ _ _ _))
end Go.Proofs.YtkmhmnffbgedgaaDoor
/- The walk of shred.Join where a column is none of the leaf's. -/
namespace Go.Proofs.YtkmhmnffbgedgaaDoor
set_option linter.unusedVariables false
set_option linter.unusedSimpArgs false
open Go Go.RowKit Go.ChangeShapes
theorem IsErr.off {w w':World} {adr:Nat → Addr} {e:GErr} {u:Value} (h:IsErr w adr e u) {g:Nat} {c:Value} (hg:w.cell? ⟨g,1,none⟩ = some c) (hc:∀ T p,c ≠ .iface T p) (hk:∀ b,b ≠ g → w'.heap[b]? = w.heap[b]?):IsErr w' adr e u:=by
 cases e with
 | nil=>exact h
 | sent k=>exact h
 | fault k p =>
  obtain ⟨h1,h2,b,h3,h4,h5⟩:=h
  have hb:b ≠ g:=by
   intro e
   subst e
   rw [hg] at h5
   exact hc _ _ (Option.some.inj h5)
  exact ⟨h1,h2,b,h3,(World.cell?_of_block (a:=⟨b,0,none⟩) (hk b hb)).trans h4,(World.cell?_of_block (a:=⟨b,1,none⟩) (hk b hb)).trans h5⟩
end Go.Proofs.YtkmhmnffbgedgaaDoor
/- ShredJoins: what is wanted, column by column: the variable that grows; the first error. -/
namespace Go.Proofs.YtkmhmnffbgedgaaDoor
set_option linter.unusedVariables false
set_option linter.unusedSimpArgs false
open Go Go.RowKit Go.ChangeShapes
end Go.Proofs.YtkmhmnffbgedgaaDoor
