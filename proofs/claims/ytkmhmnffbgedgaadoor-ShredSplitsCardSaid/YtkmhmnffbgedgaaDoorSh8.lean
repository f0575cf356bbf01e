/- The walk of shred.Shred. Written by gen_sh8.py. -/
import Derived.Test.YtkmhmnffbgedgaaDoorDc2
import Derived.Test.YtkmhmnffbgedgaaDoorTv3
namespace Go.Proofs.YtkmhmnffbgedgaaDoor
set_option maxHeartbeats 32000000
set_option linter.unusedVariables false
set_option linter.unusedSimpArgs false
open Go Go.RowKit Go.ChangeShapes
theorem valid_le5 (n:Nd):validE n ≤ 8:=by
 unfold validE
 repeat' split
 all_goals omega
theorem col_infoC:(Tryd.prog.info? 32).map (fun i=>(i.zero,i.size,i.bytes)) = some (some (.agg #[.int .i64 0,.slice none 0 0,.slice none 0 0,.slice none 0 0]),4,80):=by kernel_rfl
theorem own_k {w:World} {B n s:Nat} {e:TypeId} {v:Value} {xs:List Value} (h:w.ownsRow B e s v n xs):∃ a m c,v = .slice a m c ∧ m = n:=by
 rcases h.2 with ⟨rfl,rfl⟩ | ⟨g,cap,cur,rfl,_⟩ <;> exact ⟨_,_,_,rfl,rfl⟩
theorem err_of_eV {w:World} {adr:Nat → Addr} {V:Nat} (h0:V ≠ 0) (h8:V ≤ 8):IsErr w adr (.sent V) (eV adr V):=by
 obtain ⟨q,rfl⟩:∃ q,V = q + 1:=⟨V - 1,by omega⟩
 exact ⟨by omega,h8,rfl⟩
theorem ls_at {B g n c:Nat} {w:World} {LO:List (Lvf × Value)} (h:w.ownsRow B 39 5 (.slice (some ⟨g,0,none⟩) n c) LO.length (LO.flatMap lfC)) (k:Nat) (p:Lvf × Value) (hk:LO[k]? = some p) (pa:Option Addr) (pn pc:Nat) (hp:p.2 = .slice pa pn pc) :
  ∀ j v,(#[.int .i64 p.1.id,.int .i64 p.1.kind,.int .i64 p.1.mr,.int .i64 p.1.md,.slice pa pn pc]:Array Value)[j]? = some v → w.cell? ⟨g,k * 5 + j,none⟩ = some v:=by
 intro j v hj
 have hj5:j < 5:=by have:=(Array.getElem?_eq_some_iff.1 hj).1;simpa using this
 have hkl:=(List.getElem?_eq_some_iff.1 hk).1
 obtain ⟨g2,cap,cur,e1,_,h2,_,h4⟩:=own_rowS h (by omega)
 injection e1 with e1
 injection e1 with e1
 injection e1 with e1
 subst e1
 rw [rowc h2]
 refine h4 _ _ ?_
 rw [flat_atK lfC 5 (fun _=>rfl) LO k p hk j hj5,← hj]
 have e:lfC p = [.int .i64 p.1.id,.int .i64 p.1.kind,.int .i64 p.1.mr,.int .i64 p.1.md,p.2]:=by unfold lfC;rw [hp];rfl
 rw [e,hp]
 simp
theorem datEL_le4 (n:Nd):∀ (l:List Dt),(∀ x ∈ l,∀ n one,datE n one x ≤ 4) → datEL n l ≤ 4
 | [],_=>by simp [datEL]
 | a :: r,h=>by
  simp only [datEL]
  split
  ·exact datEL_le4 n r fun x hx=>h x (List.mem_cons_of_mem _ hx)
  ·exact h a (List.mem_cons_self ..) n true
theorem datEF_le4:∀ (s:List Nd) (l:List Dt),(∀ x ∈ l,∀ n one,datE n one x ≤ 4) → datEF s l ≤ 4
 | [],l,_=>by cases l <;> simp [datEF]
 | m :: t,[],_=>by simp [datEF]
 | m :: t,a :: r,h=>by
  simp only [datEF]
  split
  ·exact datEF_le4 t r fun x hx=>h x (List.mem_cons_of_mem _ hx)
  ·exact h a (List.mem_cons_self ..) m false
theorem datE_le4:∀ (d:Dt) (n:Nd) (one:Bool),datE n one d ≤ 4:=by
 apply Dt.ind
 intro d hl hf n one
 rw [datE_eq]
 have h1:=datEL_le4 n d.l hl
 have h2:=datEF_le4 n.sub d.f hf
 repeat' split
 all_goals omega
theorem sh_start {n:Nd} {LO:List (Lvf × Value)} (hm:LO.map Prod.fst = leavesN n):(fun j=>((LO[j]?).map fun p=>p.1.md).getD 0) = lvMd n ∧ (fun j=>((LO[j]?).map fun p=>p.1.id).getD 0) = lvId n:=by
 constructor <;> funext j
 ·unfold lvMd;rw [← hm,List.getElem?_map,Option.map_map];rfl
 ·unfold lvId;rw [← hm,List.getElem?_map,Option.map_map];rfl
set_option maxRecDepth 100000 in
theorem shred_any (adr:Nat → Addr) (n:Nd) (l:List Dt) (u v:Value) (w:World) (hE:ErrsAt w adr [2,3,4,5]) (hN:IsNds (· < w.heap.size) w u n.sub) (hO:∀ x ∈ nodes n,x.Ok1) (hL:IsDts (· < w.heap.size) w v l) (hD:∀ y ∈ dtsL l,y.Ok1)
    (hcap:shredErr n l = .nil → ∀ j,(shAll n l j).length ≤ 20000) (hwg:shredErr n l = .nil → ∀ d ∈ l,wgt d ≤ 1000000000000):Calls Tryd.prog 16 #[.agg (ndA n u),v] w (ShredRet adr (shredErr n l) (shCols n l) w):=by
  have HLV:=Lib.hid (fun (w1:World) (h:Below w.heap.size w w1)=>leavesP_any adr n u w1 ((hE.sub (by decide)).below h) ((hN.under h).mono fun b hb _=>Nat.lt_of_lt_of_le hb h.size) hO)
  have e2:=hE.cell 2 (by decide)
  have g2:=block_lt_of_cell e2
  unfold gErr at e2 g2
  have HE2:=Lib.hid (fun (w1:World) (h:Below w.heap.size w w1)=>((bcell h).1 _ 0 g2).trans e2)
  have HE:=Lib.hid hE;have HN:=Lib.hid hN;have HO:=Lib.hid hO;have HL:=Lib.hid hL;have HD:=Lib.hid hD
  obtain ⟨au,cu,rfl⟩:=hN.form
  obtain ⟨al,cl,rfl⟩:=hL.form
  obtain ⟨G,hG⟩:∃ G,shredErr n l = G:=⟨_,rfl⟩
  rw [hG] at hcap hwg ⊢
  have HG:=Lib.hid hG;have HCAP:=Lib.hid hcap;have HWG:=Lib.hid hwg
  obtain ⟨ns,hns⟩:∃ ns,n.sub.length = ns:=⟨_,rfl⟩
  obtain ⟨nl,hnl⟩:∃ nl,l.length = nl:=⟨_,rfl⟩
  rw [hns] at HLV HN ⊢;rw [hnl] at HL ⊢
  have HNL:=Lib.hid hnl
  clear hE hN hO hL hD e2 g2 hG hcap hwg hns hnl
  obtain ⟨i0,hi,hz0,hz1,hz2⟩:=info_parts info_intC
  obtain ⟨i1,hj,hy0,hy1,hy2⟩:=info_parts col_infoC
  have hbw:=(Below.refl w.heap.size w).alloc (Nat.le_refl _) (.cells #[.int .i64 n.id,.string n.name,.int .i64 n.rep,.int .i64 n.kind,.slice au ns cu] 47)
  have rA:=heap_alloc_new w (.cells #[.int .i64 n.id,.string n.name,.int .i64 n.rep,.int .i64 n.kind,.slice au ns cu] 47)
  unfold ndA at *
  go_enter Tryd.func16,Tryd.ntmps16
  go_upto_region 1 with fail
  generalize (w.alloc (.cells #[.int .i64 n.id,.string n.name,.int .i64 n.rep,.int .i64 n.kind,.slice au ns cu] 47)) = w1 at *
  have HW:=Lib.hid hbw;have RA:=Lib.hid rA
  have cA:=rowc rA
  clear hbw rA
  go_wp2_with fail
  refine (HLV.out w1 HW.out).mono ?_;rintro e w2 ⟨hb2,hres⟩
  replace RA:=Lib.hid (row_keep hb2 RA.out);replace HW:=Lib.hid (HW.out.trans (hb2.mono HW.out.size))
  have hzw:w1.heap.size ≤ w2.heap.size:=hb2.size
  clear hb2 cA HLV
  rcases hres with ⟨hv,vL,LO,rfl,hr,hm⟩ | ⟨hv,rfl⟩
  case inr =>
    have hEr:=err_of_eV (w:=w2) (adr:=adr) hv (valid_le5 n)
    have hGV:G = .sent (validE n):=by rw [← HG.out];unfold shredErr;rw [if_pos hv]
    obtain ⟨q,hq⟩:∃ q,validE n = q + 1:=⟨validE n - 1,by omega⟩
    rw [hq] at hEr hGV ⊢
    subst hGV
    have HEr:=Lib.hid hEr
    clear hv hEr hq HG HCAP HWG
    unfold eV
    go_wp2_with fail
    go_ret2
    exact ⟨HW.out,.inr ⟨by simp,_,rfl,HEr.out⟩⟩
  have HV:=Lib.hid hv;have HM:=Lib.hid hm;have HLS:=Lib.hid hr
  obtain ⟨nL,hnL⟩:∃ nL,LO.length = nL:=⟨_,rfl⟩
  have hpos:1 ≤ nL ∧ nL ≤ 40:=by
    have h1:=leaves_len (valid_root hv).1
    have h2:=lvs_pos n (valid_shapes hv)
    have h3:=lvs_le.1 n
    have h4:=(good_small hv).1
    have h5:=congrArg List.length hm
    rw [List.length_map,hnL,h1] at h5
    omega
  have hroot:lvs n ≤ nL:=by
    have h1:=leaves_len (valid_root hv).1
    have h5:=congrArg List.length hm
    rw [List.length_map,hnL,h1] at h5
    omega
  have HRT:=Lib.hid hroot
  obtain ⟨gL,cL,curL,hvL,hgL1,hgL2,hgL3,hgL4⟩:=own_rowS hr.1 (by rw [hnL];omega)
  rw [hnL] at hvL
  subst hvL
  have HNLL:=Lib.hid hnL
  have hpos1:=hpos.1;have hpos2:=hpos.2
  clear hv hr hm hroot hgL1 hgL2 hgL3 hgL4 hnL hpos
  by_cases h100:100 < nl
  · have d100:(100:Int) < (nl:Int):=by omega
    have hGV:G = .sent 2:=by rw [← HG.out];unfold shredErr;rw [if_neg (by rw [HV.out];simp),if_pos (by rw [HNL.out];exact h100)]
    subst hGV
    clear h100 HG HCAP HWG
    go_upto_region 5 with fail
    refine AnyE.region (S:=fun w'=>w'.cell? ⟨0,0,none⟩ = some (.iface 174 (.pointer (some (adr 2))))) (E:=[]) (by kernel_rfl) ?_
    have hbd:=(Below.refl w2.heap.size w2).drew
    replace HW:=Lib.hid (HW.out.trans (hbd.mono HW.out.size))
    clear hbd
    generalize w2.drew = wd at *
    have hS:=(HE2.out wd HW.out:(fun w'=>w'.cell? ⟨0,0,none⟩ = some (.iface 174 (.pointer (some (adr 2))))) wd)
    refine AnyE.takeL (i:=0) (v:=?_) rfl (by kernel_rfl) (by kernel_rfl) (by kernel_rfl) (by kernel_rfl) (by kernel_rfl) (fun _ _ _ h=>h) (Or.inl ⟨by rfl,?_⟩) hS ?_
    rotate_left
    focus (intro wq hSq;obtain hS1:=hSq;go_simp;with_reducible rfl)
    try simp only [Act.put,List.getElem_toArray,List.getElem_cons_succ,List.getElem_cons_zero,List.setIfInBounds_toArray,List.set_cons_zero,List.set_cons_succ]
    refine AnyE.takeL (i:=1) (v:=?_) rfl (by kernel_rfl) (by kernel_rfl) (by kernel_rfl) (by kernel_rfl) (by kernel_rfl) (fun _ _ _ h=>h) (Or.inl ⟨by rfl,?_⟩) hS ?_
    rotate_left
    focus (intro wq hSq;obtain hS1:=hSq;go_simp;with_reducible rfl)
    try simp only [Act.put,List.getElem_toArray,List.getElem_cons_succ,List.getElem_cons_zero,List.setIfInBounds_toArray,List.set_cons_zero,List.set_cons_succ]
    refine AnyE.takeL (i:=2) (v:=?_) rfl (by kernel_rfl) (by kernel_rfl) (by kernel_rfl) (by kernel_rfl) (by kernel_rfl) (fun _ _ _ h=>h) (Or.inl ⟨by rfl,?_⟩) hS ?_
    rotate_left
    focus (intro wq hSq;obtain hS1:=hSq;go_simp;with_reducible rfl)
    try simp only [Act.put,List.getElem_toArray,List.getElem_cons_succ,List.getElem_cons_zero,List.setIfInBounds_toArray,List.set_cons_zero,List.set_cons_succ]
    refine AnyE.done (by kernel_rfl) ?_ _
    clear hS
    go_wp2_with fail
    go_ret2
    exact ⟨HW.out,.inr ⟨by simp,_,rfl,by omega,by omega,rfl⟩⟩
  have d100:¬ (100:Int) < (nl:Int):=by omega
  have hnl100:nl ≤ 100:=by omega
  clear h100
  go_upto_region 7 with fail
  have hgW:(w2.alloc (.cells #[.slice none 0 0,.slice none 0 0] 87)).heap[w2.heap.size]? = some (.cells #[.slice none 0 0,.slice none 0 0] 87 (0,0)):=heap_alloc_new w2 _
  have hbW:=(Below.refl w2.heap.size w2).alloc (Nat.le_refl _) (.cells #[.slice none 0 0,.slice none 0 0] 87)
  have RW0:=Lib.hid hgW;have HBW:=Lib.hid hbW
  clear hgW hbW
  generalize (w2.alloc (.cells #[.slice none 0 0,.slice none 0 0] 87)) = w3 at *
  obtain ⟨gW,hgWe⟩:∃ gW,w2.heap.size = gW:=⟨_,rfl⟩
  rw [hgWe] at RW0
  have HGW:=Lib.hid hgWe
  go_wp2_with fail
  rw [hgWe]
  clear hgWe
  have HLS2:=HLS
  go_loopw [32] (fun i wr=>∃ (k:Nat) (a1 a2:Option Addr) (c1 c2:Nat),k ≤ nL ∧ i = .int .i64 (k:Nat) ∧ Hid (wr.heap[gW]? = some (.cells #[.slice a1 k c1,.slice a2 k c2] 87 (0,0))) ∧ Hid (wr.ownsRow (gW + 1) 32 4 (.slice a1 k c1) k ((LO.take k).flatMap zcC)) ∧ Hid (wr.ownsRow (gW + 1) 3 1 (.slice a2 k c2) k ((LO.take k).flatMap mdC)) ∧ Hid (Below gW w2 wr)) (fun i _=>nL - (intOf i).toNat)
  case atStart=>exact ⟨0,none,none,0,0,Nat.zero_le _,rfl,RW0.out,World.ownsRow_nil _ _ _ _,World.ownsRow_nil _ _ _ _,HGW.out ▸ HBW.out⟩
  case round =>
    obtain ⟨k,a1,a2,c1,c2,hk,rfl,RWr,HRC,HRM,HB3⟩:=hrel
    clear RW0 HBW
    have hzB:gW + 1 ≤ wr.heap.size:=row_lt RWr.out
    by_cases hlt:k < nL
    case pos =>
      have hkl:k < LO.length:=by rw [HNLL.out];exact hlt
      obtain ⟨p,hp⟩:∃ p,LO[k]? = some p:=⟨_,List.getElem?_eq_getElem hkl⟩
      have hbk:Below w2.heap.size w2 wr:=HGW.out.symm ▸ HB3.out
      have hlsr:=HLS.out.below hbk
      obtain ⟨pa,pc,hpv⟩:=(hlsr.2 p (List.mem_of_getElem? hp)).1.form
      obtain ⟨pn,hpn⟩:∃ pn,p.1.path.length = pn:=⟨_,rfl⟩
      rw [hpn] at hpv
      have hcp:=ls_at (own_len hlsr.1 rfl) k p hp pa pn pc hpv
      have hTK:(LO.take k).length = k:=by rw [List.length_take];omega
      have hSN:LO.take (k + 1) = LO.take k ++ [p]:=by rw [List.take_add_one,hp];rfl
      have hSK:(LO.take k ++ [p]).length = k + 1:=by rw [List.length_append,hTK];rfl
      have HTK:=Lib.hid hTK;have HSN:=Lib.hid hSN;have HSK:=Lib.hid hSK;have HCP:=Lib.hid hcp;have Hlt:=Lib.hid hlt
      have hin:(k:Int) < (nL:Int):=Int.ofNat_lt.2 hlt
      have hk40:k ≤ 40:=by omega
      have hbx:=(Below.refl wr.heap.size wr).alloc (Nat.le_refl _) (.cells #[.int .i64 p.1.id,.int .i64 p.1.kind,.int .i64 p.1.mr,.int .i64 p.1.md,.slice pa pn pc] 39)
      have hrl:=heap_alloc_new wr (.cells #[.int .i64 p.1.id,.int .i64 p.1.kind,.int .i64 p.1.mr,.int .i64 p.1.md,.slice pa pn pc] 39)
      clear hkl hp hbk hlsr hpv hcp hTK hSN hSK hk hlt hpn
      go_upto_region 10 with (refine wpList_load_cells rfl 39 _ rfl gL (k * 5) rfl #[.int .i64 p.1.id,.int .i64 p.1.kind,.int .i64 p.1.mr,.int .i64 p.1.md,.slice pa pn pc] _ HCP.out Tryd.underlying39 rfl ls_size ?_)
      have hWL:gW ≠ wr.heap.size:=by omega
      replace RWr:=Lib.hid (row_keep hbx RWr.out);have RL:=Lib.hid hrl;replace HRC:=Lib.hid (own_blw HRC.out hbx);replace HRM:=Lib.hid (own_blw HRM.out hbx)
      replace HB3:=Lib.hid (HB3.out.trans (hbx.mono (by omega)))
      replace hzB:=Nat.le_trans hzB hbx.size
      have hgS:gW ≤ gW + 1:=Nat.le_succ _
      have hgS2:gW ≤ gW:=Nat.le_refl _
      clear hbx hrl HCP
      generalize (wr.alloc (.cells #[.int .i64 p.1.id,.int .i64 p.1.kind,.int .i64 p.1.mr,.int .i64 p.1.md,.slice pa pn pc] 39)) = w4 at *
      generalize wr.heap.size = gl at *
      refine AnyE.region (S:=fun w'=>(∀ j_1,w'.cell? ⟨gW,j_1,none⟩ = (#[.slice a1 k c1,.slice a2 k c2]:Array Value)[j_1]?) ∧ (∀ j_1,w'.cell? ⟨gl,j_1,none⟩ = (#[.int .i64 p.1.id,.int .i64 p.1.kind,.int .i64 p.1.mr,.int .i64 p.1.md,.slice pa pn pc]:Array Value)[j_1]?)) (E:=[10,11,12]) (by kernel_rfl) ?_
      have hbd:=(Below.refl w4.heap.size w4).drew
      replace RWr:=Lib.hid (row_keep hbd RWr.out);replace RL:=Lib.hid (row_keep hbd RL.out);replace HRC:=Lib.hid (own_blw HRC.out hbd);replace HRM:=Lib.hid (own_blw HRM.out hbd);replace HB3:=Lib.hid (HB3.out.trans (hbd.mono (by omega)))
      replace hzB:=Nat.le_trans hzB hbd.size
      clear hbd
      generalize w4.drew = wd10 at *
      have hS:=(⟨rowc RWr.out,rowc RL.out⟩:(fun w'=>(∀ j_1,w'.cell? ⟨gW,j_1,none⟩ = (#[.slice a1 k c1,.slice a2 k c2]:Array Value)[j_1]?) ∧ (∀ j_1,w'.cell? ⟨gl,j_1,none⟩ = (#[.int .i64 p.1.id,.int .i64 p.1.kind,.int .i64 p.1.mr,.int .i64 p.1.md,.slice pa pn pc]:Array Value)[j_1]?)) wd10)
      refine AnyE.takeL (i:=0) (v:=?_) rfl (by kernel_rfl) (by kernel_rfl) (by kernel_rfl) (by kernel_rfl) (by kernel_rfl) (fun _ _ _ h=>h) (Or.inl ⟨by rfl,?_⟩) hS ?_
      rotate_left
      focus (intro wq hSq;obtain ⟨hS1,hS2⟩:=hSq;go_simp;with_reducible rfl)
      try simp only [Act.put,List.getElem_toArray,List.getElem_cons_succ,List.getElem_cons_zero,List.setIfInBounds_toArray,List.set_cons_zero,List.set_cons_succ]
      refine AnyE.takeL (i:=1) (v:=?_) rfl (by kernel_rfl) (by kernel_rfl) (by kernel_rfl) (by kernel_rfl) (by kernel_rfl) (fun _ _ _ h=>h) (Or.inl ⟨by rfl,?_⟩) hS ?_
      rotate_left
      focus (intro wq hSq;obtain ⟨hS1,hS2⟩:=hSq;go_simp;with_reducible rfl)
      try simp only [Act.put,List.getElem_toArray,List.getElem_cons_succ,List.getElem_cons_zero,List.setIfInBounds_toArray,List.set_cons_zero,List.set_cons_succ]
      refine AnyE.takeL (i:=2) (v:=?_) rfl (by kernel_rfl) (by kernel_rfl) (by kernel_rfl) (by kernel_rfl) (by kernel_rfl) (fun _ _ _ h=>h) (Or.inl ⟨by rfl,?_⟩) hS ?_
      rotate_left
      focus (intro wq hSq;obtain ⟨hS1,hS2⟩:=hSq;go_simp;with_reducible rfl)
      try simp only [Act.put,List.getElem_toArray,List.getElem_cons_succ,List.getElem_cons_zero,List.setIfInBounds_toArray,List.set_cons_zero,List.set_cons_succ]
      refine AnyE.takeL (i:=3) (v:=?_) rfl (by kernel_rfl) (by kernel_rfl) (by kernel_rfl) (by kernel_rfl) (by kernel_rfl) (fun _ _ _ h=>h) (Or.inl ⟨by rfl,?_⟩) hS ?_
      rotate_left
      focus (intro wq hSq;obtain ⟨hS1,hS2⟩:=hSq;go_simp;with_reducible rfl)
      try simp only [Act.put,List.getElem_toArray,List.getElem_cons_succ,List.getElem_cons_zero,List.setIfInBounds_toArray,List.set_cons_zero,List.set_cons_succ]
      refine AnyE.takeL (i:=4) (v:=?_) rfl (by kernel_rfl) (by kernel_rfl) (by kernel_rfl) (by kernel_rfl) (by kernel_rfl) (fun _ _ _ h=>h) (Or.inl ⟨by rfl,?_⟩) hS ?_
      rotate_left
      focus (intro wq hSq;obtain ⟨hS1,hS2⟩:=hSq;go_simp;with_reducible rfl)
      try simp only [Act.put,List.getElem_toArray,List.getElem_cons_succ,List.getElem_cons_zero,List.setIfInBounds_toArray,List.set_cons_zero,List.set_cons_succ]
      refine AnyE.takeL (i:=5) (v:=?_) rfl (by kernel_rfl) (by kernel_rfl) (by kernel_rfl) (by kernel_rfl) (by kernel_rfl) (fun _ _ _ h=>h) (Or.inl ⟨by rfl,?_⟩) hS ?_
      rotate_left
      focus (intro wq hSq;obtain ⟨hS1,hS2⟩:=hSq;go_simp;with_reducible rfl)
      try simp only [Act.put,List.getElem_toArray,List.getElem_cons_succ,List.getElem_cons_zero,List.setIfInBounds_toArray,List.set_cons_zero,List.set_cons_succ]
      refine AnyE.takeL (i:=6) (v:=?_) rfl (by kernel_rfl) (by kernel_rfl) (by kernel_rfl) (by kernel_rfl) (by kernel_rfl) (fun _ _ _ h=>h) (Or.inl ⟨by rfl,?_⟩) hS ?_
      rotate_left
      focus (intro wq hSq;obtain ⟨hS1,hS2⟩:=hSq;go_simp;with_reducible rfl)
      try simp only [Act.put,List.getElem_toArray,List.getElem_cons_succ,List.getElem_cons_zero,List.setIfInBounds_toArray,List.set_cons_zero,List.set_cons_succ]
      refine AnyE.takeL (i:=7) (v:=?_) rfl (by kernel_rfl) (by kernel_rfl) (by kernel_rfl) (by kernel_rfl) (by kernel_rfl) (fun _ _ _ h=>h) (Or.inl ⟨by rfl,?_⟩) hS ?_
      rotate_left
      focus (intro wq hSq;obtain ⟨hS1,hS2⟩:=hSq;go_simp;with_reducible rfl)
      try simp only [Act.put,List.getElem_toArray,List.getElem_cons_succ,List.getElem_cons_zero,List.setIfInBounds_toArray,List.set_cons_zero,List.set_cons_succ]
      refine AnyE.one (i:=8) (by kernel_rfl) rfl rfl ?_
      intro K hK
      simp only [List.getElem_toArray,List.getElem_cons_succ,List.getElem_cons_zero]
      go_simp
      have hbe:=(Below.refl wd10.heap.size wd10).alloc (Nat.le_refl _) (.cells #[.int .i64 p.1.id,.slice none 0 0,.slice none 0 0,.slice none 0 0] 32)
      have hlt:=heap_alloc_new wd10 (.cells #[.int .i64 p.1.id,.slice none 0 0,.slice none 0 0,.slice none 0 0] 32)
      replace RWr:=Lib.hid (row_keep hbe RWr.out);replace RL:=Lib.hid (row_keep hbe RL.out);replace HRC:=Lib.hid (own_blw HRC.out hbe);replace HRM:=Lib.hid (own_blw HRM.out hbe);replace HB3:=Lib.hid (HB3.out.trans (hbe.mono (by omega)))
      replace hzB:=Nat.le_trans hzB hbe.size
      have RLT:=Lib.hid hlt
      refine hK _ _ (fun _=>⟨rowc RWr.out,rowc RL.out⟩) ?_
      clear hK K hS hlt hbe
      try simp only [Act.put,List.getElem_toArray,List.getElem_cons_succ,List.getElem_cons_zero,List.setIfInBounds_toArray,List.set_cons_zero,List.set_cons_succ]
      generalize wd10.alloc (.cells #[.int .i64 p.1.id,.slice none 0 0,.slice none 0 0,.slice none 0 0] 32) = wb10 at *
      generalize wd10.heap.size = gt10 at *
      refine AnyE.one (i:=9) (by kernel_rfl) rfl rfl ?_
      intro K hK
      simp only [List.getElem_toArray,List.getElem_cons_succ,List.getElem_cons_zero]
      refine wp_pushRow (.tmp 40) (.tmp 44) 25 rfl (gW + 1) 32 i1 _ 4 80 Tryd.underlying25 hj hy0 hy1 hy2 rfl (by decide) zcC (fun _=>rfl) zcC_one (.slice a1 k c1) (LO.take k) ?_ (own_len HRC.out HTK.out) gt10 ?_ p #[.int .i64 p.1.id,.slice none 0 0,.slice none 0 0,.slice none 0 0] 32 RLT.out rfl (by rw [HTK.out];unfold maxLen;omega) (by rw [HTK.out];omega) hzB ?_
      focus (go_simp)
      focus (go_simp)
      intro v' wa10 hn hg hq
      rw [HSK.out,← HSN.out] at hn
      obtain ⟨a3,m9,c3,hv9,hm9⟩:=own_k hn
      subst hm9;subst hv9
      have hbg:Below (gW + 1) wb10 wa10:=(Below.refl (gW + 1) wb10).grown hg hzB (fun k hk=>(HRC.out.lt k hk).1)
      replace RL:=Lib.hid (grown_keep HRC.out hg RL.out (by decide));replace RWr:=Lib.hid (grown_keep HRC.out hg RWr.out (by decide));replace HB3:=Lib.hid (HB3.out.trans (hbg.mono hgS))
      have ho9:=own_far2 HRM.out hg (own_ne_type HRM.out HRC.out (by decide))
      replace hzB:=Nat.le_trans hzB hg.size
      refine hK _ _ (fun _=>⟨rowc RWr.out,rowc RL.out⟩) ?_
      clear hK K RLT HRC HRM
      try simp only [Act.put,List.getElem_toArray,List.getElem_cons_succ,List.getElem_cons_zero,List.setIfInBounds_toArray,List.set_cons_zero,List.set_cons_succ]
      have HRM:=Lib.hid ho9;have HRC:=Lib.hid hn
      clear ho9 hn hg hq hbg
      refine AnyE.one (i:=10) (by kernel_rfl) rfl rfl ?_
      intro K hK
      simp only [List.getElem_toArray,List.getElem_cons_succ,List.getElem_cons_zero]
      go_simp
      refine hK _ _ (fun h=>absurd h (by decide)) ?_
      clear hK K
      try simp only [Act.put,List.getElem_toArray,List.getElem_cons_succ,List.getElem_cons_zero,List.setIfInBounds_toArray,List.set_cons_zero,List.set_cons_succ]
      refine AnyE.one (i:=11) (by kernel_rfl) rfl rfl ?_
      intro K hK
      simp only [List.getElem_toArray,List.getElem_cons_succ,List.getElem_cons_zero]
      go_simp
      refine hK _ _ (fun h=>absurd h (by decide)) ?_
      clear hK K
      try simp only [Act.put,List.getElem_toArray,List.getElem_cons_succ,List.getElem_cons_zero,List.setIfInBounds_toArray,List.set_cons_zero,List.set_cons_succ]
      refine AnyE.one (i:=12) (by kernel_rfl) rfl rfl ?_
      intro K hK
      simp only [List.getElem_toArray,List.getElem_cons_succ,List.getElem_cons_zero]
      have cg:=rowc RWr.out;have fg:=rowf RWr.out
      go_simp
      refine hK _ _ (fun h=>absurd h (by decide)) ?_
      clear hK K cg fg
      try simp only [Act.put,List.getElem_toArray,List.getElem_cons_succ,List.getElem_cons_zero,List.setIfInBounds_toArray,List.set_cons_zero,List.set_cons_succ]
      obtain ⟨s1,s2,s3,s4⟩:=store_cell_row (j:=0) (v:=.slice a3 (k + 1) c3) RWr.out
      replace RL:=Lib.hid ((s2 _ (Ne.symm hWL)).trans RL.out);replace HB3:=Lib.hid (HB3.out.trans (s3.mono hgS2));replace HRC:=Lib.hid (own_stay HRC.out fun b h1 _ _=>s2 b (by omega));replace HRM:=Lib.hid (own_stay HRM.out fun b h1 _ _=>s2 b (by omega))
      replace hzB:=Nat.le_trans hzB (Nat.le_of_eq s4.symm)
      replace RWr:=Lib.hid (s1.trans (show _ = some (.cells #[.slice a3 (k + 1) c3,.slice a2 k c2] 87 (0,0)) from rfl))
      clear s1;clear s2;clear s3;clear s4
      generalize wa10.setCell ⟨gW,0,none⟩ (.slice a3 (k + 1) c3) = wc1 at *
      refine AnyE.done (by kernel_rfl) ?_ _
      go_upto_region 11 with fail
      refine AnyE.region (S:=fun w'=>(∀ j_1,w'.cell? ⟨gW,j_1,none⟩ = (#[.slice a3 (k + 1) c3,.slice a2 k c2]:Array Value)[j_1]?) ∧ (∀ j_1,w'.cell? ⟨gl,j_1,none⟩ = (#[.int .i64 p.1.id,.int .i64 p.1.kind,.int .i64 p.1.mr,.int .i64 p.1.md,.slice pa pn pc]:Array Value)[j_1]?)) (E:=[9,10,11]) (by kernel_rfl) ?_
      have hbd:=(Below.refl wc1.heap.size wc1).drew
      replace RWr:=Lib.hid (row_keep hbd RWr.out);replace RL:=Lib.hid (row_keep hbd RL.out);replace HRC:=Lib.hid (own_blw HRC.out hbd);replace HRM:=Lib.hid (own_blw HRM.out hbd);replace HB3:=Lib.hid (HB3.out.trans (hbd.mono (by omega)))
      replace hzB:=Nat.le_trans hzB hbd.size
      clear hbd
      generalize wc1.drew = wd11 at *
      have hS:=(⟨rowc RWr.out,rowc RL.out⟩:(fun w'=>(∀ j_1,w'.cell? ⟨gW,j_1,none⟩ = (#[.slice a3 (k + 1) c3,.slice a2 k c2]:Array Value)[j_1]?) ∧ (∀ j_1,w'.cell? ⟨gl,j_1,none⟩ = (#[.int .i64 p.1.id,.int .i64 p.1.kind,.int .i64 p.1.mr,.int .i64 p.1.md,.slice pa pn pc]:Array Value)[j_1]?)) wd11)
      refine AnyE.takeL (i:=0) (v:=?_) rfl (by kernel_rfl) (by kernel_rfl) (by kernel_rfl) (by kernel_rfl) (by kernel_rfl) (fun _ _ _ h=>h) (Or.inl ⟨by rfl,?_⟩) hS ?_
      rotate_left
      focus (intro wq hSq;obtain ⟨hS1,hS2⟩:=hSq;go_simp;with_reducible rfl)
      try simp only [Act.put,List.getElem_toArray,List.getElem_cons_succ,List.getElem_cons_zero,List.setIfInBounds_toArray,List.set_cons_zero,List.set_cons_succ]
      refine AnyE.takeL (i:=1) (v:=?_) rfl (by kernel_rfl) (by kernel_rfl) (by kernel_rfl) (by kernel_rfl) (by kernel_rfl) (fun _ _ _ h=>h) (Or.inl ⟨by rfl,?_⟩) hS ?_
      rotate_left
      focus (intro wq hSq;obtain ⟨hS1,hS2⟩:=hSq;go_simp;with_reducible rfl)
      try simp only [Act.put,List.getElem_toArray,List.getElem_cons_succ,List.getElem_cons_zero,List.setIfInBounds_toArray,List.set_cons_zero,List.set_cons_succ]
      refine AnyE.takeL (i:=2) (v:=?_) rfl (by kernel_rfl) (by kernel_rfl) (by kernel_rfl) (by kernel_rfl) (by kernel_rfl) (fun _ _ _ h=>h) (Or.inl ⟨by rfl,?_⟩) hS ?_
      rotate_left
      focus (intro wq hSq;obtain ⟨hS1,hS2⟩:=hSq;go_simp;with_reducible rfl)
      try simp only [Act.put,List.getElem_toArray,List.getElem_cons_succ,List.getElem_cons_zero,List.setIfInBounds_toArray,List.set_cons_zero,List.set_cons_succ]
      refine AnyE.takeL (i:=3) (v:=?_) rfl (by kernel_rfl) (by kernel_rfl) (by kernel_rfl) (by kernel_rfl) (by kernel_rfl) (fun _ _ _ h=>h) (Or.inl ⟨by rfl,?_⟩) hS ?_
      rotate_left
      focus (intro wq hSq;obtain ⟨hS1,hS2⟩:=hSq;go_simp;with_reducible rfl)
      try simp only [Act.put,List.getElem_toArray,List.getElem_cons_succ,List.getElem_cons_zero,List.setIfInBounds_toArray,List.set_cons_zero,List.set_cons_succ]
      refine AnyE.takeL (i:=4) (v:=?_) rfl (by kernel_rfl) (by kernel_rfl) (by kernel_rfl) (by kernel_rfl) (by kernel_rfl) (fun _ _ _ h=>h) (Or.inl ⟨by rfl,?_⟩) hS ?_
      rotate_left
      focus (intro wq hSq;obtain ⟨hS1,hS2⟩:=hSq;go_simp;with_reducible rfl)
      try simp only [Act.put,List.getElem_toArray,List.getElem_cons_succ,List.getElem_cons_zero,List.setIfInBounds_toArray,List.set_cons_zero,List.set_cons_succ]
      refine AnyE.takeL (i:=5) (v:=?_) rfl (by kernel_rfl) (by kernel_rfl) (by kernel_rfl) (by kernel_rfl) (by kernel_rfl) (fun _ _ _ h=>h) (Or.inl ⟨by rfl,?_⟩) hS ?_
      rotate_left
      focus (intro wq hSq;obtain ⟨hS1,hS2⟩:=hSq;go_simp;with_reducible rfl)
      try simp only [Act.put,List.getElem_toArray,List.getElem_cons_succ,List.getElem_cons_zero,List.setIfInBounds_toArray,List.set_cons_zero,List.set_cons_succ]
      refine AnyE.takeL (i:=6) (v:=?_) rfl (by kernel_rfl) (by kernel_rfl) (by kernel_rfl) (by kernel_rfl) (by kernel_rfl) (fun _ _ _ h=>h) (Or.inl ⟨by rfl,?_⟩) hS ?_
      rotate_left
      focus (intro wq hSq;obtain ⟨hS1,hS2⟩:=hSq;go_simp;with_reducible rfl)
      try simp only [Act.put,List.getElem_toArray,List.getElem_cons_succ,List.getElem_cons_zero,List.setIfInBounds_toArray,List.set_cons_zero,List.set_cons_succ]
      refine AnyE.one (i:=7) (by kernel_rfl) rfl rfl ?_
      intro K hK
      simp only [List.getElem_toArray,List.getElem_cons_succ,List.getElem_cons_zero]
      go_simp
      have hbe:=(Below.refl wd11.heap.size wd11).alloc (Nat.le_refl _) (.cells #[.int .i64 p.1.md] 3)
      have hlt:=heap_alloc_new wd11 (.cells #[.int .i64 p.1.md] 3)
      replace RWr:=Lib.hid (row_keep hbe RWr.out);replace RL:=Lib.hid (row_keep hbe RL.out);replace HRC:=Lib.hid (own_blw HRC.out hbe);replace HRM:=Lib.hid (own_blw HRM.out hbe);replace HB3:=Lib.hid (HB3.out.trans (hbe.mono (by omega)))
      replace hzB:=Nat.le_trans hzB hbe.size
      have RLT:=Lib.hid hlt
      refine hK _ _ (fun _=>⟨rowc RWr.out,rowc RL.out⟩) ?_
      clear hK K hS hlt hbe
      try simp only [Act.put,List.getElem_toArray,List.getElem_cons_succ,List.getElem_cons_zero,List.setIfInBounds_toArray,List.set_cons_zero,List.set_cons_succ]
      generalize wd11.alloc (.cells #[.int .i64 p.1.md] 3) = wb11 at *
      generalize wd11.heap.size = gt11 at *
      refine AnyE.one (i:=8) (by kernel_rfl) rfl rfl ?_
      intro K hK
      simp only [List.getElem_toArray,List.getElem_cons_succ,List.getElem_cons_zero]
      refine wp_pushRow (.tmp 52) (.tmp 55) 22 rfl (gW + 1) 3 i0 _ 1 8 Tryd.underlying22 hi hz0 hz1 hz2 rfl (by decide) mdC (fun _=>rfl) mdC_one (.slice a2 k c2) (LO.take k) ?_ (own_len HRM.out HTK.out) gt11 ?_ p #[.int .i64 p.1.md] 3 RLT.out rfl (by rw [HTK.out];unfold maxLen;omega) (by rw [HTK.out];omega) hzB ?_
      focus (go_simp)
      focus (go_simp)
      intro v' wa11 hn hg hq
      rw [HSK.out,← HSN.out] at hn
      obtain ⟨a4,m9,c4,hv9,hm9⟩:=own_k hn
      subst hm9;subst hv9
      have hbg:Below (gW + 1) wb11 wa11:=(Below.refl (gW + 1) wb11).grown hg hzB (fun k hk=>(HRM.out.lt k hk).1)
      replace RL:=Lib.hid (grown_keep HRM.out hg RL.out (by decide));replace RWr:=Lib.hid (grown_keep HRM.out hg RWr.out (by decide));replace HB3:=Lib.hid (HB3.out.trans (hbg.mono hgS))
      have ho9:=own_far2 HRC.out hg (own_ne_type HRC.out HRM.out (by decide))
      replace hzB:=Nat.le_trans hzB hg.size
      refine hK _ _ (fun _=>⟨rowc RWr.out,rowc RL.out⟩) ?_
      clear hK K RLT HRM HRC
      try simp only [Act.put,List.getElem_toArray,List.getElem_cons_succ,List.getElem_cons_zero,List.setIfInBounds_toArray,List.set_cons_zero,List.set_cons_succ]
      have HRC:=Lib.hid ho9;have HRM:=Lib.hid hn
      clear ho9 hn hg hq hbg
      refine AnyE.one (i:=9) (by kernel_rfl) rfl rfl ?_
      intro K hK
      simp only [List.getElem_toArray,List.getElem_cons_succ,List.getElem_cons_zero]
      go_simp
      refine hK _ _ (fun h=>absurd h (by decide)) ?_
      clear hK K
      try simp only [Act.put,List.getElem_toArray,List.getElem_cons_succ,List.getElem_cons_zero,List.setIfInBounds_toArray,List.set_cons_zero,List.set_cons_succ]
      refine AnyE.one (i:=10) (by kernel_rfl) rfl rfl ?_
      intro K hK
      simp only [List.getElem_toArray,List.getElem_cons_succ,List.getElem_cons_zero]
      go_simp
      refine hK _ _ (fun h=>absurd h (by decide)) ?_
      clear hK K
      try simp only [Act.put,List.getElem_toArray,List.getElem_cons_succ,List.getElem_cons_zero,List.setIfInBounds_toArray,List.set_cons_zero,List.set_cons_succ]
      refine AnyE.one (i:=11) (by kernel_rfl) rfl rfl ?_
      intro K hK
      simp only [List.getElem_toArray,List.getElem_cons_succ,List.getElem_cons_zero]
      have cg:=rowc RWr.out;have fg:=rowf RWr.out
      go_simp
      refine hK _ _ (fun h=>absurd h (by decide)) ?_
      clear hK K cg fg
      try simp only [Act.put,List.getElem_toArray,List.getElem_cons_succ,List.getElem_cons_zero,List.setIfInBounds_toArray,List.set_cons_zero,List.set_cons_succ]
      obtain ⟨s1,s2,s3,s4⟩:=store_cell_row (j:=1) (v:=.slice a4 (k + 1) c4) RWr.out
      replace RL:=Lib.hid ((s2 _ (Ne.symm hWL)).trans RL.out);replace HB3:=Lib.hid (HB3.out.trans (s3.mono hgS2));replace HRC:=Lib.hid (own_stay HRC.out fun b h1 _ _=>s2 b (by omega));replace HRM:=Lib.hid (own_stay HRM.out fun b h1 _ _=>s2 b (by omega))
      replace hzB:=Nat.le_trans hzB (Nat.le_of_eq s4.symm)
      replace RWr:=Lib.hid (s1.trans (show _ = some (.cells #[.slice a3 (k + 1) c3,.slice a4 (k + 1) c4] 87 (0,0)) from rfl))
      clear s1;clear s2;clear s3;clear s4
      generalize wa11.setCell ⟨gW,1,none⟩ (.slice a4 (k + 1) c4) = wc2 at *
      refine AnyE.done (by kernel_rfl) ?_ _
      go_wp2_with fail
      go_roundw
      case rel=>exact ⟨k + 1,a3,a4,c3,c4,Hlt.out,by go_num,RWr.out,HRC.out,HRM.out,HB3.out⟩
      case measure=>have:=Hlt.out;simp [intOf];omega
    obtain rfl:k = nL:=by omega
    have hTL:LO.take k = LO:=List.take_of_length_le (Nat.le_of_eq HNLL.out)
    rw [hTL] at HRC HRM
    have hzw0:w.heap.size < w2.heap.size:=row_lt RA.out
    obtain ⟨g,hv1,hWr⟩:=wr_start (B0:=w.heap.size) HNLL.out (by omega) (by omega) (by have:=HGW.out;omega) (by have:=HGW.out;omega) (Nat.lt_succ_self gW) RWr.out HRC.out HRM.out
    injection hv1 with hv1 _ _
    subst hv1
    rw [(sh_start HM.out).1,(sh_start HM.out).2] at hWr
    have e0:(fun j:Nat=>(⟨((LO[j]?).map fun p=>p.1.id).getD 0,[],[],[]⟩:Col)) = addE (lvMd n) (fun j=>⟨lvId n j,[],[],[]⟩) (shAll n (l.take 0)):=by
      funext j
      have h1:((LO[j]?).map fun p=>p.1.id).getD 0 = lvId n j:=congrFun (sh_start HM.out).2 j
      rw [h1]
      simp [addE,addC,shAll]
    rw [e0] at hWr
    have hbk:Below w2.heap.size w2 wr:=HGW.out.symm ▸ HB3.out
    have HWr:=Lib.hid hWr;have RA2:=Lib.hid (row_keep hbk RA.out);have HW2:=Lib.hid (HW.out.trans (hbk.mono HW.out.size))
    clear e0 hWr hbk HRC HRM HB3 hTL RA HW HLS HLS2 hlt hk RWr
    obtain ⟨wo,hwo⟩:∃ wo,wo = wr:=⟨_,rfl⟩;subst hwo
    have dk9:decide (k < k) = false:=by simp
    go_wp2_with fail
    go_loopw [62] (fun i wx=>∃ q:Nat,q ≤ nl ∧ i = .int .i64 (q:Nat) ∧ Hid (∀ (j:Nat) y,j < q → l[j]? = some y → datE n false y = 0) ∧ Hid (Below wo.heap.size wo wx)) (fun i _=>nl - (intOf i).toNat)
    case atStart=>exact ⟨0,Nat.zero_le _,rfl,fun j y hj=>absurd hj (Nat.not_lt_zero _),Below.refl _ _⟩
    case round =>
      obtain ⟨q,hq,rfl,HZ,HBx⟩:=hrel
      by_cases hlt:q < nl
      case pos =>
        have hkl:q < l.length:=by rw [HNL.out];exact hlt
        obtain ⟨x,hx⟩:∃ x,l[q]? = some x:=⟨_,List.getElem?_eq_getElem hkl⟩
        have hxm:x ∈ l:=List.mem_of_getElem? hx
        have hbw:=HW2.out.trans (HBx.out.mono HW2.out.size)
        obtain ⟨b0,off,rfl,hPb,hb0,hat⟩:=(HL.out.under hbw).at (by rw [HNL.out];omega)
        obtain ⟨xu,xt,hcx,hu,ht⟩:=hat q x hx
        obtain ⟨xau,xcu,rfl⟩:=hu.form
        obtain ⟨xaf,xcf,rfl⟩:=ht.form
        have hba:=(Below.refl wr.heap.size wr).alloc (Nat.le_refl _) (.cells #[.bool x.no,.int .i64 x.v.k,.int .i64 x.v.n,.string x.v.s,.slice xau x.l.length xcu,.slice xaf x.f.length xcf] 63)
        have hbw3:=hbw.trans (hba.mono hbw.size)
        have hcl:=dcheck_any adr n x (.slice au ns cu) (.slice xau x.l.length xcu) (.slice xaf x.f.length xcf) _ (HE.out.below hbw3) ((HN.out.under hbw3).mono fun b hb _=>Nat.lt_of_lt_of_le hb hbw3.size) HO.out ((hu.under (hba.mono hbw.size)).mono fun b hb _=>Nat.lt_of_lt_of_le hb hbw3.size) ((ht.under (hba.mono hbw.size)).mono fun b hb _=>Nat.lt_of_lt_of_le hb hbw3.size) (fun z hz=>HD.out z (dtsL_mem hxm hz))
        have hrec:recE n x = datE n false x:=by unfold recE;rw [if_pos HV.out]
        rw [hrec] at hcl
        unfold DtAt dtA at hcx
        unfold dtA ndA at hcl
        have HCX:=Lib.hid hcx;have HCL:=Lib.hid hcl;have HX:=Lib.hid hx;have Hlt:=Lib.hid hlt
        have RAr:=Lib.hid (row_keep hba (row_keep HBx.out RA2.out))
        have hrX:=heap_alloc_new wr (.cells #[.bool x.no,.int .i64 x.v.k,.int .i64 x.v.n,.string x.v.s,.slice xau x.l.length xcu,.slice xaf x.f.length xcf] 63)
        have RX:=Lib.hid hrX
        have HBX:=Lib.hid (HBx.out.trans (hba.mono HBx.out.size))
        have hin:(q:Int) < (nl:Int):=Int.ofNat_lt.2 hlt
        have dk:decide (q < nl) = true:=decide_eq_true hlt
        clear hkl hx hxm hbw hat hcx hu ht hcl hlt hPb hba hbw3 hrec hrX hb0 hq
        go_upto_region 16 with (refine wpList_load_cells rfl 63 _ rfl b0 (off + q * 6) rfl #[.bool x.no,.int .i64 x.v.k,.int .i64 x.v.n,.string x.v.s,.slice xau x.l.length xcu,.slice xaf x.f.length xcf] _ HCX.out Tryd.underlying63 rfl dt_info ?_)
        generalize (wr.alloc (.cells #[.bool x.no,.int .i64 x.v.k,.int .i64 x.v.n,.string x.v.s,.slice xau x.l.length xcu,.slice xaf x.f.length xcf] 63)) = w3 at *
        generalize wr.heap.size = gx at *
        have cA:=rowc RAr.out;have cX:=rowc RX.out
        go_wp2_with fail
        refine HCL.out.mono ?_;rintro e w4 ⟨rfl,hb4⟩
        have HB4:=Lib.hid (HBX.out.trans (hb4.mono HBX.out.size))
        clear hb4 cA cX RX RAr HCL HCX
        obtain ⟨rx,hrx⟩:∃ rx,datE n false x = rx:=⟨_,rfl⟩
        rw [hrx]
        cases rx with
        | zero =>
          have HZ2:=Lib.hid (show ∀ (j:Nat) y,j < q + 1 → l[j]? = some y → datE n false y = 0 from fun j y hj hy=>by
            rcases Nat.lt_succ_iff_lt_or_eq.1 hj with h | h
            · exact HZ.out j y h hy
            · subst h;rw [HX.out] at hy;injection hy with hy;rw [← hy];exact hrx)
          unfold eV
          clear hrx
          go_wp2_with fail
          go_roundw
          case rel=>exact ⟨q + 1,Hlt.out,by go_num,HZ2.out,HB4.out⟩
          case measure=>have:=Hlt.out;simp [intOf];omega
        | succ r =>
          have h4:=datE_le4 x n false
          have hGV:G = .fault (r + 1) (q:Nat):=by
            rw [← HG.out]
            unfold shredErr
            rw [if_neg (by rw [HV.out];simp),if_neg (by rw [HNL.out];omega),badDt_take n l 0 q x HX.out HZ.out (by rw [hrx];omega),hrx]
            simp
          subst hGV
          have h8:1 ≤ r + 1 ∧ r + 1 ≤ 8:=by omega
          have H8:=Lib.hid h8
          unfold eV
          clear hrx h4 h8 HG HCAP HWG
          go_wp2_with fail
          go_ret2
          have hbF:=(Below.refl w4.heap.size w4).alloc (Nat.le_refl _) (.cells #[.int .i64 (q:Nat),.iface 174 (.pointer (some (adr (r + 1))))] 91)
          have hrF:=heap_alloc_new w4 (.cells #[.int .i64 (q:Nat),.iface 174 (.pointer (some (adr (r + 1))))] 91)
          have hall:=HW2.out.trans (HB4.out.mono HW2.out.size)
          exact ⟨hall.trans (hbF.mono hall.size),.inr ⟨by simp,_,rfl,H8.out.1,H8.out.2,_,rfl,rowc hrF 0,rowc hrF 1⟩⟩
      obtain rfl:q = nl:=by omega
      have hall:∀ d ∈ l,datE n false d = 0:=fun d hd=>by
        obtain ⟨j,hj,rfl⟩:=List.getElem_of_mem hd
        exact HZ.out j _ (by rw [← HNL.out];exact hj) (List.getElem?_eq_getElem hj)
      have hGN:G = .nil:=by
        rw [← HG.out]
        unfold shredErr
        rw [if_neg (by rw [HV.out];simp),if_neg (by rw [HNL.out];omega)]
        exact badDt_nil n l 0 fun j y hy=>hall y (List.mem_of_getElem? hy)
      have HCP:=Lib.hid (HCAP.out hGN);have HWT:=Lib.hid (HWG.out hGN)
      subst hGN
      have hWr2:=HWr.out.keep HBx.out
      have HWr2:=Lib.hid hWr2;have RA3:=Lib.hid (row_keep HBx.out RA2.out);have HW3:=Lib.hid (HW2.out.trans (HBx.out.mono HW2.out.size))
      obtain ⟨B,hBe⟩:∃ B,wo.heap.size = B:=⟨_,rfl⟩
      rw [hBe] at HWr2
      have hga:w.heap.size ≠ g:=by
        have h1:=RA3.out
        obtain ⟨cs,P,Q,D,k1,_⟩:=HWr2.out.st
        intro e
        rw [← e,h1] at k1
        simp only [Option.some.injEq,Obj.cells.injEq] at k1
        exact absurd k1.2.1 (by decide)
      have HALL:=Lib.hid hall
      clear hWr2 HZ hall hBe HWr RA2 HW2 hlt hq HG HCAP HWG HBx
      obtain ⟨w5,hw5⟩:∃ w5,w5 = wr:=⟨_,rfl⟩;subst hw5
      have HF5:=Lib.hid (Fr.refl w.heap.size B g w5)
      go_wp2_with fail
      go_loopw [80] (fun i wx=>∃ k2:Nat,k2 ≤ q ∧ i = .int .i64 (k2:Nat) ∧ Hid (Wr w.heap.size B gW g c1 k (.slice a2 k c2) (lvMd n) (lvId n) wx (addE (lvMd n) (fun j=>⟨lvId n j,[],[],[]⟩) (shAll n (l.take k2)))) ∧ Hid (Fr w.heap.size B g w5 wx)) (fun i _=>q - (intOf i).toNat)
      case atStart=>exact ⟨0,Nat.zero_le _,rfl,HWr2.out,HF5.out⟩
      case round =>
        obtain ⟨k2,hk2,rfl,HR,HFr⟩:=hrel
        by_cases hlt:k2 < q
        case neg =>
          obtain rfl:k2 = q:=by omega
          have hT:l.take k2 = l:=List.take_of_length_le (Nat.le_of_eq HNL.out)
          rw [hT] at HR
          have hW:=HR.out.wr
          have HRW:=Lib.hid hW
          have cW:=rowc HRW.out
          clear hW hT hlt hk2
          go_wp2_with fail
          go_ret2
          have h1:=HR.out.cols (fun j _=>rfl)
          have h2:(leavesN n).length = k:=by rw [← HM.out,List.length_map,HNLL.out]
          refine ⟨HW3.out.trans HFr.out.below,.inl ⟨rfl,_,rfl,?_,?_⟩⟩
          · unfold shCols
            rw [h2]
            exact h1
          · have h3:=HR.out.room
            unfold shCols
            rw [List.length_map,List.length_range,h2]
            exact h3
        have hkl:k2 < l.length:=by rw [HNL.out];exact hlt
        obtain ⟨x,hx⟩:∃ x,l[k2]? = some x:=⟨_,List.getElem?_eq_getElem hkl⟩
        have hxm:x ∈ l:=List.mem_of_getElem? hx
        have hbw:=HW3.out.trans HFr.out.below
        obtain ⟨b0,off,rfl,hPb,hb0,hat⟩:=(HL.out.under hbw).at (by rw [HNL.out];omega)
        obtain ⟨xu,xt,hcx,hu,ht⟩:=hat k2 x hx
        obtain ⟨xau,xcu,rfl⟩:=hu.form
        obtain ⟨xaf,xcf,rfl⟩:=ht.form
        have hsz:=HR.out.hB
        have h0B:=HR.out.h0
        have hbx:=(Below.refl wr.heap.size wr).alloc (Nat.le_refl _) (.cells #[.bool x.no,.int .i64 x.v.k,.int .i64 x.v.n,.string x.v.s,.slice xau x.l.length xcu,.slice xaf x.f.length xcf] 63)
        have hfx:=HFr.out.trans (Fr.of_below (g:=g) hbx h0B hsz)
        have hbx0:Below w.heap.size wr (wr.alloc (.cells #[.bool x.no,.int .i64 x.v.k,.int .i64 x.v.n,.string x.v.s,.slice xau x.l.length xcu,.slice xaf x.f.length xcf] 63)):=hbx.mono (Nat.le_trans h0B hsz)
        have hup:=fun j=>shAll_up n hx j
        have hvr:=HV.out
        have hcl:=datum_any x n (.slice au ns cu) (.slice xau x.l.length xcu) (.slice xaf x.f.length xcf) _ 0 0 0 0 false _ (HR.out.keep hbx) (HN.out.under (hbw.trans hbx0)) (hu.under hbx0) (ht.under hbx0) HO.out (fun z hz=>HD.out z (dtsL_mem hxm hz)) (valid_shapes hvr) (HALL.out x hxm) (by have:=HRT.out;omega) (Int.le_refl 0) (by have:=HWT.out x hxm;omega) (Int.le_refl 0) (by have:=HWT.out x hxm;omega) (by
          intro j hj
          rw [addE_rep]
          have h1:=(hup j).2
          have h2:=HCP.out j
          simp only [List.length_nil]
          omega)
        unfold DtAt dtA at hcx
        unfold dtA ndA at hcl
        have HCX:=Lib.hid hcx;have HCL:=Lib.hid hcl;have HUP:=Lib.hid hup
        have Hlt:=Lib.hid hlt
        have HFX:=Lib.hid hfx
        have RAr:=Lib.hid (row_keep hbx (HFr.out.node RA3.out hga))
        have hrX:=heap_alloc_new wr (.cells #[.bool x.no,.int .i64 x.v.k,.int .i64 x.v.n,.string x.v.s,.slice xau x.l.length xcu,.slice xaf x.f.length xcf] 63)
        have RX:=Lib.hid hrX
        have hin:(k2:Int) < (q:Int):=Int.ofNat_lt.2 hlt
        have dk:decide (k2 < q) = true:=decide_eq_true hlt
        clear hkl hx hxm hbw hat hcx hu ht hcl hlt hPb hbx hfx hbx0 hup hvr hrX hb0 hk2
        go_upto_region 23 with (refine wpList_load_cells rfl 63 _ rfl b0 (off + k2 * 6) rfl #[.bool x.no,.int .i64 x.v.k,.int .i64 x.v.n,.string x.v.s,.slice xau x.l.length xcu,.slice xaf x.f.length xcf] _ HCX.out Tryd.underlying63 rfl dt_info ?_)
        generalize (wr.alloc (.cells #[.bool x.no,.int .i64 x.v.k,.int .i64 x.v.n,.string x.v.s,.slice xau x.l.length xcu,.slice xaf x.f.length xcf] 63)) = w6 at *
        generalize wr.heap.size = gx at *
        have cA:=rowc RAr.out;have cX:=rowc RX.out
        go_wp2_with fail
        refine HCL.out.mono ?_;rintro e w7 ⟨rfl,hw7,hf7⟩
        rw [addE_app,show (fun j=>shAll n (l.take k2) j ++ shE n x 0 0 0 0 false j) = shAll n (l.take (k2 + 1)) from funext fun j=>((HUP.out j).1).symm] at hw7
        have HW7:=Lib.hid hw7;have HF7:=Lib.hid (HFX.out.trans hf7)
        clear hw7 hf7 HCL HCX cA cX RX RAr
        have HCN:=Lib.hid (contains_no _ _ w7 (HW7.out.cols (fun j _=>rfl)) (by
          intro c hc
          obtain ⟨j,hj,rfl⟩:=List.mem_map.1 hc
          rw [addE_rep]
          have h1:=(HUP.out j).2
          have h2:=HCP.out j
          have h3:=congrArg List.length (HUP.out j).1
          rw [List.length_append] at h3
          simp only [List.length_nil]
          omega) (by rw [List.length_map,List.length_range];omega))
        have hW:=HW7.out.wr
        have HRW:=Lib.hid hW
        have cW:=rowc HRW.out
        clear hW
        go_wp2_with fail
        refine HCN.out.mono ?_;rintro e w8 ⟨rfl,hb8⟩
        have HW8:=Lib.hid (HW7.out.keep hb8);have HF8:=Lib.hid (HF7.out.trans (Fr.of_below (g:=g) hb8 HW7.out.h0 HW7.out.hB))
        clear hb8 cW HCN HRW
        go_wp2_with fail
        go_roundw
        case rel=>exact ⟨k2 + 1,Hlt.out,by go_num,HW8.out,HF8.out⟩
        case measure=>have:=Hlt.out;simp [intOf];omega
end Go.Proofs.YtkmhmnffbgedgaaDoor
