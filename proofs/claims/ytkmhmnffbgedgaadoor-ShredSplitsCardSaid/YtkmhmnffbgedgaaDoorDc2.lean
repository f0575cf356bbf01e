/- The walk of data.right. -/
import Derived.Test.YtkmhmnffbgedgaaDoorTa0
import Derived.Test.YtkmhmnffbgedgaaDoorTw5
import Derived.Test.YtkmhmnffbgedgaaDoorRegE
import Derived.Deep.DeepCutAuto
import Derived.Test.YtkmhmnffbgedgaaDoorTw0
import Derived.Test.YtkmhmnffbgedgaaDoorSh4
namespace Go.Proofs.YtkmhmnffbgedgaaDoor
set_option maxHeartbeats 16000000
set_option linter.unusedVariables false
set_option linter.unusedSimpArgs false
open Go Go.RowKit Go.ChangeShapes
theorem ok_at (kind:Int) (x:Val) (hx:x.Ok) (w:World) :
  Calls Tryd.prog 45 #[.int .i64 kind,.agg (valA x)] w fun e w'=>e = .returned (.bool (okB kind x)) ∧ Below w.heap.size w w':=by
 by_cases hP:OkP kind x
 ·rw [(okB_iff kind x).2 hP];exact ok_yes kind x hx w hP
 ·rw [show okB kind x = false from by cases hb:okB kind x with | false=>rfl | true=>exact absurd ((okB_iff kind x).1 hb) hP]
  exact ok_no kind x hx w hP
def okRep (n:Nd):Prop:=1 ≤ n.rep ∧ n.rep ≤ 3 ∧ 0 ≤ n.kind ∧ n.kind ≤ 5
def RightRet (k:Nat) (adr:Nat → Addr) (w:World) (e:Ending) (w':World):Prop:=e = .returned (eV adr k) ∧ Below w.heap.size w w'
set_option maxRecDepth 100000 in
theorem right_any (adr:Nat → Addr):∀ (d:Dt) (n:Nd) (u ul uf:Value) (one:Bool) (w:World),ErrsAt w adr [2,3,4] → IsNds (· < w.heap.size) w u n.sub → (∀ x ∈ nodes n,x.Ok1) → (∀ x ∈ nodes n,okRep x) →
    IsDts (· < w.heap.size) w ul d.l → IsDts (· < w.heap.size) w uf d.f → (∀ x ∈ dts d,x.Ok1) →
    Calls Tryd.prog 51 #[.agg (ndA n u),.agg (dtA d ul uf),.bool one] w (RightRet (datE n one d) adr w):=by
  apply Dt.ind
  intro d IHl IHf n u ul uf one w hE hN hO hR hl hf hD
  have hD0:=hD d (by rw [dts_eq];exact List.mem_cons_self ..)
  have hR0:=hR n (by rw [nodes_eq];exact List.mem_cons_self ..)
  have hDl:∀ x ∈ dtsL d.l,x.Ok1:=fun x hx=>hD x (by rw [dts_eq];exact List.mem_cons_of_mem _ (List.mem_append_left _ hx))
  have hDf:∀ x ∈ dtsL d.f,x.Ok1:=fun x hx=>hD x (by rw [dts_eq];exact List.mem_cons_of_mem _ (List.mem_append_right _ hx))
  have e2:=hE.cell 2 (by decide);have e3:=hE.cell 3 (by decide);have e4:=hE.cell 4 (by decide)
  have g2:=block_lt_of_cell e2;have g3:=block_lt_of_cell e3;have g4:=block_lt_of_cell e4
  unfold gErr at e2 e3 e4 g2 g3 g4
  have HE2:=Lib.hid (fun (w1:World) (h:Below w.heap.size w w1)=>((bcell h).1 _ 0 g2).trans e2)
  have HE3:=Lib.hid (fun (w1:World) (h:Below w.heap.size w w1)=>((bcell h).1 _ 0 g3).trans e3)
  have HE4:=Lib.hid (fun (w1:World) (h:Below w.heap.size w w1)=>((bcell h).1 _ 0 g4).trans e4)
  have HBA:=Lib.hid (fun (a b c e:Bool) (hp:(a,b,c,e) = (true,false,false,false) ∨ (a,b,c,e) = (false,false,true,false) ∨ (a,b,c,e) = (false,true,false,false) ∨ (a,b,c,e) = (false,false,false,true)) (w1:World) (h:Below w.heap.size w w1)=>dbare_any d ul uf a b c e w1 (· < w.heap.size) hD0.v (hl.under h) (hf.under h) hp)
  have HOK:=Lib.hid (fun (w1:World)=>ok_at n.kind d.v hD0.v w1)
  have HIL:=Lib.hid IHl;have HIF:=Lib.hid IHf;have HN:=Lib.hid hN;have HO:=Lib.hid hO;have HR:=Lib.hid hR;have HLl:=Lib.hid hl;have HLf:=Lib.hid hf;have HDl:=Lib.hid hDl;have HDf:=Lib.hid hDf;have HE:=Lib.hid hE
  have hlb:=hD0.l;have hfb:=hD0.f
  have hsb:=(hO n (by rw [nodes_eq];exact List.mem_cons_self ..)).sub
  clear IHl IHf hN hO hR hDl hDf hD hE e2 e3 e4 g2 g3 g4 hD0
  obtain ⟨au,cu,rfl⟩:=HN.out.form
  obtain ⟨al,cl,rfl⟩:=hl.form
  obtain ⟨af,cf,rfl⟩:=hf.form
  clear hl hf
  obtain ⟨R,hRr⟩:∃ R,datE n one d = R:=⟨_,rfl⟩
  rw [hRr]
  have HRr:=Lib.hid hRr
  clear hRr
  obtain ⟨ns,hns⟩:∃ ns,n.sub.length = ns:=⟨_,rfl⟩
  obtain ⟨nl,hnl⟩:∃ nl,d.l.length = nl:=⟨_,rfl⟩
  obtain ⟨nf,hnf⟩:∃ nf,d.f.length = nf:=⟨_,rfl⟩
  rw [hns] at HN hsb;rw [hnl] at HLl HBA hlb;rw [hnf] at HLf HBA hfb
  rw [hns,hnl,hnf]
  have HNS:=Lib.hid hns;have HNL:=Lib.hid hnl;have HNF:=Lib.hid hnf
  clear hns hnl hnf
  unfold ndA dtA valA at *
  obtain ⟨no,hno⟩:∃ no,d.no = no:=⟨_,rfl⟩
  rw [hno] at HBA
  rw [hno]
  have HNO:=Lib.hid hno
  clear hno
  go_enter Tryd.func51,Tryd.ntmps51
  go_upto_region 13 with fail
  have hb0:=rows2 (w:=w) (A:=.cells #[.int .i64 n.id,.string n.name,.int .i64 n.rep,.int .i64 n.kind,.slice au ns cu] 47) (B:=.cells #[.bool no,.int .i64 d.v.k,.int .i64 d.v.n,.string d.v.s,.slice al nl cl,.slice af nf cf] 63) (Below.refl _ _)
  generalize ((w.alloc (.cells #[.int .i64 n.id,.string n.name,.int .i64 n.rep,.int .i64 n.kind,.slice au ns cu] 47)).alloc (.cells #[.bool no,.int .i64 d.v.k,.int .i64 d.v.n,.string d.v.s,.slice al nl cl,.slice af nf cf] 63)) = w1 at *
  obtain ⟨rA,rB,hbw,-⟩:=hb0
  have HW:=Lib.hid hbw;have RA:=Lib.hid rA;have RB:=Lib.hid rB
  clear rA rB hbw
  have cA:=rowc RA.out;have cB:=rowc RB.out
  have cA2:w1.cell? ⟨w.heap.size,2,none⟩ = some (.int .i64 n.rep):=cA 2
  have cB0:w1.cell? ⟨w.heap.size + 1,0,none⟩ = some (.bool no):=cB 0
  have h5:one = true ∨ (one = false ∧ n.rep = 1) ∨ (one = false ∧ n.rep = 2 ∧ no = false) ∨ (one = false ∧ n.rep = 2 ∧ no = true) ∨ (one = false ∧ n.rep = 3):=by
    have:=hR0.1;have:=hR0.2
    cases one with
    | true=>exact .inl rfl
    | false =>
      rcases (show n.rep = 1 ∨ n.rep = 2 ∨ n.rep = 3 by omega) with h | h | h
      · exact .inr (.inl ⟨rfl,h⟩)
      · cases hn:no with
        | true=>exact .inr (.inr (.inr (.inl ⟨rfl,h,rfl⟩)))
        | false=>exact .inr (.inr (.inl ⟨rfl,h,rfl⟩))
      · exact .inr (.inr (.inr (.inr ⟨rfl,h⟩)))
  clear hR0
  rcases h5 with h | h | h | h | h
  case inr.inr.inr.inl =>
    obtain ⟨rfl,hr,rfl⟩:=h
    have d1:((n.rep:Int) == 1) = false:=by rw [hr];rfl
    have d2:((n.rep:Int) == 2) = true:=by rw [hr];rfl
    have hEq:=datE_none hr HNO.out
    rw [HRr.out] at hEq
    have HEq:=Lib.hid hEq
    obtain ⟨b,hb⟩:∃ b,bareB d true false false false = b:=⟨_,rfl⟩
    have hq:=HBA.out true false false false (.inl rfl) w1 HW.out
    rw [hb] at hq HEq
    have HQ:=Lib.hid hq
    clear hEq hb hq hr
    go_wp2_with fail
    refine HQ.out.mono ?_;rintro e w2 ⟨rfl,hb2⟩
    replace HW:=Lib.hid (HW.out.trans (hb2.mono HW.out.size))
    clear hb2 cA cB HQ
    cases b with
    | true =>
      obtain rfl:R = 0:=by have:=HEq.out;simpa using this
      go_wp2_with fail
      go_ret
      exact ⟨rfl,HW.out⟩
    | false =>
      obtain rfl:R = 3:=by have:=HEq.out;simpa using this
      have ge:=HE3.out w2 HW.out
      go_wp2_with fail
      go_ret
      exact ⟨rfl,HW.out⟩
  case inr.inr.inr.inr =>
    obtain ⟨rfl,hr⟩:=h
    have d1:((n.rep:Int) == 1) = false:=by rw [hr];rfl
    have d2:((n.rep:Int) == 2) = false:=by rw [hr];rfl
    have hEq:=datE_list (n:=n) (d:=d) hr
    rw [HRr.out] at hEq
    have HEq:=Lib.hid hEq
    obtain ⟨b,hb⟩:∃ b,bareB d false false true false = b:=⟨_,rfl⟩
    have hq:=HBA.out false false true false (.inr (.inl rfl)) w1 HW.out
    rw [hb] at hq HEq
    have HQ:=Lib.hid hq
    clear hEq hb hq hr
    go_wp2_with fail
    refine HQ.out.mono ?_;rintro e w2 ⟨rfl,hb2⟩
    replace RA:=Lib.hid (row_keep hb2 RA.out);replace RB:=Lib.hid (row_keep hb2 RB.out);replace HW:=Lib.hid (HW.out.trans (hb2.mono HW.out.size))
    clear hb2 cA cB HQ
    have cB:=rowc RB.out
    cases b with
    | false =>
      obtain rfl:R = 3:=by have:=HEq.out;simpa using this
      have ge:=HE3.out w2 HW.out
      go_wp2_with fail
      go_ret
      exact ⟨rfl,HW.out⟩
    | true =>
    have hEq:=HEq.out
    rw [if_pos rfl,HNL.out] at hEq
    clear HEq
    by_cases h40:40 < nl
    · rw [if_pos h40] at hEq
      obtain rfl:R = 2:=hEq
      have d40:(40:Int) < (nl:Int):=by omega
      have ge:=HE2.out w2 HW.out
      clear h40
      go_wp2_with fail
      go_ret
      exact ⟨rfl,HW.out⟩
    rw [if_neg h40] at hEq
    have HEq:=Lib.hid hEq
    have d40:¬ (40:Int) < (nl:Int):=by omega
    have hn40:nl ≤ 40:=Nat.le_of_not_lt h40
    have HN40:=Lib.hid hn40
    clear h40 hEq hn40 hlb hfb hsb
    go_wp2_with fail
    clear cB
    go_loopw [25] (fun i wr=>∃ k:Nat,k ≤ nl ∧ i = .int .i64 (k:Nat) ∧ Hid (∀ (j:Nat) y,j < k → d.l[j]? = some y → datE n true y = 0) ∧ Hid (Below w2.heap.size w2 wr)) (fun i _=>nl - (intOf i).toNat)
    case atStart=>exact ⟨0,Nat.zero_le _,rfl,fun j y hj=>absurd hj (Nat.not_lt_zero _),Below.refl _ _⟩
    case round =>
      obtain ⟨k,hk,rfl,HD,HBr⟩:=hrel
      by_cases hlt:k < nl
      case neg =>
        obtain rfl:k = nl:=Nat.le_antisymm hk (Nat.le_of_not_lt hlt)
        have hz:R = 0:=HEq.out.trans (datEL_all n d.l fun j y hy=>HD.out j y (by rw [← HNL.out];exact (List.getElem?_eq_some_iff.1 hy).1) hy)
        subst hz
        have dk:decide (k < k) = false:=by simp
        clear hlt hk
        go_wp2_with fail
        go_ret
        exact ⟨rfl,HW.out.trans (HBr.out.mono HW.out.size)⟩
      have hkl:k < d.l.length:=by rw [HNL.out];exact hlt
      obtain ⟨x,hx⟩:∃ x,d.l[k]? = some x:=⟨_,List.getElem?_eq_getElem hkl⟩
      have hxm:x ∈ d.l:=List.mem_of_getElem? hx
      have hbw:=HW.out.trans (HBr.out.mono HW.out.size)
      obtain ⟨b0,off,rfl,hPb,hb0,hat⟩:=(HLl.out.under hbw).at (by rw [HNL.out];omega)
      obtain ⟨xu,xt,hcx,hu,ht⟩:=hat k x hx
      obtain ⟨xau,xcu,rfl⟩:=hu.form
      obtain ⟨xaf,xcf,rfl⟩:=ht.form
      have hI:=HIL.out x hxm n (.slice au ns cu)
      unfold DtAt dtA at hcx
      have HCX:=Lib.hid hcx;have HI:=Lib.hid hI;have HU:=Lib.hid hu;have HT:=Lib.hid ht;have HX:=Lib.hid hx;have HXM:=Lib.hid hxm
      have RAr:=Lib.hid (row_keep HBr.out RA.out)
      have Hlt:=Lib.hid hlt;have HBW:=Lib.hid hbw
      have hin:(k:Int) < (nl:Int):=Int.ofNat_lt.2 hlt
      have dk:decide (k < nl) = true:=decide_eq_true hlt
      clear hkl hx hxm hbw hat hcx hu ht hI hlt hk hPb
      go_upto_region 8 with (refine wpList_load_cells rfl 63 _ rfl b0 (off + k * 6) rfl #[.bool x.no,.int .i64 x.v.k,.int .i64 x.v.n,.string x.v.s,.slice xau x.l.length xcu,.slice xaf x.f.length xcf] _ HCX.out Tryd.underlying63 rfl dt_info ?_)
      have hba:=(Below.refl wr.heap.size wr).alloc (Nat.le_refl _) (.cells #[.bool x.no,.int .i64 x.v.k,.int .i64 x.v.n,.string x.v.s,.slice xau x.l.length xcu,.slice xaf x.f.length xcf] 63)
      have hbw3:=HBW.out.trans (hba.mono HBW.out.size)
      have hcl:=HI.out (.slice xau x.l.length xcu) (.slice xaf x.f.length xcf) true _ (HE.out.below hbw3) ((HN.out.under hbw3).mono fun b hb _=>Nat.lt_of_lt_of_le hb hbw3.size) HO.out HR.out ((HU.out.under (hba.mono HBW.out.size)).mono fun b hb _=>Nat.lt_of_lt_of_le hb hbw3.size) ((HT.out.under (hba.mono HBW.out.size)).mono fun b hb _=>Nat.lt_of_lt_of_le hb hbw3.size) (fun y hy=>HDl.out y (dtsL_mem HXM.out hy))
      replace RAr:=Lib.hid (row_keep hba RAr.out);replace HBr:=Lib.hid (HBr.out.trans (hba.mono HBr.out.size))
      have rX:=heap_alloc_new wr (.cells #[.bool x.no,.int .i64 x.v.k,.int .i64 x.v.n,.string x.v.s,.slice xau x.l.length xcu,.slice xaf x.f.length xcf] 63)
      generalize (wr.alloc (.cells #[.bool x.no,.int .i64 x.v.k,.int .i64 x.v.n,.string x.v.s,.slice xau x.l.length xcu,.slice xaf x.f.length xcf] 63)) = w3 at *
      generalize wr.heap.size = gx at *
      have RX:=Lib.hid rX
      have HCL:=Lib.hid hcl
      clear hba hbw3 hcl rX
      have cA:=rowc RAr.out;have cX:=rowc RX.out
      go_wp2_with fail
      refine HCL.out.mono ?_;rintro e w4 ⟨rfl,hb4⟩
      replace HBr:=Lib.hid (HBr.out.trans (hb4.mono HBr.out.size))
      clear hb4 cA cX RX RAr HCL
      obtain ⟨rx,hrx⟩:∃ rx,datE n true x = rx:=⟨_,rfl⟩
      rw [hrx]
      cases rx with
      | zero =>
        have HD2:=Lib.hid (show ∀ (j:Nat) y,j < k + 1 → d.l[j]? = some y → datE n true y = 0 from fun j y hj hy=>by
          rcases Nat.lt_succ_iff_lt_or_eq.1 hj with h | h
          · exact HD.out j y h hy
          · subst h;rw [HX.out] at hy;injection hy with hy;rw [← hy];exact hrx)
        unfold eV
        clear hrx
        go_wp2_with fail
        go_roundw
        case rel=>exact ⟨k + 1,Hlt.out,by go_num,HD2.out,HBr.out⟩
        case measure=>have:=Hlt.out;simp [intOf];omega
      | succ q =>
        have hz:R = q + 1:=HEq.out.trans ((datEL_take n d.l k x HX.out HD.out (by rw [hrx];omega)).trans hrx)
        subst hz
        unfold eV
        clear hrx
        go_wp2_with fail
        go_ret
        exact ⟨rfl,HW.out.trans (HBr.out.mono HW.out.size)⟩
  case' inl =>
    subst h
    have hlon:lonely n true d:=.inl rfl
  case' inr.inl =>
    obtain ⟨rfl,hr⟩:=h
    have hlon:lonely n false d:=.inr (.inl hr)
    have d1:((n.rep:Int) == 1) = true:=by rw [hr];rfl
    clear hr
  case' inr.inr.inl =>
    obtain ⟨rfl,hr,rfl⟩:=h
    have hlon:lonely n false d:=.inr (.inr ⟨hr,HNO.out⟩)
    have d1:((n.rep:Int) == 1) = false:=by rw [hr];rfl
    have d2:((n.rep:Int) == 2) = true:=by rw [hr];rfl
    clear hr
  all_goals
    have HLON:=Lib.hid hlon
    clear hlon
    by_cases hk0:n.kind = 0
    case neg =>
      have dk:((n.kind:Int) != 0) = true:=by simpa using hk0
      have hEq:=datE_leaf HLON.out hk0
      rw [HRr.out] at hEq
      have HEq:=Lib.hid hEq
      obtain ⟨b,hb⟩:∃ b,bareB d false true false false = b:=⟨_,rfl⟩
      obtain ⟨ob,hob⟩:∃ ob,okB n.kind d.v = ob:=⟨_,rfl⟩
      have hq:=HBA.out false true false false (.inr (.inr (.inl rfl))) w1 HW.out
      rw [hb] at hq HEq
      rw [hob] at HEq HOK
      have HQ:=Lib.hid hq
      clear hEq hb hob hq hk0
      go_wp2_with fail
      refine HQ.out.mono ?_;rintro e w2 ⟨rfl,hb2⟩
      replace RA:=Lib.hid (row_keep hb2 RA.out);replace RB:=Lib.hid (row_keep hb2 RB.out);replace HW:=Lib.hid (HW.out.trans (hb2.mono HW.out.size))
      clear hb2 cA cB HQ cA2 cB0
      cases b with
      | false =>
        obtain rfl:R = 3:=by have:=HEq.out;simpa using this
        have ge:=HE3.out w2 HW.out
        go_wp2_with fail
        go_ret
        exact ⟨rfl,HW.out⟩
      | true =>
      have cA:=rowc RA.out;have cB:=rowc RB.out
      go_wp2_with fail
      refine (HOK.out w2).mono ?_;rintro e w3 ⟨rfl,hb3⟩
      replace HW:=Lib.hid (HW.out.trans (hb3.mono HW.out.size))
      clear hb3 cA cB
      cases ob with
      | false =>
        obtain rfl:R = 4:=by have:=HEq.out;simpa using this
        have ge:=HE4.out w3 HW.out
        go_wp2_with fail
        go_ret
        exact ⟨rfl,HW.out⟩
      | true =>
        obtain rfl:R = 0:=by have:=HEq.out;simpa using this
        go_wp2_with fail
        go_ret
        exact ⟨rfl,HW.out⟩
    have dk:((n.kind:Int) != 0) = false:=by simpa using hk0
    have hEq:=datE_group HLON.out hk0
    rw [HRr.out,HNF.out,HNS.out] at hEq
    have HEq:=Lib.hid hEq
    obtain ⟨b,hb⟩:∃ b,bareB d false false false true = b:=⟨_,rfl⟩
    have hq:=HBA.out false false false true (.inr (.inr (.inr rfl))) w1 HW.out
    rw [hb] at hq HEq
    have HQ:=Lib.hid hq
    clear hEq hb hq hk0
    go_wp2_with fail
    refine HQ.out.mono ?_;rintro e w2 ⟨rfl,hb2⟩
    replace RA:=Lib.hid (row_keep hb2 RA.out);replace RB:=Lib.hid (row_keep hb2 RB.out);replace HW:=Lib.hid (HW.out.trans (hb2.mono HW.out.size))
    clear hb2 cA cB HQ cA2 cB0
    cases b with
    | false =>
      obtain rfl:R = 3:=by have:=HEq.out;simpa using this
      have ge:=HE3.out w2 HW.out
      go_wp2_with fail
      go_ret
      exact ⟨rfl,HW.out⟩
    | true =>
    have cA:=rowc RA.out
    have cA4:w2.cell? ⟨w.heap.size,4,none⟩ = some (.slice au ns cu):=cA 4
    have cB5:w2.cell? ⟨w.heap.size + 1,5,none⟩ = some (.slice af nf cf):=rowc RB.out 5
    have hEq:=HEq.out
    rw [if_pos rfl] at hEq
    clear HEq
    by_cases hlen:nf = ns
    case neg =>
      rw [if_neg hlen] at hEq
      subst hEq
      have dn:((nf:Int) != (ns:Int)) = true:=by rw [bne_iff_ne];omega
      have ge:=HE3.out w2 HW.out
      clear hlen
      go_wp2_with fail
      go_ret
      exact ⟨rfl,HW.out⟩
    subst hlen
    rw [if_pos rfl] at hEq
    have HEq:=Lib.hid hEq
    have dn:((nf:Int) != (nf:Int)) = false:=by simp
    clear hEq hlb
    go_wp2_with fail
    clear cA cA4 cB5
    go_loopw [89] (fun i wr=>∃ k:Nat,k ≤ nf ∧ i = .int .i64 (k:Nat) ∧ Hid (∀ (j:Nat) m y,j < k → n.sub[j]? = some m → d.f[j]? = some y → datE m false y = 0) ∧ Hid (Below w2.heap.size w2 wr)) (fun i _=>nf - (intOf i).toNat)
    case atStart=>exact ⟨0,Nat.zero_le _,rfl,fun j m y hj=>absurd hj (Nat.not_lt_zero _),Below.refl _ _⟩
    case round =>
      obtain ⟨k,hk,rfl,HD,HBr⟩:=hrel
      by_cases hlt:k < nf
      case neg =>
        obtain rfl:k = nf:=Nat.le_antisymm hk (Nat.le_of_not_lt hlt)
        have hz:R = 0:=HEq.out.trans (datEF_all n.sub d.f fun j m y hm hy=>HD.out j m y (by rw [← HNF.out];exact (List.getElem?_eq_some_iff.1 hy).1) hm hy)
        subst hz
        have dk2:decide (k < k) = false:=by simp
        clear hlt hk
        go_wp2_with fail
        go_ret
        exact ⟨rfl,HW.out.trans (HBr.out.mono HW.out.size)⟩
      obtain ⟨x,hx⟩:∃ x,d.f[k]? = some x:=⟨_,List.getElem?_eq_getElem (by rw [HNF.out];exact hlt)⟩
      obtain ⟨y,hy⟩:∃ y,n.sub[k]? = some y:=⟨_,List.getElem?_eq_getElem (by rw [HNS.out];exact hlt)⟩
      have hxm:x ∈ d.f:=List.mem_of_getElem? hx
      have hym:y ∈ n.sub:=List.mem_of_getElem? hy
      have hbw:=HW.out.trans (HBr.out.mono HW.out.size)
      obtain ⟨b1,off1,h17,hPb1,hb1,hat1⟩:=(HLf.out.under hbw).at (by rw [HNF.out];omega)
      subst h17
      obtain ⟨xu,xt,hcx,hu,ht⟩:=hat1 k x hx
      obtain ⟨b0,off0,h18,hPb0,hb0,hat0⟩:=(HN.out.under hbw).at (by rw [HNS.out];omega)
      subst h18
      obtain ⟨yu,hcy,hny⟩:=hat0 k y hy
      obtain ⟨xau,xcu,rfl⟩:=hu.form
      obtain ⟨xaf,xcf,rfl⟩:=ht.form
      obtain ⟨yau,ycu,rfl⟩:=hny.form
      have hI:=HIF.out x hxm y (.slice yau y.sub.length ycu)
      unfold DtAt dtA at hcx
      unfold NdAt ndA at hcy
      have HCX:=Lib.hid hcx;have HCY:=Lib.hid hcy;have HI:=Lib.hid hI;have HU:=Lib.hid hu;have HT:=Lib.hid ht;have HNY:=Lib.hid hny;have HX:=Lib.hid hx;have HY:=Lib.hid hy;have HXM:=Lib.hid hxm;have HYM:=Lib.hid hym
      have RBr:=Lib.hid (row_keep HBr.out RB.out)
      have Hlt:=Lib.hid hlt;have HBW:=Lib.hid hbw;have HB1:=Lib.hid hb1
      have hin:(k:Int) < (nf:Int):=Int.ofNat_lt.2 hlt
      have dk2:decide (k < nf) = true:=decide_eq_true hlt
      clear hx hy hxm hym hbw hat0 hat1 hcx hcy hu ht hny hI hlt hk hPb0 hPb1 hb0 hb1
      go_upto_region 30 with (refine wpList_load_cells rfl 47 _ rfl b0 (off0 + k * 5) rfl #[.int .i64 y.id,.string y.name,.int .i64 y.rep,.int .i64 y.kind,.slice yau y.sub.length ycu] _ HCY.out Tryd.underlying47 rfl nd_info ?_)
      have hba:=(Below.refl wr.heap.size wr).alloc (Nat.le_refl _) (.cells #[.int .i64 y.id,.string y.name,.int .i64 y.rep,.int .i64 y.kind,.slice yau y.sub.length ycu] 47)
      have rY:=heap_alloc_new wr (.cells #[.int .i64 y.id,.string y.name,.int .i64 y.rep,.int .i64 y.kind,.slice yau y.sub.length ycu] 47)
      obtain ⟨gx,hgx⟩:∃ gx,wr.heap.size = gx:=⟨_,rfl⟩
      have HGX:=Lib.hid hgx
      have HBA2:=Lib.hid hba;have RY:=Lib.hid rY
      rw [hgx] at RY ⊢
      clear hba rY hgx
      generalize (wr.alloc (.cells #[.int .i64 y.id,.string y.name,.int .i64 y.rep,.int .i64 y.kind,.slice yau y.sub.length ycu] 47)) = w3 at *
      refine AnyE.region (S:=fun w'=>(∀ j_1,w'.cell? ⟨gx,j_1,none⟩ = (#[.int .i64 y.id,.string y.name,.int .i64 y.rep,.int .i64 y.kind,.slice yau y.sub.length ycu]:Array Value)[j_1]?) ∧ w'.cell? ⟨w.heap.size + 1,5,none⟩ = some (.slice (some ⟨b1,off1,none⟩) nf cf) ∧ (∀ (j:Nat) (v:Value),(#[.bool x.no,.int .i64 x.v.k,.int .i64 x.v.n,.string x.v.s,.slice xau x.l.length xcu,.slice xaf x.f.length xcf]:Array Value)[j]? = some v → w'.cell? ⟨b1,off1 + k * 6 + j,none⟩ = some v)) (E:=[]) (by kernel_rfl) ?_
      have hbd:=(Below.refl w3.heap.size w3).drew
      have hbx:=HBA2.out.trans (hbd.mono HBA2.out.size)
      have hbw3:=HBW.out.trans (hbx.mono HBW.out.size)
      have hcl:=HI.out (.slice xau x.l.length xcu) (.slice xaf x.f.length xcf) false w3.drew (HE.out.below hbw3) ((HNY.out.under (hbx.mono HBW.out.size)).mono fun b hb _=>Nat.lt_of_lt_of_le hb hbw3.size) (fun z hz=>HO.out z (by rw [nodes_eq];exact List.mem_cons_of_mem _ (nodesL_mem HYM.out hz))) (fun z hz=>HR.out z (by rw [nodes_eq];exact List.mem_cons_of_mem _ (nodesL_mem HYM.out hz))) ((HU.out.under (hbx.mono HBW.out.size)).mono fun b hb _=>Nat.lt_of_lt_of_le hb hbw3.size) ((HT.out.under (hbx.mono HBW.out.size)).mono fun b hb _=>Nat.lt_of_lt_of_le hb hbw3.size) (fun z hz=>HDf.out z (dtsL_mem HXM.out hz))
      replace RBr:=Lib.hid (row_keep hbx RBr.out);replace RY:=Lib.hid (row_keep hbd RY.out);replace HBr:=Lib.hid (HBr.out.trans (hbx.mono HBr.out.size))
      have hCX:∀ (j:Nat) (v:Value),(#[.bool x.no,.int .i64 x.v.k,.int .i64 x.v.n,.string x.v.s,.slice xau x.l.length xcu,.slice xaf x.f.length xcf]:Array Value)[j]? = some v → w3.drew.cell? ⟨b1,off1 + k * 6 + j,none⟩ = some v:=fun j v hj=>(hbx.cell (p:=⟨b1,off1 + k * 6 + j,none⟩) (block_lt_of_cell (HCX.out j v hj))).trans (HCX.out j v hj)
      have hS:=(⟨rowc RY.out,rowc RBr.out 5,hCX⟩:(fun w'=>(∀ j_1,w'.cell? ⟨gx,j_1,none⟩ = (#[.int .i64 y.id,.string y.name,.int .i64 y.rep,.int .i64 y.kind,.slice yau y.sub.length ycu]:Array Value)[j_1]?) ∧ w'.cell? ⟨w.heap.size + 1,5,none⟩ = some (.slice (some ⟨b1,off1,none⟩) nf cf) ∧ (∀ (j:Nat) (v:Value),(#[.bool x.no,.int .i64 x.v.k,.int .i64 x.v.n,.string x.v.s,.slice xau x.l.length xcu,.slice xaf x.f.length xcf]:Array Value)[j]? = some v → w'.cell? ⟨b1,off1 + k * 6 + j,none⟩ = some v)) w3.drew)
      have HCL:=Lib.hid hcl
      clear hbd hbx hbw3 hcl hCX
      generalize w3.drew = wd at *
      refine AnyE.take (i:=0) (v:=?_) rfl (by kernel_rfl) (by kernel_rfl) (by kernel_rfl) (by kernel_rfl) (by kernel_rfl) (fun _ _ _ h=>h) (Or.inl ⟨by rfl,?_⟩) hS ?_
      rotate_left
      focus (intro wq hSq;obtain ⟨hS1,hS2,hS3⟩:=hSq;go_simp;with_reducible rfl)
      try simp only [Act.put,List.getElem_toArray,List.getElem_cons_succ,List.getElem_cons_zero,List.setIfInBounds_toArray,List.set_cons_zero,List.set_cons_succ]
      refine AnyE.take (i:=1) (v:=?_) rfl (by kernel_rfl) (by kernel_rfl) (by kernel_rfl) (by kernel_rfl) (by kernel_rfl) (fun _ _ _ h=>h) (Or.inl ⟨by rfl,?_⟩) hS ?_
      rotate_left
      focus (intro wq hSq;obtain ⟨hS1,hS2,hS3⟩:=hSq;go_simp;with_reducible rfl)
      try simp only [Act.put,List.getElem_toArray,List.getElem_cons_succ,List.getElem_cons_zero,List.setIfInBounds_toArray,List.set_cons_zero,List.set_cons_succ]
      refine AnyE.take (i:=2) (v:=?_) rfl (by kernel_rfl) (by kernel_rfl) (by kernel_rfl) (by kernel_rfl) (by kernel_rfl) (fun _ _ _ h=>h) (Or.inl ⟨by rfl,?_⟩) hS ?_
      rotate_left
      focus (intro wq hSq;obtain ⟨hS1,hS2,hS3⟩:=hSq;go_simp;with_reducible rfl)
      try simp only [Act.put,List.getElem_toArray,List.getElem_cons_succ,List.getElem_cons_zero,List.setIfInBounds_toArray,List.set_cons_zero,List.set_cons_succ]
      refine AnyE.take (i:=3) (v:=?_) rfl (by kernel_rfl) (by kernel_rfl) (by kernel_rfl) (by kernel_rfl) (by kernel_rfl) (fun _ _ _ h=>h) (Or.inl ⟨by rfl,?_⟩) hS ?_
      rotate_left
      focus (intro wq hSq;obtain ⟨hS1,hS2,hS3⟩:=hSq;go_simp;with_reducible rfl)
      try simp only [Act.put,List.getElem_toArray,List.getElem_cons_succ,List.getElem_cons_zero,List.setIfInBounds_toArray,List.set_cons_zero,List.set_cons_succ]
      refine AnyE.take (i:=4) (v:=?_) rfl (by kernel_rfl) (by kernel_rfl) (by kernel_rfl) (by kernel_rfl) (by kernel_rfl) (fun _ _ _ h=>h) (Or.inl ⟨by rfl,?_⟩) hS ?_
      rotate_left
      focus (intro wq hSq;obtain ⟨hS1,hS2,hS3⟩:=hSq;go_simp;with_reducible rfl)
      try simp only [Act.put,List.getElem_toArray,List.getElem_cons_succ,List.getElem_cons_zero,List.setIfInBounds_toArray,List.set_cons_zero,List.set_cons_succ]
      refine AnyE.one (i:=5) (by kernel_rfl) rfl rfl ?_
      intro K hK
      simp only [List.getElem_toArray,List.getElem_cons_succ,List.getElem_cons_zero]
      refine wp_load_cells 63 _ rfl b1 (off1 + k * 6) rfl #[.bool x.no,.int .i64 x.v.k,.int .i64 x.v.n,.string x.v.s,.slice xau x.l.length xcu,.slice xaf x.f.length xcf] _ hS.2.2 Tryd.underlying63 rfl (by kernel_rfl) ?_
      refine hK _ _ (fun _=>hS) ?_
      clear hK K
      try simp only [Act.put,List.getElem_toArray,List.getElem_cons_succ,List.getElem_cons_zero,List.setIfInBounds_toArray,List.set_cons_zero,List.set_cons_succ]
      refine AnyE.one (i:=6) (by kernel_rfl) rfl rfl ?_
      intro K hK
      simp only [List.getElem_toArray,List.getElem_cons_succ,List.getElem_cons_zero]
      go_simp
      refine HCL.out.mono ?_;rintro e w4 ⟨rfl,hb4⟩
      have hS4:=(⟨rowc (row_keep hb4 RY.out),rowc (row_keep hb4 RBr.out) 5,fun j v hj=>(hb4.cell (p:=⟨b1,off1 + k * 6 + j,none⟩) (block_lt_of_cell (hS.2.2 j v hj))).trans (hS.2.2 j v hj)⟩:(fun w'=>(∀ j_1,w'.cell? ⟨gx,j_1,none⟩ = (#[.int .i64 y.id,.string y.name,.int .i64 y.rep,.int .i64 y.kind,.slice yau y.sub.length ycu]:Array Value)[j_1]?) ∧ w'.cell? ⟨w.heap.size + 1,5,none⟩ = some (.slice (some ⟨b1,off1,none⟩) nf cf) ∧ (∀ (j:Nat) (v:Value),(#[.bool x.no,.int .i64 x.v.k,.int .i64 x.v.n,.string x.v.s,.slice xau x.l.length xcu,.slice xaf x.f.length xcf]:Array Value)[j]? = some v → w'.cell? ⟨b1,off1 + k * 6 + j,none⟩ = some v)) w4)
      refine hK _ _ (fun _=>hS4) ?_
      replace HBr:=Lib.hid (HBr.out.trans (hb4.mono HBr.out.size))
      clear hK K hS hb4 HCL
      try simp only [Act.put,List.getElem_toArray,List.getElem_cons_succ,List.getElem_cons_zero,List.setIfInBounds_toArray,List.set_cons_zero,List.set_cons_succ]
      refine AnyE.one (i:=7) (by kernel_rfl) rfl rfl ?_
      intro K hK
      simp only [List.getElem_toArray,List.getElem_cons_succ,List.getElem_cons_zero]
      go_simp
      refine hK _ _ (fun _=>hS4) ?_
      clear hK K hS4
      try simp only [Act.put,List.getElem_toArray,List.getElem_cons_succ,List.getElem_cons_zero,List.setIfInBounds_toArray,List.set_cons_zero,List.set_cons_succ]
      refine AnyE.done (by kernel_rfl) ?_ _
      obtain ⟨rx,hrx⟩:∃ rx,datE y false x = rx:=⟨_,rfl⟩
      rw [hrx]
      cases rx with
      | zero =>
        have HD2:=Lib.hid (show ∀ (j:Nat) m z,j < k + 1 → n.sub[j]? = some m → d.f[j]? = some z → datE m false z = 0 from fun j m z hj hm hz=>by
          rcases Nat.lt_succ_iff_lt_or_eq.1 hj with h | h
          · exact HD.out j m z h hm hz
          · subst h;rw [HX.out] at hz;rw [HY.out] at hm;injection hz with hz;injection hm with hm;rw [← hz,← hm];exact hrx)
        unfold eV
        clear hrx
        go_wp2_with fail
        go_roundw
        case rel=>exact ⟨k + 1,Hlt.out,by go_num,HD2.out,HBr.out⟩
        case measure=>have:=Hlt.out;simp [intOf];omega
      | succ q =>
        have hz:R = q + 1:=HEq.out.trans ((datEF_take n.sub d.f k y x HY.out HX.out HD.out (by rw [hrx];omega)).trans hrx)
        subst hz
        unfold eV
        clear hrx
        go_wp2_with fail
        go_ret
        exact ⟨rfl,HW.out.trans (HBr.out.mono HW.out.size)⟩
end Go.Proofs.YtkmhmnffbgedgaaDoor
/- The walk of the document's DatumError. Written by gen_dc3.py. -/
namespace Go.Proofs.YtkmhmnffbgedgaaDoor
set_option linter.unusedVariables false
set_option linter.unusedSimpArgs false
open Go Go.RowKit Go.ChangeShapes
end Go.Proofs.YtkmhmnffbgedgaaDoor
/- The walks of data.Check and of the document's RecordError. -/
namespace Go.Proofs.YtkmhmnffbgedgaaDoor
set_option maxHeartbeats 8000000
set_option linter.unusedVariables false
set_option linter.unusedSimpArgs false
open Go Go.RowKit Go.ChangeShapes
theorem valid_okRep {n:Nd} (h:validE n = 0):∀ x ∈ nodes n,okRep x:=by
 have hf:rootOk n = true ∧ (nodesL n.sub).all okShape = true:=by
  unfold validE at h
  repeat' split at h
  all_goals first | exact ⟨by assumption,by assumption⟩ | omega
 intro x hx
 rw [nodes_eq] at hx
 rcases List.mem_cons.1 hx with rfl | hx
 ·have h1:=hf.1
  unfold rootOk at h1
  simp only [Bool.and_eq_true,decide_eq_true_eq] at h1
  unfold okRep;omega
 ·have h1:=List.all_eq_true.1 hf.2 x hx
  unfold okShape at h1
  simp only [Bool.and_eq_true,decide_eq_true_eq] at h1
  unfold okRep;omega
def recE (n:Nd) (d:Dt):Nat:=if validE n = 0 then datE n false d else validE n
set_option maxRecDepth 100000 in
theorem dcheck_any (adr:Nat → Addr) (n:Nd) (d:Dt) (u ul uf:Value) (w:World) (hE:ErrsAt w adr [2,3,4,5]) (hN:IsNds (· < w.heap.size) w u n.sub) (hO:∀ x ∈ nodes n,x.Ok1)
  (hl:IsDts (· < w.heap.size) w ul d.l) (hf:IsDts (· < w.heap.size) w uf d.f) (hD:∀ x ∈ dts d,x.Ok1) :
  Calls Tryd.prog 36 #[.agg (ndA n u),.agg (dtA d ul uf)] w (RightRet (recE n d) adr w):=by
 have HV:=Lib.hid (fun (w1:World) (h:Below w.heap.size w w1)=>valid_any n u w1 adr ((hE.sub (by decide)).below h) ((hN.under h).mono fun b hb _=>Nat.lt_of_lt_of_le hb h.size) hO)
 have HRt:=Lib.hid (fun (hv:validE n = 0) (w1:World) (h:Below w.heap.size w w1)=>right_any adr d n u ul uf false w1 ((hE.sub (by decide)).below h) ((hN.under h).mono fun b hb _=>Nat.lt_of_lt_of_le hb h.size) hO (valid_okRep hv)
  ((hl.under h).mono fun b hb _=>Nat.lt_of_lt_of_le hb h.size) ((hf.under h).mono fun b hb _=>Nat.lt_of_lt_of_le hb h.size) hD)
 obtain ⟨au,cu,rfl⟩:=hN.form
 obtain ⟨al,cl,rfl⟩:=hl.form
 obtain ⟨af,cf,rfl⟩:=hf.form
 unfold recE
 obtain ⟨V,hV⟩:∃ V,validE n = V:=⟨_,rfl⟩
 obtain ⟨D,hD⟩:∃ D,datE n false d = D:=⟨_,rfl⟩
 rw [hV] at HV HRt
 rw [hD] at HRt
 rw [hV,hD]
 obtain ⟨R,hR⟩:∃ R,(if V = 0 then D else V) = R:=⟨_,rfl⟩
 rw [hR]
 have HR:=Lib.hid hR
 clear hR
 obtain ⟨ns,hns⟩:∃ ns,n.sub.length = ns:=⟨_,rfl⟩
 obtain ⟨nl,hnl⟩:∃ nl,d.l.length = nl:=⟨_,rfl⟩
 obtain ⟨nf,hnf⟩:∃ nf,d.f.length = nf:=⟨_,rfl⟩
 rw [hns] at HV HRt;rw [hnl,hnf] at HRt
 rw [hns,hnl,hnf]
 unfold ndA dtA at *
 clear hE hN hO hl hf hV hD hns hnl hnf
 go_enter Tryd.func36,Tryd.ntmps36
 go_upto_region 1 with fail
 have hb0:=rows2 (w:=w) (A:=.cells #[.int .i64 n.id,.string n.name,.int .i64 n.rep,.int .i64 n.kind,.slice au ns cu] 47) (B:=.cells #[.bool d.no,.int .i64 d.v.k,.int .i64 d.v.n,.string d.v.s,.slice al nl cl,.slice af nf cf] 63) (Below.refl _ _)
 generalize ((w.alloc (.cells #[.int .i64 n.id,.string n.name,.int .i64 n.rep,.int .i64 n.kind,.slice au ns cu] 47)).alloc (.cells #[.bool d.no,.int .i64 d.v.k,.int .i64 d.v.n,.string d.v.s,.slice al nl cl,.slice af nf cf] 63)) = w1 at *
 obtain ⟨rA,rB,hbw,-⟩:=hb0
 have HW:=Lib.hid hbw;have RA:=Lib.hid rA;have RB:=Lib.hid rB
 clear rA rB hbw
 have cA:=rowc RA.out
 go_wp2_with fail
 refine (HV.out w1 HW.out).mono ?_;rintro e w2 ⟨rfl,hb2⟩
 replace RA:=Lib.hid (row_keep hb2 RA.out);replace RB:=Lib.hid (row_keep hb2 RB.out);replace HW:=Lib.hid (HW.out.trans (hb2.mono HW.out.size))
 clear hb2 cA
 cases V with
 | succ q =>
  obtain rfl:q + 1 = R:=by have:=HR.out;rwa [if_neg (by omega)] at this
  unfold eV
  go_wp2_with fail
  go_ret
  exact ⟨rfl,HW.out⟩
 | zero =>
  obtain rfl:D = R:=by have:=HR.out;rwa [if_pos rfl] at this
  have HRt2:=Lib.hid (HRt.out rfl)
  clear HRt
  unfold eV
  have cA:=rowc RA.out;have cB:=rowc RB.out
  go_wp2_with fail
  refine (HRt2.out w2 HW.out).mono ?_;rintro e w3 ⟨rfl,hb3⟩
  replace HW:=Lib.hid (HW.out.trans (hb3.mono HW.out.size))
  clear hb3 cA cB
  go_wp2_with fail
  go_ret
  exact ⟨rfl,HW.out⟩
end Go.Proofs.YtkmhmnffbgedgaaDoor
/- Shredding: what is wrong with records; the columns of right ones; a writer at its start and at its end. -/
namespace Go.Proofs.YtkmhmnffbgedgaaDoor
set_option linter.unusedVariables false
set_option linter.unusedSimpArgs false
open Go Go.RowKit Go.ChangeShapes
def badDt (n:Nd):List Dt → Nat → GErr
 | [],_=>.nil
 | x :: r,i=>if datE n false x = 0 then badDt n r (i + 1) else .fault (datE n false x) (i:Nat)
def shredErr (n:Nd) (l:List Dt):GErr:=if validE n ≠ 0 then .sent (validE n) else if 100 < l.length then .sent 2 else badDt n l 0
theorem badDt_take (n:Nd):∀ (l:List Dt) (i k:Nat) (x:Dt),l[k]? = some x → (∀ (j:Nat) y,j < k → l[j]? = some y → datE n false y = 0) → datE n false x ≠ 0 → badDt n l i = .fault (datE n false x) ((i + k:Nat):Int)
 | [],i,k,x,h,_,_=>by simp at h
 | a :: r,i,0,x,h,_,hx=>by
  obtain rfl:a = x:=by simpa using h
  simp only [badDt];rw [if_neg hx];rfl
 | a :: r,i,k + 1,x,h,hj,hx=>by
  simp only [badDt]
  rw [if_pos (hj 0 a (by omega) rfl),badDt_take n r (i + 1) k x (by simpa using h) (fun j y hjk hy=>hj (j + 1) y (by omega) (by simpa using hy)) hx,show i + 1 + k = i + (k + 1) by omega]
theorem badDt_nil (n:Nd):∀ (l:List Dt) (i:Nat),(∀ (j:Nat) y,l[j]? = some y → datE n false y = 0) → badDt n l i = .nil
 | [],_,_=>rfl
 | a :: r,i,h=>by
  simp only [badDt]
  rw [if_pos (h 0 a rfl)]
  exact badDt_nil n r (i + 1) fun j y hy=>h (j + 1) y (by simpa using hy)
def shAll (n:Nd) (l:List Dt) (j:Nat):List Ent:=l.flatMap fun d=>shE n d 0 0 0 0 false j
theorem shAll_up (n:Nd) {l:List Dt} {k:Nat} {x:Dt} (h:l[k]? = some x) (j:Nat):shAll n (l.take (k + 1)) j = shAll n (l.take k) j ++ shE n x 0 0 0 0 false j ∧ (shAll n (l.take k) j).length + (shE n x 0 0 0 0 false j).length ≤ (shAll n l j).length:=by
 have e:l.take (k + 1) = l.take k ++ [x]:=by rw [List.take_add_one,h];rfl
 have a:shAll n (l.take (k + 1)) j = shAll n (l.take k) j ++ shE n x 0 0 0 0 false j:=by unfold shAll;rw [e,List.flatMap_append];simp
 refine ⟨a,?_⟩
 have b:shAll n l j = shAll n (l.take (k + 1)) j ++ shAll n (l.drop (k + 1)) j:=by unfold shAll;rw [← List.flatMap_append,List.take_append_drop]
 rw [b,a];simp only [List.length_append];omega
theorem shAll_len (n:Nd) (l:List Dt) (j:Nat):(shAll n l j).length ≤ wgtL l:=by
 induction l with
 | nil=>simp [shAll]
 | cons x r ih =>
  unfold shAll at ih ⊢
  rw [List.flatMap_cons,List.length_append]
  simp only [wgtL]
  have:=shE_len x n 0 0 0 0 false j
  omega
def lvMd (n:Nd) (j:Nat):Int:=(((leavesN n)[j]?).map Lvf.md).getD 0
def lvId (n:Nd) (j:Nat):Int:=(((leavesN n)[j]?).map Lvf.id).getD 0
def shCol (n:Nd) (l:List Dt) (j:Nat):Col:=addC (lvMd n j) ⟨lvId n j,[],[],[]⟩ (shAll n l j)
def shCols (n:Nd) (l:List Dt):List Col:=(List.range (leavesN n).length).map (shCol n l)
theorem valid_shapes {n:Nd} (h:validE n = 0):∀ x ∈ nodes n,okShape x = true:=by
 obtain ⟨_,hr,hs,_⟩:=valid_facts h
 intro x hx
 rw [nodes_eq] at hx
 rcases List.mem_cons.1 hx with rfl | hx
 ·unfold rootOk at hr
  simp only [Bool.and_eq_true,decide_eq_true_eq,Bool.not_eq_true'] at hr
  obtain ⟨⟨⟨⟨_,_⟩,h1⟩,h2⟩,h3⟩:=hr
  unfold okShape
  rw [h1,h2,h3];rfl
 ·exact List.all_eq_true.1 hs x hx
theorem valid_root {n:Nd} (h:validE n = 0):n.kind = 0 ∧ n.sub ≠ [] ∧ n.rep = 1:=by
 obtain ⟨_,hr,_,_⟩:=valid_facts h
 unfold rootOk at hr
 simp only [Bool.and_eq_true,decide_eq_true_eq,Bool.not_eq_true'] at hr
 refine ⟨hr.1.2,fun e=>?_,hr.1.1.2⟩
 have:=hr.2
 rw [e] at this
 cases this
theorem lvs_pos:∀ n:Nd,(∀ x ∈ nodes n,okShape x = true) → 1 ≤ lvs n:=by
 apply Nd.ind
 intro n ih h
 rw [lvs_eq]
 split
 ·rename_i hk
  have h1:=h n (by rw [nodes_eq];exact List.mem_cons_self ..)
  unfold okShape at h1
  simp only [Bool.and_eq_true,beq_iff_eq] at h1
  have h2:=h1.2
  rw [decide_eq_false (by simpa using hk)] at h2
  cases hs:n.sub with
  | nil=>rw [hs] at h2;simp at h2
  | cons y r =>
   simp only [lvsL]
   have:=ih y (by rw [hs];exact List.mem_cons_self ..) (fun x hx=>h x (by rw [nodes_eq];exact List.mem_cons_of_mem _ (nodesL_mem (by rw [hs];exact List.mem_cons_self ..) hx)))
   omega
 ·exact Nat.le_refl _
theorem leaves_len {n:Nd} (h:n.kind = 0):(leavesN n).length = lvs n:=by rw [leaves_chs,List.length_map,chs_len.2,lvs_eq,if_pos h]
def zcC (p:Lvf × Value):List Value:=[.int .i64 p.1.id,.slice none 0 0,.slice none 0 0,.slice none 0 0]
theorem zcC_one (p:Lvf × Value):∀ u ∈ zcC p,u.oneCell' = true:=by
 intro u hu
 simp only [zcC,List.mem_cons,List.not_mem_nil,or_false] at hu
 rcases hu with rfl | rfl | rfl | rfl <;> rfl
def mdC (p:Lvf × Value):List Value:=[.int .i64 p.1.md]
theorem mdC_one (p:Lvf × Value):∀ u ∈ mdC p,u.oneCell' = true:=by intro u hu;obtain rfl:=List.mem_singleton.1 hu;rfl
theorem flat_atK {α:Type} (f:α → List Value) (k:Nat) (hfk:∀ y,(f y).length = k):∀ (l:List α) (i:Nat) (p:α),l[i]? = some p → ∀ j,j < k → (l.flatMap f)[i * k + j]? = (f p)[j]?:=by
 intro l
 induction l with
 | nil=>intro i p h;simp at h
 | cons a r ih =>
  intro i p h j hj
  rw [List.flatMap_cons]
  cases i with
  | zero=>simp at h;subst h;rw [List.getElem?_append_left (by rw [hfk];omega)];simp
  | succ i=>rw [List.getElem?_append_right (by rw [hfk,Nat.succ_mul];omega),hfk,show (i + 1) * k + j - k = i * k + j by rw [Nat.succ_mul];omega];exact ih i p (by simpa using h) j hj
theorem own_rowS {w:World} {B s n:Nat} {e:TypeId} {v:Value} {xs:List Value} (h:w.ownsRow B e s v n xs) (hn:0 < n):∃ (g cap:Nat) (cur:Array Value),v = .slice (some ⟨g,0,none⟩) n cap ∧ B ≤ g ∧ w.heap[g]? = some (.cells cur e (0,0)) ∧ n ≤ cap ∧ ∀ (i:Nat) (x:Value),xs[i]? = some x → cur[i]? = some x:=by
 rcases h.2 with ⟨_,h0⟩ | ⟨g,cap,cur,h1,h2,h3,h4,_,h6,h7⟩
 ·omega
 ·refine ⟨g,cap,cur,h1,h2,h3,h4,fun i x hx=>?_⟩
  rw [← h7,List.getElem?_take] at hx
  split at hx
  ·simpa using hx
  ·cases hx
theorem wr_start {B0 B1 W:Nat} {w:World} {a1 a2:Option Addr} {nL c1 c2:Nat} {LO:List (Lvf × Value)} (hn:LO.length = nL) (h0:0 < nL) (h1:nL ≤ 1000000) (h01:B0 ≤ B1) (hWB:B0 ≤ W) (hW1:W < B1)
  (hw:w.heap[W]? = some (.cells #[.slice a1 nL c1,.slice a2 nL c2] 87 (0,0))) (hc:w.ownsRow B1 32 4 (.slice a1 nL c1) nL (LO.flatMap zcC)) (hm:w.ownsRow B1 3 1 (.slice a2 nL c2) nL (LO.flatMap mdC)) :
  ∃ g,(Value.slice a1 nL c1) = .slice (some ⟨g,0,none⟩) nL c1 ∧ Wr B0 w.heap.size W g c1 nL (.slice a2 nL c2) (fun j=>((LO[j]?).map fun p=>p.1.md).getD 0) (fun j=>((LO[j]?).map fun p=>p.1.id).getD 0) w (fun j=>⟨((LO[j]?).map fun p=>p.1.id).getD 0,[],[],[]⟩):=by
 subst hn
 obtain ⟨g,cap,cur,e1,k1,k2,k3,k4⟩:=own_rowS hc h0
 obtain ⟨gm,capm,curm,e2,m1,m2,m3,m4⟩:=own_rowS hm h0
 injection e1 with e1 e1' e1''
 subst e1 e1''
 refine ⟨g,rfl,⟨row_lt hw,row_lt k2,by omega,Nat.le_refl _,?_,by omega,k3,h1,hw,⟨gm,capm,curm,e2,row_lt m2,?_,m2,?_⟩,⟨cur,fun _=>.slice none 0 0,fun _=>.slice none 0 0,fun _=>.slice none 0 0,k2,?_,?_⟩,fun j _=>⟨rfl,Nat.le_refl _⟩⟩⟩
 ·have:=row_lt hw;omega
 ·intro e
  subst e
  rw [m2] at k2
  simp only [Option.some.injEq,Obj.cells.injEq] at k2
  exact absurd k2.2.1 (by decide)
 ·intro j hj
  have hp:=List.getElem?_eq_getElem hj
  have:=flat_atK mdC 1 (fun _=>rfl) LO j _ hp 0 (by omega)
  refine m4 j _ ?_
  rw [hp]
  rw [show j * 1 + 0 = j by omega] at this
  rw [this];rfl
 ·intro j hj
  have hp:=List.getElem?_eq_getElem hj
  have key:=flat_atK zcC 4 (fun _=>rfl) LO j _ hp
  dsimp only
  rw [hp]
  exact ⟨k4 _ _ (key 0 (by omega)),k4 _ _ (key 1 (by omega)),k4 _ _ (key 2 (by omega)),k4 _ _ (key 3 (by omega))⟩
 ·have hnone:∀ j:Nat,(Value.slice none 0 0).ownBlock ≠ some j:=fun j h=>by simp [Value.ownBlock] at h
  exact ⟨fun j _=>World.ownsRow_nil _ _ _ _,fun j _=>World.ownsRow_nil _ _ _ _,fun j _=>World.ownsRow_nil _ _ _ _,fun _ _ _ _ _ k h=>absurd h (hnone k),fun _ _ _ _ k h=>absurd h (hnone k),fun _ _ _ _ _ k h=>absurd h (hnone k),fun _ _ _ _ _ k h=>absurd h (hnone k)⟩
theorem Wr.cols {B0 B W g cap n:Nat} {mv:Value} {mx ids:Nat → Int} {w:World} {C:Nat → Col} (h:Wr B0 B W g cap n mv mx ids w C) (hid:∀ j,j < n → (C j).id = ids j):IsCols w (.slice (some ⟨g,0,none⟩) n cap) ((List.range n).map C):=by
 obtain ⟨cs,P,Q,D,k1,k2,k3⟩:=h.st
 refine .inr ⟨g,0,cap,by rw [List.length_map,List.length_range],row_lt k1,fun j c hj=>?_⟩
 rw [List.getElem?_map] at hj
 obtain ⟨i,hi,rfl⟩:=Option.map_eq_some_iff.1 hj
 have hjn:j < n:=by have:=(List.getElem?_eq_some_iff.1 hi).1;simpa using this
 obtain rfl:j = i:=by rw [List.getElem?_range hjn] at hi;simpa using hi
 obtain ⟨c0,c1,c2,c3⟩:=k2 j hjn
 refine ⟨P j,Q j,D j,IsNums.of_own (B:=B) (e:=3) (by rw [← show (C j).rep.flatMap intC = _ from intC_map _];exact k3.p j hjn),IsNums.of_own (B:=B) (e:=3) (by rw [← show (C j).df.flatMap intC = _ from intC_map _];exact k3.q j hjn),IsVals.of_own (k3.d j hjn),fun i v hv=>?_⟩
 rw [Nat.zero_add]
 rw [rowc k1]
 have hi4:i < 4:=by have:=(Array.getElem?_eq_some_iff.1 hv).1;simpa [colA] using this
 rw [← hv]
 match i,hi4 with
 | 0,_=>rw [Nat.add_zero,c0,← hid j hjn];rfl
 | 1,_=>rw [c1];rfl
 | 2,_=>rw [c2];rfl
 | 3,_=>rw [c3];rfl
def roomV (v:Value):Prop:=∀ ad n cap,v = .slice ad n cap → n ≤ cap
theorem roomV_own {w:World} {B n s:Nat} {e:TypeId} {v:Value} {xs:List Value} (h:w.ownsRow B e s v n xs):roomV v:=by
 intro ad k cap e1
 rcases h.2 with ⟨rfl,_⟩ | ⟨g,cap',cur,rfl,_,_,h3,_⟩
 ·injection e1 with _ e2 e3;omega
 ·injection e1 with _ e2 e3;omega
def RoomAt (w:World) (v:Value) (n:Nat):Prop:=∀ b off m cap,v = .slice (some ⟨b,off,none⟩) m cap → b < w.heap.size ∧ ∀ j,j < n → (∀ p,w.cell? ⟨b,off + j * 4 + 1,none⟩ = some p → roomV p) ∧ ∀ p,w.cell? ⟨b,off + j * 4 + 2,none⟩ = some p → roomV p
theorem RoomAt.below {w w':World} {v:Value} {n:Nat} (h:RoomAt w v n) (hb:Below w.heap.size w w'):RoomAt w' v n:=by
 intro b off m cap e
 obtain ⟨h1,h2⟩:=h b off m cap e
 refine ⟨Nat.lt_of_lt_of_le h1 hb.size,fun j hj=>⟨fun p hp=>(h2 j hj).1 p ?_,fun p hp=>(h2 j hj).2 p ?_⟩⟩
 ·rw [← hb.cell (p:=⟨b,off + j * 4 + 1,none⟩) h1];exact hp
 ·rw [← hb.cell (p:=⟨b,off + j * 4 + 2,none⟩) h1];exact hp
theorem Wr.room {B0 B W g cap n:Nat} {mv:Value} {mx ids:Nat → Int} {w:World} {C:Nat → Col} (h:Wr B0 B W g cap n mv mx ids w C):RoomAt w (.slice (some ⟨g,0,none⟩) n cap) n:=by
 obtain ⟨cs,P,Q,D,k1,k2,k3⟩:=h.st
 intro b off m cap e
 injection e with e _ _
 injection e with e
 injection e with e1 e2
 subst e1 e2
 refine ⟨row_lt k1,fun j hj=>⟨fun p hp=>?_,fun p hp=>?_⟩⟩
 ·rw [rowc k1,Nat.zero_add,(k2 j hj).2.1] at hp
  injection hp with hp;rw [← hp];exact roomV_own (k3.p j hj)
 ·rw [rowc k1,Nat.zero_add,(k2 j hj).2.2.1] at hp
  injection hp with hp;rw [← hp];exact roomV_own (k3.q j hj)
def ShredRet (adr:Nat → Addr) (G:GErr) (cols:List Col) (w:World) (e:Ending) (w':World):Prop:=Below w.heap.size w w' ∧
 ((G = .nil ∧ ∃ v,e = .returned (.tuple #[v,.nilIface]) ∧ IsCols w' v cols ∧ RoomAt w' v cols.length) ∨ (G ≠ .nil ∧ ∃ u,e = .returned (.tuple #[.slice none 0 0,u]) ∧ IsErr w' adr G u))
end Go.Proofs.YtkmhmnffbgedgaaDoor
