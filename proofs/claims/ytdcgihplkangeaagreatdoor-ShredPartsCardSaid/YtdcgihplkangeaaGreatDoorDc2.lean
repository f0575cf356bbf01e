/- The walk of data.right. -/
import Derived.Test.YtdcgihplkangeaaGreatDoorTa0
import Derived.Test.YtdcgihplkangeaaGreatDoorTw5
import Derived.Test.YtdcgihplkangeaaGreatDoorRegE
import Derived.Deep.DeepCutAuto
import Derived.Test.YtdcgihplkangeaaGreatDoorTw1
namespace Go.Proofs.YtdcgihplkangeaaGreatDoor
set_option maxHeartbeats 16000000
set_option linter.unusedVariables false
set_option linter.unusedSimpArgs false
open Go Go.RowKit Go.ChangeShapes
theorem ok_at (kind:Int) (x:Val) (hx:x.Ok) (w:World) :
  Calls Tryz.prog 49 #[.int .i64 kind,.agg (valA x)] w fun e w'=>e = .returned (.bool (okB kind x)) ∧ Below w.heap.size w w':=by
 by_cases hP:OkP kind x
 ·rw [(okB_iff kind x).2 hP];exact ok_yes kind x hx w hP
 ·rw [show okB kind x = false from by cases hb:okB kind x with | false=>rfl | true=>exact absurd ((okB_iff kind x).1 hb) hP]
  exact ok_no kind x hx w hP
def okRep (n:Nd):Prop:=1 ≤ n.rep ∧ n.rep ≤ 3 ∧ 0 ≤ n.kind ∧ n.kind ≤ 5
def RightRet (k:Nat) (adr:Nat → Addr) (w:World) (e:Ending) (w':World):Prop:=e = .returned (eV adr k) ∧ Below w.heap.size w w'
set_option maxRecDepth 100000 in
theorem right_any (adr:Nat → Addr):∀ (d:Dt) (n:Nd) (u ul uf:Value) (one:Bool) (w:World),ErrsAt w adr [2,3,4] → IsNds (· < w.heap.size) w u n.sub → (∀ x ∈ nodes n,x.Ok1) → (∀ x ∈ nodes n,okRep x) →
    IsDts (· < w.heap.size) w ul d.l → IsDts (· < w.heap.size) w uf d.f → (∀ x ∈ dts d,x.Ok1) →
    Calls Tryz.prog 57 #[.agg (ndA n u),.agg (dtA d ul uf),.bool one] w (RightRet (datE n one d) adr w):=by
  apply Dt.ind
  intro d IHl IHf n u ul uf one w hE hN hO hR hl hf hD
  have hD0:=hD d (by rw [dts_eq];exact List.mem_cons_self ..)
  have hR0:=hR n (by rw [nodes_eq];exact List.mem_cons_self ..)
  have hDl:∀ x ∈ dtsL d.l,x.Ok1:=fun x hx=>hD x (by rw [dts_eq];exact List.mem_cons_of_mem _ (List.mem_append_left _ hx))
  have hDf:∀ x ∈ dtsL d.f,x.Ok1:=fun x hx=>hD x (by rw [dts_eq];exact List.mem_cons_of_mem _ (List.mem_append_right _ hx))
  have e2:=hE.cell 2 (by decide);have e3:=hE.cell 3 (by decide);have e4:=hE.cell 4 (by decide)
  have g2:=block_lt_of_cell e2;have g3:=block_lt_of_cell e3;have g4:=block_lt_of_cell e4
  unfold gErr at e2 e3 e4 g2 g3 g4
  have HE2:=Lib.hid (fun (w1:World) (h:Below w.heap.size w w1)=>((bcell h).1 _ 0 g2).trans e2)
  have HE3:=Lib.hid (fun (w1:World) (h:Below w.heap.size w w1)=>((bcell h).1 _ 0 g3).trans e3)
  have HE4:=Lib.hid (fun (w1:World) (h:Below w.heap.size w w1)=>((bcell h).1 _ 0 g4).trans e4)
  have HBA:=Lib.hid (fun (a b c e:Bool) (hp:(a,b,c,e) = (true,false,false,false) ∨ (a,b,c,e) = (false,false,true,false) ∨ (a,b,c,e) = (false,true,false,false) ∨ (a,b,c,e) = (false,false,false,true)) (w1:World) (h:Below w.heap.size w w1)=>dbare_any d ul uf a b c e w1 (· < w.heap.size) hD0.v (hl.under h) (hf.under h) hp)
  have HOK:=Lib.hid (fun (w1:World)=>ok_at n.kind d.v hD0.v w1)
  have HIL:=Lib.hid IHl;have HIF:=Lib.hid IHf;have HN:=Lib.hid hN;have HO:=Lib.hid hO;have HR:=Lib.hid hR;have HLl:=Lib.hid hl;have HLf:=Lib.hid hf;have HDl:=Lib.hid hDl;have HDf:=Lib.hid hDf;have HE:=Lib.hid hE
  have hlb:=hD0.l;have hfb:=hD0.f
  have hsb:=(hO n (by rw [nodes_eq];exact List.mem_cons_self ..)).sub
  clear IHl IHf hN hO hR hDl hDf hD hE e2 e3 e4 g2 g3 g4 hD0
  obtain ⟨au,cu,rfl⟩:=HN.out.form
  obtain ⟨al,cl,rfl⟩:=hl.form
  obtain ⟨af,cf,rfl⟩:=hf.form
  clear hl hf
  obtain ⟨R,hRr⟩:∃ R,datE n one d = R:=⟨_,rfl⟩
  rw [hRr]
  have HRr:=Lib.hid hRr
  clear hRr
  obtain ⟨ns,hns⟩:∃ ns,n.sub.length = ns:=⟨_,rfl⟩
  obtain ⟨nl,hnl⟩:∃ nl,d.l.length = nl:=⟨_,rfl⟩
  obtain ⟨nf,hnf⟩:∃ nf,d.f.length = nf:=⟨_,rfl⟩
  rw [hns] at HN hsb;rw [hnl] at HLl HBA hlb;rw [hnf] at HLf HBA hfb
  rw [hns,hnl,hnf]
  have HNS:=Lib.hid hns;have HNL:=Lib.hid hnl;have HNF:=Lib.hid hnf
  clear hns hnl hnf
  unfold ndA dtA valA at *
  obtain ⟨no,hno⟩:∃ no,d.no = no:=⟨_,rfl⟩
  rw [hno] at HBA
  rw [hno]
  have HNO:=Lib.hid hno
  clear hno
  go_enter Tryz.func57,Tryz.ntmps57
  go_upto_region 13 with fail
  have hb0:=rows2 (w:=w) (A:=.cells #[.int .i64 n.id,.string n.name,.int .i64 n.rep,.int .i64 n.kind,.slice au ns cu] 48) (B:=.cells #[.bool no,.int .i64 d.v.k,.int .i64 d.v.n,.string d.v.s,.slice al nl cl,.slice af nf cf] 64) (Below.refl _ _)
  generalize ((w.alloc (.cells #[.int .i64 n.id,.string n.name,.int .i64 n.rep,.int .i64 n.kind,.slice au ns cu] 48)).alloc (.cells #[.bool no,.int .i64 d.v.k,.int .i64 d.v.n,.string d.v.s,.slice al nl cl,.slice af nf cf] 64)) = w1 at *
  obtain ⟨rA,rB,hbw,-⟩:=hb0
  have HW:=Lib.hid hbw;have RA:=Lib.hid rA;have RB:=Lib.hid rB
  clear rA rB hbw
  have cA:=rowc RA.out;have cB:=rowc RB.out
  have cA2:w1.cell? ⟨w.heap.size,2,none⟩ = some (.int .i64 n.rep):=cA 2
  have cB0:w1.cell? ⟨w.heap.size + 1,0,none⟩ = some (.bool no):=cB 0
  have h5:one = true ∨ (one = false ∧ n.rep = 1) ∨ (one = false ∧ n.rep = 2 ∧ no = false) ∨ (one = false ∧ n.rep = 2 ∧ no = true) ∨ (one = false ∧ n.rep = 3):=by
    have:=hR0.1;have:=hR0.2
    cases one with
    | true=>exact .inl rfl
    | false =>
      rcases (show n.rep = 1 ∨ n.rep = 2 ∨ n.rep = 3 by omega) with h | h | h
      · exact .inr (.inl ⟨rfl,h⟩)
      · cases hn:no with
        | true=>exact .inr (.inr (.inr (.inl ⟨rfl,h,rfl⟩)))
        | false=>exact .inr (.inr (.inl ⟨rfl,h,rfl⟩))
      · exact .inr (.inr (.inr (.inr ⟨rfl,h⟩)))
  clear hR0
  rcases h5 with h | h | h | h | h
  case inr.inr.inr.inl =>
    obtain ⟨rfl,hr,rfl⟩:=h
    have d1:((n.rep:Int) == 1) = false:=by rw [hr];rfl
    have d2:((n.rep:Int) == 2) = true:=by rw [hr];rfl
    have hEq:=datE_none hr HNO.out
    rw [HRr.out] at hEq
    have HEq:=Lib.hid hEq
    obtain ⟨b,hb⟩:∃ b,bareB d true false false false = b:=⟨_,rfl⟩
    have hq:=HBA.out true false false false (.inl rfl) w1 HW.out
    rw [hb] at hq HEq
    have HQ:=Lib.hid hq
    clear hEq hb hq hr
    go_wp2_with fail
    refine HQ.out.mono ?_;rintro e w2 ⟨rfl,hb2⟩
    replace HW:=Lib.hid (HW.out.trans (hb2.mono HW.out.size))
    clear hb2 cA cB HQ
    cases b with
    | true =>
      obtain rfl:R = 0:=by have:=HEq.out;simpa using this
      go_wp2_with fail
      go_ret
      exact ⟨rfl,HW.out⟩
    | false =>
      obtain rfl:R = 3:=by have:=HEq.out;simpa using this
      have ge:=HE3.out w2 HW.out
      go_wp2_with fail
      go_ret
      exact ⟨rfl,HW.out⟩
  case inr.inr.inr.inr =>
    obtain ⟨rfl,hr⟩:=h
    have d1:((n.rep:Int) == 1) = false:=by rw [hr];rfl
    have d2:((n.rep:Int) == 2) = false:=by rw [hr];rfl
    have hEq:=datE_list (n:=n) (d:=d) hr
    rw [HRr.out] at hEq
    have HEq:=Lib.hid hEq
    obtain ⟨b,hb⟩:∃ b,bareB d false false true false = b:=⟨_,rfl⟩
    have hq:=HBA.out false false true false (.inr (.inl rfl)) w1 HW.out
    rw [hb] at hq HEq
    have HQ:=Lib.hid hq
    clear hEq hb hq hr
    go_wp2_with fail
    refine HQ.out.mono ?_;rintro e w2 ⟨rfl,hb2⟩
    replace RA:=Lib.hid (row_keep hb2 RA.out);replace RB:=Lib.hid (row_keep hb2 RB.out);replace HW:=Lib.hid (HW.out.trans (hb2.mono HW.out.size))
    clear hb2 cA cB HQ
    have cB:=rowc RB.out
    cases b with
    | false =>
      obtain rfl:R = 3:=by have:=HEq.out;simpa using this
      have ge:=HE3.out w2 HW.out
      go_wp2_with fail
      go_ret
      exact ⟨rfl,HW.out⟩
    | true =>
    have hEq:=HEq.out
    rw [if_pos rfl,HNL.out] at hEq
    clear HEq
    by_cases h40:40 < nl
    · rw [if_pos h40] at hEq
      obtain rfl:R = 2:=hEq
      have d40:(40:Int) < (nl:Int):=by omega
      have ge:=HE2.out w2 HW.out
      clear h40
      go_wp2_with fail
      go_ret
      exact ⟨rfl,HW.out⟩
    rw [if_neg h40] at hEq
    have HEq:=Lib.hid hEq
    have d40:¬ (40:Int) < (nl:Int):=by omega
    have hn40:nl ≤ 40:=Nat.le_of_not_lt h40
    have HN40:=Lib.hid hn40
    clear h40 hEq hn40 hlb hfb hsb
    go_wp2_with fail
    clear cB
    go_loopw [25] (fun i wr=>∃ k:Nat,k ≤ nl ∧ i = .int .i64 (k:Nat) ∧ Hid (∀ (j:Nat) y,j < k → d.l[j]? = some y → datE n true y = 0) ∧ Hid (Below w2.heap.size w2 wr)) (fun i _=>nl - (intOf i).toNat)
    case atStart=>exact ⟨0,Nat.zero_le _,rfl,fun j y hj=>absurd hj (Nat.not_lt_zero _),Below.refl _ _⟩
    case round =>
      obtain ⟨k,hk,rfl,HD,HBr⟩:=hrel
      by_cases hlt:k < nl
      case neg =>
        obtain rfl:k = nl:=Nat.le_antisymm hk (Nat.le_of_not_lt hlt)
        have hz:R = 0:=HEq.out.trans (datEL_all n d.l fun j y hy=>HD.out j y (by rw [← HNL.out];exact (List.getElem?_eq_some_iff.1 hy).1) hy)
        subst hz
        have dk:decide (k < k) = false:=by simp
        clear hlt hk
        go_wp2_with fail
        go_ret
        exact ⟨rfl,HW.out.trans (HBr.out.mono HW.out.size)⟩
      have hkl:k < d.l.length:=by rw [HNL.out];exact hlt
      obtain ⟨x,hx⟩:∃ x,d.l[k]? = some x:=⟨_,List.getElem?_eq_getElem hkl⟩
      have hxm:x ∈ d.l:=List.mem_of_getElem? hx
      have hbw:=HW.out.trans (HBr.out.mono HW.out.size)
      obtain ⟨b0,off,rfl,hPb,hb0,hat⟩:=(HLl.out.under hbw).at (by rw [HNL.out];omega)
      obtain ⟨xu,xt,hcx,hu,ht⟩:=hat k x hx
      obtain ⟨xau,xcu,rfl⟩:=hu.form
      obtain ⟨xaf,xcf,rfl⟩:=ht.form
      have hI:=HIL.out x hxm n (.slice au ns cu)
      unfold DtAt dtA at hcx
      have HCX:=Lib.hid hcx;have HI:=Lib.hid hI;have HU:=Lib.hid hu;have HT:=Lib.hid ht;have HX:=Lib.hid hx;have HXM:=Lib.hid hxm
      have RAr:=Lib.hid (row_keep HBr.out RA.out)
      have Hlt:=Lib.hid hlt;have HBW:=Lib.hid hbw
      have hin:(k:Int) < (nl:Int):=Int.ofNat_lt.2 hlt
      have dk:decide (k < nl) = true:=decide_eq_true hlt
      clear hkl hx hxm hbw hat hcx hu ht hI hlt hk hPb
      go_upto_region 8 with (refine wpList_load_cells rfl 64 _ rfl b0 (off + k * 6) rfl #[.bool x.no,.int .i64 x.v.k,.int .i64 x.v.n,.string x.v.s,.slice xau x.l.length xcu,.slice xaf x.f.length xcf] _ HCX.out Tryz.underlying64 rfl dt_info ?_)
      have hba:=(Below.refl wr.heap.size wr).alloc (Nat.le_refl _) (.cells #[.bool x.no,.int .i64 x.v.k,.int .i64 x.v.n,.string x.v.s,.slice xau x.l.length xcu,.slice xaf x.f.length xcf] 64)
      have hbw3:=HBW.out.trans (hba.mono HBW.out.size)
      have hcl:=HI.out (.slice xau x.l.length xcu) (.slice xaf x.f.length xcf) true _ (HE.out.below hbw3) ((HN.out.under hbw3).mono fun b hb _=>Nat.lt_of_lt_of_le hb hbw3.size) HO.out HR.out ((HU.out.under (hba.mono HBW.out.size)).mono fun b hb _=>Nat.lt_of_lt_of_le hb hbw3.size) ((HT.out.under (hba.mono HBW.out.size)).mono fun b hb _=>Nat.lt_of_lt_of_le hb hbw3.size) (fun y hy=>HDl.out y (dtsL_mem HXM.out hy))
      replace RAr:=Lib.hid (row_keep hba RAr.out);replace HBr:=Lib.hid (HBr.out.trans (hba.mono HBr.out.size))
      have rX:=heap_alloc_new wr (.cells #[.bool x.no,.int .i64 x.v.k,.int .i64 x.v.n,.string x.v.s,.slice xau x.l.length xcu,.slice xaf x.f.length xcf] 64)
      generalize (wr.alloc (.cells #[.bool x.no,.int .i64 x.v.k,.int .i64 x.v.n,.string x.v.s,.slice xau x.l.length xcu,.slice xaf x.f.length xcf] 64)) = w3 at *
      generalize wr.heap.size = gx at *
      have RX:=Lib.hid rX
      have HCL:=Lib.hid hcl
      clear hba hbw3 hcl rX
      have cA:=rowc RAr.out;have cX:=rowc RX.out
      go_wp2_with fail
      refine HCL.out.mono ?_;rintro e w4 ⟨rfl,hb4⟩
      replace HBr:=Lib.hid (HBr.out.trans (hb4.mono HBr.out.size))
      clear hb4 cA cX RX RAr HCL
      obtain ⟨rx,hrx⟩:∃ rx,datE n true x = rx:=⟨_,rfl⟩
      rw [hrx]
      cases rx with
      | zero =>
        have HD2:=Lib.hid (show ∀ (j:Nat) y,j < k + 1 → d.l[j]? = some y → datE n true y = 0 from fun j y hj hy=>by
          rcases Nat.lt_succ_iff_lt_or_eq.1 hj with h | h
          · exact HD.out j y h hy
          · subst h;rw [HX.out] at hy;injection hy with hy;rw [← hy];exact hrx)
        unfold eV
        clear hrx
        go_wp2_with fail
        go_roundw
        case rel=>exact ⟨k + 1,Hlt.out,by go_num,HD2.out,HBr.out⟩
        case measure=>have:=Hlt.out;simp [intOf];omega
      | succ q =>
        have hz:R = q + 1:=HEq.out.trans ((datEL_take n d.l k x HX.out HD.out (by rw [hrx];omega)).trans hrx)
        subst hz
        unfold eV
        clear hrx
        go_wp2_with fail
        go_ret
        exact ⟨rfl,HW.out.trans (HBr.out.mono HW.out.size)⟩
  case' inl =>
    subst h
    have hlon:lonely n true d:=.inl rfl
  case' inr.inl =>
    obtain ⟨rfl,hr⟩:=h
    have hlon:lonely n false d:=.inr (.inl hr)
    have d1:((n.rep:Int) == 1) = true:=by rw [hr];rfl
    clear hr
  case' inr.inr.inl =>
    obtain ⟨rfl,hr,rfl⟩:=h
    have hlon:lonely n false d:=.inr (.inr ⟨hr,HNO.out⟩)
    have d1:((n.rep:Int) == 1) = false:=by rw [hr];rfl
    have d2:((n.rep:Int) == 2) = true:=by rw [hr];rfl
    clear hr
  all_goals
    have HLON:=Lib.hid hlon
    clear hlon
    by_cases hk0:n.kind = 0
    case neg =>
      have dk:((n.kind:Int) != 0) = true:=by simpa using hk0
      have hEq:=datE_leaf HLON.out hk0
      rw [HRr.out] at hEq
      have HEq:=Lib.hid hEq
      obtain ⟨b,hb⟩:∃ b,bareB d false true false false = b:=⟨_,rfl⟩
      obtain ⟨ob,hob⟩:∃ ob,okB n.kind d.v = ob:=⟨_,rfl⟩
      have hq:=HBA.out false true false false (.inr (.inr (.inl rfl))) w1 HW.out
      rw [hb] at hq HEq
      rw [hob] at HEq HOK
      have HQ:=Lib.hid hq
      clear hEq hb hob hq hk0
      go_wp2_with fail
      refine HQ.out.mono ?_;rintro e w2 ⟨rfl,hb2⟩
      replace RA:=Lib.hid (row_keep hb2 RA.out);replace RB:=Lib.hid (row_keep hb2 RB.out);replace HW:=Lib.hid (HW.out.trans (hb2.mono HW.out.size))
      clear hb2 cA cB HQ cA2 cB0
      cases b with
      | false =>
        obtain rfl:R = 3:=by have:=HEq.out;simpa using this
        have ge:=HE3.out w2 HW.out
        go_wp2_with fail
        go_ret
        exact ⟨rfl,HW.out⟩
      | true =>
      have cA:=rowc RA.out;have cB:=rowc RB.out
      go_wp2_with fail
      refine (HOK.out w2).mono ?_;rintro e w3 ⟨rfl,hb3⟩
      replace HW:=Lib.hid (HW.out.trans (hb3.mono HW.out.size))
      clear hb3 cA cB
      cases ob with
      | false =>
        obtain rfl:R = 4:=by have:=HEq.out;simpa using this
        have ge:=HE4.out w3 HW.out
        go_wp2_with fail
        go_ret
        exact ⟨rfl,HW.out⟩
      | true =>
        obtain rfl:R = 0:=by have:=HEq.out;simpa using this
        go_wp2_with fail
        go_ret
        exact ⟨rfl,HW.out⟩
    have dk:((n.kind:Int) != 0) = false:=by simpa using hk0
    have hEq:=datE_group HLON.out hk0
    rw [HRr.out,HNF.out,HNS.out] at hEq
    have HEq:=Lib.hid hEq
    obtain ⟨b,hb⟩:∃ b,bareB d false false false true = b:=⟨_,rfl⟩
    have hq:=HBA.out false false false true (.inr (.inr (.inr rfl))) w1 HW.out
    rw [hb] at hq HEq
    have HQ:=Lib.hid hq
    clear hEq hb hq hk0
    go_wp2_with fail
    refine HQ.out.mono ?_;rintro e w2 ⟨rfl,hb2⟩
    replace RA:=Lib.hid (row_keep hb2 RA.out);replace RB:=Lib.hid (row_keep hb2 RB.out);replace HW:=Lib.hid (HW.out.trans (hb2.mono HW.out.size))
    clear hb2 cA cB HQ cA2 cB0
    cases b with
    | false =>
      obtain rfl:R = 3:=by have:=HEq.out;simpa using this
      have ge:=HE3.out w2 HW.out
      go_wp2_with fail
      go_ret
      exact ⟨rfl,HW.out⟩
    | true =>
    have cA:=rowc RA.out
    have cA4:w2.cell? ⟨w.heap.size,4,none⟩ = some (.slice au ns cu):=cA 4
    have cB5:w2.cell? ⟨w.heap.size + 1,5,none⟩ = some (.slice af nf cf):=rowc RB.out 5
    have hEq:=HEq.out
    rw [if_pos rfl] at hEq
    clear HEq
    by_cases hlen:nf = ns
    case neg =>
      rw [if_neg hlen] at hEq
      subst hEq
      have dn:((nf:Int) != (ns:Int)) = true:=by rw [bne_iff_ne];omega
      have ge:=HE3.out w2 HW.out
      clear hlen
      go_wp2_with fail
      go_ret
      exact ⟨rfl,HW.out⟩
    subst hlen
    rw [if_pos rfl] at hEq
    have HEq:=Lib.hid hEq
    have dn:((nf:Int) != (nf:Int)) = false:=by simp
    clear hEq hlb
    go_wp2_with fail
    clear cA cA4 cB5
    go_loopw [89] (fun i wr=>∃ k:Nat,k ≤ nf ∧ i = .int .i64 (k:Nat) ∧ Hid (∀ (j:Nat) m y,j < k → n.sub[j]? = some m → d.f[j]? = some y → datE m false y = 0) ∧ Hid (Below w2.heap.size w2 wr)) (fun i _=>nf - (intOf i).toNat)
    case atStart=>exact ⟨0,Nat.zero_le _,rfl,fun j m y hj=>absurd hj (Nat.not_lt_zero _),Below.refl _ _⟩
    case round =>
      obtain ⟨k,hk,rfl,HD,HBr⟩:=hrel
      by_cases hlt:k < nf
      case neg =>
        obtain rfl:k = nf:=Nat.le_antisymm hk (Nat.le_of_not_lt hlt)
        have hz:R = 0:=HEq.out.trans (datEF_all n.sub d.f fun j m y hm hy=>HD.out j m y (by rw [← HNF.out];exact (List.getElem?_eq_some_iff.1 hy).1) hm hy)
        subst hz
        have dk2:decide (k < k) = false:=by simp
        clear hlt hk
        go_wp2_with fail
        go_ret
        exact ⟨rfl,HW.out.trans (HBr.out.mono HW.out.size)⟩
      obtain ⟨x,hx⟩:∃ x,d.f[k]? = some x:=⟨_,List.getElem?_eq_getElem (by rw [HNF.out];exact hlt)⟩
      obtain ⟨y,hy⟩:∃ y,n.sub[k]? = some y:=⟨_,List.getElem?_eq_getElem (by rw [HNS.out];exact hlt)⟩
      have hxm:x ∈ d.f:=List.mem_of_getElem? hx
      have hym:y ∈ n.sub:=List.mem_of_getElem? hy
      have hbw:=HW.out.trans (HBr.out.mono HW.out.size)
      obtain ⟨b1,off1,h17,hPb1,hb1,hat1⟩:=(HLf.out.under hbw).at (by rw [HNF.out];omega)
      subst h17
      obtain ⟨xu,xt,hcx,hu,ht⟩:=hat1 k x hx
      obtain ⟨b0,off0,h18,hPb0,hb0,hat0⟩:=(HN.out.under hbw).at (by rw [HNS.out];omega)
      subst h18
      obtain ⟨yu,hcy,hny⟩:=hat0 k y hy
      obtain ⟨xau,xcu,rfl⟩:=hu.form
      obtain ⟨xaf,xcf,rfl⟩:=ht.form
      obtain ⟨yau,ycu,rfl⟩:=hny.form
      have hI:=HIF.out x hxm y (.slice yau y.sub.length ycu)
      unfold DtAt dtA at hcx
      unfold NdAt ndA at hcy
      have HCX:=Lib.hid hcx;have HCY:=Lib.hid hcy;have HI:=Lib.hid hI;have HU:=Lib.hid hu;have HT:=Lib.hid ht;have HNY:=Lib.hid hny;have HX:=Lib.hid hx;have HY:=Lib.hid hy;have HXM:=Lib.hid hxm;have HYM:=Lib.hid hym
      have RBr:=Lib.hid (row_keep HBr.out RB.out)
      have Hlt:=Lib.hid hlt;have HBW:=Lib.hid hbw;have HB1:=Lib.hid hb1
      have hin:(k:Int) < (nf:Int):=Int.ofNat_lt.2 hlt
      have dk2:decide (k < nf) = true:=decide_eq_true hlt
      clear hx hy hxm hym hbw hat0 hat1 hcx hcy hu ht hny hI hlt hk hPb0 hPb1 hb0 hb1
      go_upto_region 30 with (refine wpList_load_cells rfl 48 _ rfl b0 (off0 + k * 5) rfl #[.int .i64 y.id,.string y.name,.int .i64 y.rep,.int .i64 y.kind,.slice yau y.sub.length ycu] _ HCY.out Tryz.underlying48 rfl nd_info ?_)
      have hba:=(Below.refl wr.heap.size wr).alloc (Nat.le_refl _) (.cells #[.int .i64 y.id,.string y.name,.int .i64 y.rep,.int .i64 y.kind,.slice yau y.sub.length ycu] 48)
      have rY:=heap_alloc_new wr (.cells #[.int .i64 y.id,.string y.name,.int .i64 y.rep,.int .i64 y.kind,.slice yau y.sub.length ycu] 48)
      obtain ⟨gx,hgx⟩:∃ gx,wr.heap.size = gx:=⟨_,rfl⟩
      have HGX:=Lib.hid hgx
      have HBA2:=Lib.hid hba;have RY:=Lib.hid rY
      rw [hgx] at RY ⊢
      clear hba rY hgx
      generalize (wr.alloc (.cells #[.int .i64 y.id,.string y.name,.int .i64 y.rep,.int .i64 y.kind,.slice yau y.sub.length ycu] 48)) = w3 at *
      refine AnyE.region (S:=fun w'=>(∀ j_1,w'.cell? ⟨gx,j_1,none⟩ = (#[.int .i64 y.id,.string y.name,.int .i64 y.rep,.int .i64 y.kind,.slice yau y.sub.length ycu]:Array Value)[j_1]?) ∧ w'.cell? ⟨w.heap.size + 1,5,none⟩ = some (.slice (some ⟨b1,off1,none⟩) nf cf) ∧ (∀ (j:Nat) (v:Value),(#[.bool x.no,.int .i64 x.v.k,.int .i64 x.v.n,.string x.v.s,.slice xau x.l.length xcu,.slice xaf x.f.length xcf]:Array Value)[j]? = some v → w'.cell? ⟨b1,off1 + k * 6 + j,none⟩ = some v)) (E:=[]) (by kernel_rfl) ?_
      have hbd:=(Below.refl w3.heap.size w3).drew
      have hbx:=HBA2.out.trans (hbd.mono HBA2.out.size)
      have hbw3:=HBW.out.trans (hbx.mono HBW.out.size)
      have hcl:=HI.out (.slice xau x.l.length xcu) (.slice xaf x.f.length xcf) false w3.drew (HE.out.below hbw3) ((HNY.out.under (hbx.mono HBW.out.size)).mono fun b hb _=>Nat.lt_of_lt_of_le hb hbw3.size) (fun z hz=>HO.out z (by rw [nodes_eq];exact List.mem_cons_of_mem _ (nodesL_mem HYM.out hz))) (fun z hz=>HR.out z (by rw [nodes_eq];exact List.mem_cons_of_mem _ (nodesL_mem HYM.out hz))) ((HU.out.under (hbx.mono HBW.out.size)).mono fun b hb _=>Nat.lt_of_lt_of_le hb hbw3.size) ((HT.out.under (hbx.mono HBW.out.size)).mono fun b hb _=>Nat.lt_of_lt_of_le hb hbw3.size) (fun z hz=>HDf.out z (dtsL_mem HXM.out hz))
      replace RBr:=Lib.hid (row_keep hbx RBr.out);replace RY:=Lib.hid (row_keep hbd RY.out);replace HBr:=Lib.hid (HBr.out.trans (hbx.mono HBr.out.size))
      have hCX:∀ (j:Nat) (v:Value),(#[.bool x.no,.int .i64 x.v.k,.int .i64 x.v.n,.string x.v.s,.slice xau x.l.length xcu,.slice xaf x.f.length xcf]:Array Value)[j]? = some v → w3.drew.cell? ⟨b1,off1 + k * 6 + j,none⟩ = some v:=fun j v hj=>(hbx.cell (p:=⟨b1,off1 + k * 6 + j,none⟩) (block_lt_of_cell (HCX.out j v hj))).trans (HCX.out j v hj)
      have hS:=(⟨rowc RY.out,rowc RBr.out 5,hCX⟩:(fun w'=>(∀ j_1,w'.cell? ⟨gx,j_1,none⟩ = (#[.int .i64 y.id,.string y.name,.int .i64 y.rep,.int .i64 y.kind,.slice yau y.sub.length ycu]:Array Value)[j_1]?) ∧ w'.cell? ⟨w.heap.size + 1,5,none⟩ = some (.slice (some ⟨b1,off1,none⟩) nf cf) ∧ (∀ (j:Nat) (v:Value),(#[.bool x.no,.int .i64 x.v.k,.int .i64 x.v.n,.string x.v.s,.slice xau x.l.length xcu,.slice xaf x.f.length xcf]:Array Value)[j]? = some v → w'.cell? ⟨b1,off1 + k * 6 + j,none⟩ = some v)) w3.drew)
      have HCL:=Lib.hid hcl
      clear hbd hbx hbw3 hcl hCX
      generalize w3.drew = wd at *
      refine AnyE.take (i:=0) (v:=?_) rfl (by kernel_rfl) (by kernel_rfl) (by kernel_rfl) (by kernel_rfl) (by kernel_rfl) (fun _ _ _ h=>h) (Or.inl ⟨by rfl,?_⟩) hS ?_
      rotate_left
      focus (intro wq hSq;obtain ⟨hS1,hS2,hS3⟩:=hSq;go_simp;with_reducible rfl)
      try simp only [Act.put,List.getElem_toArray,List.getElem_cons_succ,List.getElem_cons_zero,List.setIfInBounds_toArray,List.set_cons_zero,List.set_cons_succ]
      refine AnyE.take (i:=1) (v:=?_) rfl (by kernel_rfl) (by kernel_rfl) (by kernel_rfl) (by kernel_rfl) (by kernel_rfl) (fun _ _ _ h=>h) (Or.inl ⟨by rfl,?_⟩) hS ?_
      rotate_left
      focus (intro wq hSq;obtain ⟨hS1,hS2,hS3⟩:=hSq;go_simp;with_reducible rfl)
      try simp only [Act.put,List.getElem_toArray,List.getElem_cons_succ,List.getElem_cons_zero,List.setIfInBounds_toArray,List.set_cons_zero,List.set_cons_succ]
      refine AnyE.take (i:=2) (v:=?_) rfl (by kernel_rfl) (by kernel_rfl) (by kernel_rfl) (by kernel_rfl) (by kernel_rfl) (fun _ _ _ h=>h) (Or.inl ⟨by rfl,?_⟩) hS ?_
      rotate_left
      focus (intro wq hSq;obtain ⟨hS1,hS2,hS3⟩:=hSq;go_simp;with_reducible rfl)
      try simp only [Act.put,List.getElem_toArray,List.getElem_cons_succ,List.getElem_cons_zero,List.setIfInBounds_toArray,List.set_cons_zero,List.set_cons_succ]
      refine AnyE.take (i:=3) (v:=?_) rfl (by kernel_rfl) (by kernel_rfl) (by kernel_rfl) (by kernel_rfl) (by kernel_rfl) (fun _ _ _ h=>h) (Or.inl ⟨by rfl,?_⟩) hS ?_
      rotate_left
      focus (intro wq hSq;obtain ⟨hS1,hS2,hS3⟩:=hSq;go_simp;with_reducible rfl)
      try simp only [Act.put,List.getElem_toArray,List.getElem_cons_succ,List.getElem_cons_zero,List.setIfInBounds_toArray,List.set_cons_zero,List.set_cons_succ]
      refine AnyE.take (i:=4) (v:=?_) rfl (by kernel_rfl) (by kernel_rfl) (by kernel_rfl) (by kernel_rfl) (by kernel_rfl) (fun _ _ _ h=>h) (Or.inl ⟨by rfl,?_⟩) hS ?_
      rotate_left
      focus (intro wq hSq;obtain ⟨hS1,hS2,hS3⟩:=hSq;go_simp;with_reducible rfl)
      try simp only [Act.put,List.getElem_toArray,List.getElem_cons_succ,List.getElem_cons_zero,List.setIfInBounds_toArray,List.set_cons_zero,List.set_cons_succ]
      refine AnyE.one (i:=5) (by kernel_rfl) rfl rfl ?_
      intro K hK
      simp only [List.getElem_toArray,List.getElem_cons_succ,List.getElem_cons_zero]
      refine wp_load_cells 64 _ rfl b1 (off1 + k * 6) rfl #[.bool x.no,.int .i64 x.v.k,.int .i64 x.v.n,.string x.v.s,.slice xau x.l.length xcu,.slice xaf x.f.length xcf] _ hS.2.2 Tryz.underlying64 rfl (by kernel_rfl) ?_
      refine hK _ _ (fun _=>hS) ?_
      clear hK K
      try simp only [Act.put,List.getElem_toArray,List.getElem_cons_succ,List.getElem_cons_zero,List.setIfInBounds_toArray,List.set_cons_zero,List.set_cons_succ]
      refine AnyE.one (i:=6) (by kernel_rfl) rfl rfl ?_
      intro K hK
      simp only [List.getElem_toArray,List.getElem_cons_succ,List.getElem_cons_zero]
      go_simp
      refine HCL.out.mono ?_;rintro e w4 ⟨rfl,hb4⟩
      have hS4:=(⟨rowc (row_keep hb4 RY.out),rowc (row_keep hb4 RBr.out) 5,fun j v hj=>(hb4.cell (p:=⟨b1,off1 + k * 6 + j,none⟩) (block_lt_of_cell (hS.2.2 j v hj))).trans (hS.2.2 j v hj)⟩:(fun w'=>(∀ j_1,w'.cell? ⟨gx,j_1,none⟩ = (#[.int .i64 y.id,.string y.name,.int .i64 y.rep,.int .i64 y.kind,.slice yau y.sub.length ycu]:Array Value)[j_1]?) ∧ w'.cell? ⟨w.heap.size + 1,5,none⟩ = some (.slice (some ⟨b1,off1,none⟩) nf cf) ∧ (∀ (j:Nat) (v:Value),(#[.bool x.no,.int .i64 x.v.k,.int .i64 x.v.n,.string x.v.s,.slice xau x.l.length xcu,.slice xaf x.f.length xcf]:Array Value)[j]? = some v → w'.cell? ⟨b1,off1 + k * 6 + j,none⟩ = some v)) w4)
      refine hK _ _ (fun _=>hS4) ?_
      replace HBr:=Lib.hid (HBr.out.trans (hb4.mono HBr.out.size))
      clear hK K hS hb4 HCL
      try simp only [Act.put,List.getElem_toArray,List.getElem_cons_succ,List.getElem_cons_zero,List.setIfInBounds_toArray,List.set_cons_zero,List.set_cons_succ]
      refine AnyE.one (i:=7) (by kernel_rfl) rfl rfl ?_
      intro K hK
      simp only [List.getElem_toArray,List.getElem_cons_succ,List.getElem_cons_zero]
      go_simp
      refine hK _ _ (fun _=>hS4) ?_
      clear hK K hS4
      try simp only [Act.put,List.getElem_toArray,List.getElem_cons_succ,List.getElem_cons_zero,List.setIfInBounds_toArray,List.set_cons_zero,List.set_cons_succ]
      refine AnyE.done (by kernel_rfl) ?_ _
      obtain ⟨rx,hrx⟩:∃ rx,datE y false x = rx:=⟨_,rfl⟩
      rw [hrx]
      cases rx with
      | zero =>
        have HD2:=Lib.hid (show ∀ (j:Nat) m z,j < k + 1 → n.sub[j]? = some m → d.f[j]? = some z → datE m false z = 0 from fun j m z hj hm hz=>by
          rcases Nat.lt_succ_iff_lt_or_eq.1 hj with h | h
          · exact HD.out j m z h hm hz
          · subst h;rw [HX.out] at hz;rw [HY.out] at hm;injection hz with hz;injection hm with hm;rw [← hz,← hm];exact hrx)
        unfold eV
        clear hrx
        go_wp2_with fail
        go_roundw
        case rel=>exact ⟨k + 1,Hlt.out,by go_num,HD2.out,HBr.out⟩
        case measure=>have:=Hlt.out;simp [intOf];omega
      | succ q =>
        have hz:R = q + 1:=HEq.out.trans ((datEF_take n.sub d.f k y x HY.out HX.out HD.out (by rw [hrx];omega)).trans hrx)
        subst hz
        unfold eV
        clear hrx
        go_wp2_with fail
        go_ret
        exact ⟨rfl,HW.out.trans (HBr.out.mono HW.out.size)⟩
end Go.Proofs.YtdcgihplkangeaaGreatDoor
/- The walk of the document's DatumError. Written by gen_dc3.py. -/
namespace Go.Proofs.YtdcgihplkangeaaGreatDoor
set_option linter.unusedVariables false
set_option linter.unusedSimpArgs false
open Go Go.RowKit Go.ChangeShapes
end Go.Proofs.YtdcgihplkangeaaGreatDoor
/- The walks of data.Check and of the document's RecordError. -/
namespace Go.Proofs.YtdcgihplkangeaaGreatDoor
set_option maxHeartbeats 8000000
set_option linter.unusedVariables false
set_option linter.unusedSimpArgs false
open Go Go.RowKit Go.ChangeShapes
theorem valid_okRep {n:Nd} (h:validE n = 0):∀ x ∈ nodes n,okRep x:=by
 have hf:rootOk n = true ∧ (nodesL n.sub).all okShape = true:=by
  unfold validE at h
  repeat' split at h
  all_goals first | exact ⟨by assumption,by assumption⟩ | omega
 intro x hx
 rw [nodes_eq] at hx
 rcases List.mem_cons.1 hx with rfl | hx
 ·have h1:=hf.1
  unfold rootOk at h1
  simp only [Bool.and_eq_true,decide_eq_true_eq] at h1
  unfold okRep;omega
 ·have h1:=List.all_eq_true.1 hf.2 x hx
  unfold okShape at h1
  simp only [Bool.and_eq_true,decide_eq_true_eq] at h1
  unfold okRep;omega
def recE (n:Nd) (d:Dt):Nat:=if validE n = 0 then datE n false d else validE n
set_option maxRecDepth 100000 in
theorem dcheck_any (adr:Nat → Addr) (n:Nd) (d:Dt) (u ul uf:Value) (w:World) (hE:ErrsAt w adr [2,3,4,5]) (hN:IsNds (· < w.heap.size) w u n.sub) (hO:∀ x ∈ nodes n,x.Ok1)
  (hl:IsDts (· < w.heap.size) w ul d.l) (hf:IsDts (· < w.heap.size) w uf d.f) (hD:∀ x ∈ dts d,x.Ok1) :
  Calls Tryz.prog 40 #[.agg (ndA n u),.agg (dtA d ul uf)] w (RightRet (recE n d) adr w):=by
 have HV:=Lib.hid (fun (w1:World) (h:Below w.heap.size w w1)=>valid_any n u w1 adr ((hE.sub (by decide)).below h) ((hN.under h).mono fun b hb _=>Nat.lt_of_lt_of_le hb h.size) hO)
 have HRt:=Lib.hid (fun (hv:validE n = 0) (w1:World) (h:Below w.heap.size w w1)=>right_any adr d n u ul uf false w1 ((hE.sub (by decide)).below h) ((hN.under h).mono fun b hb _=>Nat.lt_of_lt_of_le hb h.size) hO (valid_okRep hv)
  ((hl.under h).mono fun b hb _=>Nat.lt_of_lt_of_le hb h.size) ((hf.under h).mono fun b hb _=>Nat.lt_of_lt_of_le hb h.size) hD)
 obtain ⟨au,cu,rfl⟩:=hN.form
 obtain ⟨al,cl,rfl⟩:=hl.form
 obtain ⟨af,cf,rfl⟩:=hf.form
 unfold recE
 obtain ⟨V,hV⟩:∃ V,validE n = V:=⟨_,rfl⟩
 obtain ⟨D,hD⟩:∃ D,datE n false d = D:=⟨_,rfl⟩
 rw [hV] at HV HRt
 rw [hD] at HRt
 rw [hV,hD]
 obtain ⟨R,hR⟩:∃ R,(if V = 0 then D else V) = R:=⟨_,rfl⟩
 rw [hR]
 have HR:=Lib.hid hR
 clear hR
 obtain ⟨ns,hns⟩:∃ ns,n.sub.length = ns:=⟨_,rfl⟩
 obtain ⟨nl,hnl⟩:∃ nl,d.l.length = nl:=⟨_,rfl⟩
 obtain ⟨nf,hnf⟩:∃ nf,d.f.length = nf:=⟨_,rfl⟩
 rw [hns] at HV HRt;rw [hnl,hnf] at HRt
 rw [hns,hnl,hnf]
 unfold ndA dtA at *
 clear hE hN hO hl hf hV hD hns hnl hnf
 go_enter Tryz.func40,Tryz.ntmps40
 go_upto_region 1 with fail
 have hb0:=rows2 (w:=w) (A:=.cells #[.int .i64 n.id,.string n.name,.int .i64 n.rep,.int .i64 n.kind,.slice au ns cu] 48) (B:=.cells #[.bool d.no,.int .i64 d.v.k,.int .i64 d.v.n,.string d.v.s,.slice al nl cl,.slice af nf cf] 64) (Below.refl _ _)
 generalize ((w.alloc (.cells #[.int .i64 n.id,.string n.name,.int .i64 n.rep,.int .i64 n.kind,.slice au ns cu] 48)).alloc (.cells #[.bool d.no,.int .i64 d.v.k,.int .i64 d.v.n,.string d.v.s,.slice al nl cl,.slice af nf cf] 64)) = w1 at *
 obtain ⟨rA,rB,hbw,-⟩:=hb0
 have HW:=Lib.hid hbw;have RA:=Lib.hid rA;have RB:=Lib.hid rB
 clear rA rB hbw
 have cA:=rowc RA.out
 go_wp2_with fail
 refine (HV.out w1 HW.out).mono ?_;rintro e w2 ⟨rfl,hb2⟩
 replace RA:=Lib.hid (row_keep hb2 RA.out);replace RB:=Lib.hid (row_keep hb2 RB.out);replace HW:=Lib.hid (HW.out.trans (hb2.mono HW.out.size))
 clear hb2 cA
 cases V with
 | succ q =>
  obtain rfl:q + 1 = R:=by have:=HR.out;rwa [if_neg (by omega)] at this
  unfold eV
  go_wp2_with fail
  go_ret
  exact ⟨rfl,HW.out⟩
 | zero =>
  obtain rfl:D = R:=by have:=HR.out;rwa [if_pos rfl] at this
  have HRt2:=Lib.hid (HRt.out rfl)
  clear HRt
  unfold eV
  have cA:=rowc RA.out;have cB:=rowc RB.out
  go_wp2_with fail
  refine (HRt2.out w2 HW.out).mono ?_;rintro e w3 ⟨rfl,hb3⟩
  replace HW:=Lib.hid (HW.out.trans (hb3.mono HW.out.size))
  clear hb3 cA cB
  go_wp2_with fail
  go_ret
  exact ⟨rfl,HW.out⟩
end Go.Proofs.YtdcgihplkangeaaGreatDoor
