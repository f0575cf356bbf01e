/- The walk of shred's (*writer).datum: a datum's entries, leaf by leaf. Written by gen_sh4.py. -/
import Derived.Test.YtkmhmnffbgedgaaDoorSh2
import Derived.IntWalk
import Derived.Deep.DeepCutAuto
namespace Go.Proofs.YtkmhmnffbgedgaaDoor
set_option maxHeartbeats 16000000
set_option linter.unusedVariables false
set_option linter.unusedSimpArgs false
open Go Go.RowKit Go.ChangeShapes
theorem Fr.datum {B0 B g b:Nat} {w w':World} {cs:Array Value} (h:Fr B0 B g w w') (hb:w.heap[b]? = some (.cells cs 63 (0,0))) (hne:b ≠ g):w'.heap[b]? = some (.cells cs 63 (0,0)):=h.tag b cs _ _ (by decide) (by decide) hne hb
theorem i64sum {a b:Nat} (h:a + b ≤ 4000000):IntKind.i64.wrap ((a:Int) + (b:Int)) = (a:Int) + (b:Int):=IntWalk.i64_in _ (by omega)
theorem noneE_lenC {C:Nat → Col} {n m leaf:Nat} {e:Ent} (h:∀ j,j < n → (C j).rep.length + (noneE m leaf e j).length ≤ 1000000):∀ j,j < n → leaf ≤ j → j < leaf + m → (C j).rep.length + 1 ≤ 1000000:=by
 intro j hj h1 h2
 have:=h j hj
 unfold noneE at this
 rw [if_pos ⟨h1,h2⟩] at this
 exact this
set_option maxRecDepth 100000 in
theorem datum_any {B0 B W g cap n:Nat} {mv:Value} {mx ids:Nat → Int}:∀ (d:Dt) (nd:Nd) (u ul uf:Value) (C:Nat → Col) (leaf:Nat) (rep df lv:Int) (one:Bool) (w:World),Wr B0 B W g cap n mv mx ids w C → IsNds (· < B0) w u nd.sub → IsDts (· < B0) w ul d.l → IsDts (· < B0) w uf d.f →
  (∀ x ∈ nodes nd,x.Ok1) → (∀ y ∈ dts d,y.Ok1) → (∀ x ∈ nodes nd,okShape x = true) → datE nd one d = 0 → leaf + lvs nd ≤ n → 0 ≤ df → df + wgt d ≤ 1000000000000 → 0 ≤ lv → lv + wgt d ≤ 1000000000000 →
  (∀ j,j < n → (C j).rep.length + (shE nd d leaf rep df lv one j).length ≤ 1000000) →
  Calls Tryd.prog 37 #[.pointer (some ⟨W,0,none⟩),.agg (ndA nd u),.agg (dtA d ul uf),.int .i64 (leaf:Nat),.int .i64 rep,.int .i64 df,.int .i64 lv,.bool one] w (WrRet B0 B W g cap n mv mx ids C (shE nd d leaf rep df lv one) (lvs nd) w):=by
 apply Dt.ind
 intro d IHl IHf nd u ul uf C leaf rep df lv one w hw hN hl hf hO hD hS hE hlf hd0 hd1 hl0 hl1 hC
 have hD0:=hD d (by rw [dts_eq];exact List.mem_cons_self ..)
 have HDl:=Lib.hid (show ∀ x ∈ dtsL d.l,x.Ok1 from fun x hx=>hD x (by rw [dts_eq];exact List.mem_cons_of_mem _ (List.mem_append_left _ hx)))
 have HDf:=Lib.hid (show ∀ x ∈ dtsL d.f,x.Ok1 from fun x hx=>hD x (by rw [dts_eq];exact List.mem_cons_of_mem _ (List.mem_append_right _ hx)))
 have HSs:=Lib.hid (show ∀ x ∈ nodesL nd.sub,okShape x = true from fun x hx=>hS x (by rw [nodes_eq];exact List.mem_cons_of_mem _ hx))
 have HOs:=Lib.hid (show ∀ x ∈ nodesL nd.sub,x.Ok1 from fun x hx=>hO x (by rw [nodes_eq];exact List.mem_cons_of_mem _ hx))
 have hsn:=hS nd (by rw [nodes_eq];exact List.mem_cons_self ..)
 have hR0:1 ≤ nd.rep ∧ nd.rep ≤ 3:=by unfold okShape at hsn;simp only [Bool.and_eq_true,decide_eq_true_eq] at hsn;omega
 have hlb:=hD0.l;have hfb:=hD0.f
 have hsb:=(hO nd (by rw [nodes_eq];exact List.mem_cons_self ..)).sub
 rw [wgt_eq] at hd1 hl1
 obtain ⟨E,hEE⟩:∃ E,shE nd d leaf rep df lv one = E:=⟨_,rfl⟩
 have hEq:=fun j=>shE_eq nd d leaf rep df lv one j
 rw [hEE] at hC hEq ⊢
 have HEQ:=Lib.hid hEq
 obtain ⟨m,hm⟩:∃ m,lvs nd = m:=⟨_,rfl⟩
 rw [hm] at hlf ⊢
 have HM:=Lib.hid hm
 have HLF:=Lib.hid hlf
 have HNONE:=Lib.hid (fun (w1:World) (h1:Wr B0 B W g cap n mv mx ids w1 C) (h2:Fr B0 B g w w1) (h3:∀ j,j < n → leaf ≤ j → j < leaf + lvs nd → (C j).rep.length + 1 ≤ 1000000)=>none_any rep df nd u C leaf w1 h1 (hN.under h2.below) hO (hm ▸ hlf) h3)
 rw [hm] at HNONE
 have hB:=hw.hB
 have hn1:=hw.n1
 have hgB:=hw.hg
 have hleaf:leaf + m ≤ 1000000:=by omega
 have HIL:=Lib.hid IHl;have HIF:=Lib.hid IHf;have HN:=Lib.hid hN;have HO:=Lib.hid hO;have HS:=Lib.hid hS;have HLl:=Lib.hid hl;have HLf:=Lib.hid hf;have HE:=Lib.hid hE;have HC:=Lib.hid hC;have HW:=Lib.hid hw;have H0:=Lib.hid hw.h0
 clear IHl IHf hO hD hE hD0 hS hsn hEE hEq hm hlf hC hw
 obtain ⟨au,cu,rfl⟩:=hN.form
 obtain ⟨al,cl,rfl⟩:=hl.form
 obtain ⟨af,cf,rfl⟩:=hf.form
 clear hN hl hf
 obtain ⟨ns,hns⟩:∃ ns,nd.sub.length = ns:=⟨_,rfl⟩
 obtain ⟨nl,hnl⟩:∃ nl,d.l.length = nl:=⟨_,rfl⟩
 obtain ⟨nf,hnf⟩:∃ nf,d.f.length = nf:=⟨_,rfl⟩
 rw [hns] at HN hsb HNONE;rw [hnl] at HLl hlb;rw [hnf] at HLf hfb
 rw [hns,hnl,hnf]
 have HNS:=Lib.hid hns;have HNL:=Lib.hid hnl;have HNF:=Lib.hid hnf
 clear hns hnl hnf
 unfold ndA at HNONE
 unfold ndA dtA
 obtain ⟨no,hno⟩:∃ no,d.no = no:=⟨_,rfl⟩
 rw [hno] at HEQ ⊢
 have HNO:=Lib.hid hno
 clear hno
 go_enter Tryd.func37,Tryd.ntmps37
 go_upto_region 12 with fail
 have hb0:=rows2 (w:=w) (A:=.cells #[.int .i64 nd.id,.string nd.name,.int .i64 nd.rep,.int .i64 nd.kind,.slice au ns cu] 47) (B:=.cells #[.bool no,.int .i64 d.v.k,.int .i64 d.v.n,.string d.v.s,.slice al nl cl,.slice af nf cf] 63) (Below.refl _ _)
 generalize ((w.alloc (.cells #[.int .i64 nd.id,.string nd.name,.int .i64 nd.rep,.int .i64 nd.kind,.slice au ns cu] 47)).alloc (.cells #[.bool no,.int .i64 d.v.k,.int .i64 d.v.n,.string d.v.s,.slice al nl cl,.slice af nf cf] 63)) = w1 at *
 obtain ⟨rA,rB,hbw,hzz⟩:=hb0
 have RA:=Lib.hid rA;have RB:=Lib.hid rB;have HF:=Lib.hid (Fr.of_below (g:=g) hbw H0.out hB);have HW1:=Lib.hid (HW.out.keep hbw)
 have hga:w.heap.size ≠ g:=by omega
 have hgb:w.heap.size + 1 ≠ g:=by omega
 clear rA rB hbw
 generalize w.heap.size = ga at *
 have cA:=rowc RA.out;have cB:=rowc RB.out
 have cA2:w1.cell? ⟨ga,2,none⟩ = some (.int .i64 nd.rep):=cA 2
 have cB0:w1.cell? ⟨ga + 1,0,none⟩ = some (.bool no):=cB 0
 have h5:one = true ∨ (one = false ∧ nd.rep = 1) ∨ (one = false ∧ nd.rep = 2 ∧ no = false) ∨ (one = false ∧ nd.rep = 2 ∧ no = true) ∨ (one = false ∧ nd.rep = 3):=by
  have:=hR0.1;have:=hR0.2
  cases one with
  | true=>exact .inl rfl
  | false =>
   rcases (show nd.rep = 1 ∨ nd.rep = 2 ∨ nd.rep = 3 by omega) with h | h | h
   ·exact .inr (.inl ⟨rfl,h⟩)
   ·cases hn:no with
    | true=>exact .inr (.inr (.inr (.inl ⟨rfl,h,rfl⟩)))
    | false=>exact .inr (.inr (.inl ⟨rfl,h,rfl⟩))
   ·exact .inr (.inr (.inr (.inr ⟨rfl,h⟩)))
 clear hR0
 rcases h5 with h | h | h | h | h
 case inr.inr.inr.inl =>
  obtain ⟨rfl,hr,rfl⟩:=h
  have d1:((nd.rep:Int) == 1) = false:=by rw [hr];rfl
  have d2:((nd.rep:Int) == 2) = true:=by rw [hr];rfl
  have hEn:E = noneE m leaf ⟨rep,df,zeroV⟩:=by
   funext j
   rw [HEQ.out j,if_pos ⟨rfl,hr,rfl⟩,HM.out]
  have HCL:=Lib.hid (HNONE.out w1 HW1.out HF.out (by rw [hEn] at HC;exact noneE_lenC HC.out))
  have HEn:=Lib.hid hEn
  clear hr hEn HNONE HEQ
  go_wp2_with fail
  refine HCL.out.mono ?_;rintro e w4 ⟨rfl,hw4,hf4⟩
  have HW4:=Lib.hid hw4;have HF4:=Lib.hid (HF.out.trans hf4)
  clear hw4 hf4 HCL cA cB cA2 cB0
  go_wp2_with fail
  go_ret
  exact ⟨rfl,by rw [HEn.out];exact HW4.out,HF4.out⟩
 case inr.inr.inr.inr =>
  obtain ⟨rfl,hr⟩:=h
  have d1:((nd.rep:Int) == 1) = false:=by rw [hr];rfl
  have d2:((nd.rep:Int) == 2) = false:=by rw [hr];rfl
  by_cases hn0:nl = 0
  ·subst hn0
   have hEn:E = noneE m leaf ⟨rep,df,zeroV⟩:=by
    funext j
    have hle:d.l.isEmpty = true:=by rw [List.isEmpty_iff];exact List.eq_nil_of_length_eq_zero HNL.out
    rw [HEQ.out j,if_neg (by omega),if_pos ⟨rfl,hr⟩,if_pos hle,HM.out]
   have HCL:=Lib.hid (HNONE.out w1 HW1.out HF.out (by rw [hEn] at HC;exact noneE_lenC HC.out))
   have HEn:=Lib.hid hEn
   clear hr hEn HNONE HEQ
   go_wp2_with fail
   refine HCL.out.mono ?_;rintro e w4 ⟨rfl,hw4,hf4⟩
   have HW4:=Lib.hid hw4;have HF4:=Lib.hid (HF.out.trans hf4)
   clear hw4 hf4 HCL cA cB cA2 cB0
   go_wp2_with fail
   go_ret
   exact ⟨rfl,by rw [HEn.out];exact HW4.out,HF4.out⟩
  have d0:((nl:Int) == 0) = false:=by rw [beq_eq_false_iff_ne];omega
  have hpos:0 < nl:=Nat.pos_of_ne_zero hn0
  have hEn:E = shEL nd d.l leaf rep df lv:=by
   funext j
   have hle:¬ d.l.isEmpty = true:=by rw [List.isEmpty_iff];intro h;have h2:=HNL.out;rw [h] at h2;exact hn0 h2.symm
   rw [HEQ.out j,if_neg (by omega),if_pos ⟨rfl,hr⟩,if_neg hle]
  have hall:∀ x ∈ d.l,datE nd true x = 0:=by
   have h:=HE.out
   rw [datE_list hr] at h
   split at h
   ·split at h
    ·omega
    ·exact datEL_zero nd _ h
   ·omega
  have HEn:=Lib.hid hEn;have HALL:=Lib.hid hall;have Hpos:=Lib.hid hpos
  clear hr hEn hall hn0 HNONE HEQ hpos hfb hsb
  go_wp2_with fail
  clear cA cB cA2 cB0
  go_loopw [4,17,36] (fun s4 s17 i wr=>∃ (k q:Nat) (rp:Int),k ≤ nl ∧ i = .int .i64 (k:Nat) ∧ s17 = .int .i64 (q:Nat) ∧ s4 = .int .i64 rp ∧ Hid (0 < k → q = m) ∧ Hid (rp = if k = 0 ∨ k = 1 then rep else lv + 1) ∧ Hid (Wr B0 B W g cap n mv mx ids wr (addE mx C (shEL nd (d.l.take k) leaf rep df lv))) ∧ Hid (Fr B0 B g w1 wr)) (fun _ _ i _=>nl - (intOf i).toNat)
  case atStart=>exact ⟨0,0,rep,Nat.zero_le _,rfl,rfl,rfl,fun h=>absurd h (by omega),(if_pos (.inl rfl)).symm,by simp only [List.take_zero];rw [show shEL nd [] leaf rep df lv = fun _=>[] from by funext j;rfl,addE_nil];exact HW1.out,Fr.refl _ _ _ _⟩
  case round =>
   obtain ⟨k,q,rp,hk,rfl,rfl,rfl,HQ,HRP,HR,HFr⟩:=hrel
   by_cases hlt:k < nl
   case neg =>
    obtain rfl:k = nl:=Nat.le_antisymm hk (Nat.le_of_not_lt hlt)
    obtain rfl:q = m:=HQ.out Hpos.out
    have hT:d.l.take k = d.l:=List.take_of_length_le (Nat.le_of_eq HNL.out)
    rw [hT] at HR
    have dk:decide (k < k) = false:=by simp
    clear hlt hk hT
    go_wp2_with fail
    go_ret
    exact ⟨rfl,by rw [HEn.out];exact HR.out,HF.out.trans HFr.out⟩
   have hkl:k < d.l.length:=by rw [HNL.out];exact hlt
   obtain ⟨x,hx⟩:∃ x,d.l[k]? = some x:=⟨_,List.getElem?_eq_getElem hkl⟩
   have hxm:x ∈ d.l:=List.mem_of_getElem? hx
   have hfw:=HF.out.trans HFr.out
   obtain ⟨b0,off,rfl,hPb,hb0,hat⟩:=(HLl.out.under hfw.below).at (by rw [HNL.out];omega)
   obtain ⟨xu,xt,hcx,hu,ht⟩:=hat k x hx
   obtain ⟨xau,xcu,rfl⟩:=hu.form
   obtain ⟨xaf,xcf,rfl⟩:=ht.form
   have hwx:=wgtL_mem hxm
   have hw1:1 ≤ wgt x:=by rw [wgt_eq];omega
   obtain ⟨rp2,hrp2⟩:∃ r:Int,(if k = 0 then rep else lv + 1) = r:=⟨_,rfl⟩
   have hup:=fun j=>shEL_up nd hx leaf rep df lv j
   rw [hrp2] at hup
   have hsz:=HR.out.hB
   have hbx:=(Below.refl wr.heap.size wr).alloc (Nat.le_refl _) (.cells #[.bool x.no,.int .i64 x.v.k,.int .i64 x.v.n,.string x.v.s,.slice xau x.l.length xcu,.slice xaf x.f.length xcf] 63)
   have hcl:=HIL.out x hxm nd (.slice au ns cu) (.slice xau x.l.length xcu) (.slice xaf x.f.length xcf) _ leaf rp2 (df + 1) (lv + 1) true _ (HR.out.keep hbx) (HN.out.under (hfw.below.trans (hbx.mono (Nat.le_trans HW.out.h0 hsz)))) (hu.under (hbx.mono (Nat.le_trans HW.out.h0 hsz))) (ht.under (hbx.mono (Nat.le_trans HW.out.h0 hsz))) HO.out (fun z hz=>HDl.out z (dtsL_mem hxm hz)) HS.out (HALL.out x hxm) (by rw [HM.out];exact HLF.out) (by omega) (by omega) (by omega) (by omega) (by
    intro j hj
    rw [addE_rep]
    have h1:=(hup j).2
    have h2:=HC.out j hj
    rw [HEn.out] at h2
    omega)
   rw [HM.out] at hcl
   unfold DtAt dtA at hcx
   unfold dtA ndA at hcl
   have HCX:=Lib.hid hcx;have HCL:=Lib.hid hcl;have HUP:=Lib.hid hup
   have Hlt:=Lib.hid hlt
   have HFX:=Lib.hid (HFr.out.trans (Fr.of_below (g:=g) hbx HW.out.h0 hsz))
   have RAr:=Lib.hid (row_keep hbx (HFr.out.node RA.out hga))
   have hrX:=heap_alloc_new wr (.cells #[.bool x.no,.int .i64 x.v.k,.int .i64 x.v.n,.string x.v.s,.slice xau x.l.length xcu,.slice xaf x.f.length xcf] 63)
   have RX:=Lib.hid hrX
   have hin:(k:Int) < (nl:Int):=Int.ofNat_lt.2 hlt
   have dk:decide (k < nl) = true:=decide_eq_true hlt
   have hrp:∀ z:Int,k ≠ 0 → z = lv + 1 → z = rp2:=fun z h1 h2=>by rw [← hrp2,if_neg h1,h2]
   have hrp0:k = 0 → rp = rp2:=fun h1=>by rw [← hrp2,if_pos h1,HRP.out,if_pos (.inl h1)]
   have hrp3:rp2 = (if k + 1 = 0 ∨ k + 1 = 1 then rep else lv + 1):=by
    rw [← hrp2]
    by_cases h:k = 0
    ·rw [if_pos h,if_pos (.inr (by omega))]
    ·rw [if_neg h,if_neg (by omega)]
   have HRP3:=Lib.hid hrp3
   have HW0:=Lib.hid hrp;have HW2:=Lib.hid hrp0
   clear hkl hx hxm hfw hat hcx hu ht hcl hlt hk hPb hup hrX hbx hrp hrp0 hrp3 hb0 HRP
   go_upto_region 7 with (refine wpList_load_cells rfl 63 _ rfl b0 (off + k * 6) rfl #[.bool x.no,.int .i64 x.v.k,.int .i64 x.v.n,.string x.v.s,.slice xau x.l.length xcu,.slice xaf x.f.length xcf] _ HCX.out Tryd.underlying63 rfl dt_info ?_)
   generalize (wr.alloc (.cells #[.bool x.no,.int .i64 x.v.k,.int .i64 x.v.n,.string x.v.s,.slice xau x.l.length xcu,.slice xaf x.f.length xcf] 63)) = w3 at *
   generalize wr.heap.size = gx at *
   have cAr:=rowc RAr.out;have cX:=rowc RX.out
   have hl2:lv + 1 ≤ 1000000000001:=by omega
   have hl3:df + 1 ≤ 1000000000001:=by omega
   by_cases hz:k = 0
   case' pos =>
    have dz:decide (0 < k) = false:=decide_eq_false (by omega)
    have hrq:=HW2.out hz
    clear hz HW0 HW2
    subst hrq
    go_upto_region 9 with fail
   case' neg =>
    have dz:decide (0 < k) = true:=decide_eq_true (by omega)
    have hrq:=Lib.hid (HW0.out (lv + 1) hz rfl)
    clear hz HW0 HW2
    go_upto_region 9 with fail
    rw [hrq.out]
    clear hrq
   all_goals
    go_wp2_with fail
    refine HCL.out.mono ?_;rintro e w4 ⟨rfl,hw4,hf4⟩
    have HW4:=Lib.hid hw4;have HF4:=Lib.hid (HFX.out.trans hf4)
    clear hw4 hf4 HCL HCX cAr cX RX RAr
    go_wp2_with fail
    go_roundw
    case rel =>
     refine ⟨k + 1,m,_,Hlt.out,by go_num,rfl,rfl,fun _=>rfl,HRP3.out,?_,HF4.out⟩
     have h:=HW4.out
     rw [addE_app] at h
     rw [show shEL nd (d.l.take (k + 1)) leaf rep df lv = fun j=>shEL nd (d.l.take k) leaf rep df lv j ++ shE nd x leaf _ (df + 1) (lv + 1) true j from funext fun j=>(HUP.out j).1]
     exact h
    case measure=>have:=Hlt.out;simp [intOf];omega
 case' inl =>
  subst h
  have hlon:lonely nd true d:=.inl rfl
  have hEl:∀ j,E j = if nd.kind ≠ 0 then noneE 1 leaf ⟨rep,df,d.v⟩ j else shEF nd.sub d.f leaf rep df lv j:=fun j=>by rw [HEQ.out j];simp
  have hd2:df + wgtL d.f ≤ 1000000000000:=by omega
  have HEL:=Lib.hid hEl
  clear hEl HEQ HNONE
  go_upto_region 17 with fail
  generalize df = df2 at *
 case' inr.inl =>
  obtain ⟨rfl,hr⟩:=h
  have hlon:lonely nd false d:=.inr (.inl hr)
  have d1:((nd.rep:Int) == 1) = true:=by rw [hr];rfl
  have hEl:∀ j,E j = if nd.kind ≠ 0 then noneE 1 leaf ⟨rep,df,d.v⟩ j else shEF nd.sub d.f leaf rep df lv j:=fun j=>by rw [HEQ.out j];simp [hr]
  have hd2:df + wgtL d.f ≤ 1000000000000:=by omega
  have HEL:=Lib.hid hEl
  clear hEl HEQ HNONE hr
  go_upto_region 17 with fail
  generalize df = df2 at *
 case' inr.inr.inl =>
  obtain ⟨rfl,hr,rfl⟩:=h
  have hlon:lonely nd false d:=.inr (.inr ⟨hr,HNO.out⟩)
  have d1:((nd.rep:Int) == 1) = false:=by rw [hr];rfl
  have d2:((nd.rep:Int) == 2) = true:=by rw [hr];rfl
  have hEl:∀ j,E j = if nd.kind ≠ 0 then noneE 1 leaf ⟨rep,df + 1,d.v⟩ j else shEF nd.sub d.f leaf rep (df + 1) lv j:=fun j=>by rw [HEQ.out j];simp [hr]
  have hd2:df + 1 + wgtL d.f ≤ 1000000000000:=by omega
  have hd3:0 ≤ df + 1:=by omega
  have HEL:=Lib.hid hEl
  clear hEl HEQ HNONE hr
  go_upto_region 17 with fail
  clear hd0
  have hd0:=hd3
  clear hd3
  generalize df + 1 = df2 at *
 all_goals
  have HLON:=Lib.hid hlon
  clear hlon
  by_cases hk0:nd.kind = 0
  case neg =>
   have dk:((nd.kind:Int) != 0) = true:=by simpa using hk0
   obtain rfl:m = 1:=by rw [← HM.out,lvs_eq,if_neg hk0]
   have hEn:E = noneE 1 leaf ⟨rep,df2,d.v⟩:=by
    funext j
    rw [HEL.out j,if_pos hk0]
   have HCL:=Lib.hid (putE_any (r:=rep) (d:=df2) w1 C leaf d.v HW1.out (by have:=HLF.out;omega) (by rw [hEn] at HC;exact noneE_lenC HC.out leaf (by have:=HLF.out;omega) (Nat.le_refl _) (by omega)))
   have HEn:=Lib.hid hEn
   unfold valA at HCL
   clear hEn hk0 HEL
   go_wp2_with fail
   refine HCL.out.mono ?_;rintro e w4 ⟨rfl,hw4,hf4⟩
   have HW4:=Lib.hid hw4;have HF4:=Lib.hid (HF.out.trans hf4)
   clear hw4 hf4 HCL cA cB cA2 cB0
   go_wp2_with fail
   go_ret
   exact ⟨rfl,by rw [HEn.out,← putC_one];exact HW4.out,HF4.out⟩
  have dk:((nd.kind:Int) != 0) = false:=by simpa using hk0
  have hEn:E = shEF nd.sub d.f leaf rep df2 lv:=by
   funext j
   rw [HEL.out j,if_neg (fun h=>h hk0)]
  have hgr:=HE.out
  rw [datE_group HLON.out hk0] at hgr
  have hdF:nf = ns ∧ datEF nd.sub d.f = 0:=by
   split at hgr
   ·split at hgr
    ·refine ⟨?_,hgr⟩;rw [← HNF.out,← HNS.out];assumption
    ·omega
   ·omega
  obtain ⟨rfl,hz⟩:=hdF
  have HZ:=Lib.hid (datEF_zero _ _ hz)
  have hml:m = lvsL nd.sub:=by rw [← HM.out,lvs_eq,if_pos hk0]
  have HML:=Lib.hid hml
  have HEn:=Lib.hid hEn
  clear hk0 hEn hgr hz hml HEL
  go_wp2_with fail
  clear cA cB cA2 cB0
  go_loopw [20,91] (fun s20 i wr=>∃ k:Nat,k ≤ nf ∧ i = .int .i64 (k:Nat) ∧ s20 = .int .i64 (lvsL (nd.sub.take k):Nat) ∧ Hid (Wr B0 B W g cap n mv mx ids wr (addE mx C (shEF (nd.sub.take k) (d.f.take k) leaf rep df2 lv))) ∧ Hid (Fr B0 B g w1 wr)) (fun _ i _=>nf - (intOf i).toNat)
  case atStart=>exact ⟨0,Nat.zero_le _,rfl,rfl,by simp only [List.take_zero];rw [show shEF [] [] leaf rep df2 lv = fun _=>[] from by funext j;rfl,addE_nil];exact HW1.out,Fr.refl _ _ _ _⟩
  case round =>
   obtain ⟨k,hk,rfl,rfl,HR,HFr⟩:=hrel
   by_cases hlt:k < nf
   case neg =>
    obtain rfl:k = nf:=Nat.le_antisymm hk (Nat.le_of_not_lt hlt)
    have hT:d.f.take k = d.f:=List.take_of_length_le (Nat.le_of_eq HNF.out)
    have hT2:nd.sub.take k = nd.sub:=List.take_of_length_le (Nat.le_of_eq HNS.out)
    rw [hT,hT2] at HR
    rw [hT2,← HML.out]
    have dk:decide (k < k) = false:=by simp
    clear hlt hk hT hT2
    go_wp2_with fail
    go_ret
    exact ⟨rfl,by rw [HEn.out];exact HR.out,HF.out.trans HFr.out⟩
   have hks:k < nd.sub.length:=by rw [HNS.out];exact hlt
   have hkl:k < d.f.length:=by rw [HNF.out];exact hlt
   obtain ⟨x,hx⟩:∃ x,d.f[k]? = some x:=⟨_,List.getElem?_eq_getElem hkl⟩
   obtain ⟨s,hs⟩:∃ s,nd.sub[k]? = some s:=⟨_,List.getElem?_eq_getElem hks⟩
   have hxm:x ∈ d.f:=List.mem_of_getElem? hx
   have hsm:s ∈ nd.sub:=List.mem_of_getElem? hs
   have hfw:=HF.out.trans HFr.out
   obtain ⟨b0,off,h17,hPb,hb0,hat⟩:=(HLf.out.under hfw.below).at (by rw [HNF.out];omega)
   subst h17
   obtain ⟨xu,xt,hcx,hu,ht⟩:=hat k x hx
   obtain ⟨xau,xcu,rfl⟩:=hu.form
   obtain ⟨xaf,xcf,rfl⟩:=ht.form
   obtain ⟨b1,off1,h18,hPb1,hb1,hat1⟩:=(HN.out.under hfw.below).at (by rw [HNS.out];omega)
   subst h18
   obtain ⟨us,hcs,hns⟩:=hat1 k s hs
   obtain ⟨sa,sc,rfl⟩:=hns.form
   have hwx:=wgtL_mem hxm
   have hup:=fun j=>shEF_up hs hx (HNS.out.trans HNF.out.symm) leaf rep df2 lv j
   have hsv:lvsL (nd.sub.take (k + 1)) = lvsL (nd.sub.take k) + lvs s:=by
    rw [show nd.sub.take (k + 1) = nd.sub.take k ++ [s] from by rw [List.take_add_one,hs];rfl,lvsL_app];simp [lvsL]
   have hle:lvsL (nd.sub.take k) + lvs s ≤ m:=by
    have h1:=lvsL_app (nd.sub.take (k + 1)) (nd.sub.drop (k + 1));rw [List.take_append_drop,hsv,← HML.out] at h1;omega
   obtain ⟨kv,hkv⟩:∃ kv,lvsL (nd.sub.take k) = kv:=⟨_,rfl⟩
   rw [hkv] at hsv hle hup ⊢
   have hsz:=HR.out.hB
   have hbx:=(Below.refl wr.heap.size wr).alloc (Nat.le_refl _) (.cells #[.int .i64 s.id,.string s.name,.int .i64 s.rep,.int .i64 s.kind,.slice sa s.sub.length sc] 47)
   have hbd:=hbx.drew
   have hcl:=fun (w2:World) (h2:Below wr.heap.size wr w2)=>HIF.out x hxm s (.slice sa s.sub.length sc) (.slice xau x.l.length xcu) (.slice xaf x.f.length xcf) _ (leaf + kv) rep df2 lv false w2 (HR.out.keep h2) (hns.under (h2.mono (Nat.le_trans HW.out.h0 hsz))) (hu.under (h2.mono (Nat.le_trans HW.out.h0 hsz))) (ht.under (h2.mono (Nat.le_trans HW.out.h0 hsz))) (fun z hz=>HOs.out z (nodesL_mem hsm hz)) (fun z hz=>HDf.out z (dtsL_mem hxm hz)) (fun z hz=>HSs.out z (nodesL_mem hsm hz)) (HZ.out k s x hs hx) (by have:=HLF.out;omega) (by omega) (by omega) (by omega) (by omega) (by
    intro j hj
    rw [addE_rep]
    have h1:=(hup j).2
    have h2:=HC.out j hj
    rw [HEn.out] at h2
    omega)
   have hca:((leaf + kv:Nat):Int) = (leaf:Int) + (kv:Int):=by omega
   rw [hca] at hcl
   unfold DtAt dtA at hcx
   unfold NdAt ndA at hcs
   unfold dtA ndA at hcl
   have HCX:=Lib.hid hcx;have HCS:=Lib.hid hcs;have HCL:=Lib.hid hcl;have HUP:=Lib.hid hup;have HSV:=Lib.hid hsv;have HKV:=Lib.hid hkv
   have Hlt:=Lib.hid hlt
   have hbb:Below wr.heap.size wr (wr.alloc (.cells #[.int .i64 s.id,.string s.name,.int .i64 s.rep,.int .i64 s.kind,.slice sa s.sub.length sc] 47)):=hbx
   have hrX:=heap_alloc_new wr (.cells #[.int .i64 s.id,.string s.name,.int .i64 s.rep,.int .i64 s.kind,.slice sa s.sub.length sc] 47)
   have hin:(k:Int) < (nf:Int):=Int.ofNat_lt.2 hlt
   have dk:decide (k < nf) = true:=decide_eq_true hlt
   have hbig:leaf + kv + lvs s ≤ 1000000:=by omega
   have hlo0:b0 < B:=Nat.lt_of_lt_of_le hPb HW.out.h0
   have hb0g:b0 ≠ g:=fun e=>by have:=HW.out.h0g;have:=hPb;omega
   have HBR:=Lib.hid hbb
   clear hks hkl hx hs hxm hsm hfw hat hat1 hcx hcs hu ht hns hcl hlt hk hPb hPb1 hup hbx hbd hb1 hca hsv hle hkv hbb
   go_upto_region 24 with (refine wpList_load_cells rfl 47 _ rfl b1 (off1 + k * 5) rfl #[.int .i64 s.id,.string s.name,.int .i64 s.rep,.int .i64 s.kind,.slice sa s.sub.length sc] _ HCS.out Tryd.underlying47 rfl nd_info ?_)
   have RBr:=Lib.hid (row_keep HBR.out (HFr.out.datum RB.out hgb));have RX:=Lib.hid hrX
   have hcxd:∀ j v,(#[.bool x.no,.int .i64 x.v.k,.int .i64 x.v.n,.string x.v.s,.slice xau x.l.length xcu,.slice xaf x.f.length xcf]:Array Value)[j]? = some v → (wr.alloc (.cells #[.int .i64 s.id,.string s.name,.int .i64 s.rep,.int .i64 s.kind,.slice sa s.sub.length sc] 47)).cell? ⟨b0,off + k * 6 + j,none⟩ = some v:=fun j v hj=>(HBR.out.cell (p:=⟨b0,off + k * 6 + j,none⟩) hb0).trans (HCX.out j v hj)
   have HCXD:=Lib.hid hcxd
   have hgx:wr.heap.size ≠ g:=by omega
   have HF3:=Lib.hid (HFr.out.trans (Fr.of_below (g:=g) HBR.out H0.out hsz))
   have hwz:wr.heap.size ≤ (wr.alloc (.cells #[.int .i64 s.id,.string s.name,.int .i64 s.rep,.int .i64 s.kind,.slice sa s.sub.length sc] 47)).heap.size:=HBR.out.size
   clear hrX hcxd HCX HCS
   generalize (wr.alloc (.cells #[.int .i64 s.id,.string s.name,.int .i64 s.rep,.int .i64 s.kind,.slice sa s.sub.length sc] 47)) = w3 at *
   generalize hgxe:wr.heap.size = gx at *
   have hs1:=i64sum (a:=leaf) (b:=kv) (by omega)
   have hs2:=i64sum (a:=kv) (b:=lvs s) (by omega)
   refine AnyE.region (S:=fun w'=>(∀ j_1,w'.cell? ⟨gx,j_1,none⟩ = (#[.int .i64 s.id,.string s.name,.int .i64 s.rep,.int .i64 s.kind,.slice sa s.sub.length sc]:Array Value)[j_1]?) ∧ w'.cell? ⟨ga + 1,5,none⟩ = some (.slice (some ⟨b0,off,none⟩) nf cf) ∧ (∀ j v,(#[.bool x.no,.int .i64 x.v.k,.int .i64 x.v.n,.string x.v.s,.slice xau x.l.length xcu,.slice xaf x.f.length xcf]:Array Value)[j]? = some v → w'.cell? ⟨b0,off + k * 6 + j,none⟩ = some v)) (E:=[]) (by kernel_rfl) ?_
   have hbd:=(Below.refl w3.heap.size w3).drew
   have HB9:=Lib.hid (HBR.out.trans (hbd.mono (hgxe ▸ hwz)))
   replace HF3:=Lib.hid (HF3.out.trans (Fr.of_below (g:=g) hbd H0.out (Nat.le_trans hsz hwz)))
   replace RBr:=Lib.hid (row_keep hbd RBr.out);replace RX:=Lib.hid (row_keep hbd RX.out)
   have HCY:=Lib.hid (show ∀ j v,(#[.bool x.no,.int .i64 x.v.k,.int .i64 x.v.n,.string x.v.s,.slice xau x.l.length xcu,.slice xaf x.f.length xcf]:Array Value)[j]? = some v → w3.drew.cell? ⟨b0,off + k * 6 + j,none⟩ = some v from fun j v hj=>HCXD.out j v hj)
   clear hbd HCXD
   generalize w3.drew = wd at *
   have hS:=(⟨rowc RX.out,rowc RBr.out 5,HCY.out⟩:(fun w'=>(∀ j_1,w'.cell? ⟨gx,j_1,none⟩ = (#[.int .i64 s.id,.string s.name,.int .i64 s.rep,.int .i64 s.kind,.slice sa s.sub.length sc]:Array Value)[j_1]?) ∧ w'.cell? ⟨ga + 1,5,none⟩ = some (.slice (some ⟨b0,off,none⟩) nf cf) ∧ (∀ j v,(#[.bool x.no,.int .i64 x.v.k,.int .i64 x.v.n,.string x.v.s,.slice xau x.l.length xcu,.slice xaf x.f.length xcf]:Array Value)[j]? = some v → w'.cell? ⟨b0,off + k * 6 + j,none⟩ = some v)) wd)
   refine AnyE.take (i:=0) (v:=?_) rfl (by kernel_rfl) (by kernel_rfl) (by kernel_rfl) (by kernel_rfl) (by kernel_rfl) (fun _ _ _ h=>h) (Or.inl ⟨by rfl,?_⟩) hS ?_
   rotate_left
   focus (intro wq hSq;obtain ⟨hS1,hS2,hS3⟩:=hSq;go_simp;with_reducible rfl)
   try simp only [Act.put,List.getElem_toArray,List.getElem_cons_succ,List.getElem_cons_zero,List.setIfInBounds_toArray,List.set_cons_zero,List.set_cons_succ]
   refine AnyE.take (i:=1) (v:=?_) rfl (by kernel_rfl) (by kernel_rfl) (by kernel_rfl) (by kernel_rfl) (by kernel_rfl) (fun _ _ _ h=>h) (Or.inl ⟨by rfl,?_⟩) hS ?_
   rotate_left
   focus (intro wq hSq;obtain ⟨hS1,hS2,hS3⟩:=hSq;go_simp;with_reducible rfl)
   try simp only [Act.put,List.getElem_toArray,List.getElem_cons_succ,List.getElem_cons_zero,List.setIfInBounds_toArray,List.set_cons_zero,List.set_cons_succ]
   refine AnyE.take (i:=2) (v:=.agg #[.int .i64 s.id,.string s.name,.int .i64 s.rep,.int .i64 s.kind,.slice sa s.sub.length sc]) rfl (by kernel_rfl) (by kernel_rfl) (by kernel_rfl) (by kernel_rfl) (by kernel_rfl) (fun _ _ _ h=>h) (yields_load 47 _ rfl rfl gx (0) rfl #[.int .i64 s.id,.string s.name,.int .i64 s.rep,.int .i64 s.kind,.slice sa s.sub.length sc] _ (fun w h=>fun j v hj=>by rw [Nat.zero_add];exact (h.1 j).trans hj) Tryd.underlying47 rfl (by kernel_rfl)) hS ?_
   try simp only [Act.put,List.getElem_toArray,List.getElem_cons_succ,List.getElem_cons_zero,List.setIfInBounds_toArray,List.set_cons_zero,List.set_cons_succ]
   refine AnyE.take (i:=3) (v:=?_) rfl (by kernel_rfl) (by kernel_rfl) (by kernel_rfl) (by kernel_rfl) (by kernel_rfl) (fun _ _ _ h=>h) (Or.inl ⟨by rfl,?_⟩) hS ?_
   rotate_left
   focus (intro wq hSq;obtain ⟨hS1,hS2,hS3⟩:=hSq;go_simp;with_reducible rfl)
   try simp only [Act.put,List.getElem_toArray,List.getElem_cons_succ,List.getElem_cons_zero,List.setIfInBounds_toArray,List.set_cons_zero,List.set_cons_succ]
   refine AnyE.take (i:=4) (v:=?_) rfl (by kernel_rfl) (by kernel_rfl) (by kernel_rfl) (by kernel_rfl) (by kernel_rfl) (fun _ _ _ h=>h) (Or.inl ⟨by rfl,?_⟩) hS ?_
   rotate_left
   focus (intro wq hSq;obtain ⟨hS1,hS2,hS3⟩:=hSq;go_simp;with_reducible rfl)
   try simp only [Act.put,List.getElem_toArray,List.getElem_cons_succ,List.getElem_cons_zero,List.setIfInBounds_toArray,List.set_cons_zero,List.set_cons_succ]
   refine AnyE.take (i:=5) (v:=?_) rfl (by kernel_rfl) (by kernel_rfl) (by kernel_rfl) (by kernel_rfl) (by kernel_rfl) (fun _ _ _ h=>h) (Or.inl ⟨by rfl,?_⟩) hS ?_
   rotate_left
   focus (intro wq hSq;obtain ⟨hS1,hS2,hS3⟩:=hSq;go_simp;with_reducible rfl)
   try simp only [Act.put,List.getElem_toArray,List.getElem_cons_succ,List.getElem_cons_zero,List.setIfInBounds_toArray,List.set_cons_zero,List.set_cons_succ]
   refine AnyE.take (i:=6) (v:=?_) rfl (by kernel_rfl) (by kernel_rfl) (by kernel_rfl) (by kernel_rfl) (by kernel_rfl) (fun _ _ _ h=>h) (Or.inl ⟨by rfl,?_⟩) hS ?_
   rotate_left
   focus (intro wq hSq;obtain ⟨hS1,hS2,hS3⟩:=hSq;go_simp;with_reducible rfl)
   try simp only [Act.put,List.getElem_toArray,List.getElem_cons_succ,List.getElem_cons_zero,List.setIfInBounds_toArray,List.set_cons_zero,List.set_cons_succ]
   refine AnyE.take (i:=7) (v:=.agg #[.bool x.no,.int .i64 x.v.k,.int .i64 x.v.n,.string x.v.s,.slice xau x.l.length xcu,.slice xaf x.f.length xcf]) rfl (by kernel_rfl) (by kernel_rfl) (by kernel_rfl) (by kernel_rfl) (by kernel_rfl) (fun _ _ _ h=>h) (yields_load 63 _ rfl rfl b0 (off + k * 6) rfl #[.bool x.no,.int .i64 x.v.k,.int .i64 x.v.n,.string x.v.s,.slice xau x.l.length xcu,.slice xaf x.f.length xcf] _ (fun w h=>h.2.2) Tryd.underlying63 rfl (by kernel_rfl)) hS ?_
   try simp only [Act.put,List.getElem_toArray,List.getElem_cons_succ,List.getElem_cons_zero,List.setIfInBounds_toArray,List.set_cons_zero,List.set_cons_succ]
   refine AnyE.take (i:=8) (v:=?_) rfl (by kernel_rfl) (by kernel_rfl) (by kernel_rfl) (by kernel_rfl) (by kernel_rfl) (fun _ _ _ h=>h) (Or.inl ⟨by rfl,?_⟩) hS ?_
   rotate_left
   focus (intro wq hSq;obtain ⟨hS1,hS2,hS3⟩:=hSq;go_simp;with_reducible rfl)
   try simp only [Act.put,List.getElem_toArray,List.getElem_cons_succ,List.getElem_cons_zero,List.setIfInBounds_toArray,List.set_cons_zero,List.set_cons_succ]
   refine AnyE.take (i:=9) (v:=?_) rfl (by kernel_rfl) (by kernel_rfl) (by kernel_rfl) (by kernel_rfl) (by kernel_rfl) (fun _ _ _ h=>h) (Or.inl ⟨by rfl,?_⟩) hS ?_
   rotate_left
   focus (intro wq hSq;obtain ⟨hS1,hS2,hS3⟩:=hSq;go_simp;with_reducible rfl)
   try simp only [Act.put,List.getElem_toArray,List.getElem_cons_succ,List.getElem_cons_zero,List.setIfInBounds_toArray,List.set_cons_zero,List.set_cons_succ]
   refine AnyE.take (i:=10) (v:=?_) rfl (by kernel_rfl) (by kernel_rfl) (by kernel_rfl) (by kernel_rfl) (by kernel_rfl) (fun _ _ _ h=>h) (Or.inl ⟨by rfl,?_⟩) hS ?_
   rotate_left
   focus (intro wq hSq;obtain ⟨hS1,hS2,hS3⟩:=hSq;go_simp;with_reducible rfl)
   try simp only [Act.put,List.getElem_toArray,List.getElem_cons_succ,List.getElem_cons_zero,List.setIfInBounds_toArray,List.set_cons_zero,List.set_cons_succ]
   refine AnyE.take (i:=11) (v:=?_) rfl (by kernel_rfl) (by kernel_rfl) (by kernel_rfl) (by kernel_rfl) (by kernel_rfl) (fun _ _ _ h=>h) (Or.inl ⟨by rfl,?_⟩) hS ?_
   rotate_left
   focus (intro wq hSq;obtain ⟨hS1,hS2,hS3⟩:=hSq;go_simp;with_reducible rfl)
   try simp only [Act.put,List.getElem_toArray,List.getElem_cons_succ,List.getElem_cons_zero,List.setIfInBounds_toArray,List.set_cons_zero,List.set_cons_succ]
   refine AnyE.take (i:=12) (v:=?_) rfl (by kernel_rfl) (by kernel_rfl) (by kernel_rfl) (by kernel_rfl) (by kernel_rfl) (fun _ _ _ h=>h) (Or.inl ⟨by rfl,?_⟩) hS ?_
   rotate_left
   focus (intro wq hSq;obtain ⟨hS1,hS2,hS3⟩:=hSq;go_simp;with_reducible rfl)
   try simp only [Act.put,List.getElem_toArray,List.getElem_cons_succ,List.getElem_cons_zero,List.setIfInBounds_toArray,List.set_cons_zero,List.set_cons_succ]
   refine AnyE.take (i:=13) (v:=?_) rfl (by kernel_rfl) (by kernel_rfl) (by kernel_rfl) (by kernel_rfl) (by kernel_rfl) (fun _ _ _ h=>h) (Or.inl ⟨by rfl,?_⟩) hS ?_
   rotate_left
   focus (intro wq hSq;obtain ⟨hS1,hS2,hS3⟩:=hSq;go_simp;with_reducible rfl)
   try simp only [Act.put,List.getElem_toArray,List.getElem_cons_succ,List.getElem_cons_zero,List.setIfInBounds_toArray,List.set_cons_zero,List.set_cons_succ]
   refine AnyE.one (i:=14) (by kernel_rfl) rfl rfl ?_
   intro K hK
   simp only [List.getElem_toArray,List.getElem_cons_succ,List.getElem_cons_zero]
   go_simp
   refine (HCL.out wd HB9.out).mono ?_;rintro e w4 ⟨rfl,hw4,hf4⟩
   have HW4:=Lib.hid hw4;have HF4:=Lib.hid (HF3.out.trans hf4)
   have hcy4:∀ j v,(#[.bool x.no,.int .i64 x.v.k,.int .i64 x.v.n,.string x.v.s,.slice xau x.l.length xcu,.slice xaf x.f.length xcf]:Array Value)[j]? = some v → w4.cell? ⟨b0,off + k * 6 + j,none⟩ = some v:=fun j v hj=>(World.cell?_of_block (w:=wd) (w':=w4) (a:=⟨b0,off + k * 6 + j,none⟩) (hf4.lo b0 hlo0 (hb0g))).trans (HCY.out j v hj)
   have hS9:=(⟨rowc (hf4.node RX.out hgx),rowc (hf4.datum RBr.out hgb) 5,hcy4⟩:(fun w'=>(∀ j_1,w'.cell? ⟨gx,j_1,none⟩ = (#[.int .i64 s.id,.string s.name,.int .i64 s.rep,.int .i64 s.kind,.slice sa s.sub.length sc]:Array Value)[j_1]?) ∧ w'.cell? ⟨ga + 1,5,none⟩ = some (.slice (some ⟨b0,off,none⟩) nf cf) ∧ (∀ j v,(#[.bool x.no,.int .i64 x.v.k,.int .i64 x.v.n,.string x.v.s,.slice xau x.l.length xcu,.slice xaf x.f.length xcf]:Array Value)[j]? = some v → w'.cell? ⟨b0,off + k * 6 + j,none⟩ = some v)) w4)
   refine hK _ _ (fun _=>hS9) ?_
   clear hK K hS
   have hS:=hS9
   clear hS9
   clear hw4 hf4 hcy4 HCL
   try simp only [Act.put,List.getElem_toArray,List.getElem_cons_succ,List.getElem_cons_zero,List.setIfInBounds_toArray,List.set_cons_zero,List.set_cons_succ]
   refine AnyE.take (i:=15) (v:=?_) rfl (by kernel_rfl) (by kernel_rfl) (by kernel_rfl) (by kernel_rfl) (by kernel_rfl) (fun _ _ _ h=>h) (Or.inl ⟨by rfl,?_⟩) hS ?_
   rotate_left
   focus (intro wq hSq;obtain ⟨hS1,hS2,hS3⟩:=hSq;go_simp;with_reducible rfl)
   try simp only [Act.put,List.getElem_toArray,List.getElem_cons_succ,List.getElem_cons_zero,List.setIfInBounds_toArray,List.set_cons_zero,List.set_cons_succ]
   refine AnyE.take (i:=16) (v:=?_) rfl (by kernel_rfl) (by kernel_rfl) (by kernel_rfl) (by kernel_rfl) (by kernel_rfl) (fun _ _ _ h=>h) (Or.inl ⟨by rfl,?_⟩) hS ?_
   rotate_left
   focus (intro wq hSq;obtain ⟨hS1,hS2,hS3⟩:=hSq;go_simp;with_reducible rfl)
   try simp only [Act.put,List.getElem_toArray,List.getElem_cons_succ,List.getElem_cons_zero,List.setIfInBounds_toArray,List.set_cons_zero,List.set_cons_succ]
   refine AnyE.done (by kernel_rfl) ?_ _
   clear hS
   go_wp2_with fail
   go_roundw
   case rel =>
    refine ⟨k + 1,Hlt.out,by go_num,by rw [HSV.out];go_num,?_,HF4.out⟩
    have h:=HW4.out
    rw [addE_app] at h
    rw [show shEF (nd.sub.take (k + 1)) (d.f.take (k + 1)) leaf rep df2 lv = fun j=>shEF (nd.sub.take k) (d.f.take k) leaf rep df2 lv j ++ shE s x (leaf + kv) rep df2 lv false j from funext fun j=>(HUP.out j).1]
    exact h
   case measure=>have:=Hlt.out;simp [intOf];omega
end Go.Proofs.YtkmhmnffbgedgaaDoor
