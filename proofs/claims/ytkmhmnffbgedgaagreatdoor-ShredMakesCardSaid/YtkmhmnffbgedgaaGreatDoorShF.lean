/- The walks of the laws' recordsError and of the document's SameColumns at columns that are the same. Written by gen_shf.py. -/
import Derived.Test.YtkmhmnffbgedgaaGreatDoorDc2
import Derived.Test.YtkmhmnffbgedgaaGreatDoorTv3
import Derived.Test.YtkmhmnffbgedgaaGreatDoorSColN
import Derived.Test.YtkmhmnffbgedgaaGreatDoorMBits
namespace Go.Proofs.YtkmhmnffbgedgaaGreatDoor
set_option maxHeartbeats 16000000
set_option linter.unusedVariables false
set_option linter.unusedSimpArgs false
open Go Go.RowKit Go.ChangeShapes
set_option maxRecDepth 100000 in
theorem recordsErr_any (n:Nd) (l:List Dt) (u v:Value) (w:World) (hN:IsNds (· < w.heap.size) w u n.sub) (hO:∀ x ∈ nodes n,x.Ok1) (hL:IsDts (· < w.heap.size) w v l) (hD:∀ y ∈ dtsL l,y.Ok1) (hln:l.length ≤ 150) :
    Calls Tryz.prog 7 #[.agg (ndA n u),v] w fun e w'=>e = .returned (faultV (shredErr n l).code (shredErr n l).at') ∧ Below w.heap.size w w':=by
  have HV:=Lib.hid (fun (w1:World) (h:Below w.heap.size w w1)=>schema_any n u w1 ((hN.under h).mono fun b hb _=>Nat.lt_of_lt_of_le hb h.size) hO)
  have HN:=Lib.hid hN;have HO:=Lib.hid hO;have HL:=Lib.hid hL;have HD:=Lib.hid hD
  obtain ⟨au,cu,rfl⟩:=hN.form
  obtain ⟨al,cl,rfl⟩:=hL.form
  obtain ⟨G,hG⟩:∃ G,shredErr n l = G:=⟨_,rfl⟩
  rw [hG]
  have HG:=Lib.hid hG
  obtain ⟨ns,hns⟩:∃ ns,n.sub.length = ns:=⟨_,rfl⟩
  obtain ⟨nl,hnl⟩:∃ nl,l.length = nl:=⟨_,rfl⟩
  rw [hns] at HV HN ⊢;rw [hnl] at HL hln ⊢
  have HNL:=Lib.hid hnl
  obtain ⟨V,hV⟩:∃ V,validE n = V:=⟨_,rfl⟩
  rw [hV] at HV
  have HVV:=Lib.hid hV
  clear hN hO hL hD hG hns hnl hV
  have hb0:=rows2 (w:=w) (A:=.cells #[.int .i64 n.id,.string n.name,.int .i64 n.rep,.int .i64 n.kind,.slice au ns cu] 24) (B:=.cells #[.int .i64 0,.int .i64 0] 30) (Below.refl _ _)
  unfold ndA at *
  go_enter Tryz.func7,Tryz.ntmps7
  go_upto_region 1 with fail
  generalize ((w.alloc (.cells #[.int .i64 n.id,.string n.name,.int .i64 n.rep,.int .i64 n.kind,.slice au ns cu] 24)).alloc (.cells #[.int .i64 0,.int .i64 0] 30)) = w1 at *
  obtain ⟨rA,rB,hbw,-⟩:=hb0
  have HW:=Lib.hid hbw;have RA:=Lib.hid rA;have RF:=Lib.hid rB
  clear rA rB hbw
  have cA:=rowc RA.out
  go_wp2_with fail
  refine (HV.out w1 HW.out).mono ?_;rintro e w2 ⟨rfl,hb2⟩
  replace RA:=Lib.hid (row_keep hb2 RA.out);replace RF:=Lib.hid (row_keep hb2 RF.out);replace HW:=Lib.hid (HW.out.trans (hb2.mono HW.out.size))
  clear hb2 cA HV
  rcases Nat.eq_zero_or_pos V with hv | hv
  case inr =>
    have dv:decide (0 < V) = true:=decide_eq_true hv
    have hGV:G = .sent V:=by rw [← HG.out];unfold shredErr;rw [HVV.out,if_pos (by omega)]
    subst hGV
    clear hv HG
    go_wp2_with fail
    refine (bare_any _ w2).mono ?_;rintro e w3 ⟨rfl,hb3⟩
    replace RF:=Lib.hid (row_keep hb3 RF.out);replace HW:=Lib.hid (HW.out.trans (hb3.mono HW.out.size))
    clear hb3
    unfold faultV
    go_wp2_with (refine wpList_store_part rfl 30 _ _ rfl (w.heap.size + 1) 0 _ 30 #[.int .i64 _,.int .i64 (-1)] rfl rfl RF.out (by kernel_rfl) (by simp [Value.oneCell']) (Nat.le_of_ble_eq_true rfl) #[.int .i64 _,.int .i64 (-1)] rfl ?_;intro w5 rR5 hoth hbl hsz5;have RR5:=Lib.hid rR5;have hbw5:=Lib.hid (HW.out.trans (hbl.mono (by omega)));clear hoth hbl hsz5 rR5)
    exact bodyPost_ret (v:=.agg #[.int .i64 _,.int .i64 (-1)]) (results_cell_row Tryz.results7 _ _ (w.heap.size + 1) 30 _ (0,0) _ rfl RR5.out Tryz.underlying30 rfl (by kernel_rfl)) rfl ⟨rfl,hbw5.out⟩
  subst hv
  have dv:decide (0 < 0) = false:=rfl
  have HBD:=Lib.hid (valid_okRep HVV.out)
  by_cases h100:100 < nl
  · have d100:(100:Int) < (nl:Int):=by omega
    have hGV:G = .sent 2:=by rw [← HG.out];unfold shredErr;rw [if_neg (by rw [HVV.out];simp),if_pos (by rw [HNL.out];exact h100)]
    subst hGV
    clear h100 HG
    go_wp2_with fail
    refine (bare_any _ w2).mono ?_;rintro e w3 ⟨rfl,hb3⟩
    replace RF:=Lib.hid (row_keep hb3 RF.out);replace HW:=Lib.hid (HW.out.trans (hb3.mono HW.out.size))
    clear hb3
    unfold faultV
    go_wp2_with (refine wpList_store_part rfl 30 _ _ rfl (w.heap.size + 1) 0 _ 30 #[.int .i64 _,.int .i64 (-1)] rfl rfl RF.out (by kernel_rfl) (by simp [Value.oneCell']) (Nat.le_of_ble_eq_true rfl) #[.int .i64 _,.int .i64 (-1)] rfl ?_;intro w5 rR5 hoth hbl hsz5;have RR5:=Lib.hid rR5;have hbw5:=Lib.hid (HW.out.trans (hbl.mono (by omega)));clear hoth hbl hsz5 rR5)
    exact bodyPost_ret (v:=.agg #[.int .i64 _,.int .i64 (-1)]) (results_cell_row Tryz.results7 _ _ (w.heap.size + 1) 30 _ (0,0) _ rfl RR5.out Tryz.underlying30 rfl (by kernel_rfl)) rfl ⟨rfl,hbw5.out⟩
  have d100:¬ (100:Int) < (nl:Int):=by omega
  have hnl100:nl ≤ 100:=by omega
  clear h100
  go_wp2_with fail
  go_loopw [5,6] (fun s5 i wx=>∃ q:Nat,q ≤ nl ∧ i = .int .i64 (q:Nat) ∧ .int .i64 0 = s5 ∧ Hid (∀ (j:Nat) y,j < q → l[j]? = some y → datE n false y = 0) ∧ Hid (Below w2.heap.size w2 wx)) (fun _ i _=>nl - (intOf i).toNat)
  case atStart=>exact ⟨0,Nat.zero_le _,rfl,rfl,fun j y hj=>absurd hj (Nat.not_lt_zero _),Below.refl _ _⟩
  case round =>
    obtain ⟨q,hq,rfl,hs5,HZ,HBx⟩:=hrel
    subst hs5
    by_cases hlt:q < nl
    case neg =>
      obtain rfl:q = nl:=by omega
      have hall:∀ (j:Nat) y,l[j]? = some y → datE n false y = 0:=fun j y hy=>HZ.out j y (by rw [← HNL.out];exact (List.getElem?_eq_some_iff.1 hy).1) hy
      have hGN:G = .nil:=by
        rw [← HG.out]
        unfold shredErr
        rw [if_neg (by rw [HVV.out];simp),if_neg (by rw [HNL.out];omega),badDt_nil n l 0 hall]
      subst hGN
      have dk:decide (q < q) = false:=by simp
      have hq9:¬ ((q:Int) < (q:Int)):=by omega
      clear hlt hq hall HG
      go_wp2_with fail
      refine (fine_any wr).mono ?_;rintro e w3 ⟨rfl,hb3⟩
      replace RF:=Lib.hid (row_keep hb3 (row_keep HBx.out RF.out));replace HW:=Lib.hid ((HW.out.trans (HBx.out.mono HW.out.size)).trans (hb3.mono (HW.out.trans (HBx.out.mono HW.out.size)).size))
      clear hb3
      unfold faultV
      go_wp2_with (refine wpList_store_part rfl 30 _ _ rfl (w.heap.size + 1) 0 _ 30 #[.int .i64 0,.int .i64 (-1)] rfl rfl RF.out (by kernel_rfl) (by simp [Value.oneCell']) (Nat.le_of_ble_eq_true rfl) #[.int .i64 0,.int .i64 (-1)] rfl ?_;intro w5 rR5 hoth hbl hsz5;have RR5:=Lib.hid rR5;have hbw5:=Lib.hid (HW.out.trans (hbl.mono (by omega)));clear hoth hbl hsz5 rR5)
      exact bodyPost_ret (v:=.agg #[.int .i64 0,.int .i64 (-1)]) (results_cell_row Tryz.results7 _ _ (w.heap.size + 1) 30 _ (0,0) _ rfl RR5.out Tryz.underlying30 rfl (by kernel_rfl)) rfl ⟨rfl,hbw5.out⟩
    have hkl:q < l.length:=by rw [HNL.out];exact hlt
    obtain ⟨x,hx⟩:∃ x,l[q]? = some x:=⟨_,List.getElem?_eq_getElem hkl⟩
    have hxm:x ∈ l:=List.mem_of_getElem? hx
    have hbw:=HW.out.trans (HBx.out.mono HW.out.size)
    obtain ⟨b0,off,rfl,hPb,hb0,hat⟩:=(HL.out.under hbw).at (by rw [HNL.out];omega)
    obtain ⟨xu,xt,hcx,hu,ht⟩:=hat q x hx
    obtain ⟨xau,xcu,rfl⟩:=hu.form
    obtain ⟨xaf,xcf,rfl⟩:=ht.form
    have hcl:=fun (w9:World) (h9:Below wr.heap.size wr w9)=>datumErr_any x n (.slice au ns cu) (.slice xau x.l.length xcu) (.slice xaf x.f.length xcf) false w9 ((HN.out.under (hbw.trans (h9.mono hbw.size))).mono fun b hb _=>Nat.lt_of_lt_of_le hb (hbw.trans (h9.mono hbw.size)).size) HO.out HBD.out ((hu.under (h9.mono hbw.size)).mono fun b hb _=>Nat.lt_of_lt_of_le hb (hbw.trans (h9.mono hbw.size)).size) ((ht.under (h9.mono hbw.size)).mono fun b hb _=>Nat.lt_of_lt_of_le hb (hbw.trans (h9.mono hbw.size)).size) (fun z hz=>HD.out z (dtsL_mem hxm hz))
    unfold DtAt dtA at hcx
    unfold ErrRet dtA ndA at hcl
    obtain ⟨rx,hrx⟩:∃ rx,datE n false x = rx:=⟨_,rfl⟩
    rw [hrx] at hcl
    have HCX:=Lib.hid hcx;have HCL:=Lib.hid hcl;have HX:=Lib.hid hx;have Hlt:=Lib.hid hlt;have HRX:=Lib.hid hrx
    have RAr:=Lib.hid (row_keep HBx.out RA.out)
    have hin:(q:Int) < (nl:Int):=Int.ofNat_lt.2 hlt
    have dk:decide (q < nl) = true:=decide_eq_true hlt
    have HBI:=Lib.hid (show b0 < wr.heap.size from hb0)
    clear hkl hx hxm hbw hat hcx hu ht hcl hlt hPb hb0 hq hrx
    go_upto_region 9 with fail
    refine AnyE.region (S:=fun w'=>(∀ j_1,w'.cell? ⟨w.heap.size,j_1,none⟩ = (#[.int .i64 n.id,.string n.name,.int .i64 n.rep,.int .i64 n.kind,.slice au ns cu]:Array Value)[j_1]?) ∧ (∀ j v,(#[.bool x.no,.int .i64 x.v.k,.int .i64 x.v.n,.string x.v.s,.slice xau x.l.length xcu,.slice xaf x.f.length xcf]:Array Value)[j]? = some v → w'.cell? ⟨b0,off + q * 6 + j,none⟩ = some v)) (E:=[]) (by kernel_rfl) ?_
    have hbd:=(Below.refl wr.heap.size wr).drew
    have HBD9:=Lib.hid hbd
    have RAd:=Lib.hid (row_keep hbd RAr.out)
    have hcd:∀ j v,(#[.bool x.no,.int .i64 x.v.k,.int .i64 x.v.n,.string x.v.s,.slice xau x.l.length xcu,.slice xaf x.f.length xcf]:Array Value)[j]? = some v → wr.drew.cell? ⟨b0,off + q * 6 + j,none⟩ = some v:=HCX.out
    have HCD:=Lib.hid hcd
    clear hbd hcd
    have HWZ:=Lib.hid (show wr.heap.size ≤ wr.drew.heap.size from Nat.le_refl _)
    generalize wr.drew = wd at *
    have hS:=(⟨rowc RAd.out,HCD.out⟩:(fun w'=>(∀ j_1,w'.cell? ⟨w.heap.size,j_1,none⟩ = (#[.int .i64 n.id,.string n.name,.int .i64 n.rep,.int .i64 n.kind,.slice au ns cu]:Array Value)[j_1]?) ∧ (∀ j v,(#[.bool x.no,.int .i64 x.v.k,.int .i64 x.v.n,.string x.v.s,.slice xau x.l.length xcu,.slice xaf x.f.length xcf]:Array Value)[j]? = some v → w'.cell? ⟨b0,off + q * 6 + j,none⟩ = some v)) wd)
    refine AnyE.take (i:=0) (v:=.agg #[.int .i64 n.id,.string n.name,.int .i64 n.rep,.int .i64 n.kind,.slice au ns cu]) rfl (by kernel_rfl) (by kernel_rfl) (by kernel_rfl) (by kernel_rfl) (by kernel_rfl) (fun _ _ _ h=>h) (yields_load 24 _ rfl rfl w.heap.size (0) rfl #[.int .i64 n.id,.string n.name,.int .i64 n.rep,.int .i64 n.kind,.slice au ns cu] _ (fun w h=>fun j v hj=>by rw [Nat.zero_add];exact (h.1 j).trans hj) Tryz.underlying24 rfl (by kernel_rfl)) hS ?_
    try simp only [Act.put,List.getElem_toArray,List.getElem_cons_succ,List.getElem_cons_zero,List.setIfInBounds_toArray,List.set_cons_zero,List.set_cons_succ]
    refine AnyE.take (i:=1) (v:=?_) rfl (by kernel_rfl) (by kernel_rfl) (by kernel_rfl) (by kernel_rfl) (by kernel_rfl) (fun _ _ _ h=>h) (Or.inl ⟨by rfl,?_⟩) hS ?_
    rotate_left
    focus (intro wq hSq;obtain ⟨hS1,hS2⟩:=hSq;go_simp;with_reducible rfl)
    try simp only [Act.put,List.getElem_toArray,List.getElem_cons_succ,List.getElem_cons_zero,List.setIfInBounds_toArray,List.set_cons_zero,List.set_cons_succ]
    refine AnyE.take (i:=2) (v:=?_) rfl (by kernel_rfl) (by kernel_rfl) (by kernel_rfl) (by kernel_rfl) (by kernel_rfl) (fun _ _ _ h=>h) (Or.inl ⟨by rfl,?_⟩) hS ?_
    rotate_left
    focus (intro wq hSq;obtain ⟨hS1,hS2⟩:=hSq;go_simp;with_reducible rfl)
    try simp only [Act.put,List.getElem_toArray,List.getElem_cons_succ,List.getElem_cons_zero,List.setIfInBounds_toArray,List.set_cons_zero,List.set_cons_succ]
    refine AnyE.take (i:=3) (v:=?_) rfl (by kernel_rfl) (by kernel_rfl) (by kernel_rfl) (by kernel_rfl) (by kernel_rfl) (fun _ _ _ h=>h) (Or.inl ⟨by rfl,?_⟩) hS ?_
    rotate_left
    focus (intro wq hSq;obtain ⟨hS1,hS2⟩:=hSq;go_simp;with_reducible rfl)
    try simp only [Act.put,List.getElem_toArray,List.getElem_cons_succ,List.getElem_cons_zero,List.setIfInBounds_toArray,List.set_cons_zero,List.set_cons_succ]
    refine AnyE.take (i:=4) (v:=.agg #[.bool x.no,.int .i64 x.v.k,.int .i64 x.v.n,.string x.v.s,.slice xau x.l.length xcu,.slice xaf x.f.length xcf]) rfl (by kernel_rfl) (by kernel_rfl) (by kernel_rfl) (by kernel_rfl) (by kernel_rfl) (fun _ _ _ h=>h) (yields_load 46 _ rfl rfl b0 (off + q * 6) rfl #[.bool x.no,.int .i64 x.v.k,.int .i64 x.v.n,.string x.v.s,.slice xau x.l.length xcu,.slice xaf x.f.length xcf] _ (fun w h=>h.2) Tryz.underlying46 rfl (by kernel_rfl)) hS ?_
    try simp only [Act.put,List.getElem_toArray,List.getElem_cons_succ,List.getElem_cons_zero,List.setIfInBounds_toArray,List.set_cons_zero,List.set_cons_succ]
    refine AnyE.one (i:=5) (by kernel_rfl) rfl rfl ?_
    intro K hK
    simp only [List.getElem_toArray,List.getElem_cons_succ,List.getElem_cons_zero]
    go_simp
    refine (HCL.out wd HBD9.out).mono ?_;rintro e w4 ⟨rfl,hb4⟩
    have HB4:=Lib.hid (HBx.out.trans ((HBD9.out.trans (hb4.mono HWZ.out)).mono HBx.out.size))
    have RA4:=row_keep hb4 RAd.out
    have hc4:∀ j v,(#[.bool x.no,.int .i64 x.v.k,.int .i64 x.v.n,.string x.v.s,.slice xau x.l.length xcu,.slice xaf x.f.length xcf]:Array Value)[j]? = some v → w4.cell? ⟨b0,off + q * 6 + j,none⟩ = some v:=fun j v h=>(hb4.cell (p:=⟨b0,off + q * 6 + j,none⟩) (Nat.lt_of_lt_of_le HBI.out HWZ.out)).trans (HCD.out j v h)
    have hS9:=(⟨rowc RA4,hc4⟩:(fun w'=>(∀ j_1,w'.cell? ⟨w.heap.size,j_1,none⟩ = (#[.int .i64 n.id,.string n.name,.int .i64 n.rep,.int .i64 n.kind,.slice au ns cu]:Array Value)[j_1]?) ∧ (∀ j v,(#[.bool x.no,.int .i64 x.v.k,.int .i64 x.v.n,.string x.v.s,.slice xau x.l.length xcu,.slice xaf x.f.length xcf]:Array Value)[j]? = some v → w'.cell? ⟨b0,off + q * 6 + j,none⟩ = some v)) w4)
    refine hK _ _ (fun _=>hS9) ?_
    clear hK K hS
    have hS:=hS9
    clear hS9
    clear hb4 RA4 hc4
    try simp only [Act.put,List.getElem_toArray,List.getElem_cons_succ,List.getElem_cons_zero,List.setIfInBounds_toArray,List.set_cons_zero,List.set_cons_succ]
    refine AnyE.take (i:=6) (v:=?_) rfl (by kernel_rfl) (by kernel_rfl) (by kernel_rfl) (by kernel_rfl) (by kernel_rfl) (fun _ _ _ h=>h) (Or.inl ⟨by rfl,?_⟩) hS ?_
    rotate_left
    focus (intro wq hSq;obtain ⟨hS1,hS2⟩:=hSq;go_simp;with_reducible rfl)
    try simp only [Act.put,List.getElem_toArray,List.getElem_cons_succ,List.getElem_cons_zero,List.setIfInBounds_toArray,List.set_cons_zero,List.set_cons_succ]
    refine AnyE.done (by kernel_rfl) ?_ _
    clear hS
    cases rx with
    | zero =>
      have HZ2:=Lib.hid (show ∀ (j:Nat) y,j < q + 1 → l[j]? = some y → datE n false y = 0 from fun j y hj hy=>by
        rcases Nat.lt_succ_iff_lt_or_eq.1 hj with h | h
        · exact HZ.out j y h hy
        · subst h;rw [HX.out] at hy;injection hy with hy;rw [← hy];exact HRX.out)
      go_wp2_with fail
      go_roundw
      case rel=>exact ⟨q + 1,Hlt.out,by go_num,rfl,HZ2.out,HB4.out⟩
      case measure=>have:=Hlt.out;simp [intOf];omega
    | succ r =>
      have dr:decide (0 < r + 1) = true:=by simp
      have dr2:(0:Int) < ((r:Int) + 1):=by omega
      have hGV:G = .fault (r + 1) (q:Nat):=by
        rw [← HG.out]
        unfold shredErr
        rw [if_neg (by rw [HVV.out];simp),if_neg (by rw [HNL.out];omega),badDt_take n l 0 q x HX.out HZ.out (by rw [HRX.out];omega),HRX.out]
        simp
      subst hGV
      clear HG
      replace RF:=Lib.hid (row_keep HB4.out RF.out);replace HW:=Lib.hid (HW.out.trans (HB4.out.mono HW.out.size))
      go_wp2_with (refine wpList_store_part rfl 30 _ _ rfl (w.heap.size + 1) 0 _ 30 #[.int .i64 ((r + 1:Nat):Int),.int .i64 (q:Nat)] rfl rfl RF.out (by kernel_rfl) (by simp [Value.oneCell']) (Nat.le_of_ble_eq_true rfl) #[.int .i64 ((r + 1:Nat):Int),.int .i64 (q:Nat)] rfl ?_;intro w5 rR5 hoth hbl hsz5;have RR5:=Lib.hid rR5;have hbw5:=Lib.hid (HW.out.trans (hbl.mono (by omega)));clear hoth hbl hsz5 rR5)
      exact bodyPost_ret (v:=.agg #[.int .i64 ((r + 1:Nat):Int),.int .i64 (q:Nat)]) (results_cell_row Tryz.results7 _ _ (w.heap.size + 1) 30 _ (0,0) _ rfl RR5.out Tryz.underlying30 rfl (by kernel_rfl)) rfl ⟨rfl,hbw5.out⟩
set_option maxRecDepth 100000 in
theorem sameCols_any (l:List Col) (v u:Value) (w:World) (hv:IsCols w v l) (hu:IsCols w u l) (h1:∀ c ∈ l,c.rep.length ≤ 1000000 ∧ c.df.length ≤ 1000000 ∧ c.vals.length ≤ maxLen) (hl:l.length ≤ 1000) :
  Calls Tryz.prog 12 #[v,u] w fun e w'=>e = .returned (.bool true) ∧ Below w.heap.size w w':=by
 obtain ⟨a1,c1,rfl⟩:=hv.form
 obtain ⟨a2,c2,rfl⟩:=hu.form
 obtain ⟨nl,hnl⟩:∃ nl,l.length = nl:=⟨_,rfl⟩
 rw [hnl] at hv hu hl ⊢
 have HV:=Lib.hid hv;have HU:=Lib.hid hu;have H1:=Lib.hid h1;have HNL:=Lib.hid hnl
 clear hv hu h1 hnl
 go_enter Tryz.func12,Tryz.ntmps12
 go_wp2_with fail
 go_loopw [5] (fun i wr=>∃ k:Nat,k ≤ nl ∧ i = .int .i64 (k:Nat) ∧ Hid (Below w.heap.size w wr)) (fun i _=>nl - (intOf i).toNat)
 case atStart=>exact ⟨0,Nat.zero_le _,rfl,Below.refl _ _⟩
 case round =>
  obtain ⟨k,hk,rfl,HBr⟩:=hrel
  by_cases hlt:k < nl
  case neg =>
   obtain rfl:k = nl:=Nat.le_antisymm hk (Nat.le_of_not_lt hlt)
   have dk:decide (k < k) = false:=by simp
   clear hlt hk
   go_wp2_with fail
   go_ret
   exact ⟨rfl,HBr.out⟩
  obtain ⟨x,hx⟩:∃ x,l[k]? = some x:=⟨_,List.getElem?_eq_getElem (by rw [HNL.out];exact hlt)⟩
  have hxm:x ∈ l:=List.mem_of_getElem? hx
  obtain ⟨b1,o1,e1,-,hb1,hat1⟩:=(HV.out.below HBr.out (Nat.le_refl _)).at (by rw [HNL.out];omega)
  obtain ⟨b2,o2,e2,-,hb2,hat2⟩:=(HU.out.below HBr.out (Nat.le_refl _)).at (by rw [HNL.out];omega)
  subst e1 e2
  obtain ⟨p1,q1,d1,hp1,hq1,hd1,hc1⟩:=hat1 k x hx
  obtain ⟨p2,q2,d2,hp2,hq2,hd2,hc2⟩:=hat2 k x hx
  have hxl:=H1.out x hxm
  have hcl:=fun (w9:World) (h9:Below wr.heap.size wr w9)=>sameColN x (.agg #[.int .i64 x.id,p1,q1,d1]) (.agg #[.int .i64 x.id,p2,q2,d2]) w9 ⟨p1,q1,d1,rfl,hp1.below h9 (Nat.le_refl _),hq1.below h9 (Nat.le_refl _),hd1.below h9 (Nat.le_refl _)⟩ ⟨p2,q2,d2,rfl,hp2.below h9 (Nat.le_refl _),hq2.below h9 (Nat.le_refl _),hd2.below h9 (Nat.le_refl _)⟩ hxl.1 hxl.2.1 hxl.2.2
  unfold colA at hc1 hc2
  have HC1:=Lib.hid hc1;have HC2:=Lib.hid hc2;have HCL:=Lib.hid hcl;have Hlt:=Lib.hid hlt
  have hin:(k:Int) < (nl:Int):=Int.ofNat_lt.2 hlt
  have dk:decide (k < nl) = true:=decide_eq_true hlt
  have HB1:=Lib.hid hb1;have HB2:=Lib.hid hb2
  clear hx hxm hat1 hat2 hc1 hc2 hp1 hp2 hq1 hq2 hd1 hd2 hxl hcl hlt hk hb1 hb2
  go_upto_region 6 with fail
  refine AnyE.region (S:=fun w'=>(∀ j v,(#[.int .i64 x.id,p1,q1,d1]:Array Value)[j]? = some v → w'.cell? ⟨b1,o1 + k * 4 + j,none⟩ = some v) ∧ (∀ j v,(#[.int .i64 x.id,p2,q2,d2]:Array Value)[j]? = some v → w'.cell? ⟨b2,o2 + k * 4 + j,none⟩ = some v)) (E:=[]) (by kernel_rfl) ?_
  have hbd:=(Below.refl wr.heap.size wr).drew
  have HD:=Lib.hid hbd
  have HS:=Lib.hid (show ∀ w',Below wr.heap.size wr w' → ((∀ j v,(#[.int .i64 x.id,p1,q1,d1]:Array Value)[j]? = some v → w'.cell? ⟨b1,o1 + k * 4 + j,none⟩ = some v) ∧ (∀ j v,(#[.int .i64 x.id,p2,q2,d2]:Array Value)[j]? = some v → w'.cell? ⟨b2,o2 + k * 4 + j,none⟩ = some v)) from fun w' h=>⟨fun j v hj=>(h.cell (p:=⟨b1,o1 + k * 4 + j,none⟩) HB1.out).trans (HC1.out j v hj),fun j v hj=>(h.cell (p:=⟨b2,o2 + k * 4 + j,none⟩) HB2.out).trans (HC2.out j v hj)⟩)
  clear hbd
  have hwz:wr.heap.size ≤ wr.drew.heap.size:=HD.out.size
  generalize wr.drew = wd at *
  have hS:=(HS.out wd HD.out:(fun w'=>(∀ j v,(#[.int .i64 x.id,p1,q1,d1]:Array Value)[j]? = some v → w'.cell? ⟨b1,o1 + k * 4 + j,none⟩ = some v) ∧ (∀ j v,(#[.int .i64 x.id,p2,q2,d2]:Array Value)[j]? = some v → w'.cell? ⟨b2,o2 + k * 4 + j,none⟩ = some v)) wd)
  refine AnyE.take (i:=0) (v:=?_) rfl (by kernel_rfl) (by kernel_rfl) (by kernel_rfl) (by kernel_rfl) (by kernel_rfl) (fun _ _ _ h=>h) (Or.inl ⟨by rfl,?_⟩) hS ?_
  rotate_left
  focus (intro wq hSq;obtain ⟨hS1,hS2⟩:=hSq;go_simp;with_reducible rfl)
  try simp only [Act.put,List.getElem_toArray,List.getElem_cons_succ,List.getElem_cons_zero,List.setIfInBounds_toArray,List.set_cons_zero,List.set_cons_succ]
  refine AnyE.take (i:=1) (v:=?_) rfl (by kernel_rfl) (by kernel_rfl) (by kernel_rfl) (by kernel_rfl) (by kernel_rfl) (fun _ _ _ h=>h) (Or.inl ⟨by rfl,?_⟩) hS ?_
  rotate_left
  focus (intro wq hSq;obtain ⟨hS1,hS2⟩:=hSq;go_simp;with_reducible rfl)
  try simp only [Act.put,List.getElem_toArray,List.getElem_cons_succ,List.getElem_cons_zero,List.setIfInBounds_toArray,List.set_cons_zero,List.set_cons_succ]
  refine AnyE.take (i:=2) (v:=?_) rfl (by kernel_rfl) (by kernel_rfl) (by kernel_rfl) (by kernel_rfl) (by kernel_rfl) (fun _ _ _ h=>h) (Or.inl ⟨by rfl,?_⟩) hS ?_
  rotate_left
  focus (intro wq hSq;obtain ⟨hS1,hS2⟩:=hSq;go_simp;with_reducible rfl)
  try simp only [Act.put,List.getElem_toArray,List.getElem_cons_succ,List.getElem_cons_zero,List.setIfInBounds_toArray,List.set_cons_zero,List.set_cons_succ]
  refine AnyE.take (i:=3) (v:=.agg #[.int .i64 x.id,p1,q1,d1]) rfl (by kernel_rfl) (by kernel_rfl) (by kernel_rfl) (by kernel_rfl) (by kernel_rfl) (fun _ _ _ h=>h) (yields_load 51 _ rfl rfl b1 (o1 + k * 4) rfl #[.int .i64 x.id,p1,q1,d1] _ (fun w h=>h.1) Tryz.underlying51 rfl (by kernel_rfl)) hS ?_
  try simp only [Act.put,List.getElem_toArray,List.getElem_cons_succ,List.getElem_cons_zero,List.setIfInBounds_toArray,List.set_cons_zero,List.set_cons_succ]
  refine AnyE.take (i:=4) (v:=?_) rfl (by kernel_rfl) (by kernel_rfl) (by kernel_rfl) (by kernel_rfl) (by kernel_rfl) (fun _ _ _ h=>h) (Or.inl ⟨by rfl,?_⟩) hS ?_
  rotate_left
  focus (intro wq hSq;obtain ⟨hS1,hS2⟩:=hSq;go_simp;with_reducible rfl)
  try simp only [Act.put,List.getElem_toArray,List.getElem_cons_succ,List.getElem_cons_zero,List.setIfInBounds_toArray,List.set_cons_zero,List.set_cons_succ]
  refine AnyE.take (i:=5) (v:=?_) rfl (by kernel_rfl) (by kernel_rfl) (by kernel_rfl) (by kernel_rfl) (by kernel_rfl) (fun _ _ _ h=>h) (Or.inl ⟨by rfl,?_⟩) hS ?_
  rotate_left
  focus (intro wq hSq;obtain ⟨hS1,hS2⟩:=hSq;go_simp;with_reducible rfl)
  try simp only [Act.put,List.getElem_toArray,List.getElem_cons_succ,List.getElem_cons_zero,List.setIfInBounds_toArray,List.set_cons_zero,List.set_cons_succ]
  refine AnyE.take (i:=6) (v:=?_) rfl (by kernel_rfl) (by kernel_rfl) (by kernel_rfl) (by kernel_rfl) (by kernel_rfl) (fun _ _ _ h=>h) (Or.inl ⟨by rfl,?_⟩) hS ?_
  rotate_left
  focus (intro wq hSq;obtain ⟨hS1,hS2⟩:=hSq;go_simp;with_reducible rfl)
  try simp only [Act.put,List.getElem_toArray,List.getElem_cons_succ,List.getElem_cons_zero,List.setIfInBounds_toArray,List.set_cons_zero,List.set_cons_succ]
  refine AnyE.take (i:=7) (v:=.agg #[.int .i64 x.id,p2,q2,d2]) rfl (by kernel_rfl) (by kernel_rfl) (by kernel_rfl) (by kernel_rfl) (by kernel_rfl) (fun _ _ _ h=>h) (yields_load 51 _ rfl rfl b2 (o2 + k * 4) rfl #[.int .i64 x.id,p2,q2,d2] _ (fun w h=>h.2) Tryz.underlying51 rfl (by kernel_rfl)) hS ?_
  try simp only [Act.put,List.getElem_toArray,List.getElem_cons_succ,List.getElem_cons_zero,List.setIfInBounds_toArray,List.set_cons_zero,List.set_cons_succ]
  refine AnyE.one (i:=8) (by kernel_rfl) rfl rfl ?_
  intro K hK
  simp only [List.getElem_toArray,List.getElem_cons_succ,List.getElem_cons_zero]
  go_simp
  refine (HCL.out wd HD.out).mono ?_;rintro e w4 ⟨rfl,hb4⟩
  have HB4:=Lib.hid (HBr.out.trans ((HD.out.trans (hb4.mono hwz)).mono HBr.out.size))
  have h44:=HD.out.trans (hb4.mono hwz)
  have hS9:=(HS.out w4 h44:(fun w'=>(∀ j v,(#[.int .i64 x.id,p1,q1,d1]:Array Value)[j]? = some v → w'.cell? ⟨b1,o1 + k * 4 + j,none⟩ = some v) ∧ (∀ j v,(#[.int .i64 x.id,p2,q2,d2]:Array Value)[j]? = some v → w'.cell? ⟨b2,o2 + k * 4 + j,none⟩ = some v)) w4)
  refine hK _ _ (fun _=>hS9) ?_
  clear hK K hS
  have hS:=hS9
  clear hS9
  clear hb4 h44
  try simp only [Act.put,List.getElem_toArray,List.getElem_cons_succ,List.getElem_cons_zero,List.setIfInBounds_toArray,List.set_cons_zero,List.set_cons_succ]
  refine AnyE.take (i:=9) (v:=?_) rfl (by kernel_rfl) (by kernel_rfl) (by kernel_rfl) (by kernel_rfl) (by kernel_rfl) (fun _ _ _ h=>h) (Or.inl ⟨by rfl,?_⟩) hS ?_
  rotate_left
  focus (intro wq hSq;obtain ⟨hS1,hS2⟩:=hSq;go_simp;with_reducible rfl)
  try simp only [Act.put,List.getElem_toArray,List.getElem_cons_succ,List.getElem_cons_zero,List.setIfInBounds_toArray,List.set_cons_zero,List.set_cons_succ]
  refine AnyE.done (by kernel_rfl) ?_ _
  clear hS
  go_wp2_with fail
  go_roundw
  case rel=>exact ⟨k + 1,Hlt.out,by go_num,HB4.out⟩
  case measure=>have:=Hlt.out;simp [intOf];omega
end Go.Proofs.YtkmhmnffbgedgaaGreatDoor
