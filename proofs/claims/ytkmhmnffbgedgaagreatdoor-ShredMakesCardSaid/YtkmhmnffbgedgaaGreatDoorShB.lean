/- The walk of the document's entriesOf. Written by gen_shb.py. -/
import Derived.Test.YtkmhmnffbgedgaaGreatDoorShA
import Derived.IntWalk
import Derived.Deep.DeepCutAuto
namespace Go.Proofs.YtkmhmnffbgedgaaGreatDoor
set_option maxHeartbeats 32000000
set_option linter.unusedVariables false
set_option linter.unusedSimpArgs false
open Go Go.RowKit Go.ChangeShapes
theorem nodup_inj {l:List Nd} (h:(l.map Nd.id).Nodup):∀ a b:Nd,a ∈ l → b ∈ l → a.id = b.id → a = b:=by
 induction l with
 | nil=>intro a b h1;cases h1
 | cons y r ih =>
  rw [List.map_cons,List.nodup_cons] at h
  intro a b h1 h2 e
  rcases List.mem_cons.1 h1 with k1 | k1
  ·rcases List.mem_cons.1 h2 with k2 | k2
   ·rw [k1,k2]
   ·exact absurd (List.mem_map.2 ⟨b,k2,by rw [← e,k1]⟩) h.1
  ·rcases List.mem_cons.1 h2 with k2 | k2
   ·exact absurd (List.mem_map.2 ⟨a,k1,by rw [e,k2]⟩) h.1
   ·exact ih h.2 a b k1 k2 e
theorem sub_mem {s n:Nd} (h:s ∈ n.sub):s ∈ nodes n:=by
 rw [nodes_eq]
 exact List.mem_cons_of_mem _ (nodesL_mem h (by rw [nodes_eq];exact List.mem_cons_self ..))
theorem nodup_subL {m:Nd}:∀ {l:List Nd},((nodesL l).map Nd.id).Nodup → m ∈ l → ((nodes m).map Nd.id).Nodup
 | [],_,h=>by cases h
 | a :: r,hn,h=>by
  simp only [nodesL,List.map_append] at hn
  rw [List.nodup_append] at hn
  rcases List.mem_cons.1 h with rfl | h
  ·exact hn.1
  ·exact nodup_subL hn.2.1 h
theorem nodup_sub {m n:Nd} (hn:((nodes n).map Nd.id).Nodup) (h:m ∈ n.sub):((nodes m).map Nd.id).Nodup:=by
 rw [nodes_eq,List.map_cons,List.nodup_cons] at hn
 exact nodup_subL hn.2 h
theorem chsL_mem:∀ (l:List Nd) (q:List Nd),q ∈ chsL l → ∃ m p',q = m :: p' ∧ m ∈ l ∧ (m :: p') ∈ chs m
 | [],q,h=>by simp [chsL] at h
 | a :: r,q,h=>by
  simp only [chsL,List.mem_append] at h
  rcases h with h | h
  ·obtain ⟨p',rfl⟩:=chs_head.1 a q h
   exact ⟨a,p',rfl,List.mem_cons_self ..,h⟩
  ·obtain ⟨m,p',e,hm,hc⟩:=chsL_mem r q h
   exact ⟨m,p',e,List.mem_cons_of_mem _ hm,hc⟩
theorem nds_open {B:Nat} {w:World} {v:Value} {l:List Nd} (h:IsNds (· < B) w v l) (hl:0 < l.length):∃ bp offp,(∃ cap,v = .slice (some ⟨bp,offp,none⟩) l.length cap) ∧ bp < B ∧ bp < w.heap.size ∧ ∀ (j:Nat) (x:Nd),l[j]? = some x → ∃ u,NdAt w bp (offp + j * 5) x u ∧ IsNds (· < B) w u x.sub:=by
 obtain ⟨ad,cap,rfl⟩:=h.form
 obtain ⟨bp,offp,h1,h2,h3,h4⟩:=h.at hl
 exact ⟨bp,offp,⟨cap,by rw [h1]⟩,h2,h3,h4⟩
theorem FrN.store9 {B gz:Nat} {w wc w9:World} (h:FrN B w wc) (hgz:w.heap.size ≤ gz) (hB:B ≤ gz) (ho:∀ i,i ≠ gz → w9.heap[i]? = wc.heap[i]?) (hb:Below gz wc w9):FrN B w w9 :=
 ⟨h.below.trans (hb.mono hB),fun b cs T fz h1 h2 hr=>(ho b (by have:=row_lt hr;omega)).trans (h.tag b cs T fz h1 h2 hr)⟩
theorem own_off {w w9:World} {B n s gz:Nat} {e:TypeId} {v:Value} {xs:List Value} {cs:Array Value} (h:w.ownsRow B e s v n xs) (hr:w.heap[gz]? = some (.cells cs 51 (0,0))) (he:e ≠ 51) (ho:∀ i,i ≠ gz → w9.heap[i]? = w.heap[i]?):w9.ownsRow B e s v n xs :=
 own_stay h fun b _ _ hb=>ho b (fun e1=>own_neB h hr (Ne.symm he) (by rw [hb];exact congrArg some e1))
theorem OcS.ret {B gc gz:Nat} {w w9:World} {c:Col} {P Q V:Value} {cs:Array Value} (h:OcS B w gc c P Q V) (hr:w.heap[gz]? = some (.cells cs 51 (0,0))) (ho:∀ i,i ≠ gz → w9.heap[i]? = w.heap[i]?):OwnC B w9 (.agg #[.int .i64 c.id,P,Q,V]) c :=
 ⟨P,Q,V,rfl,own_off h.p hr (by decide) ho,own_off h.q hr (by decide) ho,own_off h.d hr (by decide) ho,h.ap⟩
theorem OcS.set {B gc:Nat} {w w9:World} {c:Col} {u:Value} {P Q V:Value} {cs:Array Value} (hu:u = .agg #[.int .i64 c.id,P,Q,V]) (h:OwnC B w u c) (hr:w.heap[gc]? = some (.cells cs 51 (0,0))) (h9:w9.heap[gc]? = some (.cells #[.int .i64 c.id,P,Q,V] 51 (0,0))) (ho:∀ i,i ≠ gc → w9.heap[i]? = w.heap[i]?) (hz:w9.heap.size = w.heap.size) (hB:B ≤ w.heap.size) (hg:B ≤ gc):OcS B w9 gc c P Q V:=by
 subst hu
 obtain ⟨P',Q',V',e,h1,h2,h3,h4⟩:=h
 simp only [Value.agg.injEq,Array.mk.injEq,List.cons.injEq,and_true,true_and] at e
 obtain ⟨rfl,rfl,rfl⟩:=e
 exact ⟨h9,own_off h1 hr (by decide) ho,own_off h2 hr (by decide) ho,own_off h3 hr (by decide) ho,h4,by omega,hg⟩
theorem fr_part {B gc:Nat} {w w9:World} (hB:B ≤ gc) (ho:∀ i,i ≠ gc → w9.heap[i]? = w.heap[i]?) (hb:Below gc w w9):Fr B B gc w w9 :=
 ⟨hb.mono hB,fun b _ hne=>ho b hne,fun b cs T fz _ _ hne hr=>(ho b hne).trans hr⟩
set_option maxRecDepth 100000 in
theorem entries_any {B:Nat}:∀ (d:Dt) (c:Col) (vc pv:Value) (pth:List Nd) (k:Nat) (n:Nd) (p:List Nd) (ul uf:Value) (rep df lv:Int) (one:Bool) (w:World),OwnC B w vc c → B ≤ w.heap.size → IsNds (· < B) w pv pth → pth.drop k = n :: p → pth.length ≤ 1000 → (n :: p) ∈ chs n →
  IsDts (· < B) w ul d.l → IsDts (· < B) w uf d.f → (∀ x ∈ nodes n,x.Ok1) → (∀ y ∈ dts d,y.Ok1) → (∀ x ∈ nodes n,okShape x = true) → ((nodes n).map Nd.id).Nodup → datE n one d = 0 → 0 ≤ df → df + wgt d ≤ 1000000000000 → 0 ≤ lv → lv + wgt d ≤ 1000000000000 →
  even c → c.rep.length + (docE (n :: p) d rep df lv one).length ≤ 1000000 →
  Calls Tryz.prog 31 #[vc,pv,.int .i64 (k:Nat),.agg (dtA d ul uf),.int .i64 rep,.int .i64 df,.int .i64 lv,.bool one] w (EntRet B c (docE (n :: p) d rep df lv one) w):=by
 apply Dt.ind
 intro d IHl IHf c vc pv pth k n p ul uf rep df lv one w hc hB hPv hdr hpl hch hl hf hO hD hS hND hE hd0 hd1 hl0 hl1 hev hC
 have hD0:=hD d (by rw [dts_eq];exact List.mem_cons_self ..)
 have HDl:=Lib.hid (show ∀ x ∈ dtsL d.l,x.Ok1 from fun x hx=>hD x (by rw [dts_eq];exact List.mem_cons_of_mem _ (List.mem_append_left _ hx)))
 have HDf:=Lib.hid (show ∀ x ∈ dtsL d.f,x.Ok1 from fun x hx=>hD x (by rw [dts_eq];exact List.mem_cons_of_mem _ (List.mem_append_right _ hx)))
 have HSs:=Lib.hid (show ∀ x ∈ nodesL n.sub,okShape x = true from fun x hx=>hS x (by rw [nodes_eq];exact List.mem_cons_of_mem _ hx))
 have HOs:=Lib.hid (show ∀ x ∈ nodesL n.sub,x.Ok1 from fun x hx=>hO x (by rw [nodes_eq];exact List.mem_cons_of_mem _ hx))
 have hsn:=hS n (by rw [nodes_eq];exact List.mem_cons_self ..)
 have hR0:1 ≤ n.rep ∧ n.rep ≤ 3:=by unfold okShape at hsn;simp only [Bool.and_eq_true,decide_eq_true_eq] at hsn;omega
 have hlb:=hD0.l;have hfb:=hD0.f
 have hsb:=(hO n (by rw [nodes_eq];exact List.mem_cons_self ..)).sub
 rw [wgt_eq] at hd1 hl1
 have hkp:k < pth.length:=by
  rcases Nat.lt_or_ge k pth.length with h | h
  ·exact h
  ·rw [List.drop_eq_nil_of_le h] at hdr;cases hdr
 have hnk:pth[k]? = some n:=by
  have:=congrArg (fun l=>l[0]?) hdr
  simpa using this
 obtain ⟨E,hEE⟩:∃ E,docE (n :: p) d rep df lv one = E:=⟨_,rfl⟩
 have hEq:=docE_eq n p d rep df lv one
 rw [hEE] at hC hEq ⊢
 have HEQ:=Lib.hid hEq
 obtain ⟨bp,offp,hpve,hPbp,hbp,hatp⟩:=nds_open hPv (by omega)
 obtain ⟨capp,rfl⟩:=hpve
 obtain ⟨un,hcn,hun⟩:=hatp k n hnk
 have HAT:=Lib.hid hatp;have HPV:=Lib.hid hPv
 obtain ⟨au,cu,rfl⟩:=hun.form
 obtain ⟨al,cl,rfl⟩:=hl.form
 obtain ⟨af,cf,rfl⟩:=hf.form
 obtain ⟨P,Q,V,rfl,hcp,hcq,hcv,hap⟩:=hc
 obtain ⟨pl,hple⟩:∃ pl,pth.length = pl:=⟨_,rfl⟩
 rw [hple] at HPV hpl hkp ⊢
 have HCH:=Lib.hid hch;have HDR:=Lib.hid hdr;have HND:=Lib.hid hND;have HEV:=Lib.hid hev
 have HIL:=Lib.hid IHl;have HIF:=Lib.hid IHf;have HUN:=Lib.hid hun;have HO1:=Lib.hid hO;have HS:=Lib.hid hS;have HLl:=Lib.hid hl;have HLf:=Lib.hid hf;have HE:=Lib.hid hE;have HC:=Lib.hid hC;have HPL:=Lib.hid hple
 clear IHl IHf hO hD hE hD0 hS hsn hEE hEq hC hl hf hun hND hch hdr hatp hPv hev hnk hple
 obtain ⟨ns,hns⟩:∃ ns,n.sub.length = ns:=⟨_,rfl⟩
 obtain ⟨nl,hnl⟩:∃ nl,d.l.length = nl:=⟨_,rfl⟩
 obtain ⟨nf,hnf⟩:∃ nf,d.f.length = nf:=⟨_,rfl⟩
 rw [hns] at HUN hsb hcn;rw [hnl] at HLl hlb;rw [hnf] at HLf hfb
 rw [hnl,hnf]
 have HNS:=Lib.hid hns;have HNL:=Lib.hid hnl;have HNF:=Lib.hid hnf
 clear hns hnl hnf
 unfold NdAt ndA at hcn
 unfold dtA
 obtain ⟨no,hno⟩:∃ no,d.no = no:=⟨_,rfl⟩
 rw [hno] at HEQ ⊢
 have HNO:=Lib.hid hno
 obtain ⟨i0,hi,hz0,hz1,hz2⟩:=info_parts info_intC
 obtain ⟨i1,hj,hy0,hy1,hy2⟩:=info_parts info_valC
 have hcpk:=fun (w1:World) (hb:Below w.heap.size w w1) (j:Nat) (v:Value) (h:(#[.int .i64 n.id,.string n.name,.int .i64 n.rep,.int .i64 n.kind,.slice au ns cu]:Array Value)[j]? = some v)=>((hb.cell (p:=⟨bp,offp + k * 5 + j,none⟩) hbp).trans (hcn j v h))
 have HCN:=Lib.hid hcpk
 have hpk:(k:Int) < (pl:Int):=by omega
 clear hno hcn hcpk
 have hfx:∀ (x:Value) (h:∃ m b c,x = .slice b m c),True:=fun _ _=>trivial
 obtain ⟨Pa,Pm,Pc,rfl⟩:=own_capS hcp
 obtain ⟨Qa,Qm,Qc,rfl⟩:=own_capS hcq
 obtain ⟨Va,Vm,Vc,rfl⟩:=own_capS hcv
 clear hfx
 have hb0:=rows4 (w:=w) (A:=.cells #[.int .i64 c.id,.slice Pa Pm Pc,.slice Qa Qm Qc,.slice Va Vm Vc] 51) (B:=.cells #[.bool no,.int .i64 d.v.k,.int .i64 d.v.n,.string d.v.s,.slice al nl cl,.slice af nf cf] 46) (C:=.cells #[.int .i64 0,.slice none 0 0,.slice none 0 0,.slice none 0 0] 51) (D:=.cells #[.int .i64 n.id,.string n.name,.int .i64 n.rep,.int .i64 n.kind,.slice au ns cu] 24) (Below.refl _ _)
 go_enter Tryz.func31,Tryz.ntmps31
 go_upto_region 2 with (refine wpList_load_cells rfl 24 _ rfl bp (offp + k * 5) rfl #[.int .i64 n.id,.string n.name,.int .i64 n.rep,.int .i64 n.kind,.slice au ns cu] _ (HCN.out _ ((((Below.refl w.heap.size w).alloc (Nat.le_refl _) _).alloc (by simp) _).alloc (by simp;omega) _)) Tryz.underlying24 rfl nd_info ?_)
 generalize ((((w.alloc (.cells #[.int .i64 c.id,.slice Pa Pm Pc,.slice Qa Qm Qc,.slice Va Vm Vc] 51)).alloc (.cells #[.bool no,.int .i64 d.v.k,.int .i64 d.v.n,.string d.v.s,.slice al nl cl,.slice af nf cf] 46)).alloc (.cells #[.int .i64 0,.slice none 0 0,.slice none 0 0,.slice none 0 0] 51)).alloc (.cells #[.int .i64 n.id,.string n.name,.int .i64 n.rep,.int .i64 n.kind,.slice au ns cu] 24)) = w1 at *
 obtain ⟨rC,rD,rZ,rN,hbw,hzz⟩:=hb0
 have HB1:=Lib.hid hbw
 have hO0:OcS B w1 w.heap.size c (.slice Pa Pm Pc) (.slice Qa Qm Qc) (.slice Va Vm Vc):=⟨rC,own_blw hcp hbw,own_blw hcq hbw,own_blw hcv hbw,hap,Nat.le_trans hB hbw.size,hB⟩
 have HO:=Lib.hid hO0;have RD:=Lib.hid rD;have RZ:=Lib.hid rZ;have RN:=Lib.hid rN
 have HF:=Lib.hid (Fr.refl B B w.heap.size w1)
 have HBD:=Lib.hid (show c.rep.length + E.length ≤ 1000000 ∧ c.df.length = c.rep.length ∧ c.vals.length ≤ c.rep.length from ⟨HC.out,HEV.out⟩)
 clear rC rD rZ rN hbw hO0 hcp hcq hcv hap HC
 obtain ⟨gc,hgc⟩:∃ gc,w.heap.size = gc:=⟨_,rfl⟩
 rw [hgc] at HO RD RZ RN HF hzz hB hbp ⊢
 have HGC:=Lib.hid hgc
 clear hgc
 have cN:=rowc RN.out;have cD:=rowc RD.out
 have cN2:w1.cell? ⟨gc + 1 + 1 + 1,2,none⟩ = some (.int .i64 n.rep):=cN 2
 have cD0:w1.cell? ⟨gc + 1,0,none⟩ = some (.bool no):=cD 0
 have h5:one = true ∨ (one = false ∧ n.rep = 1) ∨ (one = false ∧ n.rep = 2 ∧ no = false) ∨ (one = false ∧ n.rep = 2 ∧ no = true) ∨ (one = false ∧ n.rep = 3):=by
  have:=hR0.1;have:=hR0.2
  cases one with
  | true=>exact .inl rfl
  | false =>
   rcases (show n.rep = 1 ∨ n.rep = 2 ∨ n.rep = 3 by omega) with h | h | h
   ·exact .inr (.inl ⟨rfl,h⟩)
   ·cases hn:no with
    | true=>exact .inr (.inr (.inr (.inl ⟨rfl,h,rfl⟩)))
    | false=>exact .inr (.inr (.inl ⟨rfl,h,rfl⟩))
   ·exact .inr (.inr (.inr (.inr ⟨rfl,h⟩)))
 clear hR0
 rcases h5 with h | h | h | h | h
 case inr.inr.inr.inl =>
  obtain ⟨rfl,hr,rfl⟩:=h
  have d3:((n.rep:Int) == 3) = false:=by rw [hr];rfl
  have d2:((n.rep:Int) == 2) = true:=by rw [hr];rfl
  have hEn:E = [⟨rep,df,none⟩]:=by rw [HEQ.out,if_neg (by omega),if_pos ⟨rfl,hr,rfl⟩]
  subst hEn
  have HBE:Hid (c.rep.length + 1 ≤ 1000000 ∧ c.df.length = c.rep.length ∧ c.vals.length ≤ c.rep.length):=Lib.hid (by have:=HBD.out;simpa using this)
  clear hr HEQ
  go_upto_region 16 with fail
  clear cN cD cN2 cD0
  have cC:=rowc HO.out.row;have fC:=rowf HO.out.row;have hBz:=HO.out.hB;have cD:=rowc RD.out
  go_upto_region 17 with (at_builtin;refine wpList_pushRow rfl _ _ 48 rfl B 3 i0 _ 1 8 Tryz.underlying48 hi hz0 hz1 hz2 rfl (by decide) intC (fun _=>rfl) intC_one _ (c).rep rfl HO.out.p _ _ rfl rfl ?_ ?_ hBz rep _ rfl ?_;(focus (have:=HBE.out;unfold maxLen;(try simp only [List.length_append,List.length_cons,List.length_nil]);omega));(focus (have:=HBE.out;(try simp only [List.length_append,List.length_cons,List.length_nil]);omega));intro v' w9 hn hgr hq;obtain ⟨a1,m1,c1,rfl⟩:=own_capS hn;have HN:=Lib.hid hn;have HGR:=Lib.hid hgr;have HQQ:=Lib.hid hq;have hrr:=grown_row HO.out.p hgr HO.out.row (by decide);have cC:=rowc hrr;have fC:=rowf hrr;clear hn hgr hq hrr)
  have hpu:=HO.out.pushP HN.out HGR.out HQQ.out
  clear cC fC cD hBz HN HGR HQQ
  generalize w9.setCell ⟨gc,1,none⟩ (.slice a1 m1 c1) = w1_ at *
  replace HO:=Lib.hid hpu.1;have hfr:=hpu.2;clear hpu
  replace HF:=Lib.hid (HF.out.trans hfr);replace RD:=Lib.hid (hfr.datum RD.out (by omega));replace RN:=Lib.hid (hfr.node RN.out (by omega));clear hfr
  have cC:=rowc HO.out.row;have fC:=rowf HO.out.row;have hBz:=HO.out.hB;have cD:=rowc RD.out
  go_upto_region 18 with (at_builtin;refine wpList_pushRow rfl _ _ 48 rfl B 3 i0 _ 1 8 Tryz.underlying48 hi hz0 hz1 hz2 rfl (by decide) intC (fun _=>rfl) intC_one _ ((⟨c.id,c.rep ++ [rep],c.df,c.vals⟩:Col)).df rfl HO.out.q _ _ rfl rfl ?_ ?_ hBz df _ rfl ?_;(focus (have:=HBE.out;unfold maxLen;(try simp only [List.length_append,List.length_cons,List.length_nil]);omega));(focus (have:=HBE.out;(try simp only [List.length_append,List.length_cons,List.length_nil]);omega));intro v' w9 hn hgr hq;obtain ⟨a2,m2,c2,rfl⟩:=own_capS hn;have HN:=Lib.hid hn;have HGR:=Lib.hid hgr;have HQQ:=Lib.hid hq;have hrr:=grown_row HO.out.q hgr HO.out.row (by decide);have cC:=rowc hrr;have fC:=rowf hrr;clear hn hgr hq hrr)
  have hpu:=HO.out.pushQ HN.out HGR.out HQQ.out
  clear cC fC cD hBz HN HGR HQQ
  generalize w9.setCell ⟨gc,2,none⟩ (.slice a2 m2 c2) = w2_ at *
  replace HO:=Lib.hid hpu.1;have hfr:=hpu.2;clear hpu
  replace HF:=Lib.hid (HF.out.trans hfr);replace RD:=Lib.hid (hfr.datum RD.out (by omega));replace RN:=Lib.hid (hfr.node RN.out (by omega));clear hfr
  have cC:=rowc HO.out.row;have fC:=rowf HO.out.row
  have hzr:=HF.out.tag _ _ _ _ (by decide) (by decide) (by omega) RZ.out
  go_wp2_with (refine wpList_store_part rfl 51 _ _ rfl (gc + 1 + 1) 0 _ 51 #[.int .i64 c.id,.slice a1 m1 c1,.slice a2 m2 c2,.slice Va Vm Vc] rfl rfl hzr (by kernel_rfl) (by simp [Value.oneCell']) (Nat.le_of_ble_eq_true rfl) #[.int .i64 c.id,.slice a1 m1 c1,.slice a2 m2 c2,.slice Va Vm Vc] rfl ?_;intro w9 r9 ho9 hb9 hz9;have R9:=Lib.hid r9;have HO9:=Lib.hid ho9;have HB9:=Lib.hid hb9;clear r9 ho9 hb9 hz9)
  have hwg:w.heap.size ≤ gc + 1 + 1:=by have:=HGC.out;omega
  refine bodyPost_ret (v:=.agg #[.int .i64 c.id,.slice a1 m1 c1,.slice a2 m2 c2,.slice Va Vm Vc]) (results_cell_row Tryz.results31 _ _ (gc + 1 + 1) 51 _ (0,0) _ rfl R9.out Tryz.underlying51 rfl (by kernel_rfl)) rfl ⟨_,rfl,?_,(Fr.toN HB1.out (HGC.out ▸ hB) (Nat.le_of_eq HGC.out) HF.out).store9 hwg (by omega) HO9.out HB9.out⟩
  rw [show addD c [⟨rep,df,none⟩] = ⟨c.id,c.rep ++ [rep],c.df ++ [df],c.vals⟩ by simp [addD]]
  exact HO.out.ret hzr HO9.out
 case inr.inr.inr.inr =>
  obtain ⟨rfl,hr⟩:=h
  have d3:((n.rep:Int) == 3) = true:=by rw [hr];rfl
  have cD4:w1.cell? ⟨gc + 1,4,none⟩ = some (.slice al nl cl):=cD 4
  by_cases hn0:nl = 0
  ·subst hn0
   have d0:((0:Int) == 0) = true:=rfl
   have hEn:E = [⟨rep,df,none⟩]:=by
    have hle:d.l.isEmpty = true:=by rw [List.isEmpty_iff];exact List.eq_nil_of_length_eq_zero HNL.out
    rw [HEQ.out,if_pos ⟨rfl,hr⟩,if_pos hle]
   subst hEn
   have HBE:Hid (c.rep.length + 1 ≤ 1000000 ∧ c.df.length = c.rep.length ∧ c.vals.length ≤ c.rep.length):=Lib.hid (by have:=HBD.out;simpa using this)
   clear hr HEQ
   go_upto_region 4 with fail
   clear cN cD cN2 cD0 cD4
   have cC:=rowc HO.out.row;have fC:=rowf HO.out.row;have hBz:=HO.out.hB;have cD:=rowc RD.out
   go_upto_region 5 with (at_builtin;refine wpList_pushRow rfl _ _ 48 rfl B 3 i0 _ 1 8 Tryz.underlying48 hi hz0 hz1 hz2 rfl (by decide) intC (fun _=>rfl) intC_one _ (c).rep rfl HO.out.p _ _ rfl rfl ?_ ?_ hBz rep _ rfl ?_;(focus (have:=HBE.out;unfold maxLen;(try simp only [List.length_append,List.length_cons,List.length_nil]);omega));(focus (have:=HBE.out;(try simp only [List.length_append,List.length_cons,List.length_nil]);omega));intro v' w9 hn hgr hq;obtain ⟨a1,m1,c1,rfl⟩:=own_capS hn;have HN:=Lib.hid hn;have HGR:=Lib.hid hgr;have HQQ:=Lib.hid hq;have hrr:=grown_row HO.out.p hgr HO.out.row (by decide);have cC:=rowc hrr;have fC:=rowf hrr;clear hn hgr hq hrr)
   have hpu:=HO.out.pushP HN.out HGR.out HQQ.out
   clear cC fC cD hBz HN HGR HQQ
   generalize w9.setCell ⟨gc,1,none⟩ (.slice a1 m1 c1) = w1_ at *
   replace HO:=Lib.hid hpu.1;have hfr:=hpu.2;clear hpu
   replace HF:=Lib.hid (HF.out.trans hfr);replace RD:=Lib.hid (hfr.datum RD.out (by omega));replace RN:=Lib.hid (hfr.node RN.out (by omega));clear hfr
   have cC:=rowc HO.out.row;have fC:=rowf HO.out.row;have hBz:=HO.out.hB;have cD:=rowc RD.out
   go_upto_region 6 with (at_builtin;refine wpList_pushRow rfl _ _ 48 rfl B 3 i0 _ 1 8 Tryz.underlying48 hi hz0 hz1 hz2 rfl (by decide) intC (fun _=>rfl) intC_one _ ((⟨c.id,c.rep ++ [rep],c.df,c.vals⟩:Col)).df rfl HO.out.q _ _ rfl rfl ?_ ?_ hBz df _ rfl ?_;(focus (have:=HBE.out;unfold maxLen;(try simp only [List.length_append,List.length_cons,List.length_nil]);omega));(focus (have:=HBE.out;(try simp only [List.length_append,List.length_cons,List.length_nil]);omega));intro v' w9 hn hgr hq;obtain ⟨a2,m2,c2,rfl⟩:=own_capS hn;have HN:=Lib.hid hn;have HGR:=Lib.hid hgr;have HQQ:=Lib.hid hq;have hrr:=grown_row HO.out.q hgr HO.out.row (by decide);have cC:=rowc hrr;have fC:=rowf hrr;clear hn hgr hq hrr)
   have hpu:=HO.out.pushQ HN.out HGR.out HQQ.out
   clear cC fC cD hBz HN HGR HQQ
   generalize w9.setCell ⟨gc,2,none⟩ (.slice a2 m2 c2) = w2_ at *
   replace HO:=Lib.hid hpu.1;have hfr:=hpu.2;clear hpu
   replace HF:=Lib.hid (HF.out.trans hfr);replace RD:=Lib.hid (hfr.datum RD.out (by omega));replace RN:=Lib.hid (hfr.node RN.out (by omega));clear hfr
   have cC:=rowc HO.out.row;have fC:=rowf HO.out.row
   have hzr:=HF.out.tag _ _ _ _ (by decide) (by decide) (by omega) RZ.out
   go_wp2_with (refine wpList_store_part rfl 51 _ _ rfl (gc + 1 + 1) 0 _ 51 #[.int .i64 c.id,.slice a1 m1 c1,.slice a2 m2 c2,.slice Va Vm Vc] rfl rfl hzr (by kernel_rfl) (by simp [Value.oneCell']) (Nat.le_of_ble_eq_true rfl) #[.int .i64 c.id,.slice a1 m1 c1,.slice a2 m2 c2,.slice Va Vm Vc] rfl ?_;intro w9 r9 ho9 hb9 hz9;have R9:=Lib.hid r9;have HO9:=Lib.hid ho9;have HB9:=Lib.hid hb9;clear r9 ho9 hb9 hz9)
   have hwg:w.heap.size ≤ gc + 1 + 1:=by have:=HGC.out;omega
   refine bodyPost_ret (v:=.agg #[.int .i64 c.id,.slice a1 m1 c1,.slice a2 m2 c2,.slice Va Vm Vc]) (results_cell_row Tryz.results31 _ _ (gc + 1 + 1) 51 _ (0,0) _ rfl R9.out Tryz.underlying51 rfl (by kernel_rfl)) rfl ⟨_,rfl,?_,(Fr.toN HB1.out (HGC.out ▸ hB) (Nat.le_of_eq HGC.out) HF.out).store9 hwg (by omega) HO9.out HB9.out⟩
   rw [show addD c [⟨rep,df,none⟩] = ⟨c.id,c.rep ++ [rep],c.df ++ [df],c.vals⟩ by simp [addD]]
   exact HO.out.ret hzr HO9.out
  have d0:((nl:Int) == 0) = false:=by rw [beq_eq_false_iff_ne];omega
  have hpos:0 < nl:=Nat.pos_of_ne_zero hn0
  have hEn:E = docEL (n :: p) d.l rep df lv:=by
   have hle:¬ d.l.isEmpty = true:=by rw [List.isEmpty_iff];intro h;have h2:=HNL.out;rw [h] at h2;exact hn0 h2.symm
   rw [HEQ.out,if_pos ⟨rfl,hr⟩,if_neg hle]
  have hall:∀ x ∈ d.l,datE n true x = 0:=by
   have h:=HE.out
   rw [datE_list hr] at h
   split at h
   ·split at h
    ·omega
    ·exact datEL_zero n _ h
   ·omega
  have HEn:=Lib.hid hEn;have HALL:=Lib.hid hall;have Hpos:=Lib.hid hpos
  clear hr hEn hall hn0 HEQ hpos hfb hsb
  go_wp2_with fail
  clear cN cD cN2 cD0 cD4
  go_loopw [4,18] (fun s4 i wr=>∃ (k2:Nat) (rp:Int) (P Q V:Value),k2 ≤ nl ∧ i = .int .i64 (k2:Nat) ∧ s4 = .int .i64 rp ∧ Hid (rp = if k2 = 0 ∨ k2 = 1 then rep else lv + 1) ∧ Hid (OcS B wr gc (addD c (docEL (n :: p) (d.l.take k2) rep df lv)) P Q V) ∧ Hid (Fr B B gc w1 wr)) (fun _ i _=>nl - (intOf i).toNat)
  case atStart=>exact ⟨0,rep,_,_,_,Nat.zero_le _,rfl,rfl,(if_pos (.inl rfl)).symm,by simp only [List.take_zero,docEL];rw [addD_nil];exact HO.out,Fr.refl _ _ _ _⟩
  case round =>
   obtain ⟨k2,rp,P,Q,V,hk,rfl,rfl,HRP,HR,HFr⟩:=hrel
   clear HO HF
   have HO:=HR;have HF:=HFr
   clear HR HFr
   have RDr:=Lib.hid (HF.out.datum RD.out (by omega))
   have cD4:wr.cell? ⟨gc + 1,4,none⟩ = some (.slice al nl cl):=rowc RDr.out 4
   obtain ⟨Pa,Pm,Pc,rfl⟩:=own_capS HO.out.p
   obtain ⟨Qa,Qm,Qc,rfl⟩:=own_capS HO.out.q
   obtain ⟨Va,Vm,Vc,rfl⟩:=own_capS HO.out.d
   by_cases hlt:k2 < nl
   case neg =>
    obtain rfl:k2 = nl:=Nat.le_antisymm hk (Nat.le_of_not_lt hlt)
    have hT:d.l.take k2 = d.l:=List.take_of_length_le (Nat.le_of_eq HNL.out)
    rw [hT,← HEn.out] at HO
    have dk:decide (k2 < k2) = false:=by simp
    clear hlt hk hT
    have cC:=rowc HO.out.row;have fC:=rowf HO.out.row
    have hzr:=HF.out.tag _ _ _ _ (by decide) (by decide) (by omega) RZ.out
    go_wp2_with (refine wpList_store_part rfl 51 _ _ rfl (gc + 1 + 1) 0 _ 51 #[.int .i64 c.id,.slice Pa Pm Pc,.slice Qa Qm Qc,.slice Va Vm Vc] rfl rfl hzr (by kernel_rfl) (by simp [Value.oneCell']) (Nat.le_of_ble_eq_true rfl) #[.int .i64 c.id,.slice Pa Pm Pc,.slice Qa Qm Qc,.slice Va Vm Vc] rfl ?_;intro w9 r9 ho9 hb9 hz9;have R9:=Lib.hid r9;have HO9:=Lib.hid ho9;have HB9:=Lib.hid hb9;clear r9 ho9 hb9 hz9)
    have hwg:w.heap.size ≤ gc + 1 + 1:=by have:=HGC.out;omega
    refine bodyPost_ret (v:=.agg #[.int .i64 c.id,.slice Pa Pm Pc,.slice Qa Qm Qc,.slice Va Vm Vc]) (results_cell_row Tryz.results31 _ _ (gc + 1 + 1) 51 _ (0,0) _ rfl R9.out Tryz.underlying51 rfl (by kernel_rfl)) rfl ⟨_,rfl,?_,(Fr.toN HB1.out (HGC.out ▸ hB) (Nat.le_of_eq HGC.out) HF.out).store9 hwg (by omega) HO9.out HB9.out⟩
    exact HO.out.ret hzr HO9.out
   have hkl:k2 < d.l.length:=by rw [HNL.out];exact hlt
   obtain ⟨x,hx⟩:∃ x,d.l[k2]? = some x:=⟨_,List.getElem?_eq_getElem hkl⟩
   have hxm:x ∈ d.l:=List.mem_of_getElem? hx
   have hfw:Below B w wr:=(HB1.out.mono (HGC.out ▸ hB)).trans HF.out.below
   obtain ⟨b0,off,rfl,hPb,hb0,hat⟩:=(HLl.out.under hfw).at (by rw [HNL.out];omega)
   obtain ⟨xu,xt,hcx,hu,ht⟩:=hat k2 x hx
   obtain ⟨xau,xcu,rfl⟩:=hu.form
   obtain ⟨xaf,xcf,rfl⟩:=ht.form
   have hwx:=wgtL_mem hxm
   obtain ⟨rp2,hrp2⟩:∃ r:Int,(if k2 = 0 then rep else lv + 1) = r:=⟨_,rfl⟩
   have hup:=docEL_up (n :: p) hx rep df lv
   rw [hrp2] at hup
   have hcl:=fun (w2:World) (h2:Below wr.heap.size wr w2)=>HIL.out x hxm (addD c (docEL (n :: p) (d.l.take k2) rep df lv)) (.agg #[.int .i64 c.id,.slice Pa Pm Pc,.slice Qa Qm Qc,.slice Va Vm Vc]) _ pth k n p (.slice xau x.l.length xcu) (.slice xaf x.f.length xcf) rp2 (df + 1) (lv + 1) true w2 (HO.out.own.below h2) (Nat.le_trans HO.out.hB h2.size) (HPV.out.under (hfw.trans (h2.mono HO.out.hB))) HDR.out (by rw [HPL.out];exact hpl) HCH.out (hu.under (h2.mono HO.out.hB)) (ht.under (h2.mono HO.out.hB)) HO1.out (fun z hz=>HDl.out z (dtsL_mem hxm hz)) HS.out HND.out (HALL.out x hxm) (by omega) (by omega) (by omega) (by omega) (addD_even HEV.out _) (by
    rw [addD_rep]
    have h1:=hup.2
    have h2:=HBD.out.1
    rw [HEn.out] at h2
    omega)
   unfold DtAt dtA at hcx
   unfold dtA EntRet at hcl
   have HCX:=Lib.hid hcx;have HCL:=Lib.hid hcl;have HUP:=Lib.hid hup
   have Hlt:=Lib.hid hlt
   have hin:(k2:Int) < (nl:Int):=Int.ofNat_lt.2 hlt
   have dk:decide (k2 < nl) = true:=decide_eq_true hlt
   have hrp:∀ z:Int,k2 ≠ 0 → z = lv + 1 → z = rp2:=fun z h1 h2=>by rw [← hrp2,if_neg h1,h2]
   have hrp0:k2 = 0 → rp = rp2:=fun h1=>by rw [← hrp2,if_pos h1,HRP.out,if_pos (.inl h1)]
   have hrp3:rp2 = (if k2 + 1 = 0 ∨ k2 + 1 = 1 then rep else lv + 1):=by
    rw [← hrp2]
    by_cases h:k2 = 0
    ·rw [if_pos h,if_pos (.inr (by omega))]
    ·rw [if_neg h,if_neg (by omega)]
   have HRP3:=Lib.hid hrp3;have HW0:=Lib.hid hrp;have HW2:=Lib.hid hrp0
   have hlo0:b0 < B:=hPb
   clear hkl hx hxm hfw hat hcx hu ht hcl hlt hk hPb hup hrp hrp0 hrp3 HRP
   have hl2:lv + 1 ≤ 1000000000001:=by omega
   have hl3:df + 1 ≤ 1000000000001:=by omega
   have hs1:IntKind.i64.wrap (df + 1) = df + 1:=IntWalk.i64_in _ (by omega)
   have hs2:IntKind.i64.wrap (lv + 1) = lv + 1:=IntWalk.i64_in _ (by omega)
   by_cases hz:k2 = 0
   case' pos =>
    have dz:decide (0 < k2) = false:=decide_eq_false (by omega)
    have hrq:=HW2.out hz
    clear hz HW0 HW2
    subst hrq
    go_upto_region 12 with fail
   case' neg =>
    have dz:decide (0 < k2) = true:=decide_eq_true (by omega)
    have hrq:=Lib.hid (HW0.out (lv + 1) hz rfl)
    clear hz HW0 HW2
    go_upto_region 12 with fail
    rw [hrq.out]
    clear hrq
   all_goals
    clear cD4
    have HO0B:=HO.out.hB
    refine AnyE.region (S:=fun w'=>(∀ j_1,w'.cell? ⟨gc,j_1,none⟩ = (#[.int .i64 c.id,.slice Pa Pm Pc,.slice Qa Qm Qc,.slice Va Vm Vc]:Array Value)[j_1]?) ∧ w'.cell? ⟨gc + 1,4,none⟩ = some (.slice (some ⟨b0,off,none⟩) nl cl) ∧ (∀ j v,(#[.bool x.no,.int .i64 x.v.k,.int .i64 x.v.n,.string x.v.s,.slice xau x.l.length xcu,.slice xaf x.f.length xcf]:Array Value)[j]? = some v → w'.cell? ⟨b0,off + k2 * 6 + j,none⟩ = some v)) (E:=[14]) (by kernel_rfl) ?_
    have hbd:=(Below.refl wr.heap.size wr).drew
    replace HO:=Lib.hid (HO.out.keep hbd);replace RDr:=Lib.hid (row_keep hbd RDr.out);replace HF:=Lib.hid (HF.out.trans (Fr.of_below (g:=gc) hbd (Nat.le_refl _) HO0B))
    have HCY:=Lib.hid (show ∀ j v,(#[.bool x.no,.int .i64 x.v.k,.int .i64 x.v.n,.string x.v.s,.slice xau x.l.length xcu,.slice xaf x.f.length xcf]:Array Value)[j]? = some v → wr.drew.cell? ⟨b0,off + k2 * 6 + j,none⟩ = some v from fun j v hj=>HCX.out j v hj)
    have HCL2:=Lib.hid (HCL.out wr.drew hbd)
    clear hbd HCX HCL
    generalize wr.drew = wd at *
    have hS:=(⟨rowc HO.out.row,rowc RDr.out 4,HCY.out⟩:(fun w'=>(∀ j_1,w'.cell? ⟨gc,j_1,none⟩ = (#[.int .i64 c.id,.slice Pa Pm Pc,.slice Qa Qm Qc,.slice Va Vm Vc]:Array Value)[j_1]?) ∧ w'.cell? ⟨gc + 1,4,none⟩ = some (.slice (some ⟨b0,off,none⟩) nl cl) ∧ (∀ j v,(#[.bool x.no,.int .i64 x.v.k,.int .i64 x.v.n,.string x.v.s,.slice xau x.l.length xcu,.slice xaf x.f.length xcf]:Array Value)[j]? = some v → w'.cell? ⟨b0,off + k2 * 6 + j,none⟩ = some v)) wd)
    refine AnyE.take (i:=0) (v:=.agg #[.int .i64 c.id,.slice Pa Pm Pc,.slice Qa Qm Qc,.slice Va Vm Vc]) rfl (by kernel_rfl) (by kernel_rfl) (by kernel_rfl) (by kernel_rfl) (by kernel_rfl) (fun _ _ _ h=>h) (yields_load 51 _ rfl rfl gc (0) rfl #[.int .i64 c.id,.slice Pa Pm Pc,.slice Qa Qm Qc,.slice Va Vm Vc] _ (fun w h=>fun j v hj=>by rw [Nat.zero_add];exact (h.1 j).trans hj) Tryz.underlying51 rfl (by kernel_rfl)) hS ?_
    try simp only [Act.put,List.getElem_toArray,List.getElem_cons_succ,List.getElem_cons_zero,List.setIfInBounds_toArray,List.set_cons_zero,List.set_cons_succ]
    refine AnyE.take (i:=1) (v:=?_) rfl (by kernel_rfl) (by kernel_rfl) (by kernel_rfl) (by kernel_rfl) (by kernel_rfl) (fun _ _ _ h=>h) (Or.inl ⟨by rfl,?_⟩) hS ?_
    rotate_left
    focus (intro wq hSq;obtain ⟨hS1,hS2,hS3⟩:=hSq;go_simp;with_reducible rfl)
    try simp only [Act.put,List.getElem_toArray,List.getElem_cons_succ,List.getElem_cons_zero,List.setIfInBounds_toArray,List.set_cons_zero,List.set_cons_succ]
    refine AnyE.take (i:=2) (v:=?_) rfl (by kernel_rfl) (by kernel_rfl) (by kernel_rfl) (by kernel_rfl) (by kernel_rfl) (fun _ _ _ h=>h) (Or.inl ⟨by rfl,?_⟩) hS ?_
    rotate_left
    focus (intro wq hSq;obtain ⟨hS1,hS2,hS3⟩:=hSq;go_simp;with_reducible rfl)
    try simp only [Act.put,List.getElem_toArray,List.getElem_cons_succ,List.getElem_cons_zero,List.setIfInBounds_toArray,List.set_cons_zero,List.set_cons_succ]
    refine AnyE.take (i:=3) (v:=?_) rfl (by kernel_rfl) (by kernel_rfl) (by kernel_rfl) (by kernel_rfl) (by kernel_rfl) (fun _ _ _ h=>h) (Or.inl ⟨by rfl,?_⟩) hS ?_
    rotate_left
    focus (intro wq hSq;obtain ⟨hS1,hS2,hS3⟩:=hSq;go_simp;with_reducible rfl)
    try simp only [Act.put,List.getElem_toArray,List.getElem_cons_succ,List.getElem_cons_zero,List.setIfInBounds_toArray,List.set_cons_zero,List.set_cons_succ]
    refine AnyE.take (i:=4) (v:=?_) rfl (by kernel_rfl) (by kernel_rfl) (by kernel_rfl) (by kernel_rfl) (by kernel_rfl) (fun _ _ _ h=>h) (Or.inl ⟨by rfl,?_⟩) hS ?_
    rotate_left
    focus (intro wq hSq;obtain ⟨hS1,hS2,hS3⟩:=hSq;go_simp;with_reducible rfl)
    try simp only [Act.put,List.getElem_toArray,List.getElem_cons_succ,List.getElem_cons_zero,List.setIfInBounds_toArray,List.set_cons_zero,List.set_cons_succ]
    refine AnyE.take (i:=5) (v:=?_) rfl (by kernel_rfl) (by kernel_rfl) (by kernel_rfl) (by kernel_rfl) (by kernel_rfl) (fun _ _ _ h=>h) (Or.inl ⟨by rfl,?_⟩) hS ?_
    rotate_left
    focus (intro wq hSq;obtain ⟨hS1,hS2,hS3⟩:=hSq;go_simp;with_reducible rfl)
    try simp only [Act.put,List.getElem_toArray,List.getElem_cons_succ,List.getElem_cons_zero,List.setIfInBounds_toArray,List.set_cons_zero,List.set_cons_succ]
    refine AnyE.take (i:=6) (v:=?_) rfl (by kernel_rfl) (by kernel_rfl) (by kernel_rfl) (by kernel_rfl) (by kernel_rfl) (fun _ _ _ h=>h) (Or.inl ⟨by rfl,?_⟩) hS ?_
    rotate_left
    focus (intro wq hSq;obtain ⟨hS1,hS2,hS3⟩:=hSq;go_simp;with_reducible rfl)
    try simp only [Act.put,List.getElem_toArray,List.getElem_cons_succ,List.getElem_cons_zero,List.setIfInBounds_toArray,List.set_cons_zero,List.set_cons_succ]
    refine AnyE.take (i:=7) (v:=.agg #[.bool x.no,.int .i64 x.v.k,.int .i64 x.v.n,.string x.v.s,.slice xau x.l.length xcu,.slice xaf x.f.length xcf]) rfl (by kernel_rfl) (by kernel_rfl) (by kernel_rfl) (by kernel_rfl) (by kernel_rfl) (fun _ _ _ h=>h) (yields_load 46 _ rfl rfl b0 (off + k2 * 6) rfl #[.bool x.no,.int .i64 x.v.k,.int .i64 x.v.n,.string x.v.s,.slice xau x.l.length xcu,.slice xaf x.f.length xcf] _ (fun w h=>h.2.2) Tryz.underlying46 rfl (by kernel_rfl)) hS ?_
    try simp only [Act.put,List.getElem_toArray,List.getElem_cons_succ,List.getElem_cons_zero,List.setIfInBounds_toArray,List.set_cons_zero,List.set_cons_succ]
    refine AnyE.take (i:=8) (v:=?_) rfl (by kernel_rfl) (by kernel_rfl) (by kernel_rfl) (by kernel_rfl) (by kernel_rfl) (fun _ _ _ h=>h) (Or.inl ⟨by rfl,?_⟩) hS ?_
    rotate_left
    focus (intro wq hSq;obtain ⟨hS1,hS2,hS3⟩:=hSq;go_simp;with_reducible rfl)
    try simp only [Act.put,List.getElem_toArray,List.getElem_cons_succ,List.getElem_cons_zero,List.setIfInBounds_toArray,List.set_cons_zero,List.set_cons_succ]
    refine AnyE.take (i:=9) (v:=?_) rfl (by kernel_rfl) (by kernel_rfl) (by kernel_rfl) (by kernel_rfl) (by kernel_rfl) (fun _ _ _ h=>h) (Or.inl ⟨by rfl,?_⟩) hS ?_
    rotate_left
    focus (intro wq hSq;obtain ⟨hS1,hS2,hS3⟩:=hSq;go_simp;with_reducible rfl)
    try simp only [Act.put,List.getElem_toArray,List.getElem_cons_succ,List.getElem_cons_zero,List.setIfInBounds_toArray,List.set_cons_zero,List.set_cons_succ]
    refine AnyE.take (i:=10) (v:=?_) rfl (by kernel_rfl) (by kernel_rfl) (by kernel_rfl) (by kernel_rfl) (by kernel_rfl) (fun _ _ _ h=>h) (Or.inl ⟨by rfl,?_⟩) hS ?_
    rotate_left
    focus (intro wq hSq;obtain ⟨hS1,hS2,hS3⟩:=hSq;go_simp;with_reducible rfl)
    try simp only [Act.put,List.getElem_toArray,List.getElem_cons_succ,List.getElem_cons_zero,List.setIfInBounds_toArray,List.set_cons_zero,List.set_cons_succ]
    refine AnyE.take (i:=11) (v:=?_) rfl (by kernel_rfl) (by kernel_rfl) (by kernel_rfl) (by kernel_rfl) (by kernel_rfl) (fun _ _ _ h=>h) (Or.inl ⟨by rfl,?_⟩) hS ?_
    rotate_left
    focus (intro wq hSq;obtain ⟨hS1,hS2,hS3⟩:=hSq;go_simp;with_reducible rfl)
    try simp only [Act.put,List.getElem_toArray,List.getElem_cons_succ,List.getElem_cons_zero,List.setIfInBounds_toArray,List.set_cons_zero,List.set_cons_succ]
    refine AnyE.take (i:=12) (v:=?_) rfl (by kernel_rfl) (by kernel_rfl) (by kernel_rfl) (by kernel_rfl) (by kernel_rfl) (fun _ _ _ h=>h) (Or.inl ⟨by rfl,?_⟩) hS ?_
    rotate_left
    focus (intro wq hSq;obtain ⟨hS1,hS2,hS3⟩:=hSq;go_simp;with_reducible rfl)
    try simp only [Act.put,List.getElem_toArray,List.getElem_cons_succ,List.getElem_cons_zero,List.setIfInBounds_toArray,List.set_cons_zero,List.set_cons_succ]
    refine AnyE.one (i:=13) (by kernel_rfl) rfl rfl ?_
    intro K hK
    simp only [List.getElem_toArray,List.getElem_cons_succ,List.getElem_cons_zero]
    go_simp
    refine HCL2.out.mono ?_;rintro e w4 ⟨u4,rfl,ho4,hf4⟩
    have hcy4:∀ j v,(#[.bool x.no,.int .i64 x.v.k,.int .i64 x.v.n,.string x.v.s,.slice xau x.l.length xcu,.slice xaf x.f.length xcf]:Array Value)[j]? = some v → w4.cell? ⟨b0,off + k2 * 6 + j,none⟩ = some v:=fun j v hj=>(hf4.below.cell (p:=⟨b0,off + k2 * 6 + j,none⟩) hlo0).trans (HCY.out j v hj)
    have hr4:=hf4.tag _ _ _ _ (by decide) (by decide) HO.out.row;have hd4:=hf4.tag _ _ _ _ (by decide) (by decide) RDr.out
    have hS9:=(⟨rowc hr4,rowc hd4 4,hcy4⟩:(fun w'=>(∀ j_1,w'.cell? ⟨gc,j_1,none⟩ = (#[.int .i64 c.id,.slice Pa Pm Pc,.slice Qa Qm Qc,.slice Va Vm Vc]:Array Value)[j_1]?) ∧ w'.cell? ⟨gc + 1,4,none⟩ = some (.slice (some ⟨b0,off,none⟩) nl cl) ∧ (∀ j v,(#[.bool x.no,.int .i64 x.v.k,.int .i64 x.v.n,.string x.v.s,.slice xau x.l.length xcu,.slice xaf x.f.length xcf]:Array Value)[j]? = some v → w'.cell? ⟨b0,off + k2 * 6 + j,none⟩ = some v)) w4)
    refine hK _ _ (fun _=>hS9) ?_
    clear hK K hS hcy4
    obtain ⟨P4,Q4,V4,hu4,hp4,hq4,hv4,ha4⟩:=ho4
    obtain ⟨Pb,Pn,Pd,rfl⟩:=own_capS hp4
    obtain ⟨Qb,Qn,Qd,rfl⟩:=own_capS hq4
    obtain ⟨Vb,Vn,Vd,rfl⟩:=own_capS hv4
    subst hu4
    have HO4:=Lib.hid (show OwnC B w4 _ _ from ⟨_,_,_,rfl,hp4,hq4,hv4,ha4⟩);have HR4:=Lib.hid hr4;have HF4:=Lib.hid (HF.out.trans (hf4.toFr (g:=gc)));have hB4:=Nat.le_trans HO.out.hB hf4.below.size;have hgc4:=HO.out.hg
    clear hp4 hq4 hv4 ha4 hr4 hd4 hf4 hS9 HCL2
    try simp only [Act.put,List.getElem_toArray,List.getElem_cons_succ,List.getElem_cons_zero,List.setIfInBounds_toArray,List.set_cons_zero,List.set_cons_succ]
    refine AnyE.one (i:=14) (by kernel_rfl) rfl rfl ?_
    intro K hK
    simp only [List.getElem_toArray,List.getElem_cons_succ,List.getElem_cons_zero]
    refine wp_store_part rfl 51 _ _ rfl gc 0 #[.int .i64 c.id,.slice Pa Pm Pc,.slice Qa Qm Qc,.slice Va Vm Vc] 51 #[.int .i64 c.id,.slice Pb Pn Pd,.slice Qb Qn Qd,.slice Vb Vn Vd] rfl rfl HR4.out (by kernel_rfl) (by simp [Value.oneCell']) (Nat.le_of_ble_eq_true rfl) #[.int .i64 c.id,.slice Pb Pn Pd,.slice Qb Qn Qd,.slice Vb Vn Vd] rfl ?_;intro w6 r6 ho6 hb6 hz6
    refine hK _ _ (fun h=>absurd h (by decide)) ?_
    clear hK K
    try simp only [Act.put,List.getElem_toArray,List.getElem_cons_succ,List.getElem_cons_zero,List.setIfInBounds_toArray,List.set_cons_zero,List.set_cons_succ]
    have HO6:=Lib.hid (OcS.set rfl HO4.out HR4.out r6 ho6 hz6 hB4 hgc4)
    have HF6:=Lib.hid (HF4.out.trans (fr_part hgc4 ho6 hb6))
    clear r6 ho6 hb6 hz6
    refine AnyE.done (by kernel_rfl) ?_ _
    go_wp2_with fail
    go_roundw
    case rel =>
     refine ⟨k2 + 1,_,.slice Pb Pn Pd,.slice Qb Qn Qd,.slice Vb Vn Vd,Hlt.out,by go_num,rfl,HRP3.out,?_,HF6.out⟩
     rw [HUP.out.1,← addD_app]
     exact HO6.out
    case measure=>have:=Hlt.out;simp [intOf];omega
 case' inl =>
  subst h
  have d3:((n.rep:Int) == 3 && !true) = false:=by simp
  have hlon:lonely n true d:=.inl rfl
  have hEl:E = if n.kind ≠ 0 then [⟨rep,df,some d.v⟩] else docEF n.sub d.f p rep df lv:=by rw [HEQ.out];simp
  have hd2:df + wgtL d.f ≤ 1000000000000:=by omega
  have HEL:=Lib.hid hEl
  clear hEl HEQ d3
  go_upto_region 20 with fail
  all_goals
   obtain ⟨df2,hdf2⟩:∃ q,q = df:=⟨_,rfl⟩
   subst hdf2
 case' inr.inl =>
  obtain ⟨rfl,hr⟩:=h
  have hlon:lonely n false d:=.inr (.inl hr)
  have d3:((n.rep:Int) == 3) = false:=by rw [hr];rfl
  have d2:((n.rep:Int) == 2) = false:=by rw [hr];rfl
  have hEl:E = if n.kind ≠ 0 then [⟨rep,df,some d.v⟩] else docEF n.sub d.f p rep df lv:=by rw [HEQ.out];simp [hr]
  have hd2:df + wgtL d.f ≤ 1000000000000:=by omega
  have HEL:=Lib.hid hEl
  clear hEl HEQ hr
  go_upto_region 20 with fail
  all_goals
   obtain ⟨df2,hdf2⟩:∃ q,q = df:=⟨_,rfl⟩
   subst hdf2
 case' inr.inr.inl =>
  obtain ⟨rfl,hr,rfl⟩:=h
  have hlon:lonely n false d:=.inr (.inr ⟨hr,HNO.out⟩)
  have d3:((n.rep:Int) == 3) = false:=by rw [hr];rfl
  have d2:((n.rep:Int) == 2) = true:=by rw [hr];rfl
  have hEl:E = if n.kind ≠ 0 then [⟨rep,df + 1,some d.v⟩] else docEF n.sub d.f p rep (df + 1) lv:=by rw [HEQ.out];simp [hr]
  have hd2:df + 1 + wgtL d.f ≤ 1000000000000:=by omega
  have hd3:0 ≤ df + 1:=by omega
  have HEL:=Lib.hid hEl
  clear hEl HEQ hr
  go_upto_region 20 with fail
  clear hd0
  have hd0:=hd3
  clear hd3
  generalize df + 1 = df2 at *
 all_goals
  have HLON:=Lib.hid hlon
  clear hlon
  by_cases hk0:n.kind = 0
  case neg =>
   have dk:((n.kind:Int) != 0) = true:=by simpa using hk0
   have hEn:E = [⟨rep,df2,some d.v⟩]:=by rw [HEL.out,if_pos hk0]
   subst hEn
   have HBE:Hid (c.rep.length + 1 ≤ 1000000 ∧ c.df.length = c.rep.length ∧ c.vals.length ≤ c.rep.length):=Lib.hid (by have:=HBD.out;simpa using this)
   clear hk0 HEL
   go_upto_region 21 with fail
   clear cN cD cN2 cD0
   have cC:=rowc HO.out.row;have fC:=rowf HO.out.row;have hBz:=HO.out.hB;have cD:=rowc RD.out
   go_upto_region 22 with (at_builtin;refine wpList_pushRow rfl _ _ 48 rfl B 3 i0 _ 1 8 Tryz.underlying48 hi hz0 hz1 hz2 rfl (by decide) intC (fun _=>rfl) intC_one _ (c).rep rfl HO.out.p _ _ rfl rfl ?_ ?_ hBz rep _ rfl ?_;(focus (have:=HBE.out;unfold maxLen;(try simp only [List.length_append,List.length_cons,List.length_nil]);omega));(focus (have:=HBE.out;(try simp only [List.length_append,List.length_cons,List.length_nil]);omega));intro v' w9 hn hgr hq;obtain ⟨a1,m1,c1,rfl⟩:=own_capS hn;have HN:=Lib.hid hn;have HGR:=Lib.hid hgr;have HQQ:=Lib.hid hq;have hrr:=grown_row HO.out.p hgr HO.out.row (by decide);have cC:=rowc hrr;have fC:=rowf hrr;clear hn hgr hq hrr)
   have hpu:=HO.out.pushP HN.out HGR.out HQQ.out
   clear cC fC cD hBz HN HGR HQQ
   generalize w9.setCell ⟨gc,1,none⟩ (.slice a1 m1 c1) = w1_ at *
   replace HO:=Lib.hid hpu.1;have hfr:=hpu.2;clear hpu
   replace HF:=Lib.hid (HF.out.trans hfr);replace RD:=Lib.hid (hfr.datum RD.out (by omega));replace RN:=Lib.hid (hfr.node RN.out (by omega));clear hfr
   have cC:=rowc HO.out.row;have fC:=rowf HO.out.row;have hBz:=HO.out.hB;have cD:=rowc RD.out
   go_upto_region 23 with (at_builtin;refine wpList_pushRow rfl _ _ 48 rfl B 3 i0 _ 1 8 Tryz.underlying48 hi hz0 hz1 hz2 rfl (by decide) intC (fun _=>rfl) intC_one _ ((⟨c.id,c.rep ++ [rep],c.df,c.vals⟩:Col)).df rfl HO.out.q _ _ rfl rfl ?_ ?_ hBz df2 _ rfl ?_;(focus (have:=HBE.out;unfold maxLen;(try simp only [List.length_append,List.length_cons,List.length_nil]);omega));(focus (have:=HBE.out;(try simp only [List.length_append,List.length_cons,List.length_nil]);omega));intro v' w9 hn hgr hq;obtain ⟨a2,m2,c2,rfl⟩:=own_capS hn;have HN:=Lib.hid hn;have HGR:=Lib.hid hgr;have HQQ:=Lib.hid hq;have hrr:=grown_row HO.out.q hgr HO.out.row (by decide);have cC:=rowc hrr;have fC:=rowf hrr;clear hn hgr hq hrr)
   have hpu:=HO.out.pushQ HN.out HGR.out HQQ.out
   clear cC fC cD hBz HN HGR HQQ
   generalize w9.setCell ⟨gc,2,none⟩ (.slice a2 m2 c2) = w2_ at *
   replace HO:=Lib.hid hpu.1;have hfr:=hpu.2;clear hpu
   replace HF:=Lib.hid (HF.out.trans hfr);replace RD:=Lib.hid (hfr.datum RD.out (by omega));replace RN:=Lib.hid (hfr.node RN.out (by omega));clear hfr
   have cC:=rowc HO.out.row;have fC:=rowf HO.out.row;have hBz:=HO.out.hB;have cD:=rowc RD.out
   go_upto_region 24 with (at_builtin;refine wpList_pushRow rfl _ _ 49 rfl B 44 i1 _ 3 32 Tryz.underlying49 hj hy0 hy1 hy2 rfl (by decide) valCells (fun _=>rfl) valCells_one _ ((⟨c.id,c.rep ++ [rep],c.df ++ [df2],c.vals⟩:Col)).vals rfl HO.out.d _ _ rfl rfl ?_ ?_ hBz d.v _ rfl ?_;(focus (have:=HBE.out;unfold maxLen;(try simp only [List.length_append,List.length_cons,List.length_nil]);omega));(focus (have:=HBE.out;(try simp only [List.length_append,List.length_cons,List.length_nil]);omega));intro v' w9 hn hgr hq;obtain ⟨a3,m3,c3,rfl⟩:=own_capS hn;have HN:=Lib.hid hn;have HGR:=Lib.hid hgr;have HQQ:=Lib.hid hq;have hrr:=grown_row HO.out.d hgr HO.out.row (by decide);have cC:=rowc hrr;have fC:=rowf hrr;clear hn hgr hq hrr)
   have hpu:=HO.out.pushD HN.out HGR.out
   clear cC fC cD hBz HN HGR HQQ
   generalize w9.setCell ⟨gc,3,none⟩ (.slice a3 m3 c3) = w3_ at *
   replace HO:=Lib.hid hpu.1;have hfr:=hpu.2;clear hpu
   replace HF:=Lib.hid (HF.out.trans hfr);replace RD:=Lib.hid (hfr.datum RD.out (by omega));replace RN:=Lib.hid (hfr.node RN.out (by omega));clear hfr
   have cC:=rowc HO.out.row;have fC:=rowf HO.out.row
   have hzr:=HF.out.tag _ _ _ _ (by decide) (by decide) (by omega) RZ.out
   go_wp2_with (refine wpList_store_part rfl 51 _ _ rfl (gc + 1 + 1) 0 _ 51 #[.int .i64 c.id,.slice a1 m1 c1,.slice a2 m2 c2,.slice a3 m3 c3] rfl rfl hzr (by kernel_rfl) (by simp [Value.oneCell']) (Nat.le_of_ble_eq_true rfl) #[.int .i64 c.id,.slice a1 m1 c1,.slice a2 m2 c2,.slice a3 m3 c3] rfl ?_;intro w9 r9 ho9 hb9 hz9;have R9:=Lib.hid r9;have HO9:=Lib.hid ho9;have HB9:=Lib.hid hb9;clear r9 ho9 hb9 hz9)
   have hwg:w.heap.size ≤ gc + 1 + 1:=by have:=HGC.out;omega
   refine bodyPost_ret (v:=.agg #[.int .i64 c.id,.slice a1 m1 c1,.slice a2 m2 c2,.slice a3 m3 c3]) (results_cell_row Tryz.results31 _ _ (gc + 1 + 1) 51 _ (0,0) _ rfl R9.out Tryz.underlying51 rfl (by kernel_rfl)) rfl ⟨_,rfl,?_,(Fr.toN HB1.out (HGC.out ▸ hB) (Nat.le_of_eq HGC.out) HF.out).store9 hwg (by omega) HO9.out HB9.out⟩
   rw [show addD c [⟨rep,df2,some d.v⟩] = ⟨c.id,c.rep ++ [rep],c.df ++ [df2],c.vals ++ [d.v]⟩ by simp [addD]]
   exact HO.out.ret hzr HO9.out
  have dk:((n.kind:Int) != 0) = false:=by simpa using hk0
  have hEn:E = docEF n.sub d.f p rep df2 lv:=by rw [HEL.out,if_neg (fun h=>h hk0)]
  have hgr:=HE.out
  rw [datE_group HLON.out hk0] at hgr
  have hdF:nf = ns ∧ datEF n.sub d.f = 0:=by
   split at hgr
   ·split at hgr
    ·refine ⟨?_,hgr⟩;rw [← HNF.out,← HNS.out];assumption
    ·omega
   ·omega
  obtain ⟨rfl,hz⟩:=hdF
  have HZ:=Lib.hid (datEF_zero _ _ hz)
  have hpm:∃ m p',p = m :: p' ∧ m ∈ n.sub ∧ (m :: p') ∈ chs m:=by
   have h1:=HCH.out
   rw [chs_eq,if_pos hk0] at h1
   obtain ⟨q,hq,hqe⟩:=List.mem_map.1 h1
   injection hqe with _ hqe
   subst hqe
   exact chsL_mem n.sub q hq
  obtain ⟨m,p',rfl,hmn,hmc⟩:=hpm
  have hkp2:k + 1 < pl:=by
   have h1:=congrArg List.length HDR.out
   rw [List.length_drop,HPL.out] at h1
   simp only [List.length_cons] at h1
   omega
  have hdr2:pth.drop (k + 1) = m :: p':=by
   have h1:=congrArg (List.drop 1) HDR.out
   rw [List.drop_drop] at h1
   simpa using h1
  have hmk:pth[k + 1]? = some m:=by
   have:=congrArg (fun l=>l[0]?) hdr2
   simpa using this
  obtain ⟨um,hcm,hum⟩:=HAT.out (k + 1) m hmk
  have hcm0:w.cell? ⟨bp,offp + (k + 1) * 5,none⟩ = some (.int .i64 m.id):=hcm 0 _ rfl
  have hNs:((nodes m).map Nd.id).Nodup:=nodup_sub HND.out hmn
  have heq:∀ s ∈ n.sub,s.id = m.id → s = m:=fun s hs e=>nodup_inj HND.out s m (sub_mem hs) (sub_mem hmn) e
  have HEn:=Lib.hid hEn;have HMN:=Lib.hid hmn;have HMC:=Lib.hid hmc;have HDR2:=Lib.hid hdr2;have HCM:=Lib.hid hcm0;have HNs:=Lib.hid hNs;have HEq:=Lib.hid heq
  clear hk0 hEn hgr hz hmn hmc hdr2 hmk hcm hcm0 hum hNs heq HEL HAT
  go_wp2_with fail
  clear cN cD cN2 cD0
  go_loopw [19] (fun i wr=>∃ (k2:Nat) (P Q V:Value),k2 ≤ nf ∧ i = .int .i64 (k2:Nat) ∧ Hid (OcS B wr gc (addD c (docEF (n.sub.take k2) (d.f.take k2) (m :: p') rep df2 lv)) P Q V) ∧ Hid (Fr B B gc w1 wr)) (fun i _=>nf - (intOf i).toNat)
  case atStart=>exact ⟨0,_,_,_,Nat.zero_le _,rfl,by simp only [List.take_zero,docEF];rw [addD_nil];exact HO.out,Fr.refl _ _ _ _⟩
  case round =>
   obtain ⟨k2,P,Q,V,hk,rfl,HR,HFr⟩:=hrel
   clear HO HF
   have HO:=HR;have HF:=HFr
   clear HR HFr
   have RDr:=Lib.hid (HF.out.datum RD.out (by omega));have RNr:=Lib.hid (HF.out.node RN.out (by omega))
   have cN4:wr.cell? ⟨gc + 1 + 1 + 1,4,none⟩ = some (.slice au nf cu):=rowc RNr.out 4
   obtain ⟨Pa,Pm,Pc,rfl⟩:=own_capS HO.out.p
   obtain ⟨Qa,Qm,Qc,rfl⟩:=own_capS HO.out.q
   obtain ⟨Va,Vm,Vc,rfl⟩:=own_capS HO.out.d
   by_cases hlt:k2 < nf
   case neg =>
    obtain rfl:k2 = nf:=Nat.le_antisymm hk (Nat.le_of_not_lt hlt)
    have hT:d.f.take k2 = d.f:=List.take_of_length_le (Nat.le_of_eq HNF.out)
    have hT2:n.sub.take k2 = n.sub:=List.take_of_length_le (Nat.le_of_eq HNS.out)
    rw [hT,hT2,← HEn.out] at HO
    have dk:decide (k2 < k2) = false:=by simp
    clear hlt hk hT hT2
    have cC:=rowc HO.out.row;have fC:=rowf HO.out.row
    have hzr:=HF.out.tag _ _ _ _ (by decide) (by decide) (by omega) RZ.out
    go_wp2_with (refine wpList_store_part rfl 51 _ _ rfl (gc + 1 + 1) 0 _ 51 #[.int .i64 c.id,.slice Pa Pm Pc,.slice Qa Qm Qc,.slice Va Vm Vc] rfl rfl hzr (by kernel_rfl) (by simp [Value.oneCell']) (Nat.le_of_ble_eq_true rfl) #[.int .i64 c.id,.slice Pa Pm Pc,.slice Qa Qm Qc,.slice Va Vm Vc] rfl ?_;intro w9 r9 ho9 hb9 hz9;have R9:=Lib.hid r9;have HO9:=Lib.hid ho9;have HB9:=Lib.hid hb9;clear r9 ho9 hb9 hz9)
    have hwg:w.heap.size ≤ gc + 1 + 1:=by have:=HGC.out;omega
    refine bodyPost_ret (v:=.agg #[.int .i64 c.id,.slice Pa Pm Pc,.slice Qa Qm Qc,.slice Va Vm Vc]) (results_cell_row Tryz.results31 _ _ (gc + 1 + 1) 51 _ (0,0) _ rfl R9.out Tryz.underlying51 rfl (by kernel_rfl)) rfl ⟨_,rfl,?_,(Fr.toN HB1.out (HGC.out ▸ hB) (Nat.le_of_eq HGC.out) HF.out).store9 hwg (by omega) HO9.out HB9.out⟩
    exact HO.out.ret hzr HO9.out
   have hks:k2 < n.sub.length:=by rw [HNS.out];exact hlt
   have hkl:k2 < d.f.length:=by rw [HNF.out];exact hlt
   obtain ⟨x,hx⟩:∃ x,d.f[k2]? = some x:=⟨_,List.getElem?_eq_getElem hkl⟩
   obtain ⟨s,hs⟩:∃ s,n.sub[k2]? = some s:=⟨_,List.getElem?_eq_getElem hks⟩
   have hxm:x ∈ d.f:=List.mem_of_getElem? hx
   have hsm:s ∈ n.sub:=List.mem_of_getElem? hs
   have hfw:Below B w wr:=(HB1.out.mono (HGC.out ▸ hB)).trans HF.out.below
   obtain ⟨b0,off,h17,hPb,hb0,hat⟩:=(HLf.out.under hfw).at (by rw [HNF.out];omega)
   subst h17
   obtain ⟨xu,xt,hcx,hu,ht⟩:=hat k2 x hx
   obtain ⟨xau,xcu,rfl⟩:=hu.form
   obtain ⟨xaf,xcf,rfl⟩:=ht.form
   obtain ⟨b1,off1,h18,hPb1,hb1,hat1⟩:=(HUN.out.under hfw).at (by rw [HNS.out];omega)
   subst h18
   obtain ⟨us,hcs,hns⟩:=hat1 k2 s hs
   have hcs0:wr.cell? ⟨b1,off1 + k2 * 5,none⟩ = some (.int .i64 s.id):=hcs 0 _ rfl
   have hcm1:wr.cell? ⟨bp,offp + (k + 1) * 5,none⟩ = some (.int .i64 m.id):=(hfw.cell (p:=⟨bp,offp + (k + 1) * 5,none⟩) hPbp).trans HCM.out
   have hwx:=wgtL_mem hxm
   have hup:=docEF_up hs hx (HNS.out.trans HNF.out.symm) (m :: p') rep df2 lv
   have Hlt:=Lib.hid hlt;have HUP:=Lib.hid hup;have HCS:=Lib.hid hcs0;have HCM1:=Lib.hid hcm1
   have hin:(k2:Int) < (nf:Int):=Int.ofNat_lt.2 hlt
   have dk:decide (k2 < nf) = true:=decide_eq_true hlt
   have hs1:IntKind.i64.wrap ((k:Int) + 1) = (k:Int) + 1:=IntWalk.i64_in _ (by omega)
   have hin2:(k:Int) + 1 < (pl:Int):=by omega
   have hin3:(0:Int) ≤ (k:Int) + 1:=by omega
   have htn:((k:Int) + 1).toNat = k + 1:=by omega
   have HO0B:=HO.out.hB
   go_upto_region 28 with fail
   clear cN4
   refine AnyE.region (S:=fun w'=>w'.cell? ⟨gc + 1 + 1 + 1,4,none⟩ = some (.slice (some ⟨b1,off1,none⟩) nf cu) ∧ w'.cell? ⟨b1,off1 + k2 * 5,none⟩ = some (.int .i64 s.id) ∧ w'.cell? ⟨bp,offp + (k + 1) * 5,none⟩ = some (.int .i64 m.id)) (E:=[]) (by kernel_rfl) ?_
   have hbd:=(Below.refl wr.heap.size wr).drew
   have hS:=(⟨rowc RNr.out 4,HCS.out,HCM1.out⟩:wr.drew.cell? ⟨gc + 1 + 1 + 1,4,none⟩ = some (.slice (some ⟨b1,off1,none⟩) nf cu) ∧ wr.drew.cell? ⟨b1,off1 + k2 * 5,none⟩ = some (.int .i64 s.id) ∧ wr.drew.cell? ⟨bp,offp + (k + 1) * 5,none⟩ = some (.int .i64 m.id))
   refine AnyE.take (i:=0) (v:=?_) rfl (by kernel_rfl) (by kernel_rfl) (by kernel_rfl) (by kernel_rfl) (by kernel_rfl) (fun _ _ _ h=>h) (Or.inl ⟨by rfl,?_⟩) hS ?_
   rotate_left
   focus (intro wq hSq;obtain ⟨hS1,hS2,hS3⟩:=hSq;go_simp;with_reducible rfl)
   try simp only [Act.put,List.getElem_toArray,List.getElem_cons_succ,List.getElem_cons_zero,List.setIfInBounds_toArray,List.set_cons_zero,List.set_cons_succ]
   refine AnyE.take (i:=1) (v:=?_) rfl (by kernel_rfl) (by kernel_rfl) (by kernel_rfl) (by kernel_rfl) (by kernel_rfl) (fun _ _ _ h=>h) (Or.inl ⟨by rfl,?_⟩) hS ?_
   rotate_left
   focus (intro wq hSq;obtain ⟨hS1,hS2,hS3⟩:=hSq;go_simp;with_reducible rfl)
   try simp only [Act.put,List.getElem_toArray,List.getElem_cons_succ,List.getElem_cons_zero,List.setIfInBounds_toArray,List.set_cons_zero,List.set_cons_succ]
   refine AnyE.take (i:=2) (v:=?_) rfl (by kernel_rfl) (by kernel_rfl) (by kernel_rfl) (by kernel_rfl) (by kernel_rfl) (fun _ _ _ h=>h) (Or.inl ⟨by rfl,?_⟩) hS ?_
   rotate_left
   focus (intro wq hSq;obtain ⟨hS1,hS2,hS3⟩:=hSq;go_simp;with_reducible rfl)
   try simp only [Act.put,List.getElem_toArray,List.getElem_cons_succ,List.getElem_cons_zero,List.setIfInBounds_toArray,List.set_cons_zero,List.set_cons_succ]
   refine AnyE.take (i:=3) (v:=?_) rfl (by kernel_rfl) (by kernel_rfl) (by kernel_rfl) (by kernel_rfl) (by kernel_rfl) (fun _ _ _ h=>h) (Or.inl ⟨by rfl,?_⟩) hS ?_
   rotate_left
   focus (intro wq hSq;obtain ⟨hS1,hS2,hS3⟩:=hSq;go_simp;with_reducible rfl)
   try simp only [Act.put,List.getElem_toArray,List.getElem_cons_succ,List.getElem_cons_zero,List.setIfInBounds_toArray,List.set_cons_zero,List.set_cons_succ]
   refine AnyE.take (i:=4) (v:=?_) rfl (by kernel_rfl) (by kernel_rfl) (by kernel_rfl) (by kernel_rfl) (by kernel_rfl) (fun _ _ _ h=>h) (Or.inl ⟨by rfl,?_⟩) hS ?_
   rotate_left
   focus (intro wq hSq;obtain ⟨hS1,hS2,hS3⟩:=hSq;go_simp;with_reducible rfl)
   try simp only [Act.put,List.getElem_toArray,List.getElem_cons_succ,List.getElem_cons_zero,List.setIfInBounds_toArray,List.set_cons_zero,List.set_cons_succ]
   refine AnyE.take (i:=5) (v:=?_) rfl (by kernel_rfl) (by kernel_rfl) (by kernel_rfl) (by kernel_rfl) (by kernel_rfl) (fun _ _ _ h=>h) (Or.inl ⟨by rfl,?_⟩) hS ?_
   rotate_left
   focus (intro wq hSq;obtain ⟨hS1,hS2,hS3⟩:=hSq;go_simp;with_reducible rfl)
   try simp only [Act.put,List.getElem_toArray,List.getElem_cons_succ,List.getElem_cons_zero,List.setIfInBounds_toArray,List.set_cons_zero,List.set_cons_succ]
   refine AnyE.take (i:=6) (v:=?_) rfl (by kernel_rfl) (by kernel_rfl) (by kernel_rfl) (by kernel_rfl) (by kernel_rfl) (fun _ _ _ h=>h) (Or.inl ⟨by rfl,?_⟩) hS ?_
   rotate_left
   focus (intro wq hSq;obtain ⟨hS1,hS2,hS3⟩:=hSq;go_simp;with_reducible rfl)
   try simp only [Act.put,List.getElem_toArray,List.getElem_cons_succ,List.getElem_cons_zero,List.setIfInBounds_toArray,List.set_cons_zero,List.set_cons_succ]
   refine AnyE.take (i:=7) (v:=?_) rfl (by kernel_rfl) (by kernel_rfl) (by kernel_rfl) (by kernel_rfl) (by kernel_rfl) (fun _ _ _ h=>h) (Or.inl ⟨by rfl,?_⟩) hS ?_
   rotate_left
   focus (intro wq hSq;obtain ⟨hS1,hS2,hS3⟩:=hSq;go_simp;with_reducible rfl)
   try simp only [Act.put,List.getElem_toArray,List.getElem_cons_succ,List.getElem_cons_zero,List.setIfInBounds_toArray,List.set_cons_zero,List.set_cons_succ]
   refine AnyE.take (i:=8) (v:=?_) rfl (by kernel_rfl) (by kernel_rfl) (by kernel_rfl) (by kernel_rfl) (by kernel_rfl) (fun _ _ _ h=>h) (Or.inl ⟨by rfl,?_⟩) hS ?_
   rotate_left
   focus (intro wq hSq;obtain ⟨hS1,hS2,hS3⟩:=hSq;go_simp;with_reducible rfl)
   try simp only [Act.put,List.getElem_toArray,List.getElem_cons_succ,List.getElem_cons_zero,List.setIfInBounds_toArray,List.set_cons_zero,List.set_cons_succ]
   refine AnyE.take (i:=9) (v:=?_) rfl (by kernel_rfl) (by kernel_rfl) (by kernel_rfl) (by kernel_rfl) (by kernel_rfl) (fun _ _ _ h=>h) (Or.inl ⟨by rfl,?_⟩) hS ?_
   rotate_left
   focus (intro wq hSq;obtain ⟨hS1,hS2,hS3⟩:=hSq;go_simp;with_reducible rfl)
   try simp only [Act.put,List.getElem_toArray,List.getElem_cons_succ,List.getElem_cons_zero,List.setIfInBounds_toArray,List.set_cons_zero,List.set_cons_succ]
   refine AnyE.take (i:=10) (v:=?_) rfl (by kernel_rfl) (by kernel_rfl) (by kernel_rfl) (by kernel_rfl) (by kernel_rfl) (fun _ _ _ h=>h) (Or.inl ⟨by rfl,?_⟩) hS ?_
   rotate_left
   focus (intro wq hSq;obtain ⟨hS1,hS2,hS3⟩:=hSq;go_simp;with_reducible rfl)
   try simp only [Act.put,List.getElem_toArray,List.getElem_cons_succ,List.getElem_cons_zero,List.setIfInBounds_toArray,List.set_cons_zero,List.set_cons_succ]
   refine AnyE.take (i:=11) (v:=?_) rfl (by kernel_rfl) (by kernel_rfl) (by kernel_rfl) (by kernel_rfl) (by kernel_rfl) (fun _ _ _ h=>h) (Or.inl ⟨by rfl,?_⟩) hS ?_
   rotate_left
   focus (intro wq hSq;obtain ⟨hS1,hS2,hS3⟩:=hSq;go_simp;with_reducible rfl)
   try simp only [Act.put,List.getElem_toArray,List.getElem_cons_succ,List.getElem_cons_zero,List.setIfInBounds_toArray,List.set_cons_zero,List.set_cons_succ]
   refine AnyE.take (i:=12) (v:=?_) rfl (by kernel_rfl) (by kernel_rfl) (by kernel_rfl) (by kernel_rfl) (by kernel_rfl) (fun _ _ _ h=>h) (Or.inl ⟨by rfl,?_⟩) hS ?_
   rotate_left
   focus (intro wq hSq;obtain ⟨hS1,hS2,hS3⟩:=hSq;go_simp;with_reducible rfl)
   try simp only [Act.put,List.getElem_toArray,List.getElem_cons_succ,List.getElem_cons_zero,List.setIfInBounds_toArray,List.set_cons_zero,List.set_cons_succ]
   refine AnyE.done (by kernel_rfl) ?_ _
   clear hS HCS HCM1
   replace HO:=Lib.hid (HO.out.keep hbd);replace RDr:=Lib.hid (row_keep hbd RDr.out);replace HF:=Lib.hid (HF.out.trans (Fr.of_below (g:=gc) hbd (Nat.le_refl _) HO0B))
   have hfw2:Below B w wr.drew:=hfw.trans (hbd.mono HO0B)
   have hu2:=hu.under (hbd.mono HO0B);have ht2:=ht.under (hbd.mono HO0B)
   have hcx2:DtAt wr.drew b0 (off + k2 * 6) x (.slice xau x.l.length xcu) (.slice xaf x.f.length xcf):=fun j v hj=>hcx j v hj
   have hb02:=Nat.lt_of_lt_of_le hb0 hbd.size
   clear hbd hfw hu ht hcx hb0 hat hat1 hcs hns hPb1 hb1
   generalize wr.drew = wq at *
   by_cases he:s.id = m.id
   case neg =>
    have de:((s.id:Int) == m.id) = false:=by simpa using he
    have HUN2:=Lib.hid (show docEF (n.sub.take (k2 + 1)) (d.f.take (k2 + 1)) (m :: p') rep df2 lv = docEF (n.sub.take k2) (d.f.take k2) (m :: p') rep df2 lv from by rw [HUP.out.1,if_neg (show ¬ s.id = hdId (m :: p') from he),List.append_nil])
    clear he hup hs hx hxm hsm hkl hks hlt hk hcs0 hcm1
    go_wp2_with fail
    go_roundw
    case rel=>exact ⟨k2 + 1,.slice Pa Pm Pc,.slice Qa Qm Qc,.slice Va Vm Vc,Hlt.out,by go_num,by rw [HUN2.out];exact HO.out,HF.out⟩
    case measure=>have:=Hlt.out;simp [intOf];omega
   have hsm2:s = m:=HEq.out s hsm he
   subst hsm2
   have de:((s.id:Int) == s.id) = true:=by simp
   rw [if_pos (show s.id = hdId (s :: p') from rfl)] at hup
   have hcl:=fun (w2:World) (h2:Below wq.heap.size wq w2)=>HIF.out x hxm (addD c (docEF (n.sub.take k2) (d.f.take k2) (s :: p') rep df2 lv)) (.agg #[.int .i64 c.id,.slice Pa Pm Pc,.slice Qa Qm Qc,.slice Va Vm Vc]) _ pth (k + 1) s p' (.slice xau x.l.length xcu) (.slice xaf x.f.length xcf) rep df2 lv false w2 (HO.out.own.below h2) (Nat.le_trans HO.out.hB h2.size) (HPV.out.under (hfw2.trans (h2.mono HO.out.hB))) HDR2.out (by rw [HPL.out];exact hpl) HMC.out (hu2.under (h2.mono HO.out.hB)) (ht2.under (h2.mono HO.out.hB)) (fun z hz=>HOs.out z (nodesL_mem hsm hz)) (fun z hz=>HDf.out z (dtsL_mem hxm hz)) (fun z hz=>HSs.out z (nodesL_mem hsm hz)) HNs.out (HZ.out k2 s x hs hx) (by omega) (by omega) (by omega) (by omega) (addD_even HEV.out _) (by
    rw [addD_rep]
    have h1:=hup.2
    have h2:=HBD.out.1
    rw [HEn.out] at h2
    omega)
   have hka:((k + 1:Nat):Int) = (k:Int) + 1:=by omega
   rw [hka] at hcl
   unfold DtAt dtA at hcx2
   unfold dtA EntRet at hcl
   have HCX:=Lib.hid hcx2;have HCL:=Lib.hid hcl;have HUP2:=Lib.hid hup
   have hlo0:b0 < B:=hPb
   clear he hup hs hx hxm hsm hkl hks hlt hk hcs0 hcm1 hcl hcx2 hu2 ht2 hfw2 hka HUP hPb hb02
   go_upto_region 29 with fail
   obtain ⟨wr,hwr⟩:∃ wr,wr = wq:=⟨_,rfl⟩
   subst hwr
   have HO0B:=HO.out.hB
   refine AnyE.region (S:=fun w'=>(∀ j_1,w'.cell? ⟨gc,j_1,none⟩ = (#[.int .i64 c.id,.slice Pa Pm Pc,.slice Qa Qm Qc,.slice Va Vm Vc]:Array Value)[j_1]?) ∧ w'.cell? ⟨gc + 1,5,none⟩ = some (.slice (some ⟨b0,off,none⟩) nf cf) ∧ (∀ j v,(#[.bool x.no,.int .i64 x.v.k,.int .i64 x.v.n,.string x.v.s,.slice xau x.l.length xcu,.slice xaf x.f.length xcf]:Array Value)[j]? = some v → w'.cell? ⟨b0,off + k2 * 6 + j,none⟩ = some v)) (E:=[13]) (by kernel_rfl) ?_
   have hbd:=(Below.refl wr.heap.size wr).drew
   replace HO:=Lib.hid (HO.out.keep hbd);replace RDr:=Lib.hid (row_keep hbd RDr.out);replace HF:=Lib.hid (HF.out.trans (Fr.of_below (g:=gc) hbd (Nat.le_refl _) HO0B))
   have HCY:=Lib.hid (show ∀ j v,(#[.bool x.no,.int .i64 x.v.k,.int .i64 x.v.n,.string x.v.s,.slice xau x.l.length xcu,.slice xaf x.f.length xcf]:Array Value)[j]? = some v → wr.drew.cell? ⟨b0,off + k2 * 6 + j,none⟩ = some v from fun j v hj=>HCX.out j v hj)
   have HCL2:=Lib.hid (HCL.out wr.drew hbd)
   clear hbd HCX HCL
   generalize wr.drew = wd at *
   have hS:=(⟨rowc HO.out.row,rowc RDr.out 5,HCY.out⟩:(fun w'=>(∀ j_1,w'.cell? ⟨gc,j_1,none⟩ = (#[.int .i64 c.id,.slice Pa Pm Pc,.slice Qa Qm Qc,.slice Va Vm Vc]:Array Value)[j_1]?) ∧ w'.cell? ⟨gc + 1,5,none⟩ = some (.slice (some ⟨b0,off,none⟩) nf cf) ∧ (∀ j v,(#[.bool x.no,.int .i64 x.v.k,.int .i64 x.v.n,.string x.v.s,.slice xau x.l.length xcu,.slice xaf x.f.length xcf]:Array Value)[j]? = some v → w'.cell? ⟨b0,off + k2 * 6 + j,none⟩ = some v)) wd)
   refine AnyE.take (i:=0) (v:=.agg #[.int .i64 c.id,.slice Pa Pm Pc,.slice Qa Qm Qc,.slice Va Vm Vc]) rfl (by kernel_rfl) (by kernel_rfl) (by kernel_rfl) (by kernel_rfl) (by kernel_rfl) (fun _ _ _ h=>h) (yields_load 51 _ rfl rfl gc (0) rfl #[.int .i64 c.id,.slice Pa Pm Pc,.slice Qa Qm Qc,.slice Va Vm Vc] _ (fun w h=>fun j v hj=>by rw [Nat.zero_add];exact (h.1 j).trans hj) Tryz.underlying51 rfl (by kernel_rfl)) hS ?_
   try simp only [Act.put,List.getElem_toArray,List.getElem_cons_succ,List.getElem_cons_zero,List.setIfInBounds_toArray,List.set_cons_zero,List.set_cons_succ]
   refine AnyE.take (i:=1) (v:=?_) rfl (by kernel_rfl) (by kernel_rfl) (by kernel_rfl) (by kernel_rfl) (by kernel_rfl) (fun _ _ _ h=>h) (Or.inl ⟨by rfl,?_⟩) hS ?_
   rotate_left
   focus (intro wq hSq;obtain ⟨hS1,hS2,hS3⟩:=hSq;go_simp;with_reducible rfl)
   try simp only [Act.put,List.getElem_toArray,List.getElem_cons_succ,List.getElem_cons_zero,List.setIfInBounds_toArray,List.set_cons_zero,List.set_cons_succ]
   refine AnyE.take (i:=2) (v:=?_) rfl (by kernel_rfl) (by kernel_rfl) (by kernel_rfl) (by kernel_rfl) (by kernel_rfl) (fun _ _ _ h=>h) (Or.inl ⟨by rfl,?_⟩) hS ?_
   rotate_left
   focus (intro wq hSq;obtain ⟨hS1,hS2,hS3⟩:=hSq;go_simp;with_reducible rfl)
   try simp only [Act.put,List.getElem_toArray,List.getElem_cons_succ,List.getElem_cons_zero,List.setIfInBounds_toArray,List.set_cons_zero,List.set_cons_succ]
   refine AnyE.take (i:=3) (v:=?_) rfl (by kernel_rfl) (by kernel_rfl) (by kernel_rfl) (by kernel_rfl) (by kernel_rfl) (fun _ _ _ h=>h) (Or.inl ⟨by rfl,?_⟩) hS ?_
   rotate_left
   focus (intro wq hSq;obtain ⟨hS1,hS2,hS3⟩:=hSq;go_simp;with_reducible rfl)
   try simp only [Act.put,List.getElem_toArray,List.getElem_cons_succ,List.getElem_cons_zero,List.setIfInBounds_toArray,List.set_cons_zero,List.set_cons_succ]
   refine AnyE.take (i:=4) (v:=?_) rfl (by kernel_rfl) (by kernel_rfl) (by kernel_rfl) (by kernel_rfl) (by kernel_rfl) (fun _ _ _ h=>h) (Or.inl ⟨by rfl,?_⟩) hS ?_
   rotate_left
   focus (intro wq hSq;obtain ⟨hS1,hS2,hS3⟩:=hSq;go_simp;with_reducible rfl)
   try simp only [Act.put,List.getElem_toArray,List.getElem_cons_succ,List.getElem_cons_zero,List.setIfInBounds_toArray,List.set_cons_zero,List.set_cons_succ]
   refine AnyE.take (i:=5) (v:=?_) rfl (by kernel_rfl) (by kernel_rfl) (by kernel_rfl) (by kernel_rfl) (by kernel_rfl) (fun _ _ _ h=>h) (Or.inl ⟨by rfl,?_⟩) hS ?_
   rotate_left
   focus (intro wq hSq;obtain ⟨hS1,hS2,hS3⟩:=hSq;go_simp;with_reducible rfl)
   try simp only [Act.put,List.getElem_toArray,List.getElem_cons_succ,List.getElem_cons_zero,List.setIfInBounds_toArray,List.set_cons_zero,List.set_cons_succ]
   refine AnyE.take (i:=6) (v:=?_) rfl (by kernel_rfl) (by kernel_rfl) (by kernel_rfl) (by kernel_rfl) (by kernel_rfl) (fun _ _ _ h=>h) (Or.inl ⟨by rfl,?_⟩) hS ?_
   rotate_left
   focus (intro wq hSq;obtain ⟨hS1,hS2,hS3⟩:=hSq;go_simp;with_reducible rfl)
   try simp only [Act.put,List.getElem_toArray,List.getElem_cons_succ,List.getElem_cons_zero,List.setIfInBounds_toArray,List.set_cons_zero,List.set_cons_succ]
   refine AnyE.take (i:=7) (v:=?_) rfl (by kernel_rfl) (by kernel_rfl) (by kernel_rfl) (by kernel_rfl) (by kernel_rfl) (fun _ _ _ h=>h) (Or.inl ⟨by rfl,?_⟩) hS ?_
   rotate_left
   focus (intro wq hSq;obtain ⟨hS1,hS2,hS3⟩:=hSq;go_simp;with_reducible rfl)
   try simp only [Act.put,List.getElem_toArray,List.getElem_cons_succ,List.getElem_cons_zero,List.setIfInBounds_toArray,List.set_cons_zero,List.set_cons_succ]
   refine AnyE.take (i:=8) (v:=.agg #[.bool x.no,.int .i64 x.v.k,.int .i64 x.v.n,.string x.v.s,.slice xau x.l.length xcu,.slice xaf x.f.length xcf]) rfl (by kernel_rfl) (by kernel_rfl) (by kernel_rfl) (by kernel_rfl) (by kernel_rfl) (fun _ _ _ h=>h) (yields_load 46 _ rfl rfl b0 (off + k2 * 6) rfl #[.bool x.no,.int .i64 x.v.k,.int .i64 x.v.n,.string x.v.s,.slice xau x.l.length xcu,.slice xaf x.f.length xcf] _ (fun w h=>h.2.2) Tryz.underlying46 rfl (by kernel_rfl)) hS ?_
   try simp only [Act.put,List.getElem_toArray,List.getElem_cons_succ,List.getElem_cons_zero,List.setIfInBounds_toArray,List.set_cons_zero,List.set_cons_succ]
   refine AnyE.take (i:=9) (v:=?_) rfl (by kernel_rfl) (by kernel_rfl) (by kernel_rfl) (by kernel_rfl) (by kernel_rfl) (fun _ _ _ h=>h) (Or.inl ⟨by rfl,?_⟩) hS ?_
   rotate_left
   focus (intro wq hSq;obtain ⟨hS1,hS2,hS3⟩:=hSq;go_simp;with_reducible rfl)
   try simp only [Act.put,List.getElem_toArray,List.getElem_cons_succ,List.getElem_cons_zero,List.setIfInBounds_toArray,List.set_cons_zero,List.set_cons_succ]
   refine AnyE.take (i:=10) (v:=?_) rfl (by kernel_rfl) (by kernel_rfl) (by kernel_rfl) (by kernel_rfl) (by kernel_rfl) (fun _ _ _ h=>h) (Or.inl ⟨by rfl,?_⟩) hS ?_
   rotate_left
   focus (intro wq hSq;obtain ⟨hS1,hS2,hS3⟩:=hSq;go_simp;with_reducible rfl)
   try simp only [Act.put,List.getElem_toArray,List.getElem_cons_succ,List.getElem_cons_zero,List.setIfInBounds_toArray,List.set_cons_zero,List.set_cons_succ]
   refine AnyE.take (i:=11) (v:=?_) rfl (by kernel_rfl) (by kernel_rfl) (by kernel_rfl) (by kernel_rfl) (by kernel_rfl) (fun _ _ _ h=>h) (Or.inl ⟨by rfl,?_⟩) hS ?_
   rotate_left
   focus (intro wq hSq;obtain ⟨hS1,hS2,hS3⟩:=hSq;go_simp;with_reducible rfl)
   try simp only [Act.put,List.getElem_toArray,List.getElem_cons_succ,List.getElem_cons_zero,List.setIfInBounds_toArray,List.set_cons_zero,List.set_cons_succ]
   refine AnyE.one (i:=12) (by kernel_rfl) rfl rfl ?_
   intro K hK
   simp only [List.getElem_toArray,List.getElem_cons_succ,List.getElem_cons_zero]
   go_simp
   refine HCL2.out.mono ?_;rintro e w4 ⟨u4,rfl,ho4,hf4⟩
   have hcy4:∀ j v,(#[.bool x.no,.int .i64 x.v.k,.int .i64 x.v.n,.string x.v.s,.slice xau x.l.length xcu,.slice xaf x.f.length xcf]:Array Value)[j]? = some v → w4.cell? ⟨b0,off + k2 * 6 + j,none⟩ = some v:=fun j v hj=>(hf4.below.cell (p:=⟨b0,off + k2 * 6 + j,none⟩) hlo0).trans (HCY.out j v hj)
   have hr4:=hf4.tag _ _ _ _ (by decide) (by decide) HO.out.row;have hd4:=hf4.tag _ _ _ _ (by decide) (by decide) RDr.out
   have hS9:=(⟨rowc hr4,rowc hd4 5,hcy4⟩:(fun w'=>(∀ j_1,w'.cell? ⟨gc,j_1,none⟩ = (#[.int .i64 c.id,.slice Pa Pm Pc,.slice Qa Qm Qc,.slice Va Vm Vc]:Array Value)[j_1]?) ∧ w'.cell? ⟨gc + 1,5,none⟩ = some (.slice (some ⟨b0,off,none⟩) nf cf) ∧ (∀ j v,(#[.bool x.no,.int .i64 x.v.k,.int .i64 x.v.n,.string x.v.s,.slice xau x.l.length xcu,.slice xaf x.f.length xcf]:Array Value)[j]? = some v → w'.cell? ⟨b0,off + k2 * 6 + j,none⟩ = some v)) w4)
   refine hK _ _ (fun _=>hS9) ?_
   clear hK K hS hcy4
   obtain ⟨P4,Q4,V4,hu4,hp4,hq4,hv4,ha4⟩:=ho4
   obtain ⟨Pb,Pn,Pd,rfl⟩:=own_capS hp4
   obtain ⟨Qb,Qn,Qd,rfl⟩:=own_capS hq4
   obtain ⟨Vb,Vn,Vd,rfl⟩:=own_capS hv4
   subst hu4
   have HO4:=Lib.hid (show OwnC B w4 _ _ from ⟨_,_,_,rfl,hp4,hq4,hv4,ha4⟩);have HR4:=Lib.hid hr4;have HF4:=Lib.hid (HF.out.trans (hf4.toFr (g:=gc)));have hB4:=Nat.le_trans HO.out.hB hf4.below.size;have hgc4:=HO.out.hg
   clear hp4 hq4 hv4 ha4 hr4 hd4 hf4 hS9 HCL2
   try simp only [Act.put,List.getElem_toArray,List.getElem_cons_succ,List.getElem_cons_zero,List.setIfInBounds_toArray,List.set_cons_zero,List.set_cons_succ]
   refine AnyE.one (i:=13) (by kernel_rfl) rfl rfl ?_
   intro K hK
   simp only [List.getElem_toArray,List.getElem_cons_succ,List.getElem_cons_zero]
   refine wp_store_part rfl 51 _ _ rfl gc 0 #[.int .i64 c.id,.slice Pa Pm Pc,.slice Qa Qm Qc,.slice Va Vm Vc] 51 #[.int .i64 c.id,.slice Pb Pn Pd,.slice Qb Qn Qd,.slice Vb Vn Vd] rfl rfl HR4.out (by kernel_rfl) (by simp [Value.oneCell']) (Nat.le_of_ble_eq_true rfl) #[.int .i64 c.id,.slice Pb Pn Pd,.slice Qb Qn Qd,.slice Vb Vn Vd] rfl ?_;intro w6 r6 ho6 hb6 hz6
   refine hK _ _ (fun h=>absurd h (by decide)) ?_
   clear hK K
   try simp only [Act.put,List.getElem_toArray,List.getElem_cons_succ,List.getElem_cons_zero,List.setIfInBounds_toArray,List.set_cons_zero,List.set_cons_succ]
   have HO6:=Lib.hid (OcS.set rfl HO4.out HR4.out r6 ho6 hz6 hB4 hgc4)
   have HF6:=Lib.hid (HF4.out.trans (fr_part hgc4 ho6 hb6))
   clear r6 ho6 hb6 hz6
   refine AnyE.done (by kernel_rfl) ?_ _
   go_wp2_with fail
   go_roundw
   case rel =>
    refine ⟨k2 + 1,.slice Pb Pn Pd,.slice Qb Qn Qd,.slice Vb Vn Vd,Hlt.out,by go_num,?_,HF6.out⟩
    rw [HUP2.out.1,← addD_app]
    exact HO6.out
   case measure=>have:=Hlt.out;simp [intOf];omega
end Go.Proofs.YtkmhmnffbgedgaaGreatDoor
