/- The walks of the document's Flat and FindOf once more: the nodes' blocks lie in a set that is told. Written by gen_flatp.py. -/
import Derived.Test.YtkmhmnffbgedgaaGreatDoorTv3
namespace Go.Proofs.YtkmhmnffbgedgaaGreatDoor
set_option maxHeartbeats 8000000
set_option linter.unusedVariables false
set_option linter.unusedSimpArgs false
open Go Go.RowKit Go.ChangeShapes
def FlatRetP (B:Nat) (P:Nat → Prop) (w0:World) (F:List Pl) (e:Ending) (w:World):Prop :=
 ∃ v L,e = .returned v ∧ w.ownsRow B 55 7 v L.length (L.flatMap plCells) ∧ L.map PlV.pl = F ∧ PlsOk P w L ∧ Kp B (fun _=>False) w0 w
set_option maxRecDepth 100000 in
theorem flatP_any (B:Nat) (P:Nat → Prop) (hP:∀ b,P b → b < B):∀ (n:Nd),∀ (u v:Value) (L:List PlV) (k ar:Int) (w:World),B ≤ w.heap.size → IsNds P w u n.sub → (∀ x ∈ nodes n,x.Ok1) → w.ownsRow B 55 7 v L.length (L.flatMap plCells) → PlsOk P w L →
  L.length ≤ 2001 → 0 ≤ k → k ≤ 101 → -1 ≤ ar → ar ≤ 100000 →
  Calls Tryz.prog 32 #[v,.agg (ndA n u),.int .i64 k,.int .i64 ar] w (FlatRetP B P w (flatF (L.map PlV.pl) n k ar)):=by
 apply Nd.ind
 intro n IH u v L k ar w hB hN hO hown hok hlL hk0 hk1 ha0 ha1
 have hOs:∀ x ∈ nodesL n.sub,x.Ok1:=fun x hx=>hO x (by rw [nodes_eq];exact List.mem_cons_of_mem _ hx)
 have hO1:=hO n (by rw [nodes_eq];exact List.mem_cons_self ..)
 have hlen:=hO1.sub
 obtain ⟨F,hF⟩:∃ F,flatF (L.map PlV.pl) n k ar = F:=⟨_,rfl⟩
 rw [hF]
 rw [flatF_eq,List.length_map] at hF
 obtain ⟨l,hl⟩:∃ l,n.sub = l:=⟨_,rfl⟩
 obtain ⟨ad,cp,rfl⟩:=hN.form
 obtain ⟨av,cv,rfl⟩:=own_form hown
 rw [hl] at hN hF hlen hOs IH ⊢
 obtain ⟨len,hnl⟩:∃ len,l.length = len:=⟨_,rfl⟩
 rw [hnl] at hN hlen ⊢
 obtain ⟨N,hLN⟩:∃ N,L.length = N:=⟨_,rfl⟩
 rw [hLN] at hown hlL hF ⊢
 have HLN:=Lib.hid hLN;have HL:=Lib.hid hnl;have HF:=Lib.hid hF;have HN:=Lib.hid hN;have HOs:=Lib.hid hOs;have HIH:=Lib.hid IH;have HOK:=Lib.hid hok;have HOW:=Lib.hid hown
 have HNS:=Lib.hid hl
 clear hLN hnl hl hF hN hOs IH hO hO1 hok hown
 unfold ndA
 obtain ⟨i0,hi,hz0,hz1,hz2⟩:=info_parts pl_info
 have hw1:Below w.heap.size w (w.alloc (.cells #[.int .i64 n.id,.string n.name,.int .i64 n.rep,.int .i64 n.kind,.slice ad len cp] 24)):=(Below.refl _ _).alloc (Nat.le_refl _) _
 have HW1:=Lib.hid hw1
 have HR1:=Lib.hid (heap_alloc_new w (.cells #[.int .i64 n.id,.string n.name,.int .i64 n.rep,.int .i64 n.kind,.slice ad len cp] 24))
 clear hw1
 by_cases hc:2000 < N ∨ 100 < k
 case pos =>
  have HF2:=HF.out
  rw [if_pos hc] at HF2
  have HF3:=Lib.hid HF2
  clear HF2
  by_cases h1:2000 < N
  ·have d1:decide ((2000:Int) < (N:Int)) = true:=decide_eq_true (by omega)
   clear hc h1
   go_enter Tryz.func32,Tryz.ntmps32
   go_wp2_with fail
   go_ret
   exact ⟨_,L,rfl,own_len (own_blw HOW.out HW1.out) HLN.out,HF3.out,fun p hp=>(HOK.out p hp).belowP hP (HW1.out.mono hB),Kp.of_below HW1.out hB⟩
  ·have d1:decide ((2000:Int) < (N:Int)) = false:=decide_eq_false (by omega)
   have h2:100 < k:=hc.resolve_left h1
   have d2:decide (100 < k) = true:=decide_eq_true h2
   clear hc h1 h2
   go_enter Tryz.func32,Tryz.ntmps32
   go_wp2_with fail
   go_ret
   exact ⟨_,L,rfl,own_len (own_blw HOW.out HW1.out) HLN.out,HF3.out,fun p hp=>(HOK.out p hp).belowP hP (HW1.out.mono hB),Kp.of_below HW1.out hB⟩
 have d1:decide ((2000:Int) < (N:Int)) = false:=decide_eq_false (by omega)
 have d2:decide (100 < k) = false:=decide_eq_false fun h=>hc (.inr h)
 have hk2:k ≤ 100:=by omega
 have HF2:=HF.out
 rw [if_neg hc] at HF2
 have hlL2:N ≤ 2000:=by omega
 clear HF hc
 have HF:=Lib.hid HF2
 clear HF2
 go_enter Tryz.func32,Tryz.ntmps32
 go_upto_region 4 with fail
 replace HOW:=Lib.hid (own_blw HOW.out HW1.out);replace HOK:=Lib.hid (show PlsOk P _ L from fun p hp=>(HOK.out p hp).belowP hP (HW1.out.mono hB));have HK:=Lib.hid (Kp.of_below (M:=fun _=>False) HW1.out hB)
 have hbz:=Nat.le_trans hB HW1.out.size
 generalize (w.alloc (.cells #[.int .i64 n.id,.string n.name,.int .i64 n.rep,.int .i64 n.kind,.slice ad len cp] 24)) = w1 at *
 clear HW1
 have RN:=Lib.hid HR1.out
 clear HR1
 have cN:=rowc RN.out
 have h63:L.length + 1 ≤ maxLen:=by have:=HLN.out;unfold maxLen;omega
 have h64:(L.length + 1) * 80 ≤ 140737488355328:=by have:=HLN.out;omega
 obtain ⟨p,hp⟩:∃ p:PlV,p = ⟨n,.slice ad len cp,k,ar⟩:=⟨_,rfl⟩
 have HPC:=Lib.hid (show [.int .i64 n.id,.string n.name,.int .i64 n.rep,.int .i64 n.kind,.slice ad len cp,.int .i64 k,.int .i64 ar] = plCells p by subst hp;rfl)
 have HPL:=Lib.hid (show p.pl = ⟨n,k,ar⟩ by subst hp;rfl)
 have HPO:=Lib.hid (show ∀ W,IsNds P W (.slice ad len cp) l → IsNds P W p.u p.n.sub by subst hp;intro W h;rw [HNS.out];exact h)
 clear hp
 go_wp2_with (at_builtin;refine wpList_pushRow rfl _ _ 52 rfl B 55 i0 _ 7 80 Tryz.underlying52 hi hz0 hz1 hz2 rfl (by decide) plCells (fun _=>rfl) plCells_one _ L rfl (own_len HOW.out HLN.out) _ _ rfl rfl h63 h64 hbz p _ HPC.out ?_;intro v' w2 hown' hgr _;have HO2:=Lib.hid hown';have HG2:=Lib.hid hgr;clear hown' hgr)
 have hkg:Kp B (fun _=>False) w1 w2:=(Kp.refl B _ w1).grown HOW.out ⟨by decide,by decide⟩ (Nat.le_refl _) hbz HG2.out
 replace RN:=Lib.hid (hkg.keep _ _ _ _ (.inl rfl) id RN.out)
 replace HK:=Lib.hid (HK.out.trans hkg)
 have hok2:PlsOk P w2 (L ++ [p]):=fun q hq=>by
  rcases List.mem_append.1 hq with hq | hq
  ·exact (HOK.out q hq).belowP hP hkg.below
  ·obtain rfl:q = p:=by simpa using hq
   exact HPO.out w2 (HN.out.belowP hP HK.out.below)
 have hm2:(L ++ [p]).map PlV.pl = L.map PlV.pl ++ [⟨n,k,ar⟩]:=by simp [HPL.out]
 have hl2:(L ++ [p]).length ≤ 2001:=by have:=HLN.out;simp;omega
 have HF0:=HF.out
 rw [← hm2] at HF0
 have HL2:=Lib.hid hl2;have HOK2:=Lib.hid hok2;have HF2:=Lib.hid HF0
 clear hkg hok2 hm2 hl2 HF0 HF HPL HPO HPC HOK HOW cN h63 h64 HG2
 generalize L ++ [p] = L2 at *
 clear HLN
 go_loopw [0,10] (fun s0 i wr=>∃ (j:Nat) (v3:Value) (L3:List PlV),j ≤ len ∧ i = .int .i64 (j:Nat) ∧ v3 = s0 ∧ Hid (wr.ownsRow B 55 7 v3 L3.length (L3.flatMap plCells)) ∧ Hid (flatFL (L3.map PlV.pl) (l.drop j) (k + 1) (N:Nat) = F) ∧ Hid (PlsOk P wr L3) ∧ Hid (L3.length ≤ 2001) ∧ Hid (Kp B (fun _=>False) w wr) ∧ wr.heap[w.heap.size]? = some (.cells #[.int .i64 n.id,.string n.name,.int .i64 n.rep,.int .i64 n.kind,.slice ad len cp] 24 (0,0))) (fun _ i _=>len - (intOf i).toNat)
 case atStart=>exact ⟨0,_,L2,Nat.zero_le _,rfl,rfl,HO2.out,HF2.out,HOK2.out,HL2.out,HK.out,RN.out⟩
 case round =>
  obtain ⟨j,v3,L3,hj,rfl,hv3,HO,HFj,HOKj,HLj,HKj,rN⟩:=hrel
  subst hv3
  clear RN HK HL2 HOK2 HF2 HO2
  have RN:=Lib.hid rN
  clear rN
  have hbz3:=Nat.le_trans hB HKj.out.below.size
  by_cases hlt:j < len
  ·have hjl:j < l.length:=by rw [HL.out];exact hlt
   obtain ⟨b0,off,rfl,hPb,hb0,hat⟩:=(HN.out.belowP hP HKj.out.below).at (by omega)
   obtain ⟨ux,hcx,hnx⟩:=hat j l[j] (List.getElem?_eq_getElem hjl)
   have hdr:l.drop j = l[j] :: l.drop (j + 1):=List.drop_eq_getElem_cons hjl
   have hOx:∀ y ∈ nodes l[j],y.Ok1:=fun y hy=>HOs.out y (nodesL_mem (List.getElem_mem hjl) hy)
   have hIx:=HIH.out l[j] (List.getElem_mem hjl)
   have hin:(j:Int) < (len:Int):=by omega
   have Hlt:=Lib.hid hlt
   have hE2:=HFj.out
   rw [hdr] at hE2
   simp only [flatFL] at hE2
   generalize l[j] = x at *
   obtain ⟨ax,cx,rfl⟩:=hnx.form
   unfold NdAt ndA at hcx
   have HCX:=Lib.hid hcx;have HE2:=Lib.hid hE2
   have HCL:=Lib.hid (hIx (.slice ax x.sub.length cx) v3 L3 (k + 1) (N:Nat) wr hbz3 hnx hOx HO.out HOKj.out HLj.out (by omega) (by omega) (by omega) (by omega))
   unfold ndA at HCL
   have HL3:=Lib.hid HLj.out
   clear hat hjl hdr hOx hIx hcx hPb hE2 hnx HFj HO HOKj HLj
   have cN:=rowc RN.out
   go_wp2_with (refine wpList_load_cells rfl 24 _ rfl b0 (off + j * 5) rfl #[.int .i64 x.id,.string x.name,.int .i64 x.rep,.int .i64 x.kind,.slice ax x.sub.length cx] _ HCX.out Tryz.underlying24 rfl nd_info ?_)
   refine HCL.out.mono ?_;rintro e w4 ⟨v4,L4,rfl,ho4,hm4,hok4,hk4⟩
   have RN4:=Lib.hid (hk4.keep _ _ _ _ (.inl rfl) id RN.out)
   have HO4:=Lib.hid ho4;have HOK4:=Lib.hid hok4;have HK4:=Lib.hid (HKj.out.trans hk4)
   have HL4:=Lib.hid (show L4.length ≤ 2001 by have:=flatF_len.1 x (L3.map PlV.pl) (k + 1) (N:Nat) (by rw [List.length_map];exact HL3.out);rw [← hm4,List.length_map] at this;exact this)
   have hE4:=HE2.out
   rw [← hm4] at hE4
   have HE4:=Lib.hid hE4
   clear ho4 hok4 hk4 hm4 hE4 HE2 HCL cN RN HCX
   go_wp2_with fail
   go_roundw
   case rel=>exact ⟨j + 1,v4,L4,Hlt.out,by go_num,rfl,HO4.out,HE4.out,HOK4.out,HL4.out,HK4.out,RN4.out⟩
   case measure=>have:=Hlt.out;simp [intOf];omega
  ·obtain rfl:j = len:=by omega
   have hE2:=HFj.out
   rw [List.drop_of_length_le (Nat.le_of_eq HL.out)] at hE2
   simp only [flatFL] at hE2
   have HE2:=Lib.hid hE2
   clear hE2 HFj
   have cN:=rowc RN.out
   go_wp2_with fail
   go_ret
   exact ⟨v3,L3,rfl,HO.out,HE2.out,HOKj.out,HKj.out⟩
set_option maxRecDepth 100000 in
theorem flatPB_any (B:Nat) (P:Nat → Prop) (hP:∀ b,P b → b < B) (n:Nd) (u:Value) (w:World) (hB:B ≤ w.heap.size) (hN:IsNds P w u n.sub) (hO:∀ x ∈ nodes n,x.Ok1) :
  Calls Tryz.prog 15 #[.agg (ndA n u)] w fun e w'=>FlatRetP B P w (flatF [] n 1 (-1)) e w':=by
 have hw:Below w.heap.size w (w.alloc (.cells (ndA n u) 24)):=(Below.refl _ _).alloc (Nat.le_refl _) _
 have hc:=flatP_any B P hP n u (.slice none 0 0) [] 1 (-1) _ (Nat.le_trans hB hw.size) (hN.belowP hP (hw.mono hB)) hO (World.ownsRow_nil _ _ _ _) (fun p hp=>by simp at hp) (by simp) (by omega) (by omega) (by omega) (by omega)
 have HC:=Lib.hid hc
 have HK:=Lib.hid (Kp.of_below (M:=fun _=>False) hw hB)
 obtain ⟨ad,cp,rfl⟩:=hN.form
 clear hc hw hN hO
 unfold ndA at *
 go_enter Tryz.func15,Tryz.ntmps15
 go_wp2_with fail
 refine HC.out.mono ?_;rintro e w4 ⟨v4,L4,rfl,ho4,hm4,hok4,hk4⟩
 have H:=Lib.hid (show FlatRetP B P w (flatF [] n 1 (-1)) (.returned v4) w4 from ⟨v4,L4,rfl,ho4,hm4,hok4,HK.out.trans hk4⟩)
 clear ho4 hm4 hok4 hk4 HC
 go_wp2_with fail
 go_ret
 exact H.out
def FindRetP (P:Nat → Prop) (F:List Pl) (id:Int) (w:World) (e:Ending) (w':World):Prop :=
 Below w.heap.size w w' ∧ ((∃ p a c,findD F id = some p ∧ e = .returned (.tuple #[.agg (ndA p.n (.slice a p.n.sub.length c)),.bool true]) ∧ IsNds P w' (.slice a p.n.sub.length c) p.n.sub) ∨
  (findD F id = none ∧ e = .returned (.tuple #[.agg (ndA zeroNd (.slice none 0 0)),.bool false])))
set_option maxRecDepth 100000 in
theorem findOfP_any (P:Nat → Prop) (n:Nd) (u:Value) (id:Int) (w:World) (hN:IsNds P w u n.sub) (hO:∀ x ∈ nodes n,x.Ok1) (hP:∀ b,P b → b < w.heap.size) :
    Calls Tryz.prog 30 #[.agg (ndA n u),.int .i64 id] w (FindRetP P (flatF [] n 1 (-1)) id w):=by
  obtain ⟨ad,cp,hu⟩:=hN.form
  obtain ⟨len,hlen⟩:∃ len,n.sub.length = len:=⟨_,rfl⟩
  rw [hlen] at hu
  subst hu
  obtain ⟨rN,rZ,hbw,hz⟩:=rows2 (w:=w) (A:=.cells #[.int .i64 n.id,.string n.name,.int .i64 n.rep,.int .i64 n.kind,.slice ad len cp] 24) (B:=.cells #[.int .i64 0,.string ⟨#[]⟩,.int .i64 0,.int .i64 0,.slice none 0 0] 24) (Below.refl _ _)
  have hb2:w.heap.size + 2 ≤ ((w.alloc (.cells #[.int .i64 n.id,.string n.name,.int .i64 n.rep,.int .i64 n.kind,.slice ad len cp] 24)).alloc (.cells #[.int .i64 0,.string ⟨#[]⟩,.int .i64 0,.int .i64 0,.slice none 0 0] 24)).heap.size:=row_lt rZ
  have HC:=Lib.hid (flatPB_any w.heap.size P hP n (.slice ad len cp) _ hbw.size (hN.belowP hP hbw) hO)
  have hle:(flatF [] n 1 (-1)).length ≤ 2001:=flatF_len.1 n [] 1 (-1) (by simp)
  have hne:0 < (flatF [] n 1 (-1)).length:=by rw [flatF_eq,if_neg (by simp)];exact Nat.lt_of_lt_of_le (by simp) (flat_pre.2 n.sub _ _ _).length_le
  obtain ⟨F,hF⟩:∃ F,flatF [] n 1 (-1) = F:=⟨_,rfl⟩
  rw [hF] at HC hle hne ⊢
  have HN:=Lib.hid hN;have HW0:=Lib.hid hbw;have RN:=Lib.hid rN;have RZ:=Lib.hid rZ
  unfold ndA at *
  clear hbw hF hN hO rN rZ hz hlen
  go_enter Tryz.func30,Tryz.ntmps30
  go_wp2_with fail
  refine HC.out.mono ?_;rintro e w1 ⟨v,L,rfl,ho,hm,hok,hk⟩
  replace RZ:=Lib.hid (hk.keep _ _ _ _ (.inl rfl) (fun h=>h) RZ.out);have HB:=Lib.hid (HW0.out.trans hk.below)
  have hb21:=Nat.le_trans hb2 hk.below.size
  subst hm
  rw [List.length_map] at hne hle
  obtain ⟨g,cv,rfl,hgB,hgz,hpa⟩:=pls_at ho hne
  have HPA:=Lib.hid hpa
  have HOK:=Lib.hid hok
  clear ho hok hk hpa HC RN HN
  obtain ⟨N,hN⟩:∃ N,L.length = N:=⟨_,rfl⟩
  rw [hN] at hne hle ⊢
  have HLN:=Lib.hid hN
  clear hN
  generalize ((w.alloc (.cells #[.int .i64 n.id,.string n.name,.int .i64 n.rep,.int .i64 n.kind,.slice ad len cp] 24)).alloc (.cells #[.int .i64 0,.string ⟨#[]⟩,.int .i64 0,.int .i64 0,.slice none 0 0] 24)) = w0 at *
  go_wp2_with fail
  go_loop [7] (fun i=>∃ k:Nat,k ≤ N ∧ i = .int .i64 (k:Nat) ∧ Hid (∀ (q:Nat) p,q < k → L[q]? = some p → p.n.id ≠ id)) (fun i=>N - (intOf i).toNat)
  case atStart=>exact ⟨0,Nat.zero_le _,rfl,fun q p hq=>absurd hq (Nat.not_lt_zero _)⟩
  case round =>
    obtain ⟨k,hk,rfl,HD⟩:=hrel
    by_cases hlt:k < N
    · have hkl:k < L.length:=by rw [HLN.out];exact hlt
      have hg:=List.getElem?_eq_getElem hkl
      have e0:=HPA.out.id k _ hg
      have hin:(k:Int) < (N:Int):=by omega
      by_cases hx:L[k].n.id = id
      · have hfd:findD (L.map PlV.pl) id = some L[k].pl:=by
          unfold findD
          rw [List.find?_eq_some_iff_getElem]
          refine ⟨decide_eq_true hx,k,by rw [List.length_map];exact hkl,by simp,fun q hq=>?_⟩
          have hql:q < L.length:=by omega
          have:=HD.out q L[q] hq (List.getElem?_eq_getElem hql)
          simpa [PlV.pl] using this
        have hxe:((L[k].n.id:Int) == id) = true:=by simpa using hx
        have e1:=HPA.out.name k _ hg;have e2:=HPA.out.rep k _ hg;have e3:=HPA.out.kind k _ hg;have e4:=HPA.out.sub k _ hg
        have hnx:=HOK.out _ (List.getElem_mem hkl)
        generalize L[k] = p at *
        obtain ⟨ax,cx,hux⟩:=hnx.form
        rw [hux] at e4 hnx
        obtain ⟨sl,hsl⟩:∃ sl,p.n.sub.length = sl:=⟨_,rfl⟩
        rw [hsl] at e4 hnx
        change w1.cell? ⟨g,k * 7 + 4,none⟩ = some (.slice ax sl cx) at e4
        have HCX:=Lib.hid (show ∀ jj v,(#[.int .i64 p.n.id,.string p.n.name,.int .i64 p.n.rep,.int .i64 p.n.kind,.slice ax sl cx]:Array Value)[jj]? = some v → w1.cell? ⟨g,k * 7 + jj,none⟩ = some v from fun jj v h=>by
          match jj,h with
          | 0,h=>simp at h;subst h;exact e0
          | 1,h=>simp at h;subst h;exact e1
          | 2,h=>simp at h;subst h;exact e2
          | 3,h=>simp at h;subst h;exact e3
          | 4,h=>simp at h;subst h;exact e4
          | jj + 5,h=>simp at h)
        have HFD:=Lib.hid hfd;have HNX:=Lib.hid hnx;have HSL:=Lib.hid hsl
        clear hg hkl hx HD hfd hnx hux hsl e1 e2 e3 e4
        go_wp2_with (first | (refine wpList_load_cells rfl 24 _ rfl g (k * 7) rfl #[.int .i64 p.n.id,.string p.n.name,.int .i64 p.n.rep,.int .i64 p.n.kind,.slice ax sl cx] _ HCX.out Tryz.underlying24 rfl nd_info ?_) | (refine wpList_store_part rfl 24 _ _ rfl (w.heap.size + 1) 0 _ 24 #[.int .i64 p.n.id,.string p.n.name,.int .i64 p.n.rep,.int .i64 p.n.kind,.slice ax sl cx] rfl rfl RZ.out nd_info (by simp [Value.oneCell']) (Nat.le_of_ble_eq_true rfl) #[.int .i64 p.n.id,.string p.n.name,.int .i64 p.n.rep,.int .i64 p.n.kind,.slice ax sl cx] rfl ?_;intro w7 hr7 ho7 hb7 hz7;have RZ7:=Lib.hid hr7;have HO7:=Lib.hid ho7;have HB7:=Lib.hid hb7;have HZ7:=Lib.hid hz7;clear hr7 ho7 hb7 hz7))
        have HRB:=Lib.hid (HB.out.trans (HB7.out.mono (Nat.le_succ _)))
        have hx7:IsNds P w7 (.slice ax sl cx) p.n.sub:=HNX.out.keep (Nat.le_of_eq HZ7.out.symm) (fun b hb _=>HO7.out b (by have:b < w.heap.size:=hP b hb;omega))
        refine bodyPost_ret (v:=.tuple #[.agg #[.int .i64 p.n.id,.string p.n.name,.int .i64 p.n.rep,.int .i64 p.n.kind,.slice ax sl cx],.bool true]) (results_row_tmp Tryz.results30 _ _ (w.heap.size + 1) 24 _ (0,0) _ rfl RZ7.out Tryz.underlying24 rfl (by kernel_rfl)) rfl ⟨HRB.out,.inl ⟨p.pl,ax,cx,HFD.out,?_,?_⟩⟩
        · show _ = Ending.returned (.tuple #[.agg (ndA p.n (.slice ax p.n.sub.length cx)),.bool true])
          rw [HSL.out];rfl
        · show IsNds P w7 (.slice ax p.n.sub.length cx) p.n.sub
          rw [HSL.out];exact hx7
      · have HD2:=Lib.hid (show ∀ (q:Nat) p,q < k + 1 → L[q]? = some p → p.n.id ≠ id from fun q p hq hp=>by
          rcases Nat.lt_succ_iff_lt_or_eq.1 hq with h2 | h2
          · exact HD.out q p h2 hp
          · subst h2;rw [hg] at hp;injection hp with hp;rw [← hp];exact hx)
        have hxe:((L[k].n.id:Int) == id) = false:=by simpa using hx
        generalize L[k] = p at *
        clear hg hkl hx HD
        go_wp2_with fail
        go_round
        case rel=>exact ⟨k + 1,by omega,by go_num,HD2.out⟩
        case measure=>simp [intOf];omega
    · obtain rfl:k = N:=by omega
      have hfd:findD (L.map PlV.pl) id = none:=by
        unfold findD
        rw [List.find?_eq_none]
        intro x hx
        obtain ⟨p,hp,rfl⟩:=List.mem_map.1 hx
        obtain ⟨q,hq,e⟩:=List.mem_iff_getElem.1 hp
        have:=HD.out q p (by rw [HLN.out] at hq;exact hq) (by rw [List.getElem?_eq_getElem hq,e])
        exact fun h=>this (of_decide_eq_true h)
      have HFD:=Lib.hid hfd
      clear hfd HD
      go_wp2_with (refine wpList_store_part rfl 24 _ _ rfl (w.heap.size + 1) 0 _ 24 #[.int .i64 0,.string ⟨#[]⟩,.int .i64 0,.int .i64 0,.slice none 0 0] rfl rfl RZ.out nd_info (by simp [Value.oneCell']) (Nat.le_of_ble_eq_true rfl) #[.int .i64 0,.string ⟨#[]⟩,.int .i64 0,.int .i64 0,.slice none 0 0] rfl ?_;intro w7 hr7 ho7 hb7 hz7;have RZ7:=Lib.hid hr7;have HO7:=Lib.hid ho7;have HB7:=Lib.hid hb7;have HZ7:=Lib.hid hz7;clear hr7 ho7 hb7 hz7)
      have HRB:=Lib.hid (HB.out.trans (HB7.out.mono (Nat.le_succ _)))
      exact bodyPost_ret (v:=.tuple #[.agg #[.int .i64 0,.string ⟨#[]⟩,.int .i64 0,.int .i64 0,.slice none 0 0],.bool false]) (results_row_tmp Tryz.results30 _ _ (w.heap.size + 1) 24 _ (0,0) _ rfl RZ7.out Tryz.underlying24 rfl (by kernel_rfl)) rfl ⟨HRB.out,.inr ⟨HFD.out,rfl⟩⟩
end Go.Proofs.YtkmhmnffbgedgaaGreatDoor
