/- The walk of shred's (*writer).none: an entry without a value for each leaf in a node. -/
import Derived.Test.YtkmhmnffbgedgaaGreatDoorSh2
namespace Go.Proofs.YtkmhmnffbgedgaaGreatDoor
set_option maxHeartbeats 16000000
set_option linter.unusedVariables false
set_option linter.unusedSimpArgs false
open Go Go.RowKit Go.ChangeShapes
def addE (mx:Nat → Int) (C:Nat → Col) (E:Nat → List Ent):Nat → Col:=fun j=>addC (mx j) (C j) (E j)
theorem addE_nil (mx:Nat → Int) (C:Nat → Col):addE mx C (fun _=>[]) = C:=by funext j;exact addC_nil _ _
theorem addE_app (mx:Nat → Int) (C:Nat → Col) (E F:Nat → List Ent):addE mx (addE mx C E) F = addE mx C (fun j=>E j ++ F j):=by funext j;exact addC_app _ _ _ _
theorem addE_rep (mx:Nat → Int) (C:Nat → Col) (E:Nat → List Ent) (j:Nat):(addE mx C E j).rep.length = (C j).rep.length + (E j).length:=by simp [addE,addC]
theorem putC_one (mx:Nat → Int) (C:Nat → Col) (j:Nat) (e:Ent):putC mx C j e = addE mx C (noneE 1 j e):=by
 funext i
 unfold putC addE noneE
 by_cases h:i = j
 ·subst h;rw [upd_same,if_pos (by omega)]
 ·rw [upd_ne _ _ h,if_neg (by omega),addC_nil]
theorem noneE_zero (leaf:Nat) (e:Ent):noneE 0 leaf e = fun _=>[]:=by funext j;exact noneE_out (by omega)
theorem noneE_add (a b leaf:Nat) (e:Ent):(fun j=>noneE a leaf e j ++ noneE b (leaf + a) e j) = noneE (a + b) leaf e:=by
 funext j
 unfold noneE
 by_cases h1:leaf ≤ j ∧ j < leaf + a
 ·rw [if_pos h1,if_neg (by omega),if_pos (by omega)];rfl
 ·rw [if_neg h1]
  by_cases h2:leaf + a ≤ j ∧ j < leaf + a + b
  ·rw [if_pos h2,if_pos (by omega)];rfl
  ·rw [if_neg h2,if_neg (by omega)];rfl
def WrRet (B0 B W g cap n:Nat) (mv:Value) (mx ids:Nat → Int) (C:Nat → Col) (E:Nat → List Ent) (m:Nat) (w:World) (e:Ending) (w':World):Prop :=
 e = .returned (.int .i64 (m:Nat)) ∧ Wr B0 B W g cap n mv mx ids w' (addE mx C E) ∧ Fr B0 B g w w'
theorem Fr.node {B0 B g b:Nat} {w w':World} {cs:Array Value} (h:Fr B0 B g w w') (hb:w.heap[b]? = some (.cells cs 24 (0,0))) (hne:b ≠ g):w'.heap[b]? = some (.cells cs 24 (0,0)):=h.tag b cs _ _ (by decide) (by decide) hne hb
set_option maxRecDepth 100000 in
theorem none_any {B0 B W g cap n:Nat} {mv:Value} {mx ids:Nat → Int} (rep df:Int):∀ (nd:Nd) (u:Value) (C:Nat → Col) (leaf:Nat) (w:World),Wr B0 B W g cap n mv mx ids w C → IsNds (· < B0) w u nd.sub → (∀ x ∈ nodes nd,x.Ok1) → leaf + lvs nd ≤ n →
  (∀ j,j < n → leaf ≤ j → j < leaf + lvs nd → (C j).rep.length + 1 ≤ 1000000) →
  Calls Tryz.prog 38 #[.pointer (some ⟨W,0,none⟩),.agg (ndA nd u),.int .i64 (leaf:Nat),.int .i64 rep,.int .i64 df] w (WrRet B0 B W g cap n mv mx ids C (noneE (lvs nd) leaf ⟨rep,df,zeroV⟩) (lvs nd) w):=by
 apply Nd.ind
 intro nd IH u C leaf w hw hN hO hlf hC
 have hOs:∀ x ∈ nodesL nd.sub,x.Ok1:=fun x hx=>hO x (by rw [nodes_eq];exact List.mem_cons_of_mem _ hx)
 have hlen:=(hO nd (by rw [nodes_eq];exact List.mem_cons_self ..)).sub
 have hn1:=hw.n1
 have hB:=hw.hB
 have hgB:=hw.hg
 rw [lvs_eq] at hlf hC ⊢
 obtain ⟨l,hl⟩:∃ l,nd.sub = l:=⟨_,rfl⟩
 obtain ⟨ad,cp,rfl⟩:=hN.form
 rw [hl] at hN hlen hOs IH hlf hC ⊢
 obtain ⟨len,hnl⟩:∃ len,l.length = len:=⟨_,rfl⟩
 rw [hnl] at hN hlen ⊢
 obtain ⟨m,hm⟩:∃ m,(if nd.kind = 0 then lvsL l else 1) = m:=⟨_,rfl⟩
 rw [hm] at hlf hC ⊢
 have HM:=Lib.hid hm
 clear hm
 have HL:=Lib.hid hnl;have HN:=Lib.hid hN;have HOs:=Lib.hid hOs;have HIH:=Lib.hid IH;have HC:=Lib.hid hC;have HW:=Lib.hid hw;have H0:=Lib.hid hw.h0
 clear hnl hl hN hOs IH hO hC hw
 have hbx:=(Below.refl w.heap.size w).alloc (Nat.le_refl _) (.cells #[.int .i64 nd.id,.string nd.name,.int .i64 nd.rep,.int .i64 nd.kind,.slice ad len cp] 24)
 have hrx:=heap_alloc_new w (.cells #[.int .i64 nd.id,.string nd.name,.int .i64 nd.rep,.int .i64 nd.kind,.slice ad len cp] 24)
 have HF:=Lib.hid (Fr.of_below (g:=g) hbx H0.out hB);have RN:=Lib.hid hrx;have HWX:=Lib.hid (HW.out.keep hbx)
 have hgx:g ≠ w.heap.size:=by omega
 clear hbx hrx
 unfold ndA
 go_enter Tryz.func38,Tryz.ntmps38
 go_upto_region 1 with fail
 generalize w.alloc (.cells #[.int .i64 nd.id,.string nd.name,.int .i64 nd.rep,.int .i64 nd.kind,.slice ad len cp] 24) = w1 at *
 have cN:=rowc RN.out
 by_cases hk:nd.kind = 0
 case neg =>
  have dk:((nd.kind:Int) != 0) = true:=by simpa using hk
  have HK:=Lib.hid hk
  obtain rfl:m = 1:=by rw [← HM.out,if_neg hk]
  have HP:=Lib.hid (putE_any (r:=rep) (d:=df) w1 C leaf zeroV HWX.out (by omega) (HC.out leaf (by omega) (Nat.le_refl _) (by omega)))
  rw [show valA zeroV = #[.int .i64 0,.int .i64 0,.string ByteArray.empty] from rfl] at HP
  clear hk
  go_wp2_with fail
  refine HP.out.mono ?_;rintro e w4 ⟨rfl,hw4,hf4⟩
  have HW4:=Lib.hid hw4;have HF4:=Lib.hid (HF.out.trans hf4)
  clear hw4 hf4 cN HP
  go_wp2_with fail
  go_ret
  exact ⟨rfl,by rw [← putC_one];exact HW4.out,HF4.out⟩
 have dk:((nd.kind:Int) != 0) = false:=by simpa using hk
 obtain rfl:m = lvsL l:=by rw [← HM.out,if_pos hk]
 have HLF:=Lib.hid hlf
 clear hk hlf
 go_wp2_with fail
 clear cN
 go_loopw [11,26] (fun s11 i wr=>∃ (k:Nat),k ≤ len ∧ i = .int .i64 (k:Nat) ∧ s11 = .int .i64 (lvsL (l.take k):Nat) ∧ Hid (Wr B0 B W g cap n mv mx ids wr (addE mx C (noneE (lvsL (l.take k)) leaf ⟨rep,df,zeroV⟩))) ∧ Hid (Fr B0 B g w1 wr)) (fun _ i _=>len - (intOf i).toNat)
 case atStart=>exact ⟨0,Nat.zero_le _,rfl,rfl,by simp only [List.take_zero,lvsL];rw [noneE_zero,addE_nil];exact HWX.out,Fr.refl _ _ _ _⟩
 case round =>
  obtain ⟨k,hk,rfl,rfl,HR,HFr⟩:=hrel
  by_cases hlt:k < len
  case neg =>
   obtain rfl:k = len:=by omega
   have hT:l.take k = l:=List.take_of_length_le (Nat.le_of_eq HL.out)
   have HT:=Lib.hid hT
   clear hT
   go_wp2_with fail
   go_ret
   rw [HT.out] at HR ⊢
   exact ⟨rfl,HR.out,HF.out.trans HFr.out⟩
  have hkl:k < l.length:=by rw [HL.out];exact hlt
  have hb0w:=HF.out.below.trans HFr.out.below
  obtain ⟨b0,off,rfl,hPb,hb0,hat⟩:=(HN.out.under hb0w).at (by omega)
  obtain ⟨ux,hcx,hnx⟩:=hat k l[k] (List.getElem?_eq_getElem hkl)
  have hsn:l.take (k + 1) = l.take k ++ [l[k]]:=List.take_succ_eq_append_getElem hkl
  have hsv:lvsL (l.take (k + 1)) = lvsL (l.take k) + lvs l[k]:=by rw [hsn,lvsL_app];simp [lvsL]
  have hle:lvsL (l.take k) + lvs l[k] ≤ lvsL l:=by
   have:=lvsL_app (l.take k) (l.drop k);rw [List.take_append_drop,List.drop_eq_getElem_cons hkl] at this;simp only [lvsL] at this;omega
  have hOx:∀ y ∈ nodes l[k],y.Ok1:=fun y hy=>HOs.out y (nodesL_mem (List.getElem_mem hkl) hy)
  have hIx:=HIH.out l[k] (List.getElem_mem hkl)
  have hin:(k:Int) < (len:Int):=by omega
  have Hlt:=Lib.hid hlt
  generalize l[k] = x at *
  obtain ⟨ax,cx,rfl⟩:=hnx.form
  unfold NdAt ndA at hcx
  obtain ⟨kv,hkv⟩:∃ kv,lvsL (l.take k) = kv:=⟨_,rfl⟩
  rw [hkv] at hsv hle HR ⊢
  have hbig:leaf + kv + lvs x ≤ 1000000:=by have:=HLF.out;omega
  have hlk:leaf + kv + lvs x ≤ n:=by have:=HLF.out;omega
  have hsz:=HR.out.hB
  have hbx:=(Below.refl wr.heap.size wr).alloc (Nat.le_refl _) (.cells #[.int .i64 x.id,.string x.name,.int .i64 x.rep,.int .i64 x.kind,.slice ax x.sub.length cx] 24)
  have hcl:=hIx (.slice ax x.sub.length cx) _ (leaf + kv) _ (HR.out.keep hbx) (hnx.under (hbx.mono (Nat.le_trans HW.out.h0 hsz))) hOx hlk (by
   intro j hj hge hlt2
   rw [addE_rep,noneE_out (by omega)]
   exact HC.out j hj (by omega) (by omega))
  unfold ndA at hcl
  have hca:((leaf + kv:Nat):Int) = (leaf:Int) + (kv:Int):=by omega
  rw [hca] at hcl
  have HCX:=Lib.hid hcx;have HCL:=Lib.hid hcl;have HSV:=Lib.hid hsv;have HKV:=Lib.hid hkv;have HBG:=Lib.hid hbig
  have HFX:=Lib.hid (HFr.out.trans (Fr.of_below (g:=g) hbx HW.out.h0 hsz))
  have hkv1:kv ≤ 1000000:=by omega
  have hlf1:leaf ≤ 1000000:=by omega
  have hxv1:lvs x ≤ 1000000:=by omega
  clear hat hkl hsn hnx hOx hIx hcx hPb hcl hsv hle hkv hbx hb0w hlk hbig hlt hk hb0 hca
  go_wp2_with (refine wpList_load_cells rfl 24 _ rfl b0 (off + k * 5) rfl #[.int .i64 x.id,.string x.name,.int .i64 x.rep,.int .i64 x.kind,.slice ax x.sub.length cx] _ HCX.out Tryz.underlying24 rfl nd_info ?_)
  refine HCL.out.mono ?_;rintro e w4 ⟨rfl,hw4,hf4⟩
  have HW4:=Lib.hid hw4;have HF4:=Lib.hid (HFX.out.trans hf4)
  clear hw4 hf4 HCL HCX
  go_wp2_with fail
  go_roundw
  case rel =>
   refine ⟨k + 1,Hlt.out,by go_num,by rw [HSV.out];go_num,?_,HF4.out⟩
   have h:=HW4.out
   rw [addE_app,noneE_add] at h
   rw [HSV.out]
   exact h
  case measure=>have:=Hlt.out;simp [intOf];omega
end Go.Proofs.YtkmhmnffbgedgaaGreatDoor
