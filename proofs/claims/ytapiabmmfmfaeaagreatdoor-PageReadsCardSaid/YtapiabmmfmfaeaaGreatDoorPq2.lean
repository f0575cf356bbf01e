/- The walk of the document's PeekOf. -/
import Derived.Test.YtapiabmmfmfaeaaGreatDoorPq1
import Derived.Test.YtapiabmmfmfaeaaGreatDoorMRw
namespace Go.Proofs.YtapiabmmfmfaeaaGreatDoor
set_option maxHeartbeats 16000000
set_option linter.unusedVariables false
set_option linter.unusedSimpArgs false
open Go Go.RowKit Go.ChangeShapes
def KoRet (r:Nat ⊕ (St × Nat)) (e:Ending) (w':World):Prop:=match r with
 | .inl k=>e = .returned (.tuple #[.agg (stA St.none),.int .i64 0,.int .i64 (k:Nat)])
 | .inr x=>e = .returned (.tuple #[.agg (stA x.1),.int .i64 (x.2:Nat),.int .i64 0])
theorem KoRet.bad {r:Nat ⊕ (St × Nat)} {k:Nat} {w':World} (h:r = .inl k):KoRet r (.returned (.tuple #[.agg #[.int .i64 0,.int .i64 0,.bool false,.int .i64 0,.int .i64 0,.string ⟨#[]⟩,.int .i64 0,.int .i64 0,.string ⟨#[]⟩],.int .i64 0,.int .i64 (k:Nat)])) w':=by rw [h];exact rfl
theorem KoRet.good {r:Nat ⊕ (St × Nat)} {te tn n:Nat} {th:Bool} {lo hi:Val} {w':World} (h:r = .inr (⟨(te:Nat),(tn:Nat),th,lo,hi⟩,n)):KoRet r (.returned (.tuple #[.agg #[.int .i64 (te:Nat),.int .i64 (tn:Nat),.bool th,.int .i64 lo.k,.int .i64 lo.n,.string lo.s,.int .i64 hi.k,.int .i64 hi.n,.string hi.s],.int .i64 (n:Nat),.int .i64 0])) w':=by rw [h];exact rfl
theorem peekR_3' {f:Lf} {L:List UInt8} (h:rightB f = false):peekR f L = .inl 3:=by unfold peekR;rw [if_pos h]
theorem peekR_t' {f:Lf} {L:List UInt8} (h:rightB f = true) (hb:bodyR L = .text):peekR f L = .inl 1:=by unfold peekR;rw [if_neg (by rw [h];decide),hb]
theorem peekR_s' {f:Lf} {L:List UInt8} (h:rightB f = true) (hb:bodyR L = .sum):peekR f L = .inl 7:=by unfold peekR;rw [if_neg (by rw [h];decide),hb]
theorem peekR_n' {f:Lf} {L b:List UInt8} {u:Nat} (h:rightB f = true) (hb:bodyR L = .ok b u) (hc:readPr b = none):peekR f L = .inl 1:=by unfold peekR;rw [if_neg (by rw [h];decide),hb];simp only;rw [hc]
theorem peekR_b' {f:Lf} {L b:List UInt8} {u k:Nat} {t:St} (h:rightB f = true) (hb:bodyR L = .ok b u) (hc:readPr b = some (t,k)) (h2:t.e = 0 ∨ (t.has = true ∧ t.lo.k ≠ f.kind)):peekR f L = .inl 1:=by unfold peekR;rw [if_neg (by rw [h];decide),hb];simp only;rw [hc];simp only;rw [if_pos h2]
theorem peekR_ok' {f:Lf} {L b:List UInt8} {u k:Nat} {t:St} (h:rightB f = true) (hb:bodyR L = .ok b u) (hc:readPr b = some (t,k)) (h2:¬ (t.e = 0 ∨ (t.has = true ∧ t.lo.k ≠ f.kind))):peekR f L = .inr (t,u):=by unfold peekR;rw [if_neg (by rw [h];decide),hb];simp only;rw [hc];simp only;rw [if_neg h2]
set_option maxRecDepth 100000 in
theorem peo_any (f:Lf) (vf:Value) (s:ByteArray) (hs:s.size ≤ 1000000) (w:World) (hf:IsLf w vf f) (fo:f.Ok) :
  Calls Tryz.prog 12 #[vf,.string s] w fun e w'=>KoRet (peekR f s.data.toList) e w' ∧ Below w.heap.size w w':=by
 obtain ⟨p,rfl,hp⟩:=hf
 have Hp:=Lib.hid hp;have Fo:=Lib.hid fo
 clear hp fo
 unfold lfA
 by_cases hrt:rightB f = true
 case neg =>
  have hrf:rightB f = false:=by simpa using hrt
  have HR:=Lib.hid (peekR_3' (L:=s.data.toList) hrf)
  have HC:=Lib.hid (fun w1=>isLeaf_no f p w1 hrf)
  clear hrt hrf
  go_enter Tryz.func12,Tryz.ntmps12
  go_upto_region 1 with fail
  obtain ⟨rL,rO,hbw,hz⟩:=rows2 (w:=w) (A:=.cells #[.int .i64 f.id,.int .i64 f.kind,.int .i64 f.mr,.int .i64 f.md,p] 24) (B:=.cells #[.int .i64 0,.int .i64 0,.bool false,.int .i64 0,.int .i64 0,.string ⟨#[]⟩,.int .i64 0,.int .i64 0,.string ⟨#[]⟩] 46) (Below.refl _ _)
  have RL:=Lib.hid rL;have RO:=Lib.hid rO;have Hbw:=Lib.hid hbw
  clear rL rO hbw hz
  generalize ((w.alloc (.cells #[.int .i64 f.id,.int .i64 f.kind,.int .i64 f.mr,.int .i64 f.md,p] 24)).alloc (.cells #[.int .i64 0,.int .i64 0,.bool false,.int .i64 0,.int .i64 0,.string ⟨#[]⟩,.int .i64 0,.int .i64 0,.string ⟨#[]⟩] 46)) = w0 at *
  have cL:=rowc RL.out;have fL:=rowf RL.out;have cO:=rowc RO.out;have fO:=rowf RO.out
  go_wp2_with fail
  refine (HC.out _).mono ?_;rintro e9 w1 ⟨rfl,hb9⟩
  clear cL fL cO fO
  replace RL:=Lib.hid (row_keep hb9 RL.out);replace RO:=Lib.hid (row_keep hb9 RO.out);replace Hbw:=Lib.hid (Hbw.out.trans (hb9.mono Hbw.out.size))
  clear hb9
  have cL:=rowc RL.out;have fL:=rowf RL.out;have cO:=rowc RO.out;have fO:=rowf RO.out
  go_wp2_with fail
  refine bodyPost_ret (v:=.tuple #[.agg #[.int .i64 0,.int .i64 0,.bool false,.int .i64 0,.int .i64 0,.string ⟨#[]⟩,.int .i64 0,.int .i64 0,.string ⟨#[]⟩],.int .i64 0,.int .i64 3]) ?_ rfl ⟨KoRet.bad HR.out,?_⟩
  focus (refine results_row_tmp2 Tryz.results12 _ _ (w.heap.size + 1) 46 _ (0,0) _ rfl ?_ Tryz.underlying46 rfl (by kernel_rfl);with_reducible exact row_set9 RO.out rfl _ _ _ _ _ _ _ _ _)
  focus (with_reducible exact below_set9 Hbw.out _ (Nat.le_succ _) _ _ _ _ _ _ _ _ _)
 have HRt:=Lib.hid hrt
 have HC:=Lib.hid (fun w1=>isLeaf_yes f p w1 hrt)
 clear hrt
 go_enter Tryz.func12,Tryz.ntmps12
 go_upto_region 1 with fail
 obtain ⟨rL,rO,hbw,hz⟩:=rows2 (w:=w) (A:=.cells #[.int .i64 f.id,.int .i64 f.kind,.int .i64 f.mr,.int .i64 f.md,p] 24) (B:=.cells #[.int .i64 0,.int .i64 0,.bool false,.int .i64 0,.int .i64 0,.string ⟨#[]⟩,.int .i64 0,.int .i64 0,.string ⟨#[]⟩] 46) (Below.refl _ _)
 have RL:=Lib.hid rL;have RO:=Lib.hid rO;have Hbw:=Lib.hid hbw
 clear rL rO hbw hz
 generalize ((w.alloc (.cells #[.int .i64 f.id,.int .i64 f.kind,.int .i64 f.mr,.int .i64 f.md,p] 24)).alloc (.cells #[.int .i64 0,.int .i64 0,.bool false,.int .i64 0,.int .i64 0,.string ⟨#[]⟩,.int .i64 0,.int .i64 0,.string ⟨#[]⟩] 46)) = w0 at *
 have cL:=rowc RL.out;have fL:=rowf RL.out;have cO:=rowc RO.out;have fO:=rowf RO.out
 go_wp2_with fail
 refine (HC.out _).mono ?_;rintro e9 w1 ⟨rfl,hb9⟩
 clear cL fL cO fO
 replace RL:=Lib.hid (row_keep hb9 RL.out);replace RO:=Lib.hid (row_keep hb9 RO.out);replace Hbw:=Lib.hid (Hbw.out.trans (hb9.mono Hbw.out.size))
 clear hb9
 have cL:=rowc RL.out;have fL:=rowf RL.out;have cO:=rowc RO.out;have fO:=rowf RO.out
 cases hb:bodyR s.data.toList with
 | text =>
  have HR:=Lib.hid (peekR_t' HRt.out hb)
  have HB:=Lib.hid (fun w1=>bodyOf_text s (by omega) w1 hb)
  clear hb
  go_wp2_with fail
  refine (HB.out _).mono ?_;rintro e9 w2 ⟨rfl,hb9⟩
  clear cL fL cO fO
  replace RL:=Lib.hid (row_keep hb9 RL.out);replace RO:=Lib.hid (row_keep hb9 RO.out);replace Hbw:=Lib.hid (Hbw.out.trans (hb9.mono Hbw.out.size))
  clear hb9
  have cL:=rowc RL.out;have fL:=rowf RL.out;have cO:=rowc RO.out;have fO:=rowf RO.out
  go_wp2_with fail
  refine bodyPost_ret (v:=.tuple #[.agg #[.int .i64 0,.int .i64 0,.bool false,.int .i64 0,.int .i64 0,.string ⟨#[]⟩,.int .i64 0,.int .i64 0,.string ⟨#[]⟩],.int .i64 0,.int .i64 1]) ?_ rfl ⟨KoRet.bad HR.out,?_⟩
  focus (refine results_row_tmp2 Tryz.results12 _ _ (w.heap.size + 1) 46 _ (0,0) _ rfl ?_ Tryz.underlying46 rfl (by kernel_rfl);with_reducible exact row_set9 RO.out rfl _ _ _ _ _ _ _ _ _)
  focus (with_reducible exact below_set9 Hbw.out _ (Nat.le_succ _) _ _ _ _ _ _ _ _ _)
 | sum =>
  have HR:=Lib.hid (peekR_s' HRt.out hb)
  have HB:=Lib.hid (fun w1=>bodyOf_sum s (by omega) w1 hb)
  clear hb
  go_wp2_with fail
  refine (HB.out _).mono ?_;rintro e9 w2 ⟨rfl,hb9⟩
  clear cL fL cO fO
  replace RL:=Lib.hid (row_keep hb9 RL.out);replace RO:=Lib.hid (row_keep hb9 RO.out);replace Hbw:=Lib.hid (Hbw.out.trans (hb9.mono Hbw.out.size))
  clear hb9
  have cL:=rowc RL.out;have fL:=rowf RL.out;have cO:=rowc RO.out;have fO:=rowf RO.out
  go_wp2_with fail
  refine bodyPost_ret (v:=.tuple #[.agg #[.int .i64 0,.int .i64 0,.bool false,.int .i64 0,.int .i64 0,.string ⟨#[]⟩,.int .i64 0,.int .i64 0,.string ⟨#[]⟩],.int .i64 0,.int .i64 7]) ?_ rfl ⟨KoRet.bad HR.out,?_⟩
  focus (refine results_row_tmp2 Tryz.results12 _ _ (w.heap.size + 1) 46 _ (0,0) _ rfl ?_ Tryz.underlying46 rfl (by kernel_rfl);with_reducible exact row_set9 RO.out rfl _ _ _ _ _ _ _ _ _)
  focus (with_reducible exact below_set9 Hbw.out _ (Nat.le_succ _) _ _ _ _ _ _ _ _ _)
 | ok b used =>
  obtain ⟨sb,hsb⟩:∃ sb:ByteArray,sb.data.toList = b:=⟨⟨b.toArray⟩,by simp⟩
  obtain ⟨hb2,hused,-⟩:=bodyR_len hb
  rw [ba_len] at hused
  have hsbz:sb.size ≤ 200000:=by rw [← ba_len sb,hsb];exact hb2
  have Hsb:=Lib.hid hsb;have Hb:=Lib.hid hb
  have HB:=Lib.hid (fun w1=>bodyOf_ok s (by omega) w1 hb sb hsb)
  clear hb hsb hb2
  go_wp2_with fail
  refine (HB.out _).mono ?_;rintro e9 w2 ⟨rfl,hb9⟩
  clear cL fL cO fO
  replace RL:=Lib.hid (row_keep hb9 RL.out);replace RO:=Lib.hid (row_keep hb9 RO.out);replace Hbw:=Lib.hid (Hbw.out.trans (hb9.mono Hbw.out.size))
  clear hb9
  have cL:=rowc RL.out;have fL:=rowf RL.out;have cO:=rowc RO.out;have fO:=rowf RO.out
  cases hr:readPr b with
  | none =>
   have HR:=Lib.hid (peekR_n' HRt.out Hb.out hr)
   have HS:=Lib.hid (fun w1=>statsOfText_none sb (by omega) w1 (by rw [Hsb.out];exact hr))
   clear hr
   go_wp2_with fail
   refine (HS.out _).mono ?_;rintro e9 w3 ⟨rfl,hb9⟩
   clear cL fL cO fO
   replace RL:=Lib.hid (row_keep hb9 RL.out);replace RO:=Lib.hid (row_keep hb9 RO.out);replace Hbw:=Lib.hid (Hbw.out.trans (hb9.mono Hbw.out.size))
   clear hb9
   have cL:=rowc RL.out;have fL:=rowf RL.out;have cO:=rowc RO.out;have fO:=rowf RO.out
   go_upto_region 7 with fail
   have hwz9:w.heap.size + 1 < w3.heap.size:=row_lt RO.out
   have hb9:=(Below.refl w3.heap.size w3).alloc (Nat.le_refl _) (.cells #[.int .i64 0,.int .i64 0,.bool false,.int .i64 0,.int .i64 0,.string ⟨#[]⟩,.int .i64 0,.int .i64 0,.string ⟨#[]⟩] 46)
   clear cL fL cO fO
   replace RL:=Lib.hid (row_keep hb9 RL.out);replace RO:=Lib.hid (row_keep hb9 RO.out);replace Hbw:=Lib.hid (Hbw.out.trans (hb9.mono Hbw.out.size))
   have RT:=Lib.hid (heap_alloc_new w3 (.cells #[.int .i64 0,.int .i64 0,.bool false,.int .i64 0,.int .i64 0,.string ⟨#[]⟩,.int .i64 0,.int .i64 0,.string ⟨#[]⟩] 46))
   clear hb9
   generalize w3.alloc (.cells #[.int .i64 0,.int .i64 0,.bool false,.int .i64 0,.int .i64 0,.string ⟨#[]⟩,.int .i64 0,.int .i64 0,.string ⟨#[]⟩] 46) = w4 at *
   generalize w3.heap.size = gT at *
   have cL:=rowc RL.out;have fL:=rowf RL.out;have cO:=rowc RO.out;have fO:=rowf RO.out;have cT:=rowc RT.out;have fT:=rowf RT.out
   go_wp2_with fail
   refine bodyPost_ret (v:=.tuple #[.agg #[.int .i64 0,.int .i64 0,.bool false,.int .i64 0,.int .i64 0,.string ⟨#[]⟩,.int .i64 0,.int .i64 0,.string ⟨#[]⟩],.int .i64 0,.int .i64 1]) ?_ rfl ⟨KoRet.bad HR.out,?_⟩
   focus (refine results_row_tmp2 Tryz.results12 _ _ (w.heap.size + 1) 46 _ (0,0) _ rfl ?_ Tryz.underlying46 rfl (by kernel_rfl);with_reducible exact row_set9 RO.out rfl _ _ _ _ _ _ _ _ _)
   focus (with_reducible exact below_set9 Hbw.out _ (Nat.le_succ _) _ _ _ _ _ _ _ _ _)
  | some y =>
   obtain ⟨t,k⟩:=y
   obtain ⟨te,tn,e1,e2,hne,he2,hkb,hk0,hlo,hhi⟩:=readPr_ok hr
   obtain ⟨te',tn',th,lo,hi⟩:=t
   simp only at e1 e2 hlo hhi
   subst e1 e2
   have HS:=Lib.hid (fun w1=>statsOfText_some sb (by omega) w1 (by rw [Hsb.out];exact hr))
   have Hr:=Lib.hid hr
   have hk0':(((k:Nat):Int) == 0) = false:=by rw [beq_eq_false_iff_ne];omega
   clear hr hkb
   go_wp2_with fail
   refine (HS.out _).mono ?_;rintro e9 w3 ⟨rfl,hb9⟩
   clear cL fL cO fO
   replace RL:=Lib.hid (row_keep hb9 RL.out);replace RO:=Lib.hid (row_keep hb9 RO.out);replace Hbw:=Lib.hid (Hbw.out.trans (hb9.mono Hbw.out.size))
   clear hb9
   have cL:=rowc RL.out;have fL:=rowf RL.out;have cO:=rowc RO.out;have fO:=rowf RO.out
   go_upto_region 7 with fail
   have hwz9:w.heap.size + 1 < w3.heap.size:=row_lt RO.out
   have hb9:=(Below.refl w3.heap.size w3).alloc (Nat.le_refl _) (.cells #[.int .i64 (te:Nat),.int .i64 (tn:Nat),.bool th,.int .i64 lo.k,.int .i64 lo.n,.string lo.s,.int .i64 hi.k,.int .i64 hi.n,.string hi.s] 46)
   clear cL fL cO fO
   replace RL:=Lib.hid (row_keep hb9 RL.out);replace RO:=Lib.hid (row_keep hb9 RO.out);replace Hbw:=Lib.hid (Hbw.out.trans (hb9.mono Hbw.out.size))
   have RT:=Lib.hid (heap_alloc_new w3 (.cells #[.int .i64 (te:Nat),.int .i64 (tn:Nat),.bool th,.int .i64 lo.k,.int .i64 lo.n,.string lo.s,.int .i64 hi.k,.int .i64 hi.n,.string hi.s] 46))
   clear hb9
   generalize w3.alloc (.cells #[.int .i64 (te:Nat),.int .i64 (tn:Nat),.bool th,.int .i64 lo.k,.int .i64 lo.n,.string lo.s,.int .i64 hi.k,.int .i64 hi.n,.string hi.s] 46) = w4 at *
   generalize w3.heap.size = gT at *
   have cL:=rowc RL.out;have fL:=rowf RL.out;have cO:=rowc RO.out;have fO:=rowf RO.out;have cT:=rowc RT.out;have fT:=rowf RT.out
   by_cases h0:te = 0
   ·have HR:=Lib.hid (peekR_b' HRt.out Hb.out Hr.out (.inl (show ((te:Nat):Int) = 0 by omega)))
    have h0':(((te:Nat):Int) == 0) = true:=by rw [beq_iff_eq];omega
    clear h0
    go_wp2_with fail
    refine bodyPost_ret (v:=.tuple #[.agg #[.int .i64 0,.int .i64 0,.bool false,.int .i64 0,.int .i64 0,.string ⟨#[]⟩,.int .i64 0,.int .i64 0,.string ⟨#[]⟩],.int .i64 0,.int .i64 1]) ?_ rfl ⟨KoRet.bad HR.out,?_⟩
    focus (refine results_row_tmp2 Tryz.results12 _ _ (w.heap.size + 1) 46 _ (0,0) _ rfl ?_ Tryz.underlying46 rfl (by kernel_rfl);with_reducible exact row_set9 RO.out rfl _ _ _ _ _ _ _ _ _)
    focus (with_reducible exact below_set9 Hbw.out _ (Nat.le_succ _) _ _ _ _ _ _ _ _ _)
   have h0':(((te:Nat):Int) == 0) = false:=by rw [beq_eq_false_iff_ne];omega
   have H0:=Lib.hid (show ¬ ((te:Nat):Int) = 0 by omega)
   clear h0
   cases th with
   | false =>
    have HR:=Lib.hid (peekR_ok' HRt.out Hb.out Hr.out (by rintro (h | ⟨h,_⟩);exact H0.out h;cases h))
    go_wp2_with fail
    refine bodyPost_ret (v:=.tuple #[.agg #[.int .i64 (te:Nat),.int .i64 (tn:Nat),.bool false,.int .i64 lo.k,.int .i64 lo.n,.string lo.s,.int .i64 hi.k,.int .i64 hi.n,.string hi.s],.int .i64 (used:Nat),.int .i64 0]) ?_ rfl ⟨KoRet.good HR.out,?_⟩
    focus (refine results_row_tmp2 Tryz.results12 _ _ (w.heap.size + 1) 46 _ (0,0) _ rfl ?_ Tryz.underlying46 rfl (by kernel_rfl);with_reducible exact row_set9 RO.out rfl _ _ _ _ _ _ _ _ _)
    focus (with_reducible exact below_set9 Hbw.out _ (Nat.le_succ _) _ _ _ _ _ _ _ _ _)
   | true =>
    by_cases hk:lo.k = f.kind
    ·have HR:=Lib.hid (peekR_ok' HRt.out Hb.out Hr.out (by rintro (h | ⟨_,h⟩);exact H0.out h;exact h hk))
     have hk':(lo.k != f.kind) = false:=by rw [hk];simp
     clear hk
     go_wp2_with fail
     refine bodyPost_ret (v:=.tuple #[.agg #[.int .i64 (te:Nat),.int .i64 (tn:Nat),.bool true,.int .i64 lo.k,.int .i64 lo.n,.string lo.s,.int .i64 hi.k,.int .i64 hi.n,.string hi.s],.int .i64 (used:Nat),.int .i64 0]) ?_ rfl ⟨KoRet.good HR.out,?_⟩
     focus (refine results_row_tmp2 Tryz.results12 _ _ (w.heap.size + 1) 46 _ (0,0) _ rfl ?_ Tryz.underlying46 rfl (by kernel_rfl);with_reducible exact row_set9 RO.out rfl _ _ _ _ _ _ _ _ _)
     focus (with_reducible exact below_set9 Hbw.out _ (Nat.le_succ _) _ _ _ _ _ _ _ _ _)
    ·have HR:=Lib.hid (peekR_b' HRt.out Hb.out Hr.out (.inr ⟨rfl,hk⟩))
     have hk':(lo.k != f.kind) = true:=by simpa using hk
     clear hk
     go_wp2_with fail
     refine bodyPost_ret (v:=.tuple #[.agg #[.int .i64 0,.int .i64 0,.bool false,.int .i64 0,.int .i64 0,.string ⟨#[]⟩,.int .i64 0,.int .i64 0,.string ⟨#[]⟩],.int .i64 0,.int .i64 1]) ?_ rfl ⟨KoRet.bad HR.out,?_⟩
     focus (refine results_row_tmp2 Tryz.results12 _ _ (w.heap.size + 1) 46 _ (0,0) _ rfl ?_ Tryz.underlying46 rfl (by kernel_rfl);with_reducible exact row_set9 RO.out rfl _ _ _ _ _ _ _ _ _)
     focus (with_reducible exact below_set9 Hbw.out _ (Nat.le_succ _) _ _ _ _ _ _ _ _ _)
end Go.Proofs.YtapiabmmfmfaeaaGreatDoor
