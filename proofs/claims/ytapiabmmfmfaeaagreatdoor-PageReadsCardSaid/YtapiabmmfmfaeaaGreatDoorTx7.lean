/- The walk of the document's ReadStatsOf. -/
import Derived.Test.YtapiabmmfmfaeaaGreatDoorMTz
import Derived.Test.YtapiabmmfmfaeaaGreatDoorMRef
import Derived.Test.YtapiabmmfmfaeaaGreatDoorMRf
namespace Go.Proofs.YtapiabmmfmfaeaaGreatDoor
set_option maxHeartbeats 16000000
set_option linter.unusedVariables false
open Go Go.RowKit Go.ChangeShapes
def refRet:Option (St × Nat) → Value
 | some (t,k)=>.tuple #[.agg (stA t),.int .i64 (k:Nat)]
 | none=>.tuple #[.agg (stA St.none),.int .i64 0]
def refTail (L:List UInt8) (e n p:Nat):Option (St × Nat) :=
 if L.length ≤ p then none else
 if 1 < ((L[p]?).getD 0).toNat then none else
 if ((((L[p]?).getD 0).toNat == 1) != decide (n < e)) then none else
 if ((L[p]?).getD 0).toNat = 0 then some (⟨(e:Nat),(n:Nat),false,zv,zv⟩,p + 1) else
 if L.length ≤ p + 1 then none else
 match twoRef L (((L[p + 1]?).getD 0).toNat:Nat) (p + 1 + 1) with
 | none=>none
 | some (v,v2,q)=>some (⟨(e:Nat),(n:Nat),true,v,v2⟩,q)
theorem readRef_tail {L:List UInt8} {e a n b:Nat} (h1:readU L = some (e,a)) (h2:¬ 20000 < e) (h3:readU (L.drop a) = some (n,b)) (h4:¬ e < n):readRef L = refTail L e n (a + b):=by
 unfold readRef refTail
 rw [h1];simp only;rw [if_neg h2,h3];simp only;rw [if_neg h4]
 rfl
theorem readRef_1 {L:List UInt8} (h1:readU L = none):readRef L = none:=by unfold readRef;rw [h1]
theorem readRef_2 {L:List UInt8} {e a:Nat} (h1:readU L = some (e,a)) (h2:20000 < e):readRef L = none:=by unfold readRef;rw [h1];simp only;rw [if_pos h2]
theorem readRef_3 {L:List UInt8} {e a:Nat} (h1:readU L = some (e,a)) (h3:readU (L.drop a) = none):readRef L = none:=by unfold readRef;rw [h1];simp only;split <;> first | rfl | (rw [h3])
theorem readRef_4 {L:List UInt8} {e a n b:Nat} (h1:readU L = some (e,a)) (h3:readU (L.drop a) = some (n,b)) (h4:e < n):readRef L = none:=by unfold readRef;rw [h1];simp only;split <;> first | rfl | (rw [h3];simp only;rw [if_pos h4])
theorem twoRef_kind {L:List UInt8} {k:Int} {q:Nat} (h:k < 1 ∨ 5 < k):twoRef L k q = none:=by
 have e:∀ t,oneP k t = none:=fun t=>by unfold oneP;rw [if_pos h]
 unfold twoRef
 split
 ·rfl
 ·rw [e]
theorem twoRef_1 {L:List UInt8} {k:Int} {q:Nat} (h:readT (L.drop q) = none):twoRef L k q = none:=by unfold twoRef;rw [h]
theorem twoRef_2 {L t:List UInt8} {k:Int} {q u:Nat} (h:readT (L.drop q) = some (t,u)) (h2:oneP k t = none):twoRef L k q = none:=by unfold twoRef;rw [h];simp only;rw [h2]
theorem twoRef_3 {L t:List UInt8} {k:Int} {q u:Nat} {v:Val} (h:readT (L.drop q) = some (t,u)) (h2:oneP k t = some v) (h3:readT (L.drop (q + u)) = none):twoRef L k q = none:=by unfold twoRef;rw [h];simp only;rw [h2];simp only;rw [h3]
theorem twoRef_4 {L t t2:List UInt8} {k:Int} {q u u2:Nat} {v:Val} (h:readT (L.drop q) = some (t,u)) (h2:oneP k t = some v) (h3:readT (L.drop (q + u)) = some (t2,u2)) (h4:oneP k t2 = none):twoRef L k q = none:=by unfold twoRef;rw [h];simp only;rw [h2];simp only;rw [h3];simp only;rw [h4]
theorem twoRef_5 {L t t2:List UInt8} {k:Int} {q u u2:Nat} {v v2:Val} (h:readT (L.drop q) = some (t,u)) (h2:oneP k t = some v) (h3:readT (L.drop (q + u)) = some (t2,u2)) (h4:oneP k t2 = some v2):twoRef L k q = if v2.less v then none else some (v,v2,q + u + u2):=by unfold twoRef;rw [h];simp only;rw [h2];simp only;rw [h3];simp only;rw [h4]
def StepInv (L:List UInt8) (k:Int) (p0:Nat) (m:Int) (q:Nat) (lo hi:Val):Prop :=
 (m = 0 → q = p0 ∧ lo = zv ∧ hi = zv) ∧ (m = 1 → hi = zv ∧ ∃ t u,readT (L.drop p0) = some (t,u) ∧ oneP k t = some lo ∧ q = p0 + u) ∧
 (m = 2 → ∃ t u t2 u2,readT (L.drop p0) = some (t,u) ∧ oneP k t = some lo ∧ readT (L.drop (p0 + u)) = some (t2,u2) ∧ oneP k t2 = some hi ∧ q = p0 + u + u2)
theorem byte_get (s:ByteArray) (p:Nat) (h:p < s.size):((s.data.toList[p]?).getD 0) = s[p]'h:=by
 rw [List.getElem?_eq_getElem (by simpa using h)]
 rfl
set_option maxRecDepth 100000 in
theorem rso_any (s:ByteArray) (hs:s.size ≤ 1000000) (w:World) :
  Calls Tryz.prog 26 #[.string s] w fun e9 w'=>e9 = .returned (refRet (readRef s.data.toList)) ∧ Below w.heap.size w w':=by
 have hls:s.data.toList.length = s.size:=by simp
 have hsm:s.size ≤ maxLen:=by unfold maxLen;omega
 have hxs:∀ p,(s.extract p s.size).size ≤ maxLen:=fun p=>by rw [ByteArray.size_extract];unfold maxLen;omega
 have hxl:=fun p=>bext_list s p
 go_enter Tryz.func26,Tryz.ntmps26
 go_upto_region 2 with fail
 obtain ⟨rR,rT,hbw,hz⟩:=rows2 (w:=w) (A:=.cells #[.int .i64 0,.int .i64 0,.bool false,.int .i64 0,.int .i64 0,.string ⟨#[]⟩,.int .i64 0,.int .i64 0,.string ⟨#[]⟩] 46) (B:=.cells #[.int .i64 0,.int .i64 0,.bool false,.int .i64 0,.int .i64 0,.string ⟨#[]⟩,.int .i64 0,.int .i64 0,.string ⟨#[]⟩] 46) (Below.refl _ _)
 have RR:=Lib.hid rR;have RT:=Lib.hid rT;have Hbw:=Lib.hid hbw
 clear rR rT hbw hz
 generalize ((w.alloc (.cells #[.int .i64 0,.int .i64 0,.bool false,.int .i64 0,.int .i64 0,.string ⟨#[]⟩,.int .i64 0,.int .i64 0,.string ⟨#[]⟩] 46)).alloc (.cells #[.int .i64 0,.int .i64 0,.bool false,.int .i64 0,.int .i64 0,.string ⟨#[]⟩,.int .i64 0,.int .i64 0,.string ⟨#[]⟩] 46)) = w0 at *
 have cT:=rowc RT.out;have fT:=rowf RT.out;have cR:=rowc RR.out;have fR:=rowf RR.out
 have Hxs:=Lib.hid hxs;have Hxl:=Lib.hid hxl
 clear hxs hxl
 cases hr1:readU s.data.toList with
 | none =>
  have HN:=Lib.hid (readRef_1 hr1)
  have HS:=Lib.hid (fun w1=>readSeven_none s w1 hsm hr1)
  clear hr1
  go_wp2_with fail
  refine (HS.out _).mono ?_;rintro e9 w1 ⟨rfl,rfl⟩
  go_wp2_with fail
  refine bodyPost_ret (v:=.tuple #[.agg #[.int .i64 0,.int .i64 0,.bool false,.int .i64 0,.int .i64 0,.string ⟨#[]⟩,.int .i64 0,.int .i64 0,.string ⟨#[]⟩],.int .i64 0]) ?_ rfl ⟨ret_of (by rw [HN.out];rfl),?_⟩
  focus (refine results_row_tmp Tryz.results26 _ _ w.heap.size 46 _ (0,0) _ rfl ?_ Tryz.underlying46 rfl (by kernel_rfl);with_reducible exact row_set9 RR.out rfl _ _ _ _ _ _ _ _ _)
  focus (with_reducible exact below_set9 Hbw.out _ (Nat.le_refl _) _ _ _ _ _ _ _ _ _)
 | some ea =>
  obtain ⟨e,a⟩:=ea
  have HS:=Lib.hid (fun w1=>readSeven_some s w1 hsm hr1)
  obtain ⟨he64,ha0,hal,-⟩:=readU_lt hr1
  rw [hls] at hal
  have H1:=Lib.hid hr1
  clear hr1
  have ha0':((a:Int) == 0) = false:=by rw [beq_eq_false_iff_ne];omega
  have haI:(a:Int) ≤ (s.size:Int):=by omega
  by_cases h2:20000 < e
  ·have HN:=Lib.hid (readRef_2 H1.out h2)
   have h2':(20000:Int) < (e:Int):=by omega
   go_wp2_with fail
   refine (HS.out _).mono ?_;rintro e9 w1 ⟨rfl,rfl⟩
   go_wp2_with fail
   refine bodyPost_ret (v:=.tuple #[.agg #[.int .i64 0,.int .i64 0,.bool false,.int .i64 0,.int .i64 0,.string ⟨#[]⟩,.int .i64 0,.int .i64 0,.string ⟨#[]⟩],.int .i64 0]) ?_ rfl ⟨ret_of (by rw [HN.out];rfl),?_⟩
   focus (refine results_row_tmp Tryz.results26 _ _ w.heap.size 46 _ (0,0) _ rfl ?_ Tryz.underlying46 rfl (by kernel_rfl);with_reducible exact row_set9 RR.out rfl _ _ _ _ _ _ _ _ _)
   focus (with_reducible exact below_set9 Hbw.out _ (Nat.le_refl _) _ _ _ _ _ _ _ _ _)
  have h2':¬ (20000:Int) < (e:Int):=by omega
  have H2:=Lib.hid h2
  clear h2
  go_wp2_with fail
  refine (HS.out _).mono ?_;rintro e9 w1 ⟨rfl,rfl⟩
  go_upto_region 5 with fail
  cases hr2:readU (s.data.toList.drop a) with
  | none =>
   have HN:=Lib.hid (readRef_3 H1.out hr2)
   have HS2:=Lib.hid (fun w1=>readSeven_none (s.extract a s.size) w1 (Hxs.out a) (by rw [Hxl.out];exact hr2))
   clear hr2
   go_wp2_with fail
   refine (HS2.out _).mono ?_;rintro e9 w2 ⟨rfl,rfl⟩
   go_wp2_with fail
   refine bodyPost_ret (v:=.tuple #[.agg #[.int .i64 0,.int .i64 0,.bool false,.int .i64 0,.int .i64 0,.string ⟨#[]⟩,.int .i64 0,.int .i64 0,.string ⟨#[]⟩],.int .i64 0]) ?_ rfl ⟨ret_of (by rw [HN.out];rfl),?_⟩
   focus (refine results_row_tmp Tryz.results26 _ _ w.heap.size 46 _ (0,0) _ rfl ?_ Tryz.underlying46 rfl (by kernel_rfl);with_reducible exact row_set9 RR.out rfl _ _ _ _ _ _ _ _ _)
   focus (with_reducible exact below_set9 Hbw.out _ (Nat.le_refl _) _ _ _ _ _ _ _ _ _)
  | some nb =>
   obtain ⟨n,b⟩:=nb
   have HS2:=Lib.hid (fun w1=>readSeven_some (s.extract a s.size) w1 (Hxs.out a) (by rw [Hxl.out];exact hr2))
   obtain ⟨hn64,hb0,hbl,-⟩:=readU_lt hr2
   rw [List.length_drop,hls] at hbl
   have H3:=Lib.hid hr2
   clear hr2
   have hb0':((b:Int) == 0) = false:=by rw [beq_eq_false_iff_ne];omega
   go_wp2_with fail
   refine (HS2.out _).mono ?_;rintro e9 w2 ⟨rfl,rfl⟩
   by_cases h4:e < n
   ·have HN:=Lib.hid (readRef_4 H1.out H3.out h4)
    have h4':(e:Int) < (n:Int):=by omega
    have h4'':decide (e < n) = true:=by simpa using h4
    clear h4
    go_wp2_with fail
    refine bodyPost_ret (v:=.tuple #[.agg #[.int .i64 0,.int .i64 0,.bool false,.int .i64 0,.int .i64 0,.string ⟨#[]⟩,.int .i64 0,.int .i64 0,.string ⟨#[]⟩],.int .i64 0]) ?_ rfl ⟨ret_of (by rw [HN.out];rfl),?_⟩
    focus (refine results_row_tmp Tryz.results26 _ _ w.heap.size 46 _ (0,0) _ rfl ?_ Tryz.underlying46 rfl (by kernel_rfl);with_reducible exact row_set9 RR.out rfl _ _ _ _ _ _ _ _ _)
    focus (with_reducible exact below_set9 Hbw.out _ (Nat.le_refl _) _ _ _ _ _ _ _ _ _)
   have HT:=Lib.hid (readRef_tail H1.out H2.out H3.out h4)
   have h4':¬ (e:Int) < (n:Int):=by omega
   have h4'':decide (e < n) = false:=by simpa using h4
   have hnm:n ≤ 20000:=by have:=H2.out;omega
   have hem:e ≤ 20000:=by have:=H2.out;omega
   clear h4
   have hab:a + b ≤ s.size:=by omega
   obtain ⟨p,hp⟩:∃ p,a + b = p:=⟨_,rfl⟩
   have hpI:(a:Int) + (b:Int) = (p:Int):=by omega
   rw [hp] at hab HT
   go_upto_region 9 with fail
   by_cases h6:s.size ≤ p
   ·have HN:=Lib.hid (HT.out.trans (show refTail s.data.toList e n p = none from by unfold refTail;rw [if_pos (by rw [hls];exact h6)]))
    have h6':(s.size:Int) ≤ (p:Int):=by omega
    have h6'':decide (s.size ≤ p) = true:=by simpa using h6
    clear h6
    go_wp2_with fail
    refine bodyPost_ret (v:=.tuple #[.agg #[.int .i64 0,.int .i64 0,.bool false,.int .i64 0,.int .i64 0,.string ⟨#[]⟩,.int .i64 0,.int .i64 0,.string ⟨#[]⟩],.int .i64 0]) ?_ rfl ⟨ret_of (by rw [HN.out];rfl),?_⟩
    focus (refine results_row_tmp Tryz.results26 _ _ w.heap.size 46 _ (0,0) _ rfl ?_ Tryz.underlying46 rfl (by kernel_rfl);with_reducible exact row_set9 RR.out rfl _ _ _ _ _ _ _ _ _)
    focus (with_reducible exact below_set9 Hbw.out _ (Nat.le_refl _) _ _ _ _ _ _ _ _ _)
   have hps:p < s.size:=by omega
   have h6':¬ (s.size:Int) ≤ (p:Int):=by omega
   have h6'':decide (s.size ≤ p) = false:=by simpa using h6
   clear h6
   have HG:=Lib.hid (byte_get s p hps)
   by_cases h7:1 < s[p].toNat
   ·have HN:=Lib.hid (HT.out.trans (show refTail s.data.toList e n p = none from by unfold refTail;rw [if_neg (by rw [hls];omega),if_pos (by rw [HG.out];exact h7)]))
    have h7':(1:Int) < (s[p].toNat:Int):=by omega
    clear h7
    go_wp2_with fail
    refine bodyPost_ret (v:=.tuple #[.agg #[.int .i64 0,.int .i64 0,.bool false,.int .i64 0,.int .i64 0,.string ⟨#[]⟩,.int .i64 0,.int .i64 0,.string ⟨#[]⟩],.int .i64 0]) ?_ rfl ⟨ret_of (by rw [HN.out];rfl),?_⟩
    focus (refine results_row_tmp Tryz.results26 _ _ w.heap.size 46 _ (0,0) _ rfl ?_ Tryz.underlying46 rfl (by kernel_rfl);with_reducible exact row_set9 RR.out rfl _ _ _ _ _ _ _ _ _)
    focus (with_reducible exact below_set9 Hbw.out _ (Nat.le_refl _) _ _ _ _ _ _ _ _ _)
   have h7':¬ (1:Int) < (s[p].toNat:Int):=by omega
   by_cases h8:s[p].toNat = 0
   ·have hb1:((s[p].toNat:Int) == 1) = false:=by rw [beq_eq_false_iff_ne];omega
    by_cases h9:n < e
    ·have HN:=Lib.hid (HT.out.trans (show refTail s.data.toList e n p = none from by unfold refTail;rw [if_neg (by rw [hls];omega),HG.out,if_neg h7,if_pos (by have e0:s[p].toNat = 0:=h8;rw [e0,decide_eq_true h9];rfl)]))
     have h9':(n:Int) < (e:Int):=by omega
     have h9'':decide (n < e) = true:=by simpa using h9
     clear h9 h8 h7
     go_upto_region 14 with fail
     obtain ⟨p1,p2,p3,p4⟩:=set3_row (x:=.int .i64 (e:Nat)) (y:=.int .i64 (n:Nat)) (z:=.bool false) 0 RT.out (by simp)
     replace RR:=Lib.hid ((p2 _ (by omega)).trans RR.out);replace RT:=Lib.hid (p1.trans (show _ = some (.cells #[.int .i64 (e:Nat),.int .i64 (n:Nat),.bool false,.int .i64 0,.int .i64 0,.string ⟨#[]⟩,.int .i64 0,.int .i64 0,.string ⟨#[]⟩] 46 (0,0)) from rfl));replace Hbw:=Lib.hid (Hbw.out.trans (p3.mono (by omega)))
     clear p1 p2 p3 p4 cR cT fR fT
     generalize (((w2.setCell ⟨w.heap.size + 1,0,none⟩ (.int .i64 (e:Nat))).setCell ⟨w.heap.size + 1,1,none⟩ (.int .i64 (n:Nat))).setCell ⟨w.heap.size + 1,2,none⟩ (.bool false)) = w3 at *
     have cT:=rowc RT.out;have fT:=rowf RT.out;have cR:=rowc RR.out;have fR:=rowf RR.out
     go_wp2_with fail
     refine bodyPost_ret (v:=.tuple #[.agg #[.int .i64 0,.int .i64 0,.bool false,.int .i64 0,.int .i64 0,.string ⟨#[]⟩,.int .i64 0,.int .i64 0,.string ⟨#[]⟩],.int .i64 0]) ?_ rfl ⟨ret_of (by rw [HN.out];rfl),?_⟩
     focus (refine results_row_tmp Tryz.results26 _ _ w.heap.size 46 _ (0,0) _ rfl ?_ Tryz.underlying46 rfl (by kernel_rfl);with_reducible exact row_set9 RR.out rfl _ _ _ _ _ _ _ _ _)
     focus (with_reducible exact below_set9 Hbw.out _ (Nat.le_refl _) _ _ _ _ _ _ _ _ _)
    ·have HN:=Lib.hid (HT.out.trans (show refTail s.data.toList e n p = some (⟨(e:Nat),(n:Nat),false,zv,zv⟩,p + 1) from by unfold refTail;have e0:s[p].toNat = 0:=h8;rw [if_neg (by rw [hls];omega),HG.out,if_neg h7,if_neg (by rw [e0,decide_eq_false h9];decide),if_pos e0]))
     have h9':¬ (n:Int) < (e:Int):=by omega
     have h9'':decide (n < e) = false:=by simpa using h9
     clear h9 h8 h7
     go_upto_region 14 with fail
     obtain ⟨p1,p2,p3,p4⟩:=set3_row (x:=.int .i64 (e:Nat)) (y:=.int .i64 (n:Nat)) (z:=.bool false) 0 RT.out (by simp)
     replace RR:=Lib.hid ((p2 _ (by omega)).trans RR.out);replace RT:=Lib.hid (p1.trans (show _ = some (.cells #[.int .i64 (e:Nat),.int .i64 (n:Nat),.bool false,.int .i64 0,.int .i64 0,.string ⟨#[]⟩,.int .i64 0,.int .i64 0,.string ⟨#[]⟩] 46 (0,0)) from rfl));replace Hbw:=Lib.hid (Hbw.out.trans (p3.mono (by omega)))
     clear p1 p2 p3 p4 cR cT fR fT
     generalize (((w2.setCell ⟨w.heap.size + 1,0,none⟩ (.int .i64 (e:Nat))).setCell ⟨w.heap.size + 1,1,none⟩ (.int .i64 (n:Nat))).setCell ⟨w.heap.size + 1,2,none⟩ (.bool false)) = w3 at *
     have cT:=rowc RT.out;have fT:=rowf RT.out;have cR:=rowc RR.out;have fR:=rowf RR.out
     go_wp2_with fail
     refine bodyPost_ret (v:=.tuple #[.agg #[.int .i64 (e:Nat),.int .i64 (n:Nat),.bool false,.int .i64 0,.int .i64 0,.string ⟨#[]⟩,.int .i64 0,.int .i64 0,.string ⟨#[]⟩],.int .i64 ((p + 1):Nat)]) ?_ rfl ⟨ret_of (by rw [HN.out];rfl),?_⟩
     focus (refine results_row_tmp Tryz.results26 _ _ w.heap.size 46 _ (0,0) _ rfl ?_ Tryz.underlying46 rfl (by kernel_rfl);with_reducible exact row_set9 RR.out rfl _ _ _ _ _ _ _ _ _)
     focus (with_reducible exact below_set9 Hbw.out _ (Nat.le_refl _) _ _ _ _ _ _ _ _ _)
   have h81:s[p].toNat = 1:=by omega
   have hb1:((s[p].toNat:Int) == 1) = true:=by rw [beq_iff_eq];omega
   by_cases h9:n < e
   ·have h9':(n:Int) < (e:Int):=by omega
    have h9'':decide (n < e) = true:=by simpa using h9
    have HT2:Hid (readRef s.data.toList = if s.data.toList.length ≤ p + 1 then none else match twoRef s.data.toList (((s.data.toList[p + 1]?).getD 0).toNat:Nat) (p + 1 + 1) with | none=>none | some (v,v2,q)=>some (⟨(e:Nat),(n:Nat),true,v,v2⟩,q)):=Lib.hid (HT.out.trans (by
     unfold refTail;have e0:s[p].toNat = 1:=h81;rw [if_neg (by rw [hls];omega),HG.out,if_neg h7,if_neg (by rw [e0,decide_eq_true h9];decide),if_neg (by rw [e0];decide)]))
    clear h9 h8 h81 h7
    go_upto_region 14 with fail
    obtain ⟨p1,p2,p3,p4⟩:=set3_row (x:=.int .i64 (e:Nat)) (y:=.int .i64 (n:Nat)) (z:=.bool true) 0 RT.out (by simp)
    replace RR:=Lib.hid ((p2 _ (by omega)).trans RR.out);replace RT:=Lib.hid (p1.trans (show _ = some (.cells #[.int .i64 (e:Nat),.int .i64 (n:Nat),.bool true,.int .i64 0,.int .i64 0,.string ⟨#[]⟩,.int .i64 0,.int .i64 0,.string ⟨#[]⟩] 46 (0,0)) from rfl));replace Hbw:=Lib.hid (Hbw.out.trans (p3.mono (by omega)))
    clear p1 p2 p3 p4 cR cT fR fT
    generalize (((w2.setCell ⟨w.heap.size + 1,0,none⟩ (.int .i64 (e:Nat))).setCell ⟨w.heap.size + 1,1,none⟩ (.int .i64 (n:Nat))).setCell ⟨w.heap.size + 1,2,none⟩ (.bool true)) = w3 at *
    have cT:=rowc RT.out;have fT:=rowf RT.out;have cR:=rowc RR.out;have fR:=rowf RR.out
    by_cases h10:s.size ≤ p + 1
    ·have HN:=Lib.hid (HT2.out.trans (if_pos (by rw [hls];exact h10)))
     have h10':(s.size:Int) ≤ (p:Int) + 1:=by omega
     clear h10
     go_wp2_with fail
     refine bodyPost_ret (v:=.tuple #[.agg #[.int .i64 0,.int .i64 0,.bool false,.int .i64 0,.int .i64 0,.string ⟨#[]⟩,.int .i64 0,.int .i64 0,.string ⟨#[]⟩],.int .i64 0]) ?_ rfl ⟨ret_of (by rw [HN.out];rfl),?_⟩
     focus (refine results_row_tmp Tryz.results26 _ _ w.heap.size 46 _ (0,0) _ rfl ?_ Tryz.underlying46 rfl (by kernel_rfl);with_reducible exact row_set9 RR.out rfl _ _ _ _ _ _ _ _ _)
     focus (with_reducible exact below_set9 Hbw.out _ (Nat.le_refl _) _ _ _ _ _ _ _ _ _)
    have h10':¬ (s.size:Int) ≤ (p:Int) + 1:=by omega
    have hps1:p + 1 < s.size:=by omega
    have HG1:=Lib.hid (byte_get s (p + 1) hps1)
    clear h10
    rw [HG1.out] at HT2
    replace HT2:=Lib.hid (HT2.out.trans (if_neg (by rw [hls];omega)))
    by_cases h11:s[p + 1].toNat < 1
    ·have HN:=Lib.hid (HT2.out.trans (by rw [twoRef_kind (by omega)]))
     have h11':(s[p + 1].toNat:Int) < 1:=by omega
     clear h11
     go_wp2_with fail
     refine bodyPost_ret (v:=.tuple #[.agg #[.int .i64 0,.int .i64 0,.bool false,.int .i64 0,.int .i64 0,.string ⟨#[]⟩,.int .i64 0,.int .i64 0,.string ⟨#[]⟩],.int .i64 0]) ?_ rfl ⟨ret_of (by rw [HN.out];rfl),?_⟩
     focus (refine results_row_tmp Tryz.results26 _ _ w.heap.size 46 _ (0,0) _ rfl ?_ Tryz.underlying46 rfl (by kernel_rfl);with_reducible exact row_set9 RR.out rfl _ _ _ _ _ _ _ _ _)
     focus (with_reducible exact below_set9 Hbw.out _ (Nat.le_refl _) _ _ _ _ _ _ _ _ _)
    have h11':¬ (s[p + 1].toNat:Int) < 1:=by omega
    by_cases h12:5 < s[p + 1].toNat
    ·have HN:=Lib.hid (HT2.out.trans (by rw [twoRef_kind (by omega)]))
     have h12':(5:Int) < (s[p + 1].toNat:Int):=by omega
     clear h12 h11
     go_wp2_with fail
     refine bodyPost_ret (v:=.tuple #[.agg #[.int .i64 0,.int .i64 0,.bool false,.int .i64 0,.int .i64 0,.string ⟨#[]⟩,.int .i64 0,.int .i64 0,.string ⟨#[]⟩],.int .i64 0]) ?_ rfl ⟨ret_of (by rw [HN.out];rfl),?_⟩
     focus (refine results_row_tmp Tryz.results26 _ _ w.heap.size 46 _ (0,0) _ rfl ?_ Tryz.underlying46 rfl (by kernel_rfl);with_reducible exact row_set9 RR.out rfl _ _ _ _ _ _ _ _ _)
     focus (with_reducible exact below_set9 Hbw.out _ (Nat.le_refl _) _ _ _ _ _ _ _ _ _)
    have h12':¬ (5:Int) < (s[p + 1].toNat:Int):=by omega
    have hk1:(1:Int) ≤ (s[p + 1].toNat:Int):=by omega
    have hk5:(s[p + 1].toNat:Int) ≤ 5:=by omega
    clear h11 h12
    go_upto_region 23 with fail
    generalize s[p + 1].toNat = k at *
    go_wp2_with fail
    go_loopw [9,11] (fun at_ i wr=>∃ (m:Int) (q:Nat) (lo hi:Val),(m = 0 ∨ m = 1 ∨ m = 2) ∧ i = .int .i64 m ∧ at_ = .int .i64 (q:Nat) ∧ q ≤ s.size ∧ Below w.heap.size w wr ∧ wr.heap[w.heap.size]? = some (.cells #[.int .i64 0,.int .i64 0,.bool false,.int .i64 0,.int .i64 0,.string ⟨#[]⟩,.int .i64 0,.int .i64 0,.string ⟨#[]⟩] 46 (0,0)) ∧ wr.heap[w.heap.size + 1]? = some (.cells #[.int .i64 (e:Nat),.int .i64 (n:Nat),.bool true,.int .i64 lo.k,.int .i64 lo.n,.string lo.s,.int .i64 hi.k,.int .i64 hi.n,.string hi.s] 46 (0,0)) ∧ StepInv s.data.toList (k:Nat) (p + 1 + 1) m q lo hi) (fun _ i _=>2 - (intOf i).toNat)
    case atStart=>exact ⟨0,p + 1 + 1,zv,zv,.inl rfl,rfl,by first | rfl | go_num,by omega,Hbw.out,RR.out,RT.out,fun _=>⟨rfl,rfl,rfl⟩,fun h=>(by cases h),fun h=>(by cases h)⟩
    case round =>
     obtain ⟨m,q,lo,hi,hm,rfl,rfl,hq,hbr,rR,rT,inv⟩:=hrel
     clear RR RT Hbw cT fT cR fR
     have RR:=Lib.hid rR;have RT:=Lib.hid rT;have Hbw:=Lib.hid hbr;have Hinv:=Lib.hid inv
     clear rR rT hbr inv
     rcases hm with rfl | rfl | rfl
     ·obtain ⟨rfl,rfl,rfl⟩:=Hinv.out.1 rfl
      have RT0:Hid (wr.heap[w.heap.size + 1]? = some (.cells #[.int .i64 (e:Nat),.int .i64 (n:Nat),.bool true,.int .i64 0,.int .i64 0,.string ⟨#[]⟩,.int .i64 0,.int .i64 0,.string ⟨#[]⟩] 46 (0,0))):=Lib.hid RT.out
      clear RT
      have RT:=RT0
      clear RT0
      have cT:=rowc RT.out;have fT:=rowf RT.out;have cR:=rowc RR.out;have fR:=rowf RR.out
      obtain ⟨q,hqe⟩:∃ q,(p + 1 + 1) = q:=⟨_,rfl⟩
      rw [hqe] at hq ⊢
      have hqI:(q:Int) ≤ (s.size:Int):=by omega
      have hq0:¬ (s.size:Int) < (q:Int):=by omega
      clear Hinv
      cases hr:readT (s.data.toList.drop q) with
      | none =>
       have HN:=Lib.hid (HT2.out.trans (by rw [show twoRef s.data.toList (k:Nat) (p + 1 + 1) = none from by rw [← hqe] at hr;exact twoRef_1 hr]))
       have HL:=Lib.hid (fun w1=>readLong_none (s.extract q s.size) w1 (Hxs.out q) (by rw [Hxl.out];exact hr))
       clear hr
       go_wp2_with fail
       refine (HL.out _).mono ?_;rintro e9 w4 ⟨rfl,rfl⟩
       go_wp2_with fail
       refine bodyPost_ret (v:=.tuple #[.agg #[.int .i64 0,.int .i64 0,.bool false,.int .i64 0,.int .i64 0,.string ⟨#[]⟩,.int .i64 0,.int .i64 0,.string ⟨#[]⟩],.int .i64 0]) ?_ rfl ⟨ret_of (by rw [HN.out];rfl),?_⟩
       focus (refine results_row_tmp Tryz.results26 _ _ w.heap.size 46 _ (0,0) _ rfl ?_ Tryz.underlying46 rfl (by kernel_rfl);with_reducible exact row_set9 RR.out rfl _ _ _ _ _ _ _ _ _)
       focus (with_reducible exact below_set9 Hbw.out _ (Nat.le_refl _) _ _ _ _ _ _ _ _ _)
      | some tu =>
       obtain ⟨t,u⟩:=tu
       have HL:=Lib.hid (fun w1=>readLong_some (s.extract q s.size) w1 (Hxs.out q) (by rw [Hxl.out];exact hr))
       have hul:=readT_le hr
       rw [List.length_drop,hls] at hul
       have hu0:0 < u:=by
        obtain ⟨n',u',hr',_,_,_,hk'⟩:=readT_cases hr
        have:=(readU_lt hr').2.1
        omega
       have hu0':((u:Int) == 0) = false:=by rw [beq_eq_false_iff_ne];omega
       have hts:(⟨t.toArray⟩:ByteArray).size ≤ 1000000:=by show t.toArray.size ≤ _;simp;omega
       have HP:=Lib.hid (fun w1=>readPlainOf_any (k:Nat) ⟨t.toArray⟩ 1 w1 hk1 hk5 (by decide) hts)
       rw [show (⟨t.toArray⟩:ByteArray).data.toList = t from by simp] at HP
       have HR:Hid (readT (s.data.toList.drop (p + 1 + 1)) = some (t,u)):=Lib.hid (by rw [hqe];exact hr)
       clear hr
       cases hp:readP (k:Nat) t 1 with
       | none =>
        have ho:=oneP_none hk1 hk5 hp
        have HN:=Lib.hid (HT2.out.trans (by rw [show twoRef s.data.toList (k:Nat) (p + 1 + 1) = none from twoRef_2 HR.out ho]))
        rw [hp] at HP
        clear hp ho
        go_wp2_with fail
        refine (HL.out _).mono ?_;rintro e9 w4 ⟨rfl,rfl⟩
        go_wp2_with fail
        refine (HP.out _).mono ?_;rintro e9 w5 ⟨⟨u9,rfl⟩,hb5⟩
        replace RR:=Lib.hid (row_keep hb5 RR.out);replace RT:=Lib.hid (row_keep hb5 RT.out);replace Hbw:=Lib.hid (Hbw.out.trans (hb5.mono Hbw.out.size))
        clear hb5 cT fT cR fR
        have cT:=rowc RT.out;have fT:=rowf RT.out;have cR:=rowc RR.out;have fR:=rowf RR.out
        go_wp2_with fail
        refine bodyPost_ret (v:=.tuple #[.agg #[.int .i64 0,.int .i64 0,.bool false,.int .i64 0,.int .i64 0,.string ⟨#[]⟩,.int .i64 0,.int .i64 0,.string ⟨#[]⟩],.int .i64 0]) ?_ rfl ⟨ret_of (by rw [HN.out];rfl),?_⟩
        focus (refine results_row_tmp Tryz.results26 _ _ w.heap.size 46 _ (0,0) _ rfl ?_ Tryz.underlying46 rfl (by kernel_rfl);with_reducible exact row_set9 RR.out rfl _ _ _ _ _ _ _ _ _)
        focus (with_reducible exact below_set9 Hbw.out _ (Nat.le_refl _) _ _ _ _ _ _ _ _ _)
       | some l =>
        obtain ⟨v,rfl,ho,e2,e3⟩:=oneP_some hk1 hk5 hp
        rw [hp] at HP
        have HO:=Lib.hid ho
        clear hp ho e2 e3
        have hgz:=Hbw.out.size
        have hTl:=row_lt RT.out
        go_wp2_with fail
        refine (HL.out _).mono ?_;rintro e9 w4 ⟨rfl,rfl⟩
        go_wp2_with fail
        refine (HP.out _).mono ?_;rintro e9 w5 ⟨⟨u9,rfl,ho5⟩,hb5⟩
        replace RR:=Lib.hid (row_keep hb5 RR.out);replace RT:=Lib.hid (row_keep hb5 RT.out);replace Hbw:=Lib.hid (Hbw.out.trans (hb5.mono Hbw.out.size))
        clear hb5 cT fT cR fR
        have cT:=rowc RT.out;have fT:=rowf RT.out;have cR:=rowc RR.out;have fR:=rowf RR.out
        rcases ho5.2 with ⟨-,h0⟩ | ⟨b9,cap,cur,rfl,hbB,hbc,-⟩
        ·cases h0
        have c0:=ho5.cellAt (g:=b9) 0 (by simp);have c1:=ho5.cellAt (g:=b9) 1 (by simp);have c2:=ho5.cellAt (g:=b9) 2 (by simp)
        simp [valCells] at c0 c1 c2
        have hne:b9 ≠ w.heap.size + 1:=by omega
        clear ho5 hbc
        go_upto_region 35 with fail
        obtain ⟨p1,p2,p3,p4⟩:=set3_row (x:=.int .i64 v.k) (y:=.int .i64 v.n) (z:=.string v.s) 3 RT.out (by simp)
        replace RR:=Lib.hid ((p2 _ (by omega)).trans RR.out);replace RT:=Lib.hid (p1.trans (show _ = some (.cells #[.int .i64 (e:Nat),.int .i64 (n:Nat),.bool true,.int .i64 v.k,.int .i64 v.n,.string v.s,.int .i64 0,.int .i64 0,.string ⟨#[]⟩] 46 (0,0)) from rfl));replace Hbw:=Lib.hid (Hbw.out.trans (p3.mono (by omega)))
        clear p1 p2 p3 p4 cR cT fR fT
        generalize (((w5.setCell ⟨w.heap.size + 1,3,none⟩ (.int .i64 v.k)).setCell ⟨w.heap.size + 1,4,none⟩ (.int .i64 v.n)).setCell ⟨w.heap.size + 1,5,none⟩ (.string v.s)) = w6 at *
        have cT:=rowc RT.out;have fT:=rowf RT.out;have cR:=rowc RR.out;have fR:=rowf RR.out
        go_wp2_with fail
        go_roundw
        case rel=>exact ⟨1,q + u,v,zv,.inr (.inl rfl),rfl,by first | rfl | go_num,by omega,Hbw.out,RR.out,RT.out,fun h=>(by cases h),fun _=>⟨rfl,t,u,by first | exact HR.out | (rw [← hqe];exact HR.out),HO.out,by omega⟩,fun h=>(by cases h)⟩
        case measure=>simp [intOf]
     ·obtain ⟨rfl,t0,u0,i1,i2,rfl⟩:=Hinv.out.2.1 rfl
      have RT0:Hid (wr.heap[w.heap.size + 1]? = some (.cells #[.int .i64 (e:Nat),.int .i64 (n:Nat),.bool true,.int .i64 lo.k,.int .i64 lo.n,.string lo.s,.int .i64 0,.int .i64 0,.string ⟨#[]⟩] 46 (0,0))):=Lib.hid RT.out
      clear RT
      have RT:=RT0
      clear RT0
      have I1:=Lib.hid i1;have I2:=Lib.hid i2
      clear i1 i2
      have cT:=rowc RT.out;have fT:=rowf RT.out;have cR:=rowc RR.out;have fR:=rowf RR.out
      obtain ⟨q,hqe⟩:∃ q,(p + 1 + 1 + u0) = q:=⟨_,rfl⟩
      rw [hqe] at hq ⊢
      have hqI:(q:Int) ≤ (s.size:Int):=by omega
      have hq0:¬ (s.size:Int) < (q:Int):=by omega
      clear Hinv
      cases hr:readT (s.data.toList.drop q) with
      | none =>
       have HN:=Lib.hid (HT2.out.trans (by rw [show twoRef s.data.toList (k:Nat) (p + 1 + 1) = none from by rw [← hqe] at hr;exact twoRef_3 I1.out I2.out hr]))
       have HL:=Lib.hid (fun w1=>readLong_none (s.extract q s.size) w1 (Hxs.out q) (by rw [Hxl.out];exact hr))
       clear hr
       go_wp2_with fail
       refine (HL.out _).mono ?_;rintro e9 w4 ⟨rfl,rfl⟩
       go_wp2_with fail
       refine bodyPost_ret (v:=.tuple #[.agg #[.int .i64 0,.int .i64 0,.bool false,.int .i64 0,.int .i64 0,.string ⟨#[]⟩,.int .i64 0,.int .i64 0,.string ⟨#[]⟩],.int .i64 0]) ?_ rfl ⟨ret_of (by rw [HN.out];rfl),?_⟩
       focus (refine results_row_tmp Tryz.results26 _ _ w.heap.size 46 _ (0,0) _ rfl ?_ Tryz.underlying46 rfl (by kernel_rfl);with_reducible exact row_set9 RR.out rfl _ _ _ _ _ _ _ _ _)
       focus (with_reducible exact below_set9 Hbw.out _ (Nat.le_refl _) _ _ _ _ _ _ _ _ _)
      | some tu =>
       obtain ⟨t,u⟩:=tu
       have HL:=Lib.hid (fun w1=>readLong_some (s.extract q s.size) w1 (Hxs.out q) (by rw [Hxl.out];exact hr))
       have hul:=readT_le hr
       rw [List.length_drop,hls] at hul
       have hu0:0 < u:=by
        obtain ⟨n',u',hr',_,_,_,hk'⟩:=readT_cases hr
        have:=(readU_lt hr').2.1
        omega
       have hu0':((u:Int) == 0) = false:=by rw [beq_eq_false_iff_ne];omega
       have hts:(⟨t.toArray⟩:ByteArray).size ≤ 1000000:=by show t.toArray.size ≤ _;simp;omega
       have HP:=Lib.hid (fun w1=>readPlainOf_any (k:Nat) ⟨t.toArray⟩ 1 w1 hk1 hk5 (by decide) hts)
       rw [show (⟨t.toArray⟩:ByteArray).data.toList = t from by simp] at HP
       have HR:Hid (readT (s.data.toList.drop (p + 1 + 1 + u0)) = some (t,u)):=Lib.hid (by rw [hqe];exact hr)
       clear hr
       cases hp:readP (k:Nat) t 1 with
       | none =>
        have ho:=oneP_none hk1 hk5 hp
        have HN:=Lib.hid (HT2.out.trans (by rw [show twoRef s.data.toList (k:Nat) (p + 1 + 1) = none from twoRef_4 I1.out I2.out HR.out ho]))
        rw [hp] at HP
        clear hp ho
        go_wp2_with fail
        refine (HL.out _).mono ?_;rintro e9 w4 ⟨rfl,rfl⟩
        go_wp2_with fail
        refine (HP.out _).mono ?_;rintro e9 w5 ⟨⟨u9,rfl⟩,hb5⟩
        replace RR:=Lib.hid (row_keep hb5 RR.out);replace RT:=Lib.hid (row_keep hb5 RT.out);replace Hbw:=Lib.hid (Hbw.out.trans (hb5.mono Hbw.out.size))
        clear hb5 cT fT cR fR
        have cT:=rowc RT.out;have fT:=rowf RT.out;have cR:=rowc RR.out;have fR:=rowf RR.out
        go_wp2_with fail
        refine bodyPost_ret (v:=.tuple #[.agg #[.int .i64 0,.int .i64 0,.bool false,.int .i64 0,.int .i64 0,.string ⟨#[]⟩,.int .i64 0,.int .i64 0,.string ⟨#[]⟩],.int .i64 0]) ?_ rfl ⟨ret_of (by rw [HN.out];rfl),?_⟩
        focus (refine results_row_tmp Tryz.results26 _ _ w.heap.size 46 _ (0,0) _ rfl ?_ Tryz.underlying46 rfl (by kernel_rfl);with_reducible exact row_set9 RR.out rfl _ _ _ _ _ _ _ _ _)
        focus (with_reducible exact below_set9 Hbw.out _ (Nat.le_refl _) _ _ _ _ _ _ _ _ _)
       | some l =>
        obtain ⟨v,rfl,ho,e2,e3⟩:=oneP_some hk1 hk5 hp
        rw [hp] at HP
        have HO:=Lib.hid ho
        clear hp ho e2 e3
        have hgz:=Hbw.out.size
        have hTl:=row_lt RT.out
        go_wp2_with fail
        refine (HL.out _).mono ?_;rintro e9 w4 ⟨rfl,rfl⟩
        go_wp2_with fail
        refine (HP.out _).mono ?_;rintro e9 w5 ⟨⟨u9,rfl,ho5⟩,hb5⟩
        replace RR:=Lib.hid (row_keep hb5 RR.out);replace RT:=Lib.hid (row_keep hb5 RT.out);replace Hbw:=Lib.hid (Hbw.out.trans (hb5.mono Hbw.out.size))
        clear hb5 cT fT cR fR
        have cT:=rowc RT.out;have fT:=rowf RT.out;have cR:=rowc RR.out;have fR:=rowf RR.out
        rcases ho5.2 with ⟨-,h0⟩ | ⟨b9,cap,cur,rfl,hbB,hbc,-⟩
        ·cases h0
        have c0:=ho5.cellAt (g:=b9) 0 (by simp);have c1:=ho5.cellAt (g:=b9) 1 (by simp);have c2:=ho5.cellAt (g:=b9) 2 (by simp)
        simp [valCells] at c0 c1 c2
        have hne:b9 ≠ w.heap.size + 1:=by omega
        clear ho5 hbc
        go_upto_region 35 with fail
        obtain ⟨p1,p2,p3,p4⟩:=set3_row (x:=.int .i64 v.k) (y:=.int .i64 v.n) (z:=.string v.s) 6 RT.out (by simp)
        replace RR:=Lib.hid ((p2 _ (by omega)).trans RR.out);replace RT:=Lib.hid (p1.trans (show _ = some (.cells #[.int .i64 (e:Nat),.int .i64 (n:Nat),.bool true,.int .i64 lo.k,.int .i64 lo.n,.string lo.s,.int .i64 v.k,.int .i64 v.n,.string v.s] 46 (0,0)) from rfl));replace Hbw:=Lib.hid (Hbw.out.trans (p3.mono (by omega)))
        clear p1 p2 p3 p4 cR cT fR fT
        generalize (((w5.setCell ⟨w.heap.size + 1,6,none⟩ (.int .i64 v.k)).setCell ⟨w.heap.size + 1,7,none⟩ (.int .i64 v.n)).setCell ⟨w.heap.size + 1,8,none⟩ (.string v.s)) = w6 at *
        have cT:=rowc RT.out;have fT:=rowf RT.out;have cR:=rowc RR.out;have fR:=rowf RR.out
        go_wp2_with fail
        go_roundw
        case rel=>exact ⟨2,q + u,lo,v,.inr (.inr rfl),rfl,by first | rfl | go_num,by omega,Hbw.out,RR.out,RT.out,fun h=>(by cases h),fun h=>(by cases h),fun _=>⟨t0,u0,t,u,I1.out,I2.out,HR.out,HO.out,by omega⟩⟩
        case measure=>simp [intOf]
     ·obtain ⟨t,u,t2,u2,i1,i2,i3,i4,i5⟩:=Hinv.out.2.2 rfl
      have HTw:=Lib.hid (HT2.out.trans (by rw [twoRef_5 i1 i2 i3 i4]))
      have ol:=oneP_ok i2;have oh:=oneP_ok i4
      have HL:=Lib.hid (fun w1=>show Calls Tryz.prog 56 #[.agg #[.int .i64 hi.k,.int .i64 hi.n,.string hi.s],.agg #[.int .i64 lo.k,.int .i64 lo.n,.string lo.s]] w1 fun e w'=>e = .returned (.bool (hi.less lo)) ∧ Below w1.heap.size w1 w' from lessOf_any hi lo oh.1 ol.1 w1)
      have I5:=Lib.hid i5
      clear i1 i2 i3 i4 i5 ol oh
      have cT:=rowc RT.out;have fT:=rowf RT.out;have cR:=rowc RR.out;have fR:=rowf RR.out
      cases hl:hi.less lo with
      | true =>
       rw [hl] at HL HTw
       have HN:=Lib.hid (HTw.out.trans (by rfl))
       go_wp2_with fail
       refine (HL.out _).mono ?_;rintro e9 w5 ⟨rfl,hb5⟩
       replace RR:=Lib.hid (row_keep hb5 RR.out);replace RT:=Lib.hid (row_keep hb5 RT.out);replace Hbw:=Lib.hid (Hbw.out.trans (hb5.mono Hbw.out.size))
       clear hb5 cT fT cR fR
       have cT:=rowc RT.out;have fT:=rowf RT.out;have cR:=rowc RR.out;have fR:=rowf RR.out
       go_wp2_with fail
       refine bodyPost_ret (v:=.tuple #[.agg #[.int .i64 0,.int .i64 0,.bool false,.int .i64 0,.int .i64 0,.string ⟨#[]⟩,.int .i64 0,.int .i64 0,.string ⟨#[]⟩],.int .i64 0]) ?_ rfl ⟨ret_of (by rw [HN.out];rfl),?_⟩
       focus (refine results_row_tmp Tryz.results26 _ _ w.heap.size 46 _ (0,0) _ rfl ?_ Tryz.underlying46 rfl (by kernel_rfl);with_reducible exact row_set9 RR.out rfl _ _ _ _ _ _ _ _ _)
       focus (with_reducible exact below_set9 Hbw.out _ (Nat.le_refl _) _ _ _ _ _ _ _ _ _)
      | false =>
       rw [hl] at HL HTw
       have HN:=Lib.hid (HTw.out.trans (show _ = some (⟨(e:Nat),(n:Nat),true,lo,hi⟩,q) from by rw [I5.out];rfl))
       go_wp2_with fail
       refine (HL.out _).mono ?_;rintro e9 w5 ⟨rfl,hb5⟩
       replace RR:=Lib.hid (row_keep hb5 RR.out);replace RT:=Lib.hid (row_keep hb5 RT.out);replace Hbw:=Lib.hid (Hbw.out.trans (hb5.mono Hbw.out.size))
       clear hb5 cT fT cR fR
       have cT:=rowc RT.out;have fT:=rowf RT.out;have cR:=rowc RR.out;have fR:=rowf RR.out
       go_wp2_with fail
       refine bodyPost_ret (v:=.tuple #[.agg #[.int .i64 (e:Nat),.int .i64 (n:Nat),.bool true,.int .i64 lo.k,.int .i64 lo.n,.string lo.s,.int .i64 hi.k,.int .i64 hi.n,.string hi.s],.int .i64 (q:Nat)]) ?_ rfl ⟨ret_of (by rw [HN.out];rfl),?_⟩
       focus (refine results_row_tmp Tryz.results26 _ _ w.heap.size 46 _ (0,0) _ rfl ?_ Tryz.underlying46 rfl (by kernel_rfl);with_reducible exact row_set9 RR.out rfl _ _ _ _ _ _ _ _ _)
       focus (with_reducible exact below_set9 Hbw.out _ (Nat.le_refl _) _ _ _ _ _ _ _ _ _)
   ·have HN:=Lib.hid (HT.out.trans (show refTail s.data.toList e n p = none from by unfold refTail;have e0:s[p].toNat = 1:=h81;rw [if_neg (by rw [hls];omega),HG.out,if_neg h7,if_pos (by rw [e0,decide_eq_false h9];rfl)]))
    have h9':¬ (n:Int) < (e:Int):=by omega
    have h9'':decide (n < e) = false:=by simpa using h9
    clear h9 h8 h81 h7
    go_upto_region 14 with fail
    obtain ⟨p1,p2,p3,p4⟩:=set3_row (x:=.int .i64 (e:Nat)) (y:=.int .i64 (n:Nat)) (z:=.bool true) 0 RT.out (by simp)
    replace RR:=Lib.hid ((p2 _ (by omega)).trans RR.out);replace RT:=Lib.hid (p1.trans (show _ = some (.cells #[.int .i64 (e:Nat),.int .i64 (n:Nat),.bool true,.int .i64 0,.int .i64 0,.string ⟨#[]⟩,.int .i64 0,.int .i64 0,.string ⟨#[]⟩] 46 (0,0)) from rfl));replace Hbw:=Lib.hid (Hbw.out.trans (p3.mono (by omega)))
    clear p1 p2 p3 p4 cR cT fR fT
    generalize (((w2.setCell ⟨w.heap.size + 1,0,none⟩ (.int .i64 (e:Nat))).setCell ⟨w.heap.size + 1,1,none⟩ (.int .i64 (n:Nat))).setCell ⟨w.heap.size + 1,2,none⟩ (.bool true)) = w3 at *
    have cT:=rowc RT.out;have fT:=rowf RT.out;have cR:=rowc RR.out;have fR:=rowf RR.out
    go_wp2_with fail
    refine bodyPost_ret (v:=.tuple #[.agg #[.int .i64 0,.int .i64 0,.bool false,.int .i64 0,.int .i64 0,.string ⟨#[]⟩,.int .i64 0,.int .i64 0,.string ⟨#[]⟩],.int .i64 0]) ?_ rfl ⟨ret_of (by rw [HN.out];rfl),?_⟩
    focus (refine results_row_tmp Tryz.results26 _ _ w.heap.size 46 _ (0,0) _ rfl ?_ Tryz.underlying46 rfl (by kernel_rfl);with_reducible exact row_set9 RR.out rfl _ _ _ _ _ _ _ _ _)
    focus (with_reducible exact below_set9 Hbw.out _ (Nat.le_refl _) _ _ _ _ _ _ _ _ _)
end Go.Proofs.YtapiabmmfmfaeaaGreatDoor
