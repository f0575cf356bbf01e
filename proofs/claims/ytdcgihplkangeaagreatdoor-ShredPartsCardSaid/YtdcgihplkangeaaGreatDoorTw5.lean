/- The walk of schema.Valid. -/
import Derived.Test.YtdcgihplkangeaaGreatDoorTw1
import Derived.Test.YtdcgihplkangeaaGreatDoorMErr
import Derived.Laws.EntriesVeiled
import Derived.Test.YtdcgihplkangeaaGreatDoorTa0
import Derived.Deep.DeepCutAuto
import Derived.Test.YtdcgihplkangeaaGreatDoorTv3
namespace Go.Proofs.YtdcgihplkangeaaGreatDoor
set_option maxHeartbeats 16000000
set_option linter.unusedVariables false
set_option linter.unusedSimpArgs false
open Go Go.RowKit Go.ChangeShapes
def eV (adr:Nat → Addr):Nat → Value
 | 0=>.nilIface
 | k + 1=>.iface 176 (.pointer (some (adr (k + 1))))
set_option maxRecDepth 100000 in
theorem valid_any (n:Nd) (u:Value) (w:World) (adr:Nat → Addr) (hE:ErrsAt w adr [2,3,5]) (hN:IsNds (· < w.heap.size) w u n.sub) (hO:∀ x ∈ nodes n,x.Ok1) :
  Calls Tryz.prog 55 #[.agg (ndA n u)] w fun e w'=>e = .returned (eV adr (validE n)) ∧ Below w.heap.size w w':=by
 have e2:=hE.cell 2 (by decide);have e3:=hE.cell 3 (by decide);have e5:=hE.cell 5 (by decide)
 have g2:=block_lt_of_cell e2;have g3:=block_lt_of_cell e3;have g5:=block_lt_of_cell e5
 unfold gErr at e2 e3 e5 g2 g3 g5
 have HE2:=Lib.hid (fun (w1:World) (h:Below w.heap.size w w1)=>((bcell h).1 _ 0 g2).trans e2)
 have HE3:=Lib.hid (fun (w1:World) (h:Below w.heap.size w w1)=>((bcell h).1 _ 0 g3).trans e3)
 have HE5:=Lib.hid (fun (w1:World) (h:Below w.heap.size w w1)=>((bcell h).1 _ 0 g5).trans e5)
 have HN:=Lib.hid hN;have HO:=Lib.hid hO
 clear hE e2 e3 e5 g2 g3 g5 hN hO
 obtain ⟨R,hR⟩:∃ R,validE n = R:=⟨_,rfl⟩
 rw [hR]
 have HRr:=Lib.hid hR
 clear hR
 obtain ⟨ad,cp,rfl⟩:=HN.out.form
 obtain ⟨len,hlen⟩:∃ len,n.sub.length = len:=⟨_,rfl⟩
 have HEm:=Lib.hid (show n.sub.isEmpty = decide (len = 0) by rw [← hlen];cases n.sub <;> simp)
 rw [hlen] at HN ⊢
 clear hlen
 have HW1:=Lib.hid (fun (w1:World) (hb:Below w.heap.size w w1) (b:Nat) (hbb:w.heap.size ≤ b) (hr:ManyAt b 0 w1)=>walk_any w.heap.size (· < w.heap.size) (fun _=>False) (fun _=>ManyAt b) cntF 69 #[.pointer (some ⟨b,0,none⟩)]
  (enters_of Tryz.func69 (by kernel_rfl) rfl) (fun _ h=>h) (fun _ _ _ _ h=>h) (fun _ s w1 w2 h _ hb=>row_keep hb h) (fun _ _ s w1 h _=>h) (valid1_any w.heap.size _ b hbb) n 0 (.slice ad len cp) 1 0 w1 hb.size hr (HN.out.under hb) HO.out)
 have HW2:=Lib.hid (fun (w1:World) (hb:Below w.heap.size w w1) (b:Nat) (hbb:w.heap.size ≤ b) (hr:LeafAt b 0 () w1)=>all_any w.heap.size (· < w.heap.size) (fun _=>False) (LeafAt b) shapeF 72 #[.pointer (some ⟨b,0,none⟩)]
  (fun _ h=>h) (fun _ _ _ _ h=>h) (enters_of Tryz.func72 (by kernel_rfl) rfl) (fun _ s w1 w2 h _ hb=>row_keep hb h) (fun _ _ s w1 h _=>h) (valid3_any w.heap.size _ b hbb) 0 n (.slice ad len cp) () w1 hb.size hr (HN.out.under hb) HO.out)
 have HW3:=Lib.hid (fun (w1:World) (hb:Below w.heap.size w w1)=>walk_any w.heap.size (· < w.heap.size) (fun _=>False) (fun _ _ _=>True) namesF 73 #[]
  (enters_of Tryz.func73 (by kernel_rfl) rfl) (fun _ h=>h) (fun _ _ _ _ h=>h) (fun _ s w1 w2 h _ hb=>trivial) (fun _ _ s w1 h _=>h) (valid4_any w.heap.size _ (fun _ h=>h)) n 0 (.slice ad len cp) 0 () w1 hb.size trivial (HN.out.under hb) HO.out)
 have HW4:=Lib.hid (fun (w1:World) (hb:Below w.heap.size w w1) (b:Nat) (hbb:w.heap.size ≤ b) (hr:IdsAt b (0 + size n) [] w1)=>all_any w.heap.size (· < w.heap.size) (fun _=>False) (IdsAt b) idsG 76 #[.pointer (some ⟨b,0,none⟩)]
  (fun _ h=>h) (fun _ _ _ _ h=>h) (enters_of Tryz.func76 (by kernel_rfl) rfl) (fun _ s w1 w2 ⟨v,h1,h2,h3⟩ _ hb=>⟨v,row_keep hb h1,own_blw h2 hb,h3⟩) (fun _ _ s w1 ⟨v,h1,h2,h3⟩ hm=>⟨v,h1,h2,by omega⟩) (valid5_any w.heap.size _ b hbb (fun _ h=>h)) 0 n (.slice ad len cp) [] w1 hb.size hr (HN.out.under hb) HO.out)
 have HX1:=Lib.hid (good_cnt n)
 have HX2:=Lib.hid (fun hg:goodB n = true=>(congrArg Prod.fst (run_below (allF shapeF) shapeF n () hg rfl (fun x k t hk=>by unfold allF;rw [if_neg (by omega)]))).trans (runG_all okShape (nodesL n.sub) ()))
 have HX3:=Lib.hid ((congrArg Prod.fst (run_all namesF (fun x s=>(namesR [] x.sub,s)) n 0 () (fun x k t=>rfl))).trans (runG_all (fun x=>namesR [] x.sub) (nodes n) ()))
 have HX4:=Lib.hid (fun hg:goodB n = true=>congrArg Prod.fst (run_below (allF idsG) idsG n [] hg rfl (fun x k t hk=>by unfold allF;rw [if_neg (by omega)])))
 unfold ndA at HW1 HW2 HW3 HW4
 unfold ndA
 go_enter Tryz.func55,Tryz.ntmps55
 go_upto_region 2 with fail
 obtain ⟨rN,rM,hbw,hz⟩:=rows2 (w:=w) (A:=.cells #[.int .i64 n.id,.string n.name,.int .i64 n.rep,.int .i64 n.kind,.slice ad len cp] 48) (B:=.cells #[.int .i64 0] 3) (Below.refl _ _)
 generalize ((w.alloc (.cells #[.int .i64 n.id,.string n.name,.int .i64 n.rep,.int .i64 n.kind,.slice ad len cp] 48)).alloc (.cells #[.int .i64 0] 3)) = w2 at *
 have RN:=Lib.hid rN;have HB:=Lib.hid hbw
 have hc:=HW1.out w2 HB.out (w.heap.size + 1) (Nat.le_succ _) rM
 rw [HX1.out] at hc
 have HC:=Lib.hid hc
 have cN:=rowc rN
 clear rN rM hbw hz hc
 go_wp2_with fail
 refine HC.out.mono ?_;rintro e w3 ⟨rfl,-,hk3⟩
 replace RN:=Lib.hid (hk3.keep _ _ _ _ (.inl rfl) id RN.out);replace HB:=Lib.hid (HB.out.trans hk3.below)
 clear HC hk3 cN
 cases hg:goodB n with
 | false =>
  obtain rfl:2 = R:=by rw [← HRr.out];simp [validE,hg]
  have ce:=HE2.out _ HB.out
  clear HRr HX1 HX2 HX3 HX4
  go_wp2_with fail
  go_ret
  exact ⟨rfl,HB.out⟩
 | true =>
  have HG:=Lib.hid hg
  go_upto_region 5 with fail
  have hw4:Below w3.heap.size w3 (w3.alloc (.cells #[.func (.func 70) #[] #[]] 50)):=(Below.refl _ _).alloc (Nat.le_refl _) _
  have hrl:=heap_alloc_new w3 (.cells #[.func (.func 70) #[] #[]] 50)
  have hbl:w.heap.size ≤ w3.heap.size:=HB.out.size
  replace RN:=Lib.hid (row_keep hw4 RN.out);replace HB:=Lib.hid (HB.out.trans (hw4.mono HB.out.size));have RL:=Lib.hid hrl
  generalize w3.alloc (.cells #[.func (.func 70) #[] #[]] 50) = w4 at *
  generalize w3.heap.size = gl at *
  clear hw4 hrl
  have cN:=rowc RN.out
  by_cases r1:n.id = 0
  case neg =>
   have HRO:=Lib.hid (show rootOk n = false by unfold rootOk;rw [decide_eq_false r1];rfl)
   have d1:((n.id:Int) != 0) = true:=by simpa using r1
   clear r1
   obtain rfl:3 = R:=by rw [← HRr.out];simp [validE,HG.out,HRO.out]
   have ce:=HE3.out _ HB.out
   clear HRr HX1 HX2 HX3 HX4
   go_wp2_with fail
   go_ret
   exact ⟨rfl,HB.out⟩
  have d1:((n.id:Int) != 0) = false:=by simpa using r1
  by_cases r2:n.name.toList = [114,111,111,116]
  case neg =>
   have HRO:=Lib.hid (show rootOk n = false by unfold rootOk;rw [decide_eq_false (fun h=>r2 ((root_name _).1 h))];simp)
   clear r1
   obtain rfl:3 = R:=by rw [← HRr.out];simp [validE,HG.out,HRO.out]
   have ce:=HE3.out _ HB.out
   clear HRr HX1 HX2 HX3 HX4
   go_wp2_with fail
   go_ret
   exact ⟨rfl,HB.out⟩
  by_cases r3:n.rep = 1
  case neg =>
   have HRO:=Lib.hid (show rootOk n = false by unfold rootOk;rw [decide_eq_false r3];simp)
   have d3:((n.rep:Int) != 1) = true:=by simpa using r3
   clear r1 r3
   obtain rfl:3 = R:=by rw [← HRr.out];simp [validE,HG.out,HRO.out]
   have ce:=HE3.out _ HB.out
   clear HRr HX1 HX2 HX3 HX4
   go_wp2_with fail
   go_ret
   exact ⟨rfl,HB.out⟩
  have d3:((n.rep:Int) != 1) = false:=by simpa using r3
  by_cases r4:n.kind = 0
  case neg =>
   have HRO:=Lib.hid (show rootOk n = false by unfold rootOk;rw [decide_eq_false r4];simp)
   have d4:((n.kind:Int) != 0) = true:=by simpa using r4
   clear r1 r3 r4
   obtain rfl:3 = R:=by rw [← HRr.out];simp [validE,HG.out,HRO.out]
   have ce:=HE3.out _ HB.out
   clear HRr HX1 HX2 HX3 HX4
   go_wp2_with fail
   go_ret
   exact ⟨rfl,HB.out⟩
  have d4:((n.kind:Int) != 0) = false:=by simpa using r4
  by_cases r5:¬ len = 0
  case neg =>
   have HRO:=Lib.hid (show rootOk n = false by unfold rootOk;rw [HEm.out,decide_eq_true (Classical.not_not.1 r5)];simp)
   have d5:(((len:Nat):Int) == 0) = true:=by simpa using r5
   clear r1 r3 r4 r5
   obtain rfl:3 = R:=by rw [← HRr.out];simp [validE,HG.out,HRO.out]
   have ce:=HE3.out _ HB.out
   clear HRr HX1 HX2 HX3 HX4
   go_wp2_with fail
   go_ret
   exact ⟨rfl,HB.out⟩
  have d5:(((len:Nat):Int) == 0) = false:=by simpa using r5
  have HRO:=Lib.hid (show rootOk n = true by unfold rootOk;rw [decide_eq_true r1,decide_eq_true ((root_name _).2 r2),decide_eq_true r3,decide_eq_true r4,HEm.out,decide_eq_false r5];rfl)
  clear r1 r3 r4 r5
  go_wp2_with fail
  clear d1 r2 d3 d4 d5
  have hc:=HW2.out w4 HB.out gl hbl RL.out
  rw [HX2.out HG.out] at hc
  have HC:=Lib.hid hc
  clear hc
  refine HC.out.mono ?_;rintro e w5 ⟨rfl,-,hk5⟩
  replace RN:=Lib.hid (hk5.keep _ _ _ _ (.inl rfl) id RN.out);replace HB:=Lib.hid (HB.out.trans hk5.below)
  clear HC hk5 cN
  cases hs:(nodesL n.sub).all okShape with
  | false =>
   obtain rfl:3 = R:=by rw [← HRr.out];simp [validE,HG.out,HRO.out,hs]
   have ce:=HE3.out _ HB.out
   clear HRr HX1 HX2 HX3 HX4
   go_wp2_with fail
   go_ret
   exact ⟨rfl,HB.out⟩
  | true =>
   have HS:=Lib.hid hs
   clear hs
   have cN:=rowc RN.out
   go_wp2_with fail
   have hc:=HW3.out w5 HB.out
   rw [HX3.out] at hc
   have HC:=Lib.hid hc
   clear hc
   refine HC.out.mono ?_;rintro e w6 ⟨rfl,-,hk6⟩
   replace RN:=Lib.hid (hk6.keep _ _ _ _ (.inl rfl) id RN.out);replace HB:=Lib.hid (HB.out.trans hk6.below)
   clear HC hk6 cN
   cases hm:(nodes n).all fun x=>namesR [] x.sub with
   | false =>
    obtain rfl:5 = R:=by rw [← HRr.out];simp [validE,HG.out,HRO.out,HS.out,hm]
    have ce:=HE5.out _ HB.out
    clear HRr HX1 HX2 HX3 HX4
    go_wp2_with fail
    go_ret
    exact ⟨rfl,HB.out⟩
   | true =>
    have HM:=Lib.hid hm
    clear hm
    go_upto_region 13 with fail
    have hw7:Below w6.heap.size w6 (w6.alloc (.cells #[.slice none 0 0] 22)):=(Below.refl _ _).alloc (Nat.le_refl _) _
    have hri:=heap_alloc_new w6 (.cells #[.slice none 0 0] 22)
    have hbi:w.heap.size ≤ w6.heap.size:=HB.out.size
    replace RN:=Lib.hid (row_keep hw7 RN.out);replace HB:=Lib.hid (HB.out.trans (hw7.mono HB.out.size));have RI:=Lib.hid hri
    generalize w6.alloc (.cells #[.slice none 0 0] 22) = w7 at *
    generalize w6.heap.size = gi at *
    clear hw7 hri
    have cN:=rowc RN.out
    have hsz:size n ≤ 40:=by have:=HG.out;unfold goodB at this;rw [decide_eq_true_iff] at this;exact this.1
    have hc:=HW4.out w7 HB.out gi hbi ⟨_,RI.out,World.ownsRow_nil _ _ _ _,by simp;omega⟩
    rw [HX4.out HG.out] at hc
    have HC:=Lib.hid hc
    clear hc hsz
    go_wp2_with fail
    refine HC.out.mono ?_;rintro e w8 ⟨rfl,-,hk8⟩
    replace HB:=Lib.hid (HB.out.trans hk8.below)
    clear HC hk8 cN
    cases hd:(runG idsG (nodesL n.sub) []).1 with
    | false =>
     obtain rfl:5 = R:=by rw [← HRr.out];simp [validE,HG.out,HRO.out,HS.out,HM.out,hd]
     have ce:=HE5.out _ HB.out
     clear HRr HX1 HX2 HX3 HX4
     go_wp2_with fail
     go_ret
     exact ⟨rfl,HB.out⟩
    | true =>
     obtain rfl:0 = R:=by rw [← HRr.out];simp [validE,HG.out,HRO.out,HS.out,HM.out,hd]
     clear HRr HX1 HX2 HX3 HX4
     go_wp2_with fail
     go_ret
     exact ⟨rfl,HB.out⟩
end Go.Proofs.YtdcgihplkangeaaGreatDoor
/- The walk of auto.Build. -/
namespace Go.Proofs.YtdcgihplkangeaaGreatDoor
set_option linter.unusedVariables false
set_option linter.unusedSimpArgs false
open Go Go.RowKit Go.ChangeShapes
theorem valid_facts {n:Nd} (h:validE n = 0):goodB n = true ∧ rootOk n = true ∧ (nodesL n.sub).all okShape = true ∧ (runG idsG (nodesL n.sub) []).1 = true:=by
 unfold validE at h
 repeat' split at h
 all_goals first | exact ⟨by assumption,by assumption,by assumption,by assumption⟩ | omega
end Go.Proofs.YtdcgihplkangeaaGreatDoor
/- Plain: lists of leaves of a tree whose nodes have IDs of their own. -/
namespace Go.Proofs.YtdcgihplkangeaaGreatDoor
set_option linter.unusedVariables false
set_option linter.unusedSimpArgs false
open Go Go.RowKit Go.ChangeShapes
def Tri (x y:List Int):Prop:=∀ (i:Nat) (d:Int),y[i]? = some d → (i < commonN x y ↔ d ∈ x)
theorem common_app (p a b:List Int):commonN (p ++ a) (p ++ b) = p.length + commonN a b:=by
 induction p with
 | nil=>simp
 | cons h t ih=>simp only [List.cons_append,commonN,if_true,ih,List.length_cons];omega
theorem Tri.app {p a b:List Int} (h:Tri a b) (hp:∀ d ∈ p,d ∉ b):Tri (p ++ a) (p ++ b):=by
 intro i d hd
 rw [common_app]
 by_cases hi:i < p.length
 ·rw [List.getElem?_append_left hi] at hd
  exact ⟨fun _=>List.mem_append_left _ (List.mem_of_getElem? hd),fun _=>by omega⟩
 ·rw [List.getElem?_append_right (by omega)] at hd
  have h1:=h _ _ hd
  have hb:=List.mem_of_getElem? hd
  constructor
  ·intro h2;exact List.mem_append_right _ (h1.1 (by omega))
  ·intro h2
   rcases List.mem_append.1 h2 with h2 | h2
   ·exact absurd hb (hp d h2)
   ·have:=h1.2 h2;omega
end Go.Proofs.YtdcgihplkangeaaGreatDoor
/- Plain: the document's lists of a leaf are the program's. -/
namespace Go.Proofs.YtdcgihplkangeaaGreatDoor
set_option linter.unusedVariables false
set_option linter.unusedSimpArgs false
open Go Go.RowKit Go.ChangeShapes
end Go.Proofs.YtdcgihplkangeaaGreatDoor
