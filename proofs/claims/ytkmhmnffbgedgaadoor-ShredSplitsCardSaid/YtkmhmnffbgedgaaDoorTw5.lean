/- The walk of schema.Valid. -/
import Derived.Test.YtkmhmnffbgedgaaDoorTw0
import Derived.Test.YtkmhmnffbgedgaaDoorMErr
import Derived.Laws.EntriesVeiled
import Derived.Test.YtkmhmnffbgedgaaDoorTa0
import Derived.Deep.DeepCutAuto
import Derived.Test.YtkmhmnffbgedgaaDoorTv3
import Derived.Test.YtkmhmnffbgedgaaDoorSh5
import Derived.Test.YtkmhmnffbgedgaaDoorColC
namespace Go.Proofs.YtkmhmnffbgedgaaDoor
set_option maxHeartbeats 16000000
set_option linter.unusedVariables false
set_option linter.unusedSimpArgs false
open Go Go.RowKit Go.ChangeShapes
def eV (adr:Nat → Addr):Nat → Value
 | 0=>.nilIface
 | k + 1=>.iface 174 (.pointer (some (adr (k + 1))))
set_option maxRecDepth 100000 in
theorem valid_any (n:Nd) (u:Value) (w:World) (adr:Nat → Addr) (hE:ErrsAt w adr [2,3,5]) (hN:IsNds (· < w.heap.size) w u n.sub) (hO:∀ x ∈ nodes n,x.Ok1) :
  Calls Tryd.prog 49 #[.agg (ndA n u)] w fun e w'=>e = .returned (eV adr (validE n)) ∧ Below w.heap.size w w':=by
 have e2:=hE.cell 2 (by decide);have e3:=hE.cell 3 (by decide);have e5:=hE.cell 5 (by decide)
 have g2:=block_lt_of_cell e2;have g3:=block_lt_of_cell e3;have g5:=block_lt_of_cell e5
 unfold gErr at e2 e3 e5 g2 g3 g5
 have HE2:=Lib.hid (fun (w1:World) (h:Below w.heap.size w w1)=>((bcell h).1 _ 0 g2).trans e2)
 have HE3:=Lib.hid (fun (w1:World) (h:Below w.heap.size w w1)=>((bcell h).1 _ 0 g3).trans e3)
 have HE5:=Lib.hid (fun (w1:World) (h:Below w.heap.size w w1)=>((bcell h).1 _ 0 g5).trans e5)
 have HN:=Lib.hid hN;have HO:=Lib.hid hO
 clear hE e2 e3 e5 g2 g3 g5 hN hO
 obtain ⟨R,hR⟩:∃ R,validE n = R:=⟨_,rfl⟩
 rw [hR]
 have HRr:=Lib.hid hR
 clear hR
 obtain ⟨ad,cp,rfl⟩:=HN.out.form
 obtain ⟨len,hlen⟩:∃ len,n.sub.length = len:=⟨_,rfl⟩
 have HEm:=Lib.hid (show n.sub.isEmpty = decide (len = 0) by rw [← hlen];cases n.sub <;> simp)
 rw [hlen] at HN ⊢
 clear hlen
 have HW1:=Lib.hid (fun (w1:World) (hb:Below w.heap.size w w1) (b:Nat) (hbb:w.heap.size ≤ b) (hr:ManyAt b 0 w1)=>walk_any w.heap.size (· < w.heap.size) (fun _=>False) (fun _=>ManyAt b) cntF 66 #[.pointer (some ⟨b,0,none⟩)]
  (enters_of Tryd.func66 (by kernel_rfl) rfl) (fun _ h=>h) (fun _ _ _ _ h=>h) (fun _ s w1 w2 h _ hb=>row_keep hb h) (fun _ _ s w1 h _=>h) (valid1_any w.heap.size _ b hbb) n 0 (.slice ad len cp) 1 0 w1 hb.size hr (HN.out.under hb) HO.out)
 have HW2:=Lib.hid (fun (w1:World) (hb:Below w.heap.size w w1) (b:Nat) (hbb:w.heap.size ≤ b) (hr:LeafAt b 0 () w1)=>all_any w.heap.size (· < w.heap.size) (fun _=>False) (LeafAt b) shapeF 69 #[.pointer (some ⟨b,0,none⟩)]
  (fun _ h=>h) (fun _ _ _ _ h=>h) (enters_of Tryd.func69 (by kernel_rfl) rfl) (fun _ s w1 w2 h _ hb=>row_keep hb h) (fun _ _ s w1 h _=>h) (valid3_any w.heap.size _ b hbb) 0 n (.slice ad len cp) () w1 hb.size hr (HN.out.under hb) HO.out)
 have HW3:=Lib.hid (fun (w1:World) (hb:Below w.heap.size w w1)=>walk_any w.heap.size (· < w.heap.size) (fun _=>False) (fun _ _ _=>True) namesF 70 #[]
  (enters_of Tryd.func70 (by kernel_rfl) rfl) (fun _ h=>h) (fun _ _ _ _ h=>h) (fun _ s w1 w2 h _ hb=>trivial) (fun _ _ s w1 h _=>h) (valid4_any w.heap.size _ (fun _ h=>h)) n 0 (.slice ad len cp) 0 () w1 hb.size trivial (HN.out.under hb) HO.out)
 have HW4:=Lib.hid (fun (w1:World) (hb:Below w.heap.size w w1) (b:Nat) (hbb:w.heap.size ≤ b) (hr:IdsAt b (0 + size n) [] w1)=>all_any w.heap.size (· < w.heap.size) (fun _=>False) (IdsAt b) idsG 73 #[.pointer (some ⟨b,0,none⟩)]
  (fun _ h=>h) (fun _ _ _ _ h=>h) (enters_of Tryd.func73 (by kernel_rfl) rfl) (fun _ s w1 w2 ⟨v,h1,h2,h3⟩ _ hb=>⟨v,row_keep hb h1,own_blw h2 hb,h3⟩) (fun _ _ s w1 ⟨v,h1,h2,h3⟩ hm=>⟨v,h1,h2,by omega⟩) (valid5_any w.heap.size _ b hbb (fun _ h=>h)) 0 n (.slice ad len cp) [] w1 hb.size hr (HN.out.under hb) HO.out)
 have HX1:=Lib.hid (good_cnt n)
 have HX2:=Lib.hid (fun hg:goodB n = true=>(congrArg Prod.fst (run_below (allF shapeF) shapeF n () hg rfl (fun x k t hk=>by unfold allF;rw [if_neg (by omega)]))).trans (runG_all okShape (nodesL n.sub) ()))
 have HX3:=Lib.hid ((congrArg Prod.fst (run_all namesF (fun x s=>(namesR [] x.sub,s)) n 0 () (fun x k t=>rfl))).trans (runG_all (fun x=>namesR [] x.sub) (nodes n) ()))
 have HX4:=Lib.hid (fun hg:goodB n = true=>congrArg Prod.fst (run_below (allF idsG) idsG n [] hg rfl (fun x k t hk=>by unfold allF;rw [if_neg (by omega)])))
 unfold ndA at HW1 HW2 HW3 HW4
 unfold ndA
 go_enter Tryd.func49,Tryd.ntmps49
 go_upto_region 2 with fail
 obtain ⟨rN,rM,hbw,hz⟩:=rows2 (w:=w) (A:=.cells #[.int .i64 n.id,.string n.name,.int .i64 n.rep,.int .i64 n.kind,.slice ad len cp] 47) (B:=.cells #[.int .i64 0] 3) (Below.refl _ _)
 generalize ((w.alloc (.cells #[.int .i64 n.id,.string n.name,.int .i64 n.rep,.int .i64 n.kind,.slice ad len cp] 47)).alloc (.cells #[.int .i64 0] 3)) = w2 at *
 have RN:=Lib.hid rN;have HB:=Lib.hid hbw
 have hc:=HW1.out w2 HB.out (w.heap.size + 1) (Nat.le_succ _) rM
 rw [HX1.out] at hc
 have HC:=Lib.hid hc
 have cN:=rowc rN
 clear rN rM hbw hz hc
 go_wp2_with fail
 refine HC.out.mono ?_;rintro e w3 ⟨rfl,-,hk3⟩
 replace RN:=Lib.hid (hk3.keep _ _ _ _ (.inl rfl) id RN.out);replace HB:=Lib.hid (HB.out.trans hk3.below)
 clear HC hk3 cN
 cases hg:goodB n with
 | false =>
  obtain rfl:2 = R:=by rw [← HRr.out];simp [validE,hg]
  have ce:=HE2.out _ HB.out
  clear HRr HX1 HX2 HX3 HX4
  go_wp2_with fail
  go_ret
  exact ⟨rfl,HB.out⟩
 | true =>
  have HG:=Lib.hid hg
  go_upto_region 5 with fail
  have hw4:Below w3.heap.size w3 (w3.alloc (.cells #[.func (.func 67) #[] #[]] 49)):=(Below.refl _ _).alloc (Nat.le_refl _) _
  have hrl:=heap_alloc_new w3 (.cells #[.func (.func 67) #[] #[]] 49)
  have hbl:w.heap.size ≤ w3.heap.size:=HB.out.size
  replace RN:=Lib.hid (row_keep hw4 RN.out);replace HB:=Lib.hid (HB.out.trans (hw4.mono HB.out.size));have RL:=Lib.hid hrl
  generalize w3.alloc (.cells #[.func (.func 67) #[] #[]] 49) = w4 at *
  generalize w3.heap.size = gl at *
  clear hw4 hrl
  have cN:=rowc RN.out
  by_cases r1:n.id = 0
  case neg =>
   have HRO:=Lib.hid (show rootOk n = false by unfold rootOk;rw [decide_eq_false r1];rfl)
   have d1:((n.id:Int) != 0) = true:=by simpa using r1
   clear r1
   obtain rfl:3 = R:=by rw [← HRr.out];simp [validE,HG.out,HRO.out]
   have ce:=HE3.out _ HB.out
   clear HRr HX1 HX2 HX3 HX4
   go_wp2_with fail
   go_ret
   exact ⟨rfl,HB.out⟩
  have d1:((n.id:Int) != 0) = false:=by simpa using r1
  by_cases r2:n.name.toList = [114,111,111,116]
  case neg =>
   have HRO:=Lib.hid (show rootOk n = false by unfold rootOk;rw [decide_eq_false (fun h=>r2 ((root_name _).1 h))];simp)
   clear r1
   obtain rfl:3 = R:=by rw [← HRr.out];simp [validE,HG.out,HRO.out]
   have ce:=HE3.out _ HB.out
   clear HRr HX1 HX2 HX3 HX4
   go_wp2_with fail
   go_ret
   exact ⟨rfl,HB.out⟩
  by_cases r3:n.rep = 1
  case neg =>
   have HRO:=Lib.hid (show rootOk n = false by unfold rootOk;rw [decide_eq_false r3];simp)
   have d3:((n.rep:Int) != 1) = true:=by simpa using r3
   clear r1 r3
   obtain rfl:3 = R:=by rw [← HRr.out];simp [validE,HG.out,HRO.out]
   have ce:=HE3.out _ HB.out
   clear HRr HX1 HX2 HX3 HX4
   go_wp2_with fail
   go_ret
   exact ⟨rfl,HB.out⟩
  have d3:((n.rep:Int) != 1) = false:=by simpa using r3
  by_cases r4:n.kind = 0
  case neg =>
   have HRO:=Lib.hid (show rootOk n = false by unfold rootOk;rw [decide_eq_false r4];simp)
   have d4:((n.kind:Int) != 0) = true:=by simpa using r4
   clear r1 r3 r4
   obtain rfl:3 = R:=by rw [← HRr.out];simp [validE,HG.out,HRO.out]
   have ce:=HE3.out _ HB.out
   clear HRr HX1 HX2 HX3 HX4
   go_wp2_with fail
   go_ret
   exact ⟨rfl,HB.out⟩
  have d4:((n.kind:Int) != 0) = false:=by simpa using r4
  by_cases r5:¬ len = 0
  case neg =>
   have HRO:=Lib.hid (show rootOk n = false by unfold rootOk;rw [HEm.out,decide_eq_true (Classical.not_not.1 r5)];simp)
   have d5:(((len:Nat):Int) == 0) = true:=by simpa using r5
   clear r1 r3 r4 r5
   obtain rfl:3 = R:=by rw [← HRr.out];simp [validE,HG.out,HRO.out]
   have ce:=HE3.out _ HB.out
   clear HRr HX1 HX2 HX3 HX4
   go_wp2_with fail
   go_ret
   exact ⟨rfl,HB.out⟩
  have d5:(((len:Nat):Int) == 0) = false:=by simpa using r5
  have HRO:=Lib.hid (show rootOk n = true by unfold rootOk;rw [decide_eq_true r1,decide_eq_true ((root_name _).2 r2),decide_eq_true r3,decide_eq_true r4,HEm.out,decide_eq_false r5];rfl)
  clear r1 r3 r4 r5
  go_wp2_with fail
  clear d1 r2 d3 d4 d5
  have hc:=HW2.out w4 HB.out gl hbl RL.out
  rw [HX2.out HG.out] at hc
  have HC:=Lib.hid hc
  clear hc
  refine HC.out.mono ?_;rintro e w5 ⟨rfl,-,hk5⟩
  replace RN:=Lib.hid (hk5.keep _ _ _ _ (.inl rfl) id RN.out);replace HB:=Lib.hid (HB.out.trans hk5.below)
  clear HC hk5 cN
  cases hs:(nodesL n.sub).all okShape with
  | false =>
   obtain rfl:3 = R:=by rw [← HRr.out];simp [validE,HG.out,HRO.out,hs]
   have ce:=HE3.out _ HB.out
   clear HRr HX1 HX2 HX3 HX4
   go_wp2_with fail
   go_ret
   exact ⟨rfl,HB.out⟩
  | true =>
   have HS:=Lib.hid hs
   clear hs
   have cN:=rowc RN.out
   go_wp2_with fail
   have hc:=HW3.out w5 HB.out
   rw [HX3.out] at hc
   have HC:=Lib.hid hc
   clear hc
   refine HC.out.mono ?_;rintro e w6 ⟨rfl,-,hk6⟩
   replace RN:=Lib.hid (hk6.keep _ _ _ _ (.inl rfl) id RN.out);replace HB:=Lib.hid (HB.out.trans hk6.below)
   clear HC hk6 cN
   cases hm:(nodes n).all fun x=>namesR [] x.sub with
   | false =>
    obtain rfl:5 = R:=by rw [← HRr.out];simp [validE,HG.out,HRO.out,HS.out,hm]
    have ce:=HE5.out _ HB.out
    clear HRr HX1 HX2 HX3 HX4
    go_wp2_with fail
    go_ret
    exact ⟨rfl,HB.out⟩
   | true =>
    have HM:=Lib.hid hm
    clear hm
    go_upto_region 13 with fail
    have hw7:Below w6.heap.size w6 (w6.alloc (.cells #[.slice none 0 0] 22)):=(Below.refl _ _).alloc (Nat.le_refl _) _
    have hri:=heap_alloc_new w6 (.cells #[.slice none 0 0] 22)
    have hbi:w.heap.size ≤ w6.heap.size:=HB.out.size
    replace RN:=Lib.hid (row_keep hw7 RN.out);replace HB:=Lib.hid (HB.out.trans (hw7.mono HB.out.size));have RI:=Lib.hid hri
    generalize w6.alloc (.cells #[.slice none 0 0] 22) = w7 at *
    generalize w6.heap.size = gi at *
    clear hw7 hri
    have cN:=rowc RN.out
    have hsz:size n ≤ 40:=by have:=HG.out;unfold goodB at this;rw [decide_eq_true_iff] at this;exact this.1
    have hc:=HW4.out w7 HB.out gi hbi ⟨_,RI.out,World.ownsRow_nil _ _ _ _,by simp;omega⟩
    rw [HX4.out HG.out] at hc
    have HC:=Lib.hid hc
    clear hc hsz
    go_wp2_with fail
    refine HC.out.mono ?_;rintro e w8 ⟨rfl,-,hk8⟩
    replace HB:=Lib.hid (HB.out.trans hk8.below)
    clear HC hk8 cN
    cases hd:(runG idsG (nodesL n.sub) []).1 with
    | false =>
     obtain rfl:5 = R:=by rw [← HRr.out];simp [validE,HG.out,HRO.out,HS.out,HM.out,hd]
     have ce:=HE5.out _ HB.out
     clear HRr HX1 HX2 HX3 HX4
     go_wp2_with fail
     go_ret
     exact ⟨rfl,HB.out⟩
    | true =>
     obtain rfl:0 = R:=by rw [← HRr.out];simp [validE,HG.out,HRO.out,HS.out,HM.out,hd]
     clear HRr HX1 HX2 HX3 HX4
     go_wp2_with fail
     go_ret
     exact ⟨rfl,HB.out⟩
end Go.Proofs.YtkmhmnffbgedgaaDoor
/- The walk of auto.Build. -/
namespace Go.Proofs.YtkmhmnffbgedgaaDoor
set_option linter.unusedVariables false
set_option linter.unusedSimpArgs false
open Go Go.RowKit Go.ChangeShapes
theorem valid_facts {n:Nd} (h:validE n = 0):goodB n = true ∧ rootOk n = true ∧ (nodesL n.sub).all okShape = true ∧ (runG idsG (nodesL n.sub) []).1 = true:=by
 unfold validE at h
 repeat' split at h
 all_goals first | exact ⟨by assumption,by assumption,by assumption,by assumption⟩ | omega
end Go.Proofs.YtkmhmnffbgedgaaDoor
/- Plain: lists of leaves of a tree whose nodes have IDs of their own. -/
namespace Go.Proofs.YtkmhmnffbgedgaaDoor
set_option linter.unusedVariables false
set_option linter.unusedSimpArgs false
open Go Go.RowKit Go.ChangeShapes
def Tri (x y:List Int):Prop:=∀ (i:Nat) (d:Int),y[i]? = some d → (i < commonN x y ↔ d ∈ x)
theorem common_app (p a b:List Int):commonN (p ++ a) (p ++ b) = p.length + commonN a b:=by
 induction p with
 | nil=>simp
 | cons h t ih=>simp only [List.cons_append,commonN,if_true,ih,List.length_cons];omega
theorem Tri.app {p a b:List Int} (h:Tri a b) (hp:∀ d ∈ p,d ∉ b):Tri (p ++ a) (p ++ b):=by
 intro i d hd
 rw [common_app]
 by_cases hi:i < p.length
 ·rw [List.getElem?_append_left hi] at hd
  exact ⟨fun _=>List.mem_append_left _ (List.mem_of_getElem? hd),fun _=>by omega⟩
 ·rw [List.getElem?_append_right (by omega)] at hd
  have h1:=h _ _ hd
  have hb:=List.mem_of_getElem? hd
  constructor
  ·intro h2;exact List.mem_append_right _ (h1.1 (by omega))
  ·intro h2
   rcases List.mem_append.1 h2 with h2 | h2
   ·exact absurd hb (hp d h2)
   ·have:=h1.2 h2;omega
theorem ids_nodup:∀ (l:List Nd) (s:List Int),(runG idsG l s).1 = true → (l.map Nd.id).Nodup ∧ ∀ d ∈ s,d ∉ l.map Nd.id
 | [],s,_=>⟨List.nodup_nil,fun d _ h=>by cases h⟩
 | n :: r,s,h=>by
  unfold runG at h
  split at h
  ·rename_i h0
   simp only [idsG] at h h0
   have h1:n.id ∉ s:=by
    simp only [Bool.and_eq_true,Bool.not_eq_true',decide_eq_false_iff_not] at h0
    exact h0.2
   have ih:=ids_nodup r (s ++ [n.id]) h
   refine ⟨List.nodup_cons.2 ⟨ih.2 n.id (List.mem_append_right _ (List.mem_singleton.2 rfl)),ih.1⟩,fun d hd hm=>?_⟩
   rcases List.mem_cons.1 hm with rfl | hm
   ·exact h1 hd
   ·exact ih.2 d (List.mem_append_left _ hd) hm
  ·cases h
end Go.Proofs.YtkmhmnffbgedgaaDoor
/- Plain: the document's lists of a leaf are the program's. -/
namespace Go.Proofs.YtkmhmnffbgedgaaDoor
set_option linter.unusedVariables false
set_option linter.unusedSimpArgs false
open Go Go.RowKit Go.ChangeShapes
theorem nodup_find {y:Nd}:∀ l:List Nd,(l.map Nd.id).Nodup → y ∈ l → l.find? (fun x=>decide (x.id = y.id)) = some y
 | [],_,h=>by cases h
 | a :: l,hn,h=>by
  rw [List.map_cons,List.nodup_cons] at hn
  rw [List.find?_cons]
  rcases List.mem_cons.1 h with rfl | h
  ·simp
  ·have:a.id ≠ y.id:=fun e=>hn.1 (e ▸ List.mem_map.2 ⟨y,h,rfl⟩)
   rw [decide_eq_false this]
   exact nodup_find l hn.2 h
theorem ids_one:∀ (l:List Nd) (s:List Int),(runG idsG l s).1 = true → ∀ y ∈ l,1 ≤ y.id
 | [],_,_,y,h=>by cases h
 | n :: r,s,h,y,hy=>by
  unfold runG at h
  split at h
  ·rename_i h0
   rcases List.mem_cons.1 hy with rfl | hy
   ·simp only [idsG,Bool.and_eq_true,decide_eq_true_eq] at h0;exact h0.1.1
   ·exact ids_one r _ h y hy
  ·cases h
theorem valid_shaped {n:Nd} (h:validE n = 0):∀ x ∈ nodesL n.sub,shaped x:=by
 intro x hx
 have:=List.all_eq_true.1 (valid_facts h).2.2.1 x hx
 intro hk
 unfold okShape at this
 simp only [Bool.and_eq_true,beq_iff_eq,decide_eq_true hk] at this
 have h2:=this.2
 exact List.isEmpty_iff.1 h2.symm
end Go.Proofs.YtkmhmnffbgedgaaDoor
/- The walks of the program's schema.Leaves; of shred's question whether a column is too long, where none is. -/
namespace Go.Proofs.YtkmhmnffbgedgaaDoor
set_option maxHeartbeats 8000000
set_option linter.unusedVariables false
set_option linter.unusedSimpArgs false
open Go Go.RowKit Go.ChangeShapes
theorem good_small {n:Nd} (h:validE n = 0):size n ≤ 40 ∧ hgt n ≤ 6:=by
 have:=(valid_facts h).1
 unfold goodB at this;rwa [decide_eq_true_iff] at this
def LeavesPRet (adr:Nat → Addr) (V:Nat) (P:List Lvf) (w:World) (e:Ending) (w':World):Prop:=Below w.heap.size w w' ∧
 ((V = 0 ∧ ∃ v LO,e = .returned (.tuple #[v,.nilIface]) ∧ LsRow w.heap.size w' v LO ∧ LO.map Prod.fst = P) ∨ (V ≠ 0 ∧ e = .returned (.tuple #[.slice none 0 0,eV adr V])))
set_option maxRecDepth 100000 in
theorem leavesP_any (adr:Nat → Addr) (n:Nd) (u:Value) (w:World) (hE:ErrsAt w adr [2,3,5]) (hN:IsNds (· < w.heap.size) w u n.sub) (hO:∀ x ∈ nodes n,x.Ok1) :
  Calls Tryd.prog 35 #[.agg (ndA n u)] w (LeavesPRet adr (validE n) (leavesN n) w):=by
 have HV:=Lib.hid (fun (w1:World) (h:Below w.heap.size w w1)=>valid_any n u w1 adr (hE.below h) ((hN.under h).mono fun b hb _=>Nat.lt_of_lt_of_le hb h.size) hO)
 have HLV:=Lib.hid (fun (hv:validE n = 0) (w1:World) (h:Below w.heap.size w w1)=>leaves_any n u (.slice none 0 0) 0 0 0 0 [] w1 ((hN.under h).mono fun b hb _=>Nat.lt_of_lt_of_le hb h.size) hO (IntsT.nil w1) (by have:=(good_small hv).2;simp;omega) (by have:=(good_small hv).1;omega) (Int.le_refl 0) (by have:=(good_small hv).2;omega) (Int.le_refl 0) (by have:=(good_small hv).2;omega))
 obtain ⟨au,cu,rfl⟩:=hN.form
 obtain ⟨V,hV⟩:∃ V,validE n = V:=⟨_,rfl⟩
 rw [hV] at HV HLV ⊢
 obtain ⟨len,hnl⟩:∃ len,n.sub.length = len:=⟨_,rfl⟩
 rw [hnl] at HV HLV ⊢
 clear hE hN hO hV hnl
 have hbw:=(Below.refl w.heap.size w).alloc (Nat.le_refl _) (.cells #[.int .i64 n.id,.string n.name,.int .i64 n.rep,.int .i64 n.kind,.slice au len cu] 47)
 have rA:=heap_alloc_new w (.cells #[.int .i64 n.id,.string n.name,.int .i64 n.rep,.int .i64 n.kind,.slice au len cu] 47)
 unfold ndA at *
 go_enter Tryd.func35,Tryd.ntmps35
 go_upto_region 1 with fail
 generalize (w.alloc (.cells #[.int .i64 n.id,.string n.name,.int .i64 n.rep,.int .i64 n.kind,.slice au len cu] 47)) = w1 at *
 have HW:=Lib.hid hbw;have RA:=Lib.hid rA
 have cA:=rowc rA
 clear hbw rA
 go_wp2_with fail
 refine (HV.out w1 HW.out).mono ?_;rintro e w2 ⟨rfl,hb2⟩
 replace RA:=Lib.hid (row_keep hb2 RA.out);replace HW:=Lib.hid (HW.out.trans (hb2.mono HW.out.size))
 clear hb2 cA HV
 cases V with
 | succ q =>
  unfold eV
  go_wp2_with fail
  go_ret2
  exact ⟨HW.out,.inr ⟨by omega,rfl⟩⟩
 | zero =>
  have HL:=Lib.hid (HLV.out rfl)
  clear HLV
  have cA:=rowc RA.out
  unfold eV
  go_wp2_with fail
  refine (HL.out w2 HW.out).mono ?_;rintro e w3 ⟨v,LO,rfl,hr,hm,hb3⟩
  have HR:=Lib.hid hr;have HM:=Lib.hid hm
  replace HW:=Lib.hid (HW.out.trans (hb3.mono HW.out.size));have HZ:=Lib.hid (show w.heap.size ≤ w2.heap.size from by have:=(rowc RA.out);exact Nat.le_of_lt (row_lt RA.out))
  clear hr hm hb3 cA HL
  go_wp2_with fail
  go_ret2
  exact ⟨HW.out,.inl ⟨rfl,v,LO,rfl,⟨own_baseN HR.out.1 HZ.out,HR.out.2⟩,HM.out⟩⟩
def SaysNo (v:Value) (w:World) (e:Ending) (w':World):Prop:=e = .returned v ∧ Below w.heap.size w w'
set_option maxRecDepth 100000 in
theorem long_no (c:Col) (vc:Value) (w:World) (hc:IsCol w vc c) (hl:c.rep.length ≤ 20000):Calls Tryd.prog 39 #[vc] w (SaysNo (.bool false) w):=by
 obtain ⟨a,b,d,rfl,ha,hb,hd⟩:=hc
 obtain ⟨a1,q1,rfl⟩:=ha.form
 have hd1:decide ((20000:Int) < (c.rep.length:Nat)) = false:=decide_eq_false (by omega)
 have hd2:decide (20000 < c.rep.length) = false:=decide_eq_false (by omega)
 generalize c.rep.length = n at *
 clear ha hb hd
 unfold colA
 go_enter Tryd.func39,Tryd.ntmps39
 go_wp2_with fail
 go_ret
 exact ⟨rfl,(Below.refl _ _).alloc (Nat.le_refl _) _⟩
set_option maxRecDepth 100000 in
theorem index_no (l:List Col) (v:Value) (w:World) (hv:IsCols w v l) (hl:∀ c ∈ l,c.rep.length ≤ 20000) (hn:l.length ≤ 1000000):Calls Tryd.prog 54 #[v,.func (.func 39) #[] #[]] w (SaysNo (.int .i64 (-1)) w):=by
 obtain ⟨ad,cp,rfl⟩:=hv.form
 obtain ⟨len,hnl⟩:∃ len,l.length = len:=⟨_,rfl⟩
 rw [hnl] at hv hn ⊢
 have HL:=Lib.hid hnl;have HV:=Lib.hid hv;have HB:=Lib.hid hl
 clear hnl hv hl
 go_enter Tryd.func54,Tryd.ntmps54
 go_wp2_with fail
 go_loopw [8] (fun i wr=>∃ k:Nat,k ≤ len ∧ i = .int .i64 (k:Nat) ∧ Hid (Below w.heap.size w wr)) (fun i _=>len - (intOf i).toNat)
 case atStart=>exact ⟨0,Nat.zero_le _,rfl,Below.refl _ _⟩
 case round =>
  obtain ⟨k,hk,rfl,HBr⟩:=hrel
  by_cases hlt:k < len
  case neg =>
   obtain rfl:k = len:=by omega
   go_wp2_with fail
   go_ret
   exact ⟨rfl,HBr.out⟩
  have hkl:k < l.length:=by rw [HL.out];exact hlt
  obtain ⟨b0,off,rfl,-,hb0,hat⟩:=(HV.out.below HBr.out (Nat.le_refl _)).at (by omega)
  obtain ⟨p,q,d,h1,h2,h3,h4⟩:=hat k l[k] (List.getElem?_eq_getElem hkl)
  have hle:=HB.out l[k] (List.getElem_mem hkl)
  have hcl:=long_no l[k] (.agg (colA l[k] p q d)) wr ⟨p,q,d,rfl,h1,h2,h3⟩ hle
  generalize l[k] = c at *
  obtain ⟨a1,q1,rfl⟩:=h1.form
  obtain ⟨a2,q2,rfl⟩:=h2.form
  obtain ⟨a3,q3,rfl⟩:=h3.form
  unfold colA at h4 hcl
  have HC:=Lib.hid h4;have HCL:=Lib.hid hcl;have Hlt:=Lib.hid hlt
  have hin:(k:Int) < (len:Int):=by omega
  clear hkl hat h1 h2 h3 h4 hcl hle
  go_wp2_with (refine wpList_load_cells rfl 32 _ rfl b0 (off + k * 4) rfl #[.int .i64 c.id,.slice a1 c.rep.length q1,.slice a2 c.df.length q2,.slice a3 c.vals.length q3] _ HC.out Tryd.underlying32 rfl col_info ?_)
  refine HCL.out.mono ?_;rintro e w4 ⟨rfl,hb4⟩
  have HB4:=Lib.hid (HBr.out.trans (hb4.mono HBr.out.size))
  clear hb4 HCL HC
  go_wp2_with fail
  go_roundw
  case rel=>exact ⟨k + 1,Hlt.out,by go_num,HB4.out⟩
  case measure=>have:=Hlt.out;simp [intOf];omega
set_option maxRecDepth 100000 in
theorem contains_no (l:List Col) (v:Value) (w:World) (hv:IsCols w v l) (hl:∀ c ∈ l,c.rep.length ≤ 20000) (hn:l.length ≤ 1000000):Calls Tryd.prog 38 #[v,.func (.func 39) #[] #[]] w (SaysNo (.bool false) w):=by
 have HC:=Lib.hid (index_no l v w hv hl hn)
 obtain ⟨ad,cp,rfl⟩:=hv.form
 generalize l.length = len at *
 clear hv hl hn
 go_enter Tryd.func38,Tryd.ntmps38
 go_wp2_with fail
 refine HC.out.mono ?_;rintro e w4 ⟨rfl,hb4⟩
 have HB4:=Lib.hid hb4
 clear hb4 HC
 go_wp2_with fail
 go_ret
 exact ⟨rfl,HB4.out⟩
end Go.Proofs.YtkmhmnffbgedgaaDoor
