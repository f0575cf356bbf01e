/- The walk of the statement ShredParts. Written by gen_sp3.py. -/
import Derived.Test.YtdcgihplkangeaaGreatDoorSp2
import Derived.Test.YtdcgihplkangeaaGreatDoorCk5
import Derived.Test.YtdcgihplkangeaaGreatDoorMCe
import Derived.Test.YtdcgihplkangeaaGreatDoorSameN
import Derived.Test.YtdcgihplkangeaaGreatDoorSh9
namespace Go.Proofs.YtdcgihplkangeaaGreatDoor
set_option maxHeartbeats 32000000
set_option linter.unusedVariables false
set_option linter.unusedSimpArgs false
open Go Go.RowKit Go.ChangeShapes
theorem CutOwn.belowC {B:Nat} {w w':World} {u:Value} {c:Col} (h:CutOwn B w u c) (hb:Below w.heap.size w w'):CutOwn B w' u c:=by
 obtain ⟨p,q,d,e,h1,h2,h3⟩:=h
 exact ⟨p,q,d,e,own_blw h1 hb,own_blw h2 hb,own_blw h3 hb⟩
def P7 (adr:Nat → Addr) (G:GErr) (C:Col) (w3 wx:World) (gp:Nat) (ue:Value) (P Q V:Value):Prop:=wx.heap[gp]? = some (.cells #[.int .i64 C.id,P,Q,V] 27 (0,0)) ∧ IsCol wx (.agg #[.int .i64 C.id,P,Q,V]) C ∧ IsErr wx adr G ue ∧ Below w3.heap.size w3 wx ∧ w3.heap.size ≤ gp
theorem p7_of {adr:Nat → Addr} {G:GErr} {C:Col} {w3 wx:World} {gp B:Nat} {ue P Q V:Value} (h1:wx.heap[gp]? = some (.cells #[.int .i64 C.id,P,Q,V] 27 (0,0))) (h2:CutOwn B wx (.agg #[.int .i64 C.id,P,Q,V]) C) (h3:IsErr wx adr G ue) (h4:Below w3.heap.size w3 wx) (h5:w3.heap.size ≤ gp):P7 adr G C w3 wx gp ue P Q V:=⟨h1,h2.isCol,h3,h4,h5⟩
theorem AnyE.oneG {P:Program} {ops:Array Oper} {Q:Exit → Act → World → Prop} {md:Region.Mode} {S:World → Prop} {E:List Nat} {i:Nat} {o:Oper} {n:Nat} {listed:Array Bool} {a:Act} {w:World} (hr:Region.ready md ops listed = [i]) (ho:ops[i]? = some o) (hw:Region.wanted o (yielded ops a.tmps) = true)
  (h:∀ K:Act → World → Prop,(∀ a' w',(E.contains i = false → S w') → AnyE P md ops Q S E n (listed.setIfInBounds i true) a' w' → K a' w') → Oper.wp P o a w K Q):AnyE P md ops Q S E (n + 1) listed a w:=by
 refine ⟨fun h0=>(by rw [hr] at h0;cases h0),?_⟩
 rw [hr]
 intro j hj
 simp only [List.mem_singleton] at hj
 subst hj
 unfold wpOp
 simp only [ho]
 rw [if_pos hw]
 exact .inl (h _ fun a' w' h1 h2=>⟨h1,h2⟩)
set_option maxRecDepth 100000 in
theorem parts_early (f:Lf) (c:Col) (x y:Int) (vf vc:Value) (w:World) (adr:Nat → Addr) (hE:ErrEnv w adr) (hf:IsLf w vf f) (hc:IsCol w vc c) (hs:slimB c = false ∨ 100 < f.path.length) :
  Calls Tryz.prog 3 #[vf,vc,.int .i64 x,.int .i64 y] w fun e w'=>e = .returned (.bool true) ∧ Below w.heap.size w w':=by
 have HTW:=Lib.hid (fun (w1:World) (h:Below w.heap.size w w1)=>twins_any w1 adr ((hE.errs.sub (by decide)).below h))
 have HSL:=Lib.hid (fun (w1:World) (h:Below w.heap.size w w1)=>slim2_any c vc w1 (hc.below h (Nat.le_refl _)))
 obtain ⟨p,rfl,hp⟩:=hf
 obtain ⟨a,b,d,rfl,ha,hb,hd⟩:=hc
 obtain ⟨pa,pc,rfl⟩:=hp.form
 obtain ⟨a1,q1,rfl⟩:=ha.form
 obtain ⟨a2,q2,rfl⟩:=hb.form
 obtain ⟨a3,q3,rfl⟩:=hd.form
 clear hE ha hb hd hp
 obtain ⟨sb,hsb⟩:∃ sb,slimB c = sb:=⟨_,rfl⟩
 rw [hsb] at HSL hs
 have HS:=Lib.hid hs
 clear hsb hs
 unfold lfA colA at *
 generalize f.path.length = np at *
 generalize c.rep.length = n1 at *
 generalize c.df.length = n2 at *
 generalize c.vals.length = n3 at *
 have hb0:=rows2 (w:=w) (A:=.cells #[.int .i64 f.id,.int .i64 f.kind,.int .i64 f.mr,.int .i64 f.md,.slice pa np pc] 24) (B:=.cells #[.int .i64 c.id,.slice a1 n1 q1,.slice a2 n2 q2,.slice a3 n3 q3] 27) (Below.refl _ _)
 go_enter Tryz.func3,Tryz.ntmps3
 go_upto_region 1 with fail
 generalize ((w.alloc (.cells #[.int .i64 f.id,.int .i64 f.kind,.int .i64 f.mr,.int .i64 f.md,.slice pa np pc] 24)).alloc (.cells #[.int .i64 c.id,.slice a1 n1 q1,.slice a2 n2 q2,.slice a3 n3 q3] 27)) = w1 at *
 obtain ⟨rF,rC,hbw,hz⟩:=hb0
 have RF:=Lib.hid rF;have RC:=Lib.hid rC;have HW:=Lib.hid hbw
 clear rF rC hbw hz
 go_wp2_with fail
 refine (HTW.out w1 HW.out).mono ?_;rintro e w2 ⟨rfl,hb2⟩
 replace RF:=Lib.hid (row_keep hb2 RF.out);replace RC:=Lib.hid (row_keep hb2 RC.out);replace HW:=Lib.hid (HW.out.trans (hb2.mono HW.out.size))
 clear hb2
 have cC:=rowc RC.out
 go_wp2_with fail
 refine (HSL.out w2 HW.out).mono ?_;rintro e w3 ⟨rfl,hb3⟩
 replace RF:=Lib.hid (row_keep hb3 RF.out);replace HW:=Lib.hid (HW.out.trans (hb3.mono HW.out.size))
 clear hb3 cC
 have cF:=rowc RF.out
 cases sb with
 | false =>
  go_wp2_with fail
  go_ret
  exact ⟨rfl,HW.out⟩
 | true =>
  have d1:(100:Int) < (np:Int):=by rcases HS.out with h | h <;> first | (cases h;done) | omega
  go_wp2_with fail
  go_ret
  exact ⟨rfl,HW.out⟩
theorem colErr_code {f:Lf} {c:Col} {free:Bool} (h:colErr f c free ≠ .nil):0 < (colErr f c free).code:=by
 unfold colErr at h ⊢
 split
 ·rename_i h1
  rw [if_pos h1] at h
  split
  ·rename_i h2;rw [h2] at h;exact absurd rfl h
  ·simp [GErr.code]
 ·simp [GErr.code]
theorem marks_le {l:List Int} {m n x0 x1:Nat} (hm:(marksOf l)[m]? = some x0) (hn:(marksOf l)[n]? = some x1) (h:m ≤ n):x0 ≤ x1 ∧ x1 ≤ l.length:=by
 obtain ⟨h1,h2⟩:=marksOf_at hm
 obtain ⟨k1,k2⟩:=marksOf_at hn
 refine ⟨?_,k1⟩
 rcases Nat.lt_or_ge x1 l.length with hl | hl
 ·have:=(k2 x1 hl).2 (Nat.le_refl _)
  exact (h2 x1 hl).1 (by omega)
 ·omega
theorem isCol_none (w:World):IsCol w (.agg #[.int .i64 0,.slice none 0 0,.slice none 0 0,.slice none 0 0]) ⟨0,[],[],[]⟩:=by
 refine ⟨_,_,_,rfl,.inl ⟨rfl,none,0,rfl⟩,.inl ⟨rfl,none,0,rfl⟩,.inl ⟨rfl,none,0,rfl⟩⟩
theorem err_nil {w:World} {adr:Nat → Addr} {u:Value} (h:IsErr w adr .nil u):u = .nilIface:=h
def PtWant (f:Lf) (c:Col) (C:Col) (vf vc:Value) (x y:Int) (w:World):Prop:=∀ w1,Below w.heap.size w w1 → Calls Tryz.prog 16 #[vf,vc,.int .i64 x,.int .i64 y] w1 fun e w'=>(∃ u,e = .returned u ∧ IsCol w' u C) ∧ Below w1.heap.size w1 w'
set_option maxRecDepth 100000 in
theorem parts_main (f:Lf) (c:Col) (x y:Int) (vf vc:Value) (w:World) (adr:Nat → Addr) (hE:ErrEnv w adr) (hf:IsLf w vf f) (hc:IsCol w vc c) (fo:f.Ok) (co:c.Ok) (cr:c.Reach) (hs:slimB c = true) (hpl:f.path.length ≤ 100) :
  Calls Tryz.prog 3 #[vf,vc,.int .i64 x,.int .i64 y] w fun e w'=>e = .returned (.bool true) ∧ Below w.heap.size w w':=by
 have hl4:c.rep.length ≤ 400 ∧ c.df.length ≤ 400 ∧ c.vals.length ≤ 400:=by
  unfold slimB at hs
  simp only [Bool.and_eq_true,decide_eq_true_eq] at hs
  exact hs
 have HL4:=Lib.hid hl4
 have HTW:=Lib.hid (fun (w1:World) (h:Below w.heap.size w w1)=>twins_any w1 adr ((hE.errs.sub (by decide)).below h))
 have HSL:=Lib.hid (fun (w1:World) (h:Below w.heap.size w w1)=>slim2_any c vc w1 (hc.below h (Nat.le_refl _)))
 have HCE:=Lib.hid (fun (w1:World) (h:Below w.heap.size w w1)=>cerr_any f c false vf vc w1 (hf.below h (Nat.le_refl _)) (hc.below h (Nat.le_refl _)) fo co)
 have HOL:=Lib.hid (fun (w1:World) (h:Below w.heap.size w w1)=>ownLeaf_any f vf w1 (hf.below h (Nat.le_refl _)) hpl)
 have HOC:=Lib.hid (fun (w1:World) (h:Below w.heap.size w w1)=>ownCol_cap c vc w1 (hc.below h (Nat.le_refl _)) cr)
 have HCO2:=Lib.hid (fun (w1:World) (h:Below w.heap.size w w1)=>countOf_any c vc w1 (hc.below h (Nat.le_refl _)) (by omega))
 have HCN:=Lib.hid (fun (vc':Value) (w1:World) (h:IsCol w1 vc' c)=>count_any c vc' w1 h (by omega))
 have HEB:=Lib.hid (fun (w1:World) (h:Below w.heap.size w w1)=>hE.below h)
 rw [hs] at HSL
 -- the three ways
 obtain ⟨G,hG⟩:∃ G,colErr f c false = G:=⟨_,rfl⟩
 have hway:(∃ (code at_:Int) (G2:GErr),0 < code ∧ G2.code = code ∧ G2.at' = at_ ∧ (G ≠ .nil ∧ G2 = G ∨ G = .nil ∧ (x < 0 ∨ y < x ∨ (countC c.rep:Int) < y) ∧ G2 = .sent 2) ∧ ∀ (vf' vc':Value) (w1:World),Below w.heap.size w w1 → IsLf w1 vf' f → IsCol w1 vc' c → RoomCol vc' → Calls Tryz.prog 10 #[vf',vc',.int .i64 x,.int .i64 y] w1 (PartU adr G2 ⟨0,[],[],[]⟩ w1)) ∨
   (G = .nil ∧ (0 ≤ x ∧ x ≤ y ∧ y ≤ (countC c.rep:Int)) ∧ ∃ C:Col,(C.rep.length ≤ 1000000 ∧ C.df.length ≤ 1000000 ∧ C.vals.length ≤ maxLen) ∧ PtWant f c C vf vc x y w ∧ ∀ (vf' vc':Value) (w1:World),Below w.heap.size w w1 → IsLf w1 vf' f → IsCol w1 vc' c → RoomCol vc' → Calls Tryz.prog 10 #[vf',vc',.int .i64 x,.int .i64 y] w1 (PartU adr .nil C w1)):=by
  by_cases hn:G = .nil
  ·by_cases hr:x < 0 ∨ y < x ∨ (countC c.rep:Int) < y
   ·refine .inl ⟨2,-1,.sent 2,by omega,rfl,rfl,.inr ⟨hn,hr,rfl⟩,fun vf' vc' w1 h h1 h2 _=>?_⟩
    exact (part_bound f c x y vf' vc' w1 adr ((hE.errs.sub (by decide)).below h) h1 h2 fo co (hG.trans hn) (by omega) hr).mono fun e w' h=>h.u
   ·have hR:=(right_of (hG.trans hn)).1
    obtain ⟨m,rfl⟩:=Int.eq_ofNat_of_zero_le (show 0 ≤ x by omega)
    obtain ⟨n,rfl⟩:=Int.eq_ofNat_of_zero_le (show 0 ≤ y by omega)
    have hml:=marksOf_len c.rep
    obtain ⟨x0,hm⟩:∃ x0,(marksOf c.rep)[m]? = some x0:=⟨_,List.getElem?_eq_getElem (by omega)⟩
    obtain ⟨x1,hn1⟩:∃ x1,(marksOf c.rep)[n]? = some x1:=⟨_,List.getElem?_eq_getElem (by omega)⟩
    have h01:x0 ≤ x1 ∧ x1 ≤ c.rep.length:=marks_le hm hn1 (by omega)
    refine .inr ⟨hn,by omega,cutC f c x0 x1,?_,fun w1 h=>?_,fun vf' vc' w1 h h1 h2 h3=>?_⟩
    ·unfold maxLen cutC
     simp only [List.length_drop,List.length_take]
     omega
    ·exact (partOf_any f c m n x0 x1 vf vc w1 (hf.below h (Nat.le_refl _)) (hc.below h (Nat.le_refl _)) hR (by omega) hm hn1 (by omega) (by have:countC c.rep ≤ c.rep.length:=(by unfold countC;exact List.length_filter_le _ _);omega)).mono fun e w' h=>h
    ·exact part_ok f c m n x0 x1 vf' vc' w1 adr ((hE.errs.sub (by decide)).below h) h1 h2 h3 fo co (hG.trans hn) (by have:=hl4.1;omega) (by omega) hm hn1 h01.1 h01.2
  ·have hcd:=colErr_code (f:=f) (c:=c) (free:=false) (by rw [hG];exact hn)
   rw [hG] at hcd
   refine .inl ⟨G.code,G.at',G,hcd,rfl,rfl,.inl ⟨hn,rfl⟩,fun vf' vc' w1 h h1 h2 _=>?_⟩
   rw [← hG]
   exact (part_bad f c x y vf' vc' w1 adr ((hE.errs.sub (by decide)).below h) h1 h2 fo co (by rw [hG];exact hn)).mono fun e w' h=>h.u
 rw [hG] at HCE
 have HWAY:=Lib.hid hway
 obtain ⟨p,rfl,hp⟩:=hf
 obtain ⟨a,b,d,rfl,ha,hb,hd⟩:=hc
 obtain ⟨pa,pc,rfl⟩:=hp.form
 obtain ⟨a1,q1,rfl⟩:=ha.form
 obtain ⟨a2,q2,rfl⟩:=hb.form
 obtain ⟨a3,q3,rfl⟩:=hd.form
 clear hE ha hb hd hp fo co cr hs hl4 hway hG
 unfold lfA colA at *
 have hb0:=rows2 (w:=w) (A:=.cells #[.int .i64 f.id,.int .i64 f.kind,.int .i64 f.mr,.int .i64 f.md,.slice pa f.path.length pc] 24) (B:=.cells #[.int .i64 c.id,.slice a1 c.rep.length q1,.slice a2 c.df.length q2,.slice a3 c.vals.length q3] 27) (Below.refl _ _)
 go_enter Tryz.func3,Tryz.ntmps3
 go_upto_region 1 with fail
 generalize ((w.alloc (.cells #[.int .i64 f.id,.int .i64 f.kind,.int .i64 f.mr,.int .i64 f.md,.slice pa f.path.length pc] 24)).alloc (.cells #[.int .i64 c.id,.slice a1 c.rep.length q1,.slice a2 c.df.length q2,.slice a3 c.vals.length q3] 27)) = w1 at *
 obtain ⟨rF,rC,hbw,hz⟩:=hb0
 have RF:=Lib.hid rF;have RC:=Lib.hid rC;have HW:=Lib.hid hbw
 clear rF rC hbw hz
 go_wp2_with fail
 refine (HTW.out w1 HW.out).mono ?_;rintro e w2 ⟨rfl,hb2⟩
 replace RF:=Lib.hid (row_keep hb2 RF.out);replace RC:=Lib.hid (row_keep hb2 RC.out);replace HW:=Lib.hid (HW.out.trans (hb2.mono HW.out.size))
 clear hb2 HTW
 have cC:=rowc RC.out
 go_wp2_with fail
 refine (HSL.out w2 HW.out).mono ?_;rintro e w3 ⟨rfl,hb3⟩
 replace RF:=Lib.hid (row_keep hb3 RF.out);replace RC:=Lib.hid (row_keep hb3 RC.out);replace HW:=Lib.hid (HW.out.trans (hb3.mono HW.out.size))
 clear hb3 cC HSL
 have cF:=rowc RF.out;have cC:=rowc RC.out
 have dpl:¬ (100:Int) < (f.path.length:Int):=by omega
 go_wp2_with fail
 refine (HCE.out w3 HW.out).mono ?_;rintro e w4 ⟨rfl,hb4⟩
 replace RF:=Lib.hid (row_keep hb4 RF.out);replace RC:=Lib.hid (row_keep hb4 RC.out);replace HW:=Lib.hid (HW.out.trans (hb4.mono HW.out.size))
 clear hb4 cF cC HCE
 unfold faultV
 have hb5:=(Below.refl w4.heap.size w4).alloc (Nat.le_refl _) (.cells #[.int .i64 G.code,.int .i64 G.at'] 31)
 have hre:=heap_alloc_new w4 (.cells #[.int .i64 G.code,.int .i64 G.at'] 31)
 have hge:w.heap.size + 1 < w4.heap.size:=row_lt RC.out
 go_upto_region 5 with fail
 replace RF:=Lib.hid (row_keep hb5 RF.out);replace RC:=Lib.hid (row_keep hb5 RC.out);replace HW:=Lib.hid (HW.out.trans (hb5.mono HW.out.size))
 have RE:=Lib.hid hre
 generalize (w4.alloc (.cells #[.int .i64 G.code,.int .i64 G.at'] 31)) = w5 at *
 generalize w4.heap.size = ge at *
 clear hb5 hre
 rcases HWAY.out with ⟨code,at_,G2,h0,hcd,hat,hg,hpt⟩ | ⟨hn,hr,C,hC,hpo,hpt⟩
 case' inl =>
  obtain ⟨C,hCe⟩:∃ C:Col,C = ⟨0,[],[],[]⟩:=⟨_,rfl⟩
  rw [← hCe] at hpt
  have HPT:=Lib.hid hpt
  have HFIN:Hid ((0 < code ∧ G2.code = code ∧ G2.at' = at_ ∧ C = ⟨0,[],[],[]⟩) ∨ (code = 0 ∧ G2 = .nil ∧ PtWant f c C (.agg #[.int .i64 f.id,.int .i64 f.kind,.int .i64 f.mr,.int .i64 f.md,.slice pa f.path.length pc]) (.agg #[.int .i64 c.id,.slice a1 c.rep.length q1,.slice a2 c.df.length q2,.slice a3 c.vals.length q3]) x y w)):=Lib.hid (.inl ⟨h0,hcd,hat,hCe⟩)
  have HLEN:Hid (C.rep.length ≤ 1000000 ∧ C.df.length ≤ 1000000 ∧ C.vals.length ≤ maxLen):=Lib.hid (by rw [hCe];exact ⟨by simp,by simp,by simp [maxLen]⟩)
  clear hCe hpt
  rcases hg with ⟨hg1,hg2⟩ | ⟨hg1,hr,hg2⟩
 case' inl.inl =>
  subst hg2
  have dc:((G2.code:Int) == 0) = false:=by rw [beq_eq_false_iff_ne];omega
  rw [hcd,hat] at RE
  rw [hcd] at dc
  rw [hcd,hat]
  clear hg1 h0 hcd hat HWAY
  have cE:=rowc RE.out
  go_upto_region 7 with fail
  clear cE dc
  obtain ⟨w3,hw3⟩:∃ w3,w3 = w5:=⟨_,rfl⟩
  subst hw3
 case' inl.inr =>
  have HAT:=Lib.hid hat;have HCD:=Lib.hid hcd;have HG2:=Lib.hid hg2
  subst hg1
  have dc:((0:Int) == 0) = true:=rfl
  have HR3:=Lib.hid hr
  clear h0 hcd hat HWAY hr hg2
  rw [show GErr.code .nil = 0 from rfl,show GErr.at' .nil = -1 from rfl] at RE ⊢
  have cE:=rowc RE.out
  by_cases h1:x < 0
  case' pos =>
   have d1:(x:Int) < 0:=h1
   clear h1 HR3
   go_wp2_with fail
   refine (bare_any 2 w5).mono ?_;rintro e w6 ⟨rfl,hb6⟩
   replace RF:=Lib.hid (row_keep hb6 RF.out);replace RC:=Lib.hid (row_keep hb6 RC.out);replace RE:=Lib.hid (row_keep hb6 RE.out);replace HW:=Lib.hid (HW.out.trans (hb6.mono HW.out.size))
   clear hb6
   unfold faultV
   go_upto_region 7 with (refine wpList_store_part rfl 31 _ _ rfl ge 0 _ 31 #[.int .i64 2,.int .i64 (-1)] rfl rfl RE.out (by kernel_rfl) (by simp [Value.oneCell']) (Nat.le_of_ble_eq_true rfl) #[.int .i64 2,.int .i64 (-1)] rfl ?_;intro w7 r7 ho7 hb7 hz7;have R7:=Lib.hid r7;have HO7:=Lib.hid ho7;have HB7:=Lib.hid hb7;clear r7 ho7 hb7 hz7)
   try simp only [Act.put,List.getElem_toArray,List.getElem_cons_succ,List.getElem_cons_zero,List.setIfInBounds_toArray,List.set_cons_zero,List.set_cons_succ]
   replace RF:=Lib.hid ((HO7.out _ (by omega)).trans RF.out);replace RC:=Lib.hid ((HO7.out _ (by omega)).trans RC.out);replace HW:=Lib.hid (HW.out.trans (HB7.out.mono (by omega)))
   clear RE HO7 HB7
   have RE:=R7
   clear R7
   obtain ⟨w3,hw3⟩:∃ w3,w3 = w7:=⟨_,rfl⟩
   subst hw3
  case' neg =>
   have d1:¬ (x:Int) < 0:=h1
   by_cases h2:y < x
   case' pos =>
    have d2:(y:Int) < x:=h2
    clear h1 h2 HR3
    go_wp2_with fail
    refine (bare_any 2 w5).mono ?_;rintro e w6 ⟨rfl,hb6⟩
    replace RF:=Lib.hid (row_keep hb6 RF.out);replace RC:=Lib.hid (row_keep hb6 RC.out);replace RE:=Lib.hid (row_keep hb6 RE.out);replace HW:=Lib.hid (HW.out.trans (hb6.mono HW.out.size))
    clear hb6
    unfold faultV
    go_upto_region 7 with (refine wpList_store_part rfl 31 _ _ rfl ge 0 _ 31 #[.int .i64 2,.int .i64 (-1)] rfl rfl RE.out (by kernel_rfl) (by simp [Value.oneCell']) (Nat.le_of_ble_eq_true rfl) #[.int .i64 2,.int .i64 (-1)] rfl ?_;intro w7 r7 ho7 hb7 hz7;have R7:=Lib.hid r7;have HO7:=Lib.hid ho7;have HB7:=Lib.hid hb7;clear r7 ho7 hb7 hz7)
    try simp only [Act.put,List.getElem_toArray,List.getElem_cons_succ,List.getElem_cons_zero,List.setIfInBounds_toArray,List.set_cons_zero,List.set_cons_succ]
    replace RF:=Lib.hid ((HO7.out _ (by omega)).trans RF.out);replace RC:=Lib.hid ((HO7.out _ (by omega)).trans RC.out);replace HW:=Lib.hid (HW.out.trans (HB7.out.mono (by omega)))
    clear RE HO7 HB7
    have RE:=R7
    clear R7
    obtain ⟨w3,hw3⟩:∃ w3,w3 = w7:=⟨_,rfl⟩
    subst hw3
   case' neg =>
    have d2:¬ (y:Int) < x:=h2
    have d3:(countC c.rep:Int) < y:=by have:=HR3.out;omega
    clear h1 h2 HR3
    have cC:=rowc RC.out
    go_wp2_with fail
    refine (HCO2.out w5 HW.out).mono ?_;rintro e w8 ⟨rfl,hb8⟩
    replace RF:=Lib.hid (row_keep hb8 RF.out);replace RC:=Lib.hid (row_keep hb8 RC.out);replace RE:=Lib.hid (row_keep hb8 RE.out);replace HW:=Lib.hid (HW.out.trans (hb8.mono HW.out.size))
    clear hb8 cC cE
    go_wp2_with fail
    refine (bare_any 2 w8).mono ?_;rintro e w6 ⟨rfl,hb6⟩
    replace RF:=Lib.hid (row_keep hb6 RF.out);replace RC:=Lib.hid (row_keep hb6 RC.out);replace RE:=Lib.hid (row_keep hb6 RE.out);replace HW:=Lib.hid (HW.out.trans (hb6.mono HW.out.size))
    clear hb6
    unfold faultV
    go_upto_region 7 with (refine wpList_store_part rfl 31 _ _ rfl ge 0 _ 31 #[.int .i64 2,.int .i64 (-1)] rfl rfl RE.out (by kernel_rfl) (by simp [Value.oneCell']) (Nat.le_of_ble_eq_true rfl) #[.int .i64 2,.int .i64 (-1)] rfl ?_;intro w7 r7 ho7 hb7 hz7;have R7:=Lib.hid r7;have HO7:=Lib.hid ho7;have HB7:=Lib.hid hb7;clear r7 ho7 hb7 hz7)
    try simp only [Act.put,List.getElem_toArray,List.getElem_cons_succ,List.getElem_cons_zero,List.setIfInBounds_toArray,List.set_cons_zero,List.set_cons_succ]
    replace RF:=Lib.hid ((HO7.out _ (by omega)).trans RF.out);replace RC:=Lib.hid ((HO7.out _ (by omega)).trans RC.out);replace HW:=Lib.hid (HW.out.trans (HB7.out.mono (by omega)))
    clear RE HO7 HB7
    have RE:=R7
    clear R7
    obtain ⟨w3,hw3⟩:∃ w3,w3 = w7:=⟨_,rfl⟩
    subst hw3
  all_goals
   have hc2:code = 2:=by have h1:=HCD.out;rw [HG2.out] at h1;exact h1.symm
   have ha2:at_ = -1:=by have h1:=HAT.out;rw [HG2.out] at h1;exact h1.symm
   have RE9:Hid (w3.heap[ge]? = some (.cells #[.int .i64 code,.int .i64 at_] 31 (0,0))):=Lib.hid (by rw [hc2,ha2];exact RE.out)
   clear RE
   have RE:=RE9
   clear RE9 hc2 ha2 HCD HAT HG2
 case' inr =>
  obtain ⟨code,hcode⟩:∃ q:Int,q = 0:=⟨_,rfl⟩
  obtain ⟨at_,hat_⟩:∃ q:Int,q = -1:=⟨_,rfl⟩
  obtain ⟨G2,hG2⟩:∃ g:GErr,g = .nil:=⟨_,rfl⟩
  rw [← hG2] at hpt
  have HPT:=Lib.hid hpt;have HLEN:=Lib.hid hC
  have HFIN:Hid ((0 < code ∧ G2.code = code ∧ G2.at' = at_ ∧ C = ⟨0,[],[],[]⟩) ∨ (code = 0 ∧ G2 = .nil ∧ PtWant f c C (.agg #[.int .i64 f.id,.int .i64 f.kind,.int .i64 f.mr,.int .i64 f.md,.slice pa f.path.length pc]) (.agg #[.int .i64 c.id,.slice a1 c.rep.length q1,.slice a2 c.df.length q2,.slice a3 c.vals.length q3]) x y w)):=Lib.hid (.inr ⟨hcode,hG2,hpo⟩)
  subst hn
  have dc:((0:Int) == 0) = true:=rfl
  have d1:¬ (x:Int) < 0:=by omega
  have d2:¬ (y:Int) < x:=by omega
  have d3:¬ (countC c.rep:Int) < y:=by omega
  rw [show GErr.code .nil = 0 from rfl,show GErr.at' .nil = -1 from rfl] at RE ⊢
  have RE9:Hid (w5.heap[ge]? = some (.cells #[.int .i64 code,.int .i64 at_] 31 (0,0))):=Lib.hid (by rw [hcode,hat_];exact RE.out)
  have cE:=rowc RE.out;have cC:=rowc RC.out
  clear hpt hC hpo hr HWAY hcode hat_ hG2
  go_upto_region 7 with (refine (HCO2.out w5 HW.out).mono ?_;rintro e w8 ⟨rfl,hb8⟩;replace RF:=Lib.hid (row_keep hb8 RF.out);replace RC:=Lib.hid (row_keep hb8 RC.out);replace RE9:=Lib.hid (row_keep hb8 RE9.out);replace HW:=Lib.hid (HW.out.trans (hb8.mono HW.out.size));clear hb8)
  clear cE cC RE
  have RE:=RE9
  clear RE9
  obtain ⟨w3,hw3⟩:∃ w3,w3 = w8:=⟨_,rfl⟩
  subst hw3
 all_goals
  go_cut [11,12] (fun s11 s12 wx=>∃ (gp:Nat) (ue:Value),s11 = .pointer (some ⟨gp,0,none⟩) ∧ s12 = ue ∧ ∃ (Pa:Option Addr) (Pm Pc:Nat) (Qa:Option Addr) (Qm Qc:Nat) (Va:Option Addr) (Vm Vc:Nat),Hid (P7 adr G2 C w3 wx gp ue (.slice Pa Pm Pc) (.slice Qa Qm Qc) (.slice Va Vm Vc)))
  case first =>
   refine AnyE.region (S:=fun w'=>(∀ j_1,w'.cell? ⟨w.heap.size,j_1,none⟩ = (#[.int .i64 f.id,.int .i64 f.kind,.int .i64 f.mr,.int .i64 f.md,.slice pa f.path.length pc]:Array Value)[j_1]?) ∧ (∀ j_1,w'.cell? ⟨w.heap.size + 1,j_1,none⟩ = (#[.int .i64 c.id,.slice a1 c.rep.length q1,.slice a2 c.df.length q2,.slice a3 c.vals.length q3]:Array Value)[j_1]?)) (E:=[9,11,12]) (by kernel_rfl) ?_
   have hbd:=(Below.refl w3.heap.size w3).drew
   have HBX:=Lib.hid hbd;have HBX0:=hbd.size
   clear hbd
   generalize hwd:w3.drew = wd at HBX HBX0 ⊢
   clear hwd
   have hS:=(⟨rowc (row_keep HBX.out RF.out),rowc (row_keep HBX.out RC.out)⟩:(∀ j_1,wd.cell? ⟨w.heap.size,j_1,none⟩ = (#[.int .i64 f.id,.int .i64 f.kind,.int .i64 f.mr,.int .i64 f.md,.slice pa f.path.length pc]:Array Value)[j_1]?) ∧ (∀ j_1,wd.cell? ⟨w.heap.size + 1,j_1,none⟩ = (#[.int .i64 c.id,.slice a1 c.rep.length q1,.slice a2 c.df.length q2,.slice a3 c.vals.length q3]:Array Value)[j_1]?))
   refine AnyE.takeL (i:=0) (v:=.agg #[.int .i64 f.id,.int .i64 f.kind,.int .i64 f.mr,.int .i64 f.md,.slice pa f.path.length pc]) rfl (by kernel_rfl) (by kernel_rfl) (by kernel_rfl) (by kernel_rfl) (by kernel_rfl) (fun _ _ _ h=>h) (yields_load 24 _ rfl rfl (w.heap.size) (0) rfl #[.int .i64 f.id,.int .i64 f.kind,.int .i64 f.mr,.int .i64 f.md,.slice pa f.path.length pc] _ (fun w h=>fun j v hj=>by rw [Nat.zero_add];exact (h.1 j).trans hj) Tryz.underlying24 rfl (by kernel_rfl)) hS ?_
   try simp only [Act.put,List.getElem_toArray,List.getElem_cons_succ,List.getElem_cons_zero,List.setIfInBounds_toArray,List.set_cons_zero,List.set_cons_succ]
   refine AnyE.takeL (i:=2) (v:=.agg #[.int .i64 c.id,.slice a1 c.rep.length q1,.slice a2 c.df.length q2,.slice a3 c.vals.length q3]) rfl (by kernel_rfl) (by kernel_rfl) (by kernel_rfl) (by kernel_rfl) (by kernel_rfl) (fun _ _ _ h=>h) (yields_load 27 _ rfl rfl (w.heap.size + 1) (0) rfl #[.int .i64 c.id,.slice a1 c.rep.length q1,.slice a2 c.df.length q2,.slice a3 c.vals.length q3] _ (fun w h=>fun j v hj=>by rw [Nat.zero_add];exact (h.2 j).trans hj) Tryz.underlying27 rfl (by kernel_rfl)) hS ?_
   try simp only [Act.put,List.getElem_toArray,List.getElem_cons_succ,List.getElem_cons_zero,List.setIfInBounds_toArray,List.set_cons_zero,List.set_cons_succ]
   refine AnyE.takeL (i:=4) (v:=?_) rfl (by kernel_rfl) (by kernel_rfl) (by kernel_rfl) (by kernel_rfl) (by kernel_rfl) (fun _ _ _ h=>h) (Or.inl ⟨by rfl,?_⟩) hS ?_
   rotate_left
   focus (intro wq hSq;obtain ⟨hS1,hS2⟩:=hSq;go_simp;with_reducible rfl)
   try simp only [Act.put,List.getElem_toArray,List.getElem_cons_succ,List.getElem_cons_zero,List.setIfInBounds_toArray,List.set_cons_zero,List.set_cons_succ]
   refine AnyE.takeL (i:=5) (v:=?_) rfl (by kernel_rfl) (by kernel_rfl) (by kernel_rfl) (by kernel_rfl) (by kernel_rfl) (fun _ _ _ h=>h) (Or.inl ⟨by rfl,?_⟩) hS ?_
   rotate_left
   focus (intro wq hSq;obtain ⟨hS1,hS2⟩:=hSq;go_simp;with_reducible rfl)
   try simp only [Act.put,List.getElem_toArray,List.getElem_cons_succ,List.getElem_cons_zero,List.setIfInBounds_toArray,List.set_cons_zero,List.set_cons_succ]
   refine AnyE.two (i:=1) (j:=10) (by kernel_rfl) rfl rfl rfl rfl ?_ ?_
   ·intro K hK
    simp only [List.getElem_toArray,List.getElem_cons_succ,List.getElem_cons_zero]
    go_simp
    refine (HOL.out wd (HW.out.trans (HBX.out.mono HW.out.size))).mono ?_;rintro e wr1 ⟨⟨uf,rfl,hlf⟩,hb⟩
    replace HBX:=Lib.hid (HBX.out.trans (hb.mono HBX0));replace HBX0:=Nat.le_trans HBX0 hb.size
    have HLF:=Lib.hid hlf
    refine hK _ _ (fun _=>⟨rowc (row_keep HBX.out RF.out),rowc (row_keep HBX.out RC.out)⟩) ?_
    clear hK K hS hlf hb
    try simp only [Act.put,List.getElem_toArray,List.getElem_cons_succ,List.getElem_cons_zero,List.setIfInBounds_toArray,List.set_cons_zero,List.set_cons_succ]
    have hS:=(⟨rowc (row_keep HBX.out RF.out),rowc (row_keep HBX.out RC.out)⟩:(∀ j_1,wr1.cell? ⟨w.heap.size,j_1,none⟩ = (#[.int .i64 f.id,.int .i64 f.kind,.int .i64 f.mr,.int .i64 f.md,.slice pa f.path.length pc]:Array Value)[j_1]?) ∧ (∀ j_1,wr1.cell? ⟨w.heap.size + 1,j_1,none⟩ = (#[.int .i64 c.id,.slice a1 c.rep.length q1,.slice a2 c.df.length q2,.slice a3 c.vals.length q3]:Array Value)[j_1]?))
    refine AnyE.two (i:=3) (j:=10) (by kernel_rfl) rfl rfl rfl rfl ?_ ?_
    ·intro K hK
     simp only [List.getElem_toArray,List.getElem_cons_succ,List.getElem_cons_zero]
     go_simp
     refine (HOC.out wr1 (HW.out.trans (HBX.out.mono HW.out.size))).mono ?_;rintro e wr2 ⟨⟨uc,rfl,hoc,hrm⟩,hb⟩
     replace HBX:=Lib.hid (HBX.out.trans (hb.mono HBX0));replace HBX0:=Nat.le_trans HBX0 hb.size
     replace HLF:=Lib.hid (HLF.out.below hb (Nat.le_refl _))
     have HCO:=Lib.hid hoc;have HRM:=Lib.hid hrm
     refine hK _ _ (fun _=>⟨rowc (row_keep HBX.out RF.out),rowc (row_keep HBX.out RC.out)⟩) ?_
     clear hK K hS hoc hrm hb
     try simp only [Act.put,List.getElem_toArray,List.getElem_cons_succ,List.getElem_cons_zero,List.setIfInBounds_toArray,List.set_cons_zero,List.set_cons_succ]
     have hS:=(⟨rowc (row_keep HBX.out RF.out),rowc (row_keep HBX.out RC.out)⟩:(∀ j_1,wr2.cell? ⟨w.heap.size,j_1,none⟩ = (#[.int .i64 f.id,.int .i64 f.kind,.int .i64 f.mr,.int .i64 f.md,.slice pa f.path.length pc]:Array Value)[j_1]?) ∧ (∀ j_1,wr2.cell? ⟨w.heap.size + 1,j_1,none⟩ = (#[.int .i64 c.id,.slice a1 c.rep.length q1,.slice a2 c.df.length q2,.slice a3 c.vals.length q3]:Array Value)[j_1]?))
     refine AnyE.two (i:=6) (j:=10) (by kernel_rfl) rfl rfl rfl rfl ?_ ?_
     ·intro K hK
      simp only [List.getElem_toArray,List.getElem_cons_succ,List.getElem_cons_zero]
      go_simp
      refine (HPT.out _ _ wr2 (HW.out.trans (HBX.out.mono HW.out.size)) HLF.out HCO.out HRM.out).mono ?_;rintro e wr3 ⟨P,Q,V,ue,rfl,hcu,her,hb⟩
      have hcq:=hcu.base (B':=w3.heap.size) HBX0
      replace HBX:=Lib.hid (HBX.out.trans (hb.mono HBX0));replace HBX0:=Nat.le_trans HBX0 hb.size
      have HCU:=Lib.hid hcq;have HER:=Lib.hid her
      refine hK _ _ (fun _=>⟨rowc (row_keep HBX.out RF.out),rowc (row_keep HBX.out RC.out)⟩) ?_
      clear hK K hS hcu hcq her hb HLF HCO HRM
      try simp only [Act.put,List.getElem_toArray,List.getElem_cons_succ,List.getElem_cons_zero,List.setIfInBounds_toArray,List.set_cons_zero,List.set_cons_succ]
      have hS:=(⟨rowc (row_keep HBX.out RF.out),rowc (row_keep HBX.out RC.out)⟩:(∀ j_1,wr3.cell? ⟨w.heap.size,j_1,none⟩ = (#[.int .i64 f.id,.int .i64 f.kind,.int .i64 f.mr,.int .i64 f.md,.slice pa f.path.length pc]:Array Value)[j_1]?) ∧ (∀ j_1,wr3.cell? ⟨w.heap.size + 1,j_1,none⟩ = (#[.int .i64 c.id,.slice a1 c.rep.length q1,.slice a2 c.df.length q2,.slice a3 c.vals.length q3]:Array Value)[j_1]?))
      refine AnyE.takeL (i:=7) (v:=?_) rfl (by kernel_rfl) (by kernel_rfl) (by kernel_rfl) (by kernel_rfl) (by kernel_rfl) (fun _ _ _ h=>h) (Or.inl ⟨by rfl,?_⟩) hS ?_
      rotate_left
      focus (intro wq hSq;obtain ⟨hS1,hS2⟩:=hSq;go_simp;with_reducible rfl)
      try simp only [Act.put,List.getElem_toArray,List.getElem_cons_succ,List.getElem_cons_zero,List.setIfInBounds_toArray,List.set_cons_zero,List.set_cons_succ]
      refine AnyE.takeP (i:=9) (v:=?_) rfl (by kernel_rfl) (by kernel_rfl) (by kernel_rfl) (by kernel_rfl) (fun _ _ _ h=>h) (Or.inl ⟨by rfl,?_⟩) ?_
      rotate_left
      focus (intro wq hSq;go_simp;with_reducible rfl)
      try simp only [Act.put,List.getElem_toArray,List.getElem_cons_succ,List.getElem_cons_zero,List.setIfInBounds_toArray,List.set_cons_zero,List.set_cons_succ]
      refine AnyE.takeL (i:=8) (v:=?_) rfl (by kernel_rfl) (by kernel_rfl) (by kernel_rfl) (by kernel_rfl) (by kernel_rfl) (fun _ _ _ h=>h) (Or.inl ⟨by rfl,?_⟩) hS ?_
      rotate_left
      focus (intro wq hSq;obtain ⟨hS1,hS2⟩:=hSq;go_simp;with_reducible rfl)
      try simp only [Act.put,List.getElem_toArray,List.getElem_cons_succ,List.getElem_cons_zero,List.setIfInBounds_toArray,List.set_cons_zero,List.set_cons_succ]
      refine AnyE.one (i:=10) (by kernel_rfl) rfl rfl ?_
      intro K hK
      simp only [List.getElem_toArray,List.getElem_cons_succ,List.getElem_cons_zero]
      go_simp
      have hb:=(Below.refl wr3.heap.size wr3).alloc (Nat.le_refl _) (.cells #[.int .i64 0,.slice none 0 0,.slice none 0 0,.slice none 0 0] 27)
      have hgp:=heap_alloc_new wr3 (.cells #[.int .i64 0,.slice none 0 0,.slice none 0 0,.slice none 0 0] 27)
      have hgpz:w3.heap.size ≤ wr3.heap.size:=HBX0
      replace HBX:=Lib.hid (HBX.out.trans (hb.mono HBX0));replace HBX0:=Nat.le_trans HBX0 hb.size
      replace HCU:=Lib.hid (HCU.out.belowC hb);replace HER:=Lib.hid (HER.out.below hb)
      have RGP:=Lib.hid hgp
      refine hK _ _ (fun _=>⟨rowc (row_keep HBX.out RF.out),rowc (row_keep HBX.out RC.out)⟩) ?_
      clear hK K hS hgp hb
      try simp only [Act.put,List.getElem_toArray,List.getElem_cons_succ,List.getElem_cons_zero,List.setIfInBounds_toArray,List.set_cons_zero,List.set_cons_succ]
      generalize wr3.alloc (.cells #[.int .i64 0,.slice none 0 0,.slice none 0 0,.slice none 0 0] 27) = wr4 at *
      generalize wr3.heap.size = gp at *
      have hS:=(⟨rowc (row_keep HBX.out RF.out),rowc (row_keep HBX.out RC.out)⟩:(∀ j_1,wr4.cell? ⟨w.heap.size,j_1,none⟩ = (#[.int .i64 f.id,.int .i64 f.kind,.int .i64 f.mr,.int .i64 f.md,.slice pa f.path.length pc]:Array Value)[j_1]?) ∧ (∀ j_1,wr4.cell? ⟨w.heap.size + 1,j_1,none⟩ = (#[.int .i64 c.id,.slice a1 c.rep.length q1,.slice a2 c.df.length q2,.slice a3 c.vals.length q3]:Array Value)[j_1]?))
      refine AnyE.one (i:=11) (by kernel_rfl) rfl rfl ?_
      intro K hK
      simp only [List.getElem_toArray,List.getElem_cons_succ,List.getElem_cons_zero]
      obtain ⟨p5,q5,v5,e5,h51,h52,h53⟩:=HCU.out
      obtain ⟨Pa,Pm,Pc,hP⟩:=own_capS h51;obtain ⟨Qa,Qm,Qc,hQ⟩:=own_capS h52;obtain ⟨Va,Vm,Vc,hV⟩:=own_capS h53
      simp only [Value.agg.injEq,Array.mk.injEq,List.cons.injEq,and_true,true_and] at e5
      obtain ⟨rfl,rfl,rfl⟩:=e5
      subst hP;subst hQ;subst hV
      clear h51 h52 h53
      refine wp_store_part rfl 27 _ _ rfl gp 0 #[.int .i64 0,.slice none 0 0,.slice none 0 0,.slice none 0 0] 27 #[.int .i64 C.id,.slice Pa Pm Pc,.slice Qa Qm Qc,.slice Va Vm Vc] rfl rfl RGP.out (by kernel_rfl) (by simp [Value.oneCell']) (Nat.le_of_ble_eq_true rfl) #[.int .i64 C.id,.slice Pa Pm Pc,.slice Qa Qm Qc,.slice Va Vm Vc] rfl ?_;intro w9 r9 ho9 hb9 hz9
      have hcu9:=HCU.out.off RGP.out ho9
      have her9:=HER.out.off1 (rowc RGP.out 1) (fun T p h=>by cases h) ho9
      have hbx9:=HBX.out.trans (hb9.mono hgpz)
      refine hK _ _ (fun h=>absurd h (by decide)) ?_
      clear hK K hS
      try simp only [Act.put,List.getElem_toArray,List.getElem_cons_succ,List.getElem_cons_zero,List.setIfInBounds_toArray,List.set_cons_zero,List.set_cons_succ]
      refine AnyE.one (i:=12) (by kernel_rfl) rfl rfl ?_
      intro K hK
      simp only [List.getElem_toArray,List.getElem_cons_succ,List.getElem_cons_zero]
      go_simp
      refine hK _ _ (fun h=>absurd h (by decide)) ?_
      clear hK K
      try simp only [Act.put,List.getElem_toArray,List.getElem_cons_succ,List.getElem_cons_zero,List.setIfInBounds_toArray,List.set_cons_zero,List.set_cons_succ]
      refine AnyE.done (by kernel_rfl) ?_ _
      have H9:=Lib.hid (p7_of r9 hcu9 her9 hbx9 hgpz)
      clear r9 ho9 hb9 hz9 hcu9 her9 hbx9 HCU HER HBX RGP hgpz
      go_wp2_with fail
      go_meet
      exact ⟨gp,ue,rfl,rfl,Pa,Pm,Pc,Qa,Qm,Qc,Va,Vm,Vc,H9⟩
     ·intro K hK
      simp only [List.getElem_toArray,List.getElem_cons_succ,List.getElem_cons_zero]
      go_simp
      have hb:=(Below.refl wr2.heap.size wr2).alloc (Nat.le_refl _) (.cells #[.int .i64 0,.slice none 0 0,.slice none 0 0,.slice none 0 0] 27)
      have hgp:=heap_alloc_new wr2 (.cells #[.int .i64 0,.slice none 0 0,.slice none 0 0,.slice none 0 0] 27)
      have hgpz:w3.heap.size ≤ wr2.heap.size:=HBX0
      replace HBX:=Lib.hid (HBX.out.trans (hb.mono HBX0));replace HBX0:=Nat.le_trans HBX0 hb.size
      replace HLF:=Lib.hid (HLF.out.below hb (Nat.le_refl _))
      replace HCO:=Lib.hid (HCO.out.below hb (Nat.le_refl _))
      have RGP:=Lib.hid hgp
      refine hK _ _ (fun _=>⟨rowc (row_keep HBX.out RF.out),rowc (row_keep HBX.out RC.out)⟩) ?_
      clear hK K hS hgp hb
      try simp only [Act.put,List.getElem_toArray,List.getElem_cons_succ,List.getElem_cons_zero,List.setIfInBounds_toArray,List.set_cons_zero,List.set_cons_succ]
      generalize wr2.alloc (.cells #[.int .i64 0,.slice none 0 0,.slice none 0 0,.slice none 0 0] 27) = wr5 at *
      generalize wr2.heap.size = gp at *
      have hS:=(⟨rowc (row_keep HBX.out RF.out),rowc (row_keep HBX.out RC.out)⟩:(∀ j_1,wr5.cell? ⟨w.heap.size,j_1,none⟩ = (#[.int .i64 f.id,.int .i64 f.kind,.int .i64 f.mr,.int .i64 f.md,.slice pa f.path.length pc]:Array Value)[j_1]?) ∧ (∀ j_1,wr5.cell? ⟨w.heap.size + 1,j_1,none⟩ = (#[.int .i64 c.id,.slice a1 c.rep.length q1,.slice a2 c.df.length q2,.slice a3 c.vals.length q3]:Array Value)[j_1]?))
      refine AnyE.one (i:=6) (by kernel_rfl) rfl rfl ?_
      intro K hK
      simp only [List.getElem_toArray,List.getElem_cons_succ,List.getElem_cons_zero]
      go_simp
      refine (HPT.out _ _ wr5 (HW.out.trans (HBX.out.mono HW.out.size)) HLF.out HCO.out HRM.out).mono ?_;rintro e wr6 ⟨P,Q,V,ue,rfl,hcu,her,hb⟩
      have hcq:=hcu.base (B':=w3.heap.size) HBX0
      replace HBX:=Lib.hid (HBX.out.trans (hb.mono HBX0));replace HBX0:=Nat.le_trans HBX0 hb.size
      replace RGP:=Lib.hid (row_keep hb RGP.out)
      have HCU:=Lib.hid hcq;have HER:=Lib.hid her
      refine hK _ _ (fun _=>⟨rowc (row_keep HBX.out RF.out),rowc (row_keep HBX.out RC.out)⟩) ?_
      clear hK K hS hcu hcq her hb HLF HCO HRM
      try simp only [Act.put,List.getElem_toArray,List.getElem_cons_succ,List.getElem_cons_zero,List.setIfInBounds_toArray,List.set_cons_zero,List.set_cons_succ]
      have hS:=(⟨rowc (row_keep HBX.out RF.out),rowc (row_keep HBX.out RC.out)⟩:(∀ j_1,wr6.cell? ⟨w.heap.size,j_1,none⟩ = (#[.int .i64 f.id,.int .i64 f.kind,.int .i64 f.mr,.int .i64 f.md,.slice pa f.path.length pc]:Array Value)[j_1]?) ∧ (∀ j_1,wr6.cell? ⟨w.heap.size + 1,j_1,none⟩ = (#[.int .i64 c.id,.slice a1 c.rep.length q1,.slice a2 c.df.length q2,.slice a3 c.vals.length q3]:Array Value)[j_1]?))
      refine AnyE.takeL (i:=7) (v:=?_) rfl (by kernel_rfl) (by kernel_rfl) (by kernel_rfl) (by kernel_rfl) (by kernel_rfl) (fun _ _ _ h=>h) (Or.inl ⟨by rfl,?_⟩) hS ?_
      rotate_left
      focus (intro wq hSq;obtain ⟨hS1,hS2⟩:=hSq;go_simp;with_reducible rfl)
      try simp only [Act.put,List.getElem_toArray,List.getElem_cons_succ,List.getElem_cons_zero,List.setIfInBounds_toArray,List.set_cons_zero,List.set_cons_succ]
      refine AnyE.takeP (i:=9) (v:=?_) rfl (by kernel_rfl) (by kernel_rfl) (by kernel_rfl) (by kernel_rfl) (fun _ _ _ h=>h) (Or.inl ⟨by rfl,?_⟩) ?_
      rotate_left
      focus (intro wq hSq;go_simp;with_reducible rfl)
      try simp only [Act.put,List.getElem_toArray,List.getElem_cons_succ,List.getElem_cons_zero,List.setIfInBounds_toArray,List.set_cons_zero,List.set_cons_succ]
      refine AnyE.takeL (i:=8) (v:=?_) rfl (by kernel_rfl) (by kernel_rfl) (by kernel_rfl) (by kernel_rfl) (by kernel_rfl) (fun _ _ _ h=>h) (Or.inl ⟨by rfl,?_⟩) hS ?_
      rotate_left
      focus (intro wq hSq;obtain ⟨hS1,hS2⟩:=hSq;go_simp;with_reducible rfl)
      try simp only [Act.put,List.getElem_toArray,List.getElem_cons_succ,List.getElem_cons_zero,List.setIfInBounds_toArray,List.set_cons_zero,List.set_cons_succ]
      refine AnyE.one (i:=11) (by kernel_rfl) rfl rfl ?_
      intro K hK
      simp only [List.getElem_toArray,List.getElem_cons_succ,List.getElem_cons_zero]
      obtain ⟨p5,q5,v5,e5,h51,h52,h53⟩:=HCU.out
      obtain ⟨Pa,Pm,Pc,hP⟩:=own_capS h51;obtain ⟨Qa,Qm,Qc,hQ⟩:=own_capS h52;obtain ⟨Va,Vm,Vc,hV⟩:=own_capS h53
      simp only [Value.agg.injEq,Array.mk.injEq,List.cons.injEq,and_true,true_and] at e5
      obtain ⟨rfl,rfl,rfl⟩:=e5
      subst hP;subst hQ;subst hV
      clear h51 h52 h53
      refine wp_store_part rfl 27 _ _ rfl gp 0 #[.int .i64 0,.slice none 0 0,.slice none 0 0,.slice none 0 0] 27 #[.int .i64 C.id,.slice Pa Pm Pc,.slice Qa Qm Qc,.slice Va Vm Vc] rfl rfl RGP.out (by kernel_rfl) (by simp [Value.oneCell']) (Nat.le_of_ble_eq_true rfl) #[.int .i64 C.id,.slice Pa Pm Pc,.slice Qa Qm Qc,.slice Va Vm Vc] rfl ?_;intro w9 r9 ho9 hb9 hz9
      have hcu9:=HCU.out.off RGP.out ho9
      have her9:=HER.out.off1 (rowc RGP.out 1) (fun T p h=>by cases h) ho9
      have hbx9:=HBX.out.trans (hb9.mono hgpz)
      refine hK _ _ (fun h=>absurd h (by decide)) ?_
      clear hK K hS
      try simp only [Act.put,List.getElem_toArray,List.getElem_cons_succ,List.getElem_cons_zero,List.setIfInBounds_toArray,List.set_cons_zero,List.set_cons_succ]
      refine AnyE.one (i:=12) (by kernel_rfl) rfl rfl ?_
      intro K hK
      simp only [List.getElem_toArray,List.getElem_cons_succ,List.getElem_cons_zero]
      go_simp
      refine hK _ _ (fun h=>absurd h (by decide)) ?_
      clear hK K
      try simp only [Act.put,List.getElem_toArray,List.getElem_cons_succ,List.getElem_cons_zero,List.setIfInBounds_toArray,List.set_cons_zero,List.set_cons_succ]
      refine AnyE.done (by kernel_rfl) ?_ _
      have H9:=Lib.hid (p7_of r9 hcu9 her9 hbx9 hgpz)
      clear r9 ho9 hb9 hz9 hcu9 her9 hbx9 HCU HER HBX RGP hgpz
      go_wp2_with fail
      go_meet
      exact ⟨gp,ue,rfl,rfl,Pa,Pm,Pc,Qa,Qm,Qc,Va,Vm,Vc,H9⟩
    ·intro K hK
     simp only [List.getElem_toArray,List.getElem_cons_succ,List.getElem_cons_zero]
     go_simp
     have hb:=(Below.refl wr1.heap.size wr1).alloc (Nat.le_refl _) (.cells #[.int .i64 0,.slice none 0 0,.slice none 0 0,.slice none 0 0] 27)
     have hgp:=heap_alloc_new wr1 (.cells #[.int .i64 0,.slice none 0 0,.slice none 0 0,.slice none 0 0] 27)
     have hgpz:w3.heap.size ≤ wr1.heap.size:=HBX0
     replace HBX:=Lib.hid (HBX.out.trans (hb.mono HBX0));replace HBX0:=Nat.le_trans HBX0 hb.size
     replace HLF:=Lib.hid (HLF.out.below hb (Nat.le_refl _))
     have RGP:=Lib.hid hgp
     refine hK _ _ (fun _=>⟨rowc (row_keep HBX.out RF.out),rowc (row_keep HBX.out RC.out)⟩) ?_
     clear hK K hS hgp hb
     try simp only [Act.put,List.getElem_toArray,List.getElem_cons_succ,List.getElem_cons_zero,List.setIfInBounds_toArray,List.set_cons_zero,List.set_cons_succ]
     generalize wr1.alloc (.cells #[.int .i64 0,.slice none 0 0,.slice none 0 0,.slice none 0 0] 27) = wr7 at *
     generalize wr1.heap.size = gp at *
     have hS:=(⟨rowc (row_keep HBX.out RF.out),rowc (row_keep HBX.out RC.out)⟩:(∀ j_1,wr7.cell? ⟨w.heap.size,j_1,none⟩ = (#[.int .i64 f.id,.int .i64 f.kind,.int .i64 f.mr,.int .i64 f.md,.slice pa f.path.length pc]:Array Value)[j_1]?) ∧ (∀ j_1,wr7.cell? ⟨w.heap.size + 1,j_1,none⟩ = (#[.int .i64 c.id,.slice a1 c.rep.length q1,.slice a2 c.df.length q2,.slice a3 c.vals.length q3]:Array Value)[j_1]?))
     refine AnyE.one (i:=3) (by kernel_rfl) rfl rfl ?_
     intro K hK
     simp only [List.getElem_toArray,List.getElem_cons_succ,List.getElem_cons_zero]
     go_simp
     refine (HOC.out wr7 (HW.out.trans (HBX.out.mono HW.out.size))).mono ?_;rintro e wr8 ⟨⟨uc,rfl,hoc,hrm⟩,hb⟩
     replace HBX:=Lib.hid (HBX.out.trans (hb.mono HBX0));replace HBX0:=Nat.le_trans HBX0 hb.size
     replace RGP:=Lib.hid (row_keep hb RGP.out)
     replace HLF:=Lib.hid (HLF.out.below hb (Nat.le_refl _))
     have HCO:=Lib.hid hoc;have HRM:=Lib.hid hrm
     refine hK _ _ (fun _=>⟨rowc (row_keep HBX.out RF.out),rowc (row_keep HBX.out RC.out)⟩) ?_
     clear hK K hS hoc hrm hb
     try simp only [Act.put,List.getElem_toArray,List.getElem_cons_succ,List.getElem_cons_zero,List.setIfInBounds_toArray,List.set_cons_zero,List.set_cons_succ]
     have hS:=(⟨rowc (row_keep HBX.out RF.out),rowc (row_keep HBX.out RC.out)⟩:(∀ j_1,wr8.cell? ⟨w.heap.size,j_1,none⟩ = (#[.int .i64 f.id,.int .i64 f.kind,.int .i64 f.mr,.int .i64 f.md,.slice pa f.path.length pc]:Array Value)[j_1]?) ∧ (∀ j_1,wr8.cell? ⟨w.heap.size + 1,j_1,none⟩ = (#[.int .i64 c.id,.slice a1 c.rep.length q1,.slice a2 c.df.length q2,.slice a3 c.vals.length q3]:Array Value)[j_1]?))
     refine AnyE.one (i:=6) (by kernel_rfl) rfl rfl ?_
     intro K hK
     simp only [List.getElem_toArray,List.getElem_cons_succ,List.getElem_cons_zero]
     go_simp
     refine (HPT.out _ _ wr8 (HW.out.trans (HBX.out.mono HW.out.size)) HLF.out HCO.out HRM.out).mono ?_;rintro e wr9 ⟨P,Q,V,ue,rfl,hcu,her,hb⟩
     have hcq:=hcu.base (B':=w3.heap.size) HBX0
     replace HBX:=Lib.hid (HBX.out.trans (hb.mono HBX0));replace HBX0:=Nat.le_trans HBX0 hb.size
     replace RGP:=Lib.hid (row_keep hb RGP.out)
     have HCU:=Lib.hid hcq;have HER:=Lib.hid her
     refine hK _ _ (fun _=>⟨rowc (row_keep HBX.out RF.out),rowc (row_keep HBX.out RC.out)⟩) ?_
     clear hK K hS hcu hcq her hb HLF HCO HRM
     try simp only [Act.put,List.getElem_toArray,List.getElem_cons_succ,List.getElem_cons_zero,List.setIfInBounds_toArray,List.set_cons_zero,List.set_cons_succ]
     have hS:=(⟨rowc (row_keep HBX.out RF.out),rowc (row_keep HBX.out RC.out)⟩:(∀ j_1,wr9.cell? ⟨w.heap.size,j_1,none⟩ = (#[.int .i64 f.id,.int .i64 f.kind,.int .i64 f.mr,.int .i64 f.md,.slice pa f.path.length pc]:Array Value)[j_1]?) ∧ (∀ j_1,wr9.cell? ⟨w.heap.size + 1,j_1,none⟩ = (#[.int .i64 c.id,.slice a1 c.rep.length q1,.slice a2 c.df.length q2,.slice a3 c.vals.length q3]:Array Value)[j_1]?))
     refine AnyE.takeL (i:=7) (v:=?_) rfl (by kernel_rfl) (by kernel_rfl) (by kernel_rfl) (by kernel_rfl) (by kernel_rfl) (fun _ _ _ h=>h) (Or.inl ⟨by rfl,?_⟩) hS ?_
     rotate_left
     focus (intro wq hSq;obtain ⟨hS1,hS2⟩:=hSq;go_simp;with_reducible rfl)
     try simp only [Act.put,List.getElem_toArray,List.getElem_cons_succ,List.getElem_cons_zero,List.setIfInBounds_toArray,List.set_cons_zero,List.set_cons_succ]
     refine AnyE.takeP (i:=9) (v:=?_) rfl (by kernel_rfl) (by kernel_rfl) (by kernel_rfl) (by kernel_rfl) (fun _ _ _ h=>h) (Or.inl ⟨by rfl,?_⟩) ?_
     rotate_left
     focus (intro wq hSq;go_simp;with_reducible rfl)
     try simp only [Act.put,List.getElem_toArray,List.getElem_cons_succ,List.getElem_cons_zero,List.setIfInBounds_toArray,List.set_cons_zero,List.set_cons_succ]
     refine AnyE.takeL (i:=8) (v:=?_) rfl (by kernel_rfl) (by kernel_rfl) (by kernel_rfl) (by kernel_rfl) (by kernel_rfl) (fun _ _ _ h=>h) (Or.inl ⟨by rfl,?_⟩) hS ?_
     rotate_left
     focus (intro wq hSq;obtain ⟨hS1,hS2⟩:=hSq;go_simp;with_reducible rfl)
     try simp only [Act.put,List.getElem_toArray,List.getElem_cons_succ,List.getElem_cons_zero,List.setIfInBounds_toArray,List.set_cons_zero,List.set_cons_succ]
     refine AnyE.one (i:=11) (by kernel_rfl) rfl rfl ?_
     intro K hK
     simp only [List.getElem_toArray,List.getElem_cons_succ,List.getElem_cons_zero]
     obtain ⟨p5,q5,v5,e5,h51,h52,h53⟩:=HCU.out
     obtain ⟨Pa,Pm,Pc,hP⟩:=own_capS h51;obtain ⟨Qa,Qm,Qc,hQ⟩:=own_capS h52;obtain ⟨Va,Vm,Vc,hV⟩:=own_capS h53
     simp only [Value.agg.injEq,Array.mk.injEq,List.cons.injEq,and_true,true_and] at e5
     obtain ⟨rfl,rfl,rfl⟩:=e5
     subst hP;subst hQ;subst hV
     clear h51 h52 h53
     refine wp_store_part rfl 27 _ _ rfl gp 0 #[.int .i64 0,.slice none 0 0,.slice none 0 0,.slice none 0 0] 27 #[.int .i64 C.id,.slice Pa Pm Pc,.slice Qa Qm Qc,.slice Va Vm Vc] rfl rfl RGP.out (by kernel_rfl) (by simp [Value.oneCell']) (Nat.le_of_ble_eq_true rfl) #[.int .i64 C.id,.slice Pa Pm Pc,.slice Qa Qm Qc,.slice Va Vm Vc] rfl ?_;intro w9 r9 ho9 hb9 hz9
     have hcu9:=HCU.out.off RGP.out ho9
     have her9:=HER.out.off1 (rowc RGP.out 1) (fun T p h=>by cases h) ho9
     have hbx9:=HBX.out.trans (hb9.mono hgpz)
     refine hK _ _ (fun h=>absurd h (by decide)) ?_
     clear hK K hS
     try simp only [Act.put,List.getElem_toArray,List.getElem_cons_succ,List.getElem_cons_zero,List.setIfInBounds_toArray,List.set_cons_zero,List.set_cons_succ]
     refine AnyE.one (i:=12) (by kernel_rfl) rfl rfl ?_
     intro K hK
     simp only [List.getElem_toArray,List.getElem_cons_succ,List.getElem_cons_zero]
     go_simp
     refine hK _ _ (fun h=>absurd h (by decide)) ?_
     clear hK K
     try simp only [Act.put,List.getElem_toArray,List.getElem_cons_succ,List.getElem_cons_zero,List.setIfInBounds_toArray,List.set_cons_zero,List.set_cons_succ]
     refine AnyE.done (by kernel_rfl) ?_ _
     have H9:=Lib.hid (p7_of r9 hcu9 her9 hbx9 hgpz)
     clear r9 ho9 hb9 hz9 hcu9 her9 hbx9 HCU HER HBX RGP hgpz
     go_wp2_with fail
     go_meet
     exact ⟨gp,ue,rfl,rfl,Pa,Pm,Pc,Qa,Qm,Qc,Va,Vm,Vc,H9⟩
   ·intro K hK
    simp only [List.getElem_toArray,List.getElem_cons_succ,List.getElem_cons_zero]
    go_simp
    have hb:=(Below.refl wd.heap.size wd).alloc (Nat.le_refl _) (.cells #[.int .i64 0,.slice none 0 0,.slice none 0 0,.slice none 0 0] 27)
    have hgp:=heap_alloc_new wd (.cells #[.int .i64 0,.slice none 0 0,.slice none 0 0,.slice none 0 0] 27)
    have hgpz:w3.heap.size ≤ wd.heap.size:=HBX0
    replace HBX:=Lib.hid (HBX.out.trans (hb.mono HBX0));replace HBX0:=Nat.le_trans HBX0 hb.size
    have RGP:=Lib.hid hgp
    refine hK _ _ (fun _=>⟨rowc (row_keep HBX.out RF.out),rowc (row_keep HBX.out RC.out)⟩) ?_
    clear hK K hS hgp hb
    try simp only [Act.put,List.getElem_toArray,List.getElem_cons_succ,List.getElem_cons_zero,List.setIfInBounds_toArray,List.set_cons_zero,List.set_cons_succ]
    generalize wd.alloc (.cells #[.int .i64 0,.slice none 0 0,.slice none 0 0,.slice none 0 0] 27) = wr10 at *
    generalize wd.heap.size = gp at *
    have hS:=(⟨rowc (row_keep HBX.out RF.out),rowc (row_keep HBX.out RC.out)⟩:(∀ j_1,wr10.cell? ⟨w.heap.size,j_1,none⟩ = (#[.int .i64 f.id,.int .i64 f.kind,.int .i64 f.mr,.int .i64 f.md,.slice pa f.path.length pc]:Array Value)[j_1]?) ∧ (∀ j_1,wr10.cell? ⟨w.heap.size + 1,j_1,none⟩ = (#[.int .i64 c.id,.slice a1 c.rep.length q1,.slice a2 c.df.length q2,.slice a3 c.vals.length q3]:Array Value)[j_1]?))
    refine AnyE.one (i:=1) (by kernel_rfl) rfl rfl ?_
    intro K hK
    simp only [List.getElem_toArray,List.getElem_cons_succ,List.getElem_cons_zero]
    go_simp
    refine (HOL.out wr10 (HW.out.trans (HBX.out.mono HW.out.size))).mono ?_;rintro e wr11 ⟨⟨uf,rfl,hlf⟩,hb⟩
    replace HBX:=Lib.hid (HBX.out.trans (hb.mono HBX0));replace HBX0:=Nat.le_trans HBX0 hb.size
    replace RGP:=Lib.hid (row_keep hb RGP.out)
    have HLF:=Lib.hid hlf
    refine hK _ _ (fun _=>⟨rowc (row_keep HBX.out RF.out),rowc (row_keep HBX.out RC.out)⟩) ?_
    clear hK K hS hlf hb
    try simp only [Act.put,List.getElem_toArray,List.getElem_cons_succ,List.getElem_cons_zero,List.setIfInBounds_toArray,List.set_cons_zero,List.set_cons_succ]
    have hS:=(⟨rowc (row_keep HBX.out RF.out),rowc (row_keep HBX.out RC.out)⟩:(∀ j_1,wr11.cell? ⟨w.heap.size,j_1,none⟩ = (#[.int .i64 f.id,.int .i64 f.kind,.int .i64 f.mr,.int .i64 f.md,.slice pa f.path.length pc]:Array Value)[j_1]?) ∧ (∀ j_1,wr11.cell? ⟨w.heap.size + 1,j_1,none⟩ = (#[.int .i64 c.id,.slice a1 c.rep.length q1,.slice a2 c.df.length q2,.slice a3 c.vals.length q3]:Array Value)[j_1]?))
    refine AnyE.one (i:=3) (by kernel_rfl) rfl rfl ?_
    intro K hK
    simp only [List.getElem_toArray,List.getElem_cons_succ,List.getElem_cons_zero]
    go_simp
    refine (HOC.out wr11 (HW.out.trans (HBX.out.mono HW.out.size))).mono ?_;rintro e wr12 ⟨⟨uc,rfl,hoc,hrm⟩,hb⟩
    replace HBX:=Lib.hid (HBX.out.trans (hb.mono HBX0));replace HBX0:=Nat.le_trans HBX0 hb.size
    replace RGP:=Lib.hid (row_keep hb RGP.out)
    replace HLF:=Lib.hid (HLF.out.below hb (Nat.le_refl _))
    have HCO:=Lib.hid hoc;have HRM:=Lib.hid hrm
    refine hK _ _ (fun _=>⟨rowc (row_keep HBX.out RF.out),rowc (row_keep HBX.out RC.out)⟩) ?_
    clear hK K hS hoc hrm hb
    try simp only [Act.put,List.getElem_toArray,List.getElem_cons_succ,List.getElem_cons_zero,List.setIfInBounds_toArray,List.set_cons_zero,List.set_cons_succ]
    have hS:=(⟨rowc (row_keep HBX.out RF.out),rowc (row_keep HBX.out RC.out)⟩:(∀ j_1,wr12.cell? ⟨w.heap.size,j_1,none⟩ = (#[.int .i64 f.id,.int .i64 f.kind,.int .i64 f.mr,.int .i64 f.md,.slice pa f.path.length pc]:Array Value)[j_1]?) ∧ (∀ j_1,wr12.cell? ⟨w.heap.size + 1,j_1,none⟩ = (#[.int .i64 c.id,.slice a1 c.rep.length q1,.slice a2 c.df.length q2,.slice a3 c.vals.length q3]:Array Value)[j_1]?))
    refine AnyE.one (i:=6) (by kernel_rfl) rfl rfl ?_
    intro K hK
    simp only [List.getElem_toArray,List.getElem_cons_succ,List.getElem_cons_zero]
    go_simp
    refine (HPT.out _ _ wr12 (HW.out.trans (HBX.out.mono HW.out.size)) HLF.out HCO.out HRM.out).mono ?_;rintro e wr13 ⟨P,Q,V,ue,rfl,hcu,her,hb⟩
    have hcq:=hcu.base (B':=w3.heap.size) HBX0
    replace HBX:=Lib.hid (HBX.out.trans (hb.mono HBX0));replace HBX0:=Nat.le_trans HBX0 hb.size
    replace RGP:=Lib.hid (row_keep hb RGP.out)
    have HCU:=Lib.hid hcq;have HER:=Lib.hid her
    refine hK _ _ (fun _=>⟨rowc (row_keep HBX.out RF.out),rowc (row_keep HBX.out RC.out)⟩) ?_
    clear hK K hS hcu hcq her hb HLF HCO HRM
    try simp only [Act.put,List.getElem_toArray,List.getElem_cons_succ,List.getElem_cons_zero,List.setIfInBounds_toArray,List.set_cons_zero,List.set_cons_succ]
    have hS:=(⟨rowc (row_keep HBX.out RF.out),rowc (row_keep HBX.out RC.out)⟩:(∀ j_1,wr13.cell? ⟨w.heap.size,j_1,none⟩ = (#[.int .i64 f.id,.int .i64 f.kind,.int .i64 f.mr,.int .i64 f.md,.slice pa f.path.length pc]:Array Value)[j_1]?) ∧ (∀ j_1,wr13.cell? ⟨w.heap.size + 1,j_1,none⟩ = (#[.int .i64 c.id,.slice a1 c.rep.length q1,.slice a2 c.df.length q2,.slice a3 c.vals.length q3]:Array Value)[j_1]?))
    refine AnyE.takeL (i:=7) (v:=?_) rfl (by kernel_rfl) (by kernel_rfl) (by kernel_rfl) (by kernel_rfl) (by kernel_rfl) (fun _ _ _ h=>h) (Or.inl ⟨by rfl,?_⟩) hS ?_
    rotate_left
    focus (intro wq hSq;obtain ⟨hS1,hS2⟩:=hSq;go_simp;with_reducible rfl)
    try simp only [Act.put,List.getElem_toArray,List.getElem_cons_succ,List.getElem_cons_zero,List.setIfInBounds_toArray,List.set_cons_zero,List.set_cons_succ]
    refine AnyE.takeP (i:=9) (v:=?_) rfl (by kernel_rfl) (by kernel_rfl) (by kernel_rfl) (by kernel_rfl) (fun _ _ _ h=>h) (Or.inl ⟨by rfl,?_⟩) ?_
    rotate_left
    focus (intro wq hSq;go_simp;with_reducible rfl)
    try simp only [Act.put,List.getElem_toArray,List.getElem_cons_succ,List.getElem_cons_zero,List.setIfInBounds_toArray,List.set_cons_zero,List.set_cons_succ]
    refine AnyE.takeL (i:=8) (v:=?_) rfl (by kernel_rfl) (by kernel_rfl) (by kernel_rfl) (by kernel_rfl) (by kernel_rfl) (fun _ _ _ h=>h) (Or.inl ⟨by rfl,?_⟩) hS ?_
    rotate_left
    focus (intro wq hSq;obtain ⟨hS1,hS2⟩:=hSq;go_simp;with_reducible rfl)
    try simp only [Act.put,List.getElem_toArray,List.getElem_cons_succ,List.getElem_cons_zero,List.setIfInBounds_toArray,List.set_cons_zero,List.set_cons_succ]
    refine AnyE.one (i:=11) (by kernel_rfl) rfl rfl ?_
    intro K hK
    simp only [List.getElem_toArray,List.getElem_cons_succ,List.getElem_cons_zero]
    obtain ⟨p5,q5,v5,e5,h51,h52,h53⟩:=HCU.out
    obtain ⟨Pa,Pm,Pc,hP⟩:=own_capS h51;obtain ⟨Qa,Qm,Qc,hQ⟩:=own_capS h52;obtain ⟨Va,Vm,Vc,hV⟩:=own_capS h53
    simp only [Value.agg.injEq,Array.mk.injEq,List.cons.injEq,and_true,true_and] at e5
    obtain ⟨rfl,rfl,rfl⟩:=e5
    subst hP;subst hQ;subst hV
    clear h51 h52 h53
    refine wp_store_part rfl 27 _ _ rfl gp 0 #[.int .i64 0,.slice none 0 0,.slice none 0 0,.slice none 0 0] 27 #[.int .i64 C.id,.slice Pa Pm Pc,.slice Qa Qm Qc,.slice Va Vm Vc] rfl rfl RGP.out (by kernel_rfl) (by simp [Value.oneCell']) (Nat.le_of_ble_eq_true rfl) #[.int .i64 C.id,.slice Pa Pm Pc,.slice Qa Qm Qc,.slice Va Vm Vc] rfl ?_;intro w9 r9 ho9 hb9 hz9
    have hcu9:=HCU.out.off RGP.out ho9
    have her9:=HER.out.off1 (rowc RGP.out 1) (fun T p h=>by cases h) ho9
    have hbx9:=HBX.out.trans (hb9.mono hgpz)
    refine hK _ _ (fun h=>absurd h (by decide)) ?_
    clear hK K hS
    try simp only [Act.put,List.getElem_toArray,List.getElem_cons_succ,List.getElem_cons_zero,List.setIfInBounds_toArray,List.set_cons_zero,List.set_cons_succ]
    refine AnyE.one (i:=12) (by kernel_rfl) rfl rfl ?_
    intro K hK
    simp only [List.getElem_toArray,List.getElem_cons_succ,List.getElem_cons_zero]
    go_simp
    refine hK _ _ (fun h=>absurd h (by decide)) ?_
    clear hK K
    try simp only [Act.put,List.getElem_toArray,List.getElem_cons_succ,List.getElem_cons_zero,List.setIfInBounds_toArray,List.set_cons_zero,List.set_cons_succ]
    refine AnyE.done (by kernel_rfl) ?_ _
    have H9:=Lib.hid (p7_of r9 hcu9 her9 hbx9 hgpz)
    clear r9 ho9 hb9 hz9 hcu9 her9 hbx9 HCU HER HBX RGP hgpz
    go_wp2_with fail
    go_meet
    exact ⟨gp,ue,rfl,rfl,Pa,Pm,Pc,Qa,Qm,Qc,Va,Vm,Vc,H9⟩
  case rest =>
   obtain ⟨gp,ue,hs11,hs12,Pa,Pm,Pc,Qa,Qm,Qc,Va,Vm,Vc,H9⟩:=hcut
   subst hs11 hs12
   obtain ⟨rgp,hcu,her,hbx,hgp⟩:=H9.out
   replace RF:=Lib.hid (row_keep hbx RF.out);replace RC:=Lib.hid (row_keep hbx RC.out);replace RE:=Lib.hid (row_keep hbx RE.out);replace HW:=Lib.hid (HW.out.trans (hbx.mono HW.out.size))
   have RGP:=Lib.hid rgp;have HCU:=Lib.hid hcu;have HER:=Lib.hid her
   clear rgp hcu her hbx hgp H9
   go_upto_region 8 with fail
   refine AnyE.region (S:=fun w'=>∀ j_1,w'.cell? ⟨w.heap.size + 1,j_1,none⟩ = (#[.int .i64 c.id,.slice a1 c.rep.length q1,.slice a2 c.df.length q2,.slice a3 c.vals.length q3]:Array Value)[j_1]?) (E:=[]) (by kernel_rfl) ?_
   have hbd:=(Below.refl wc.heap.size wc).drew
   have HBY:=Lib.hid hbd;have HBY0:=hbd.size
   clear hbd
   generalize hwd:wc.drew = wd at HBY HBY0 ⊢
   clear hwd
   have hS:=(rowc (row_keep HBY.out RC.out):∀ j_1,wd.cell? ⟨w.heap.size + 1,j_1,none⟩ = (#[.int .i64 c.id,.slice a1 c.rep.length q1,.slice a2 c.df.length q2,.slice a3 c.vals.length q3]:Array Value)[j_1]?)
   refine AnyE.takeL (i:=0) (v:=.agg #[.int .i64 c.id,.slice a1 c.rep.length q1,.slice a2 c.df.length q2,.slice a3 c.vals.length q3]) rfl (by kernel_rfl) (by kernel_rfl) (by kernel_rfl) (by kernel_rfl) (by kernel_rfl) (fun _ _ _ h=>h) (yields_load 27 _ rfl rfl (w.heap.size + 1) (0) rfl #[.int .i64 c.id,.slice a1 c.rep.length q1,.slice a2 c.df.length q2,.slice a3 c.vals.length q3] _ (fun w h=>fun j v hj=>by rw [Nat.zero_add];exact (h j).trans hj) Tryz.underlying27 rfl (by kernel_rfl)) hS ?_
   try simp only [Act.put,List.getElem_toArray,List.getElem_cons_succ,List.getElem_cons_zero,List.setIfInBounds_toArray,List.set_cons_zero,List.set_cons_succ]
   refine AnyE.takeL (i:=3) (v:=.agg #[.int .i64 c.id,.slice a1 c.rep.length q1,.slice a2 c.df.length q2,.slice a3 c.vals.length q3]) rfl (by kernel_rfl) (by kernel_rfl) (by kernel_rfl) (by kernel_rfl) (by kernel_rfl) (fun _ _ _ h=>h) (yields_load 27 _ rfl rfl (w.heap.size + 1) (0) rfl #[.int .i64 c.id,.slice a1 c.rep.length q1,.slice a2 c.df.length q2,.slice a3 c.vals.length q3] _ (fun w h=>fun j v hj=>by rw [Nat.zero_add];exact (h j).trans hj) Tryz.underlying27 rfl (by kernel_rfl)) hS ?_
   try simp only [Act.put,List.getElem_toArray,List.getElem_cons_succ,List.getElem_cons_zero,List.setIfInBounds_toArray,List.set_cons_zero,List.set_cons_succ]
   refine AnyE.one (i:=1) (by kernel_rfl) rfl rfl ?_
   intro K hK
   simp only [List.getElem_toArray,List.getElem_cons_succ,List.getElem_cons_zero]
   go_simp
   refine (HOC.out wd (HW.out.trans (HBY.out.mono HW.out.size))).mono ?_;rintro e v1 ⟨⟨uc,rfl,hoc,hrm⟩,hb⟩
   replace HBY:=Lib.hid (HBY.out.trans (hb.mono HBY0));replace HBY0:=Nat.le_trans HBY0 hb.size
   refine hK _ _ (fun _=>rowc (row_keep HBY.out RC.out)) ?_
   clear hK K hS hb hrm
   try simp only [Act.put,List.getElem_toArray,List.getElem_cons_succ,List.getElem_cons_zero,List.setIfInBounds_toArray,List.set_cons_zero,List.set_cons_succ]
   have hS:=(rowc (row_keep HBY.out RC.out):∀ j_1,v1.cell? ⟨w.heap.size + 1,j_1,none⟩ = (#[.int .i64 c.id,.slice a1 c.rep.length q1,.slice a2 c.df.length q2,.slice a3 c.vals.length q3]:Array Value)[j_1]?)
   refine AnyE.one (i:=2) (by kernel_rfl) rfl rfl ?_
   intro K hK
   simp only [List.getElem_toArray,List.getElem_cons_succ,List.getElem_cons_zero]
   go_simp
   refine (HCN.out _ v1 hoc).mono ?_;rintro e v2 ⟨rfl,hb⟩
   replace HBY:=Lib.hid (HBY.out.trans (hb.mono HBY0));replace HBY0:=Nat.le_trans HBY0 hb.size
   refine hK _ _ (fun _=>rowc (row_keep HBY.out RC.out)) ?_
   clear hK K hS hb hoc
   try simp only [Act.put,List.getElem_toArray,List.getElem_cons_succ,List.getElem_cons_zero,List.setIfInBounds_toArray,List.set_cons_zero,List.set_cons_succ]
   have hS:=(rowc (row_keep HBY.out RC.out):∀ j_1,v2.cell? ⟨w.heap.size + 1,j_1,none⟩ = (#[.int .i64 c.id,.slice a1 c.rep.length q1,.slice a2 c.df.length q2,.slice a3 c.vals.length q3]:Array Value)[j_1]?)
   refine AnyE.one (i:=4) (by kernel_rfl) rfl rfl ?_
   intro K hK
   simp only [List.getElem_toArray,List.getElem_cons_succ,List.getElem_cons_zero]
   go_simp
   refine (HCO2.out v2 (HW.out.trans (HBY.out.mono HW.out.size))).mono ?_;rintro e v3 ⟨rfl,hb⟩
   replace HBY:=Lib.hid (HBY.out.trans (hb.mono HBY0));replace HBY0:=Nat.le_trans HBY0 hb.size
   refine hK _ _ (fun _=>rowc (row_keep HBY.out RC.out)) ?_
   clear hK K hS hb
   try simp only [Act.put,List.getElem_toArray,List.getElem_cons_succ,List.getElem_cons_zero,List.setIfInBounds_toArray,List.set_cons_zero,List.set_cons_succ]
   have hS:=(rowc (row_keep HBY.out RC.out):∀ j_1,v3.cell? ⟨w.heap.size + 1,j_1,none⟩ = (#[.int .i64 c.id,.slice a1 c.rep.length q1,.slice a2 c.df.length q2,.slice a3 c.vals.length q3]:Array Value)[j_1]?)
   refine AnyE.one (i:=5) (by kernel_rfl) rfl rfl ?_
   intro K hK
   simp only [List.getElem_toArray,List.getElem_cons_succ,List.getElem_cons_zero]
   go_simp
   refine hK _ _ (fun _=>rowc (row_keep HBY.out RC.out)) ?_
   clear hK K hS
   try simp only [Act.put,List.getElem_toArray,List.getElem_cons_succ,List.getElem_cons_zero,List.setIfInBounds_toArray,List.set_cons_zero,List.set_cons_succ]
   refine AnyE.done (by kernel_rfl) ?_ _
   replace RF:=Lib.hid (row_keep HBY.out RF.out);replace RC:=Lib.hid (row_keep HBY.out RC.out);replace RE:=Lib.hid (row_keep HBY.out RE.out);replace RGP:=Lib.hid (row_keep HBY.out RGP.out)
   replace HCU:=Lib.hid (HCU.out.below HBY.out (Nat.le_refl _));replace HER:=Lib.hid (HER.out.below HBY.out);replace HW:=Lib.hid (HW.out.trans (HBY.out.mono HW.out.size))
   clear HBY HBY0
   have cE:=rowc RE.out
   rcases HFIN.out with ⟨h0,hcd,hat,hCe⟩ | ⟨h0,hg0,hpo⟩
   case' inl =>
    have d5:(0:Int) < code:=h0
    have cG:=rowc RGP.out
    have hres:((G2.code == code) && ((G2.code == 0) || (G2.at' == at_))) = true:=by rw [hcd,hat];simp
    have HFA:=faulted_any code at_ (HEB.out v3 HW.out) HER.out
    rw [hres] at HFA
    unfold faultV at HFA
    subst hCe
    go_wp2_with fail
    refine HFA.mono ?_;rintro e v4 ⟨rfl,hb⟩
    clear HFA hres
    replace RGP:=Lib.hid (row_keep hb RGP.out);replace HCU:=Lib.hid (HCU.out.below hb (Nat.le_refl _));replace HW:=Lib.hid (HW.out.trans (hb.mono HW.out.size))
    clear hb cE cG
    have cG:=rowc RGP.out
    go_wp2_with fail
    refine (sameColN ⟨0,[],[],[]⟩ _ _ v4 HCU.out (isCol_none v4) (by simp) (by simp) (by simp [maxLen])).mono ?_;rintro e v5 ⟨rfl,hb⟩
    replace HW:=Lib.hid (HW.out.trans (hb.mono HW.out.size))
    go_wp2_with fail
    go_ret
    exact ⟨rfl,HW.out⟩
   case' inr =>
    have d5:¬ (0:Int) < code:=by omega
    have hun:=HER.out
    rw [hg0] at hun
    have hue:=err_nil hun
    subst hue
    clear hun
    go_upto_region 12 with fail
    refine AnyE.region (S:=fun w'=>(∀ j_1,w'.cell? ⟨w.heap.size,j_1,none⟩ = (#[.int .i64 f.id,.int .i64 f.kind,.int .i64 f.mr,.int .i64 f.md,.slice pa f.path.length pc]:Array Value)[j_1]?) ∧ (∀ j_1,w'.cell? ⟨w.heap.size + 1,j_1,none⟩ = (#[.int .i64 c.id,.slice a1 c.rep.length q1,.slice a2 c.df.length q2,.slice a3 c.vals.length q3]:Array Value)[j_1]?) ∧ (∀ j_1,w'.cell? ⟨gp,j_1,none⟩ = (#[.int .i64 C.id,.slice Pa Pm Pc,.slice Qa Qm Qc,.slice Va Vm Vc]:Array Value)[j_1]?)) (E:=[]) (by kernel_rfl) ?_
    have hbd:=(Below.refl v3.heap.size v3).drew
    have HBY:=Lib.hid hbd;have HBY0:=hbd.size
    clear hbd
    generalize hwd:v3.drew = vd at HBY HBY0 ⊢
    clear hwd
    have hS:=(⟨rowc (row_keep HBY.out RF.out),rowc (row_keep HBY.out RC.out),rowc (row_keep HBY.out RGP.out)⟩:(∀ j_1,vd.cell? ⟨w.heap.size,j_1,none⟩ = (#[.int .i64 f.id,.int .i64 f.kind,.int .i64 f.mr,.int .i64 f.md,.slice pa f.path.length pc]:Array Value)[j_1]?) ∧ (∀ j_1,vd.cell? ⟨w.heap.size + 1,j_1,none⟩ = (#[.int .i64 c.id,.slice a1 c.rep.length q1,.slice a2 c.df.length q2,.slice a3 c.vals.length q3]:Array Value)[j_1]?) ∧ (∀ j_1,vd.cell? ⟨gp,j_1,none⟩ = (#[.int .i64 C.id,.slice Pa Pm Pc,.slice Qa Qm Qc,.slice Va Vm Vc]:Array Value)[j_1]?))
    refine AnyE.takeL (i:=0) (v:=?_) rfl (by kernel_rfl) (by kernel_rfl) (by kernel_rfl) (by kernel_rfl) (by kernel_rfl) (fun _ _ _ h=>h) (Or.inl ⟨by rfl,?_⟩) hS ?_
    rotate_left
    focus (intro wq hSq;obtain ⟨hS1,hS2,hS3⟩:=hSq;go_simp;with_reducible rfl)
    try simp only [Act.put,List.getElem_toArray,List.getElem_cons_succ,List.getElem_cons_zero,List.setIfInBounds_toArray,List.set_cons_zero,List.set_cons_succ]
    refine AnyE.takeL (i:=1) (v:=?_) rfl (by kernel_rfl) (by kernel_rfl) (by kernel_rfl) (by kernel_rfl) (by kernel_rfl) (fun _ _ _ h=>h) (Or.inl ⟨by rfl,?_⟩) hS ?_
    rotate_left
    focus (intro wq hSq;obtain ⟨hS1,hS2,hS3⟩:=hSq;go_simp;with_reducible rfl)
    try simp only [Act.put,List.getElem_toArray,List.getElem_cons_succ,List.getElem_cons_zero,List.setIfInBounds_toArray,List.set_cons_zero,List.set_cons_succ]
    refine AnyE.takeL (i:=2) (v:=?_) rfl (by kernel_rfl) (by kernel_rfl) (by kernel_rfl) (by kernel_rfl) (by kernel_rfl) (fun _ _ _ h=>h) (Or.inl ⟨by rfl,?_⟩) hS ?_
    rotate_left
    focus (intro wq hSq;obtain ⟨hS1,hS2,hS3⟩:=hSq;go_simp;with_reducible rfl)
    try simp only [Act.put,List.getElem_toArray,List.getElem_cons_succ,List.getElem_cons_zero,List.setIfInBounds_toArray,List.set_cons_zero,List.set_cons_succ]
    refine AnyE.takeL (i:=3) (v:=.agg #[.int .i64 C.id,.slice Pa Pm Pc,.slice Qa Qm Qc,.slice Va Vm Vc]) rfl (by kernel_rfl) (by kernel_rfl) (by kernel_rfl) (by kernel_rfl) (by kernel_rfl) (fun _ _ _ h=>h) (yields_load 27 _ rfl rfl (gp) (0) rfl #[.int .i64 C.id,.slice Pa Pm Pc,.slice Qa Qm Qc,.slice Va Vm Vc] _ (fun w h=>fun j v hj=>by rw [Nat.zero_add];exact (h.2.2 j).trans hj) Tryz.underlying27 rfl (by kernel_rfl)) hS ?_
    try simp only [Act.put,List.getElem_toArray,List.getElem_cons_succ,List.getElem_cons_zero,List.setIfInBounds_toArray,List.set_cons_zero,List.set_cons_succ]
    refine AnyE.takeL (i:=4) (v:=.agg #[.int .i64 f.id,.int .i64 f.kind,.int .i64 f.mr,.int .i64 f.md,.slice pa f.path.length pc]) rfl (by kernel_rfl) (by kernel_rfl) (by kernel_rfl) (by kernel_rfl) (by kernel_rfl) (fun _ _ _ h=>h) (yields_load 24 _ rfl rfl (w.heap.size) (0) rfl #[.int .i64 f.id,.int .i64 f.kind,.int .i64 f.mr,.int .i64 f.md,.slice pa f.path.length pc] _ (fun w h=>fun j v hj=>by rw [Nat.zero_add];exact (h.1 j).trans hj) Tryz.underlying24 rfl (by kernel_rfl)) hS ?_
    try simp only [Act.put,List.getElem_toArray,List.getElem_cons_succ,List.getElem_cons_zero,List.setIfInBounds_toArray,List.set_cons_zero,List.set_cons_succ]
    refine AnyE.takeL (i:=5) (v:=.agg #[.int .i64 c.id,.slice a1 c.rep.length q1,.slice a2 c.df.length q2,.slice a3 c.vals.length q3]) rfl (by kernel_rfl) (by kernel_rfl) (by kernel_rfl) (by kernel_rfl) (by kernel_rfl) (fun _ _ _ h=>h) (yields_load 27 _ rfl rfl (w.heap.size + 1) (0) rfl #[.int .i64 c.id,.slice a1 c.rep.length q1,.slice a2 c.df.length q2,.slice a3 c.vals.length q3] _ (fun w h=>fun j v hj=>by rw [Nat.zero_add];exact (h.2.1 j).trans hj) Tryz.underlying27 rfl (by kernel_rfl)) hS ?_
    try simp only [Act.put,List.getElem_toArray,List.getElem_cons_succ,List.getElem_cons_zero,List.setIfInBounds_toArray,List.set_cons_zero,List.set_cons_succ]
    refine AnyE.takeL (i:=6) (v:=?_) rfl (by kernel_rfl) (by kernel_rfl) (by kernel_rfl) (by kernel_rfl) (by kernel_rfl) (fun _ _ _ h=>h) (Or.inl ⟨by rfl,?_⟩) hS ?_
    rotate_left
    focus (intro wq hSq;obtain ⟨hS1,hS2,hS3⟩:=hSq;go_simp;with_reducible rfl)
    try simp only [Act.put,List.getElem_toArray,List.getElem_cons_succ,List.getElem_cons_zero,List.setIfInBounds_toArray,List.set_cons_zero,List.set_cons_succ]
    refine AnyE.takeL (i:=7) (v:=?_) rfl (by kernel_rfl) (by kernel_rfl) (by kernel_rfl) (by kernel_rfl) (by kernel_rfl) (fun _ _ _ h=>h) (Or.inl ⟨by rfl,?_⟩) hS ?_
    rotate_left
    focus (intro wq hSq;obtain ⟨hS1,hS2,hS3⟩:=hSq;go_simp;with_reducible rfl)
    try simp only [Act.put,List.getElem_toArray,List.getElem_cons_succ,List.getElem_cons_zero,List.setIfInBounds_toArray,List.set_cons_zero,List.set_cons_succ]
    refine AnyE.oneG (i:=8) (by kernel_rfl) rfl (by rfl) ?_
    intro K hK
    simp only [List.getElem_toArray,List.getElem_cons_succ,List.getElem_cons_zero]
    go_simp
    refine (hpo vd (HW.out.trans (HBY.out.mono HW.out.size))).mono ?_;rintro e v4 ⟨⟨uw,rfl,hpw⟩,hb⟩
    have hcu4:=HCU.out.below HBY.out (Nat.le_refl _)
    have hcu5:=hcu4.below hb (Nat.le_refl _)
    replace HBY:=Lib.hid (HBY.out.trans (hb.mono HBY0));replace HBY0:=Nat.le_trans HBY0 hb.size
    refine hK _ _ (fun _=>⟨rowc (row_keep HBY.out RF.out),rowc (row_keep HBY.out RC.out),rowc (row_keep HBY.out RGP.out)⟩) ?_
    clear hK K hS hb hcu4
    try simp only [Act.put,List.getElem_toArray,List.getElem_cons_succ,List.getElem_cons_zero,List.setIfInBounds_toArray,List.set_cons_zero,List.set_cons_succ]
    have hS:=(⟨rowc (row_keep HBY.out RF.out),rowc (row_keep HBY.out RC.out),rowc (row_keep HBY.out RGP.out)⟩:(∀ j_1,v4.cell? ⟨w.heap.size,j_1,none⟩ = (#[.int .i64 f.id,.int .i64 f.kind,.int .i64 f.mr,.int .i64 f.md,.slice pa f.path.length pc]:Array Value)[j_1]?) ∧ (∀ j_1,v4.cell? ⟨w.heap.size + 1,j_1,none⟩ = (#[.int .i64 c.id,.slice a1 c.rep.length q1,.slice a2 c.df.length q2,.slice a3 c.vals.length q3]:Array Value)[j_1]?) ∧ (∀ j_1,v4.cell? ⟨gp,j_1,none⟩ = (#[.int .i64 C.id,.slice Pa Pm Pc,.slice Qa Qm Qc,.slice Va Vm Vc]:Array Value)[j_1]?))
    refine AnyE.oneG (i:=9) (by kernel_rfl) rfl (by rfl) ?_
    intro K hK
    simp only [List.getElem_toArray,List.getElem_cons_succ,List.getElem_cons_zero]
    go_simp
    refine (sameColN C _ _ v4 hcu5 hpw HLEN.out.1 HLEN.out.2.1 HLEN.out.2.2).mono ?_;rintro e v5 ⟨rfl,hb⟩
    replace HBY:=Lib.hid (HBY.out.trans (hb.mono HBY0));replace HBY0:=Nat.le_trans HBY0 hb.size
    refine hK _ _ (fun _=>⟨rowc (row_keep HBY.out RF.out),rowc (row_keep HBY.out RC.out),rowc (row_keep HBY.out RGP.out)⟩) ?_
    clear hK K hS hb
    try simp only [Act.put,List.getElem_toArray,List.getElem_cons_succ,List.getElem_cons_zero,List.setIfInBounds_toArray,List.set_cons_zero,List.set_cons_succ]
    have hS:=(⟨rowc (row_keep HBY.out RF.out),rowc (row_keep HBY.out RC.out),rowc (row_keep HBY.out RGP.out)⟩:(∀ j_1,v5.cell? ⟨w.heap.size,j_1,none⟩ = (#[.int .i64 f.id,.int .i64 f.kind,.int .i64 f.mr,.int .i64 f.md,.slice pa f.path.length pc]:Array Value)[j_1]?) ∧ (∀ j_1,v5.cell? ⟨w.heap.size + 1,j_1,none⟩ = (#[.int .i64 c.id,.slice a1 c.rep.length q1,.slice a2 c.df.length q2,.slice a3 c.vals.length q3]:Array Value)[j_1]?) ∧ (∀ j_1,v5.cell? ⟨gp,j_1,none⟩ = (#[.int .i64 C.id,.slice Pa Pm Pc,.slice Qa Qm Qc,.slice Va Vm Vc]:Array Value)[j_1]?))
    refine AnyE.one (i:=10) (by kernel_rfl) rfl rfl ?_
    intro K hK
    simp only [List.getElem_toArray,List.getElem_cons_succ,List.getElem_cons_zero]
    go_simp
    refine hK _ _ (fun _=>⟨rowc (row_keep HBY.out RF.out),rowc (row_keep HBY.out RC.out),rowc (row_keep HBY.out RGP.out)⟩) ?_
    clear hK K
    try simp only [Act.put,List.getElem_toArray,List.getElem_cons_succ,List.getElem_cons_zero,List.setIfInBounds_toArray,List.set_cons_zero,List.set_cons_succ]
    refine AnyE.one (i:=11) (by kernel_rfl) rfl rfl ?_
    intro K hK
    simp only [List.getElem_toArray,List.getElem_cons_succ,List.getElem_cons_zero]
    go_simp
    refine hK _ _ (fun _=>⟨rowc (row_keep HBY.out RF.out),rowc (row_keep HBY.out RC.out),rowc (row_keep HBY.out RGP.out)⟩) ?_
    clear hK K
    try simp only [Act.put,List.getElem_toArray,List.getElem_cons_succ,List.getElem_cons_zero,List.setIfInBounds_toArray,List.set_cons_zero,List.set_cons_succ]
    refine AnyE.done (by kernel_rfl) ?_ _
    replace HW:=Lib.hid (HW.out.trans (HBY.out.mono HW.out.size))
    go_wp2_with fail
    go_ret
    exact ⟨rfl,HW.out⟩
theorem parts_any (f:Lf) (c:Col) (x y:Int) (vf vc:Value) (w:World) (adr:Nat → Addr) (hE:ErrEnv w adr) (hf:IsLf w vf f) (hc:IsCol w vc c) (fo:f.Ok) (co:c.Ok) (cr:c.Reach) :
  Calls Tryz.prog 3 #[vf,vc,.int .i64 x,.int .i64 y] w fun e w'=>e = .returned (.bool true) ∧ Below w.heap.size w w':=by
 cases hs:slimB c with
 | false=>exact parts_early f c x y vf vc w adr hE hf hc (.inl hs)
 | true =>
  rcases Nat.lt_or_ge 100 f.path.length with h | h
  ·exact parts_early f c x y vf vc w adr hE hf hc (.inr h)
  ·exact parts_main f c x y vf vc w adr hE hf hc fo co cr hs h
end Go.Proofs.YtdcgihplkangeaaGreatDoor
