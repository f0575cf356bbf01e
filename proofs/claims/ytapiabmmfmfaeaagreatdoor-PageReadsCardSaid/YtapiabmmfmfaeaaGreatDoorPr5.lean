/- The walk of page.Peek. -/
import Derived.Test.YtapiabmmfmfaeaaGreatDoorPr4
import Derived.Test.YtapiabmmfmfaeaaGreatDoorRegE
namespace Go.Proofs.YtapiabmmfmfaeaaGreatDoor
set_option maxHeartbeats 16000000
set_option linter.unusedVariables false
set_option linter.unusedSimpArgs false
open Go Go.RowKit Go.ChangeShapes
def PkRet (adr:Nat → Addr) (r:Nat ⊕ (St × Nat)) (e:Ending) (w':World):Prop:=match r with
 | .inl k=>e = .returned (.tuple #[.agg (stA St.none),.int .i64 0,.iface 211 (.pointer (some (adr k)))])
 | .inr x=>e = .returned (.tuple #[.agg (stA x.1),.int .i64 (x.2:Nat),.nilIface])
theorem PkRet.bad {adr:Nat → Addr} {r:Nat ⊕ (St × Nat)} {k:Nat} {w':World} (h:r = .inl k):PkRet adr r (.returned (.tuple #[.agg #[.int .i64 0,.int .i64 0,.bool false,.int .i64 0,.int .i64 0,.string ⟨#[]⟩,.int .i64 0,.int .i64 0,.string ⟨#[]⟩],.int .i64 0,.iface 211 (.pointer (some (adr k)))])) w':=by rw [h];exact rfl
theorem PkRet.good {adr:Nat → Addr} {r:Nat ⊕ (St × Nat)} {te tn n:Nat} {th:Bool} {lo hi:Val} {w':World} (h:r = .inr (⟨(te:Nat),(tn:Nat),th,lo,hi⟩,n)):PkRet adr r (.returned (.tuple #[.agg #[.int .i64 (te:Nat),.int .i64 (tn:Nat),.bool th,.int .i64 lo.k,.int .i64 lo.n,.string lo.s,.int .i64 hi.k,.int .i64 hi.n,.string hi.s],.int .i64 (n:Nat),.nilIface])) w':=by rw [h];exact rfl
theorem set9_other9 {w:World} {g k:Nat} (hne:g ≠ k) (x0 x1 x2 x3 x4 x5 x6 x7 x8:Value):(((((((((w.setCell ⟨k,0,none⟩ x0).setCell ⟨k,1,none⟩ x1).setCell ⟨k,2,none⟩ x2).setCell ⟨k,3,none⟩ x3).setCell ⟨k,4,none⟩ x4).setCell ⟨k,5,none⟩ x5).setCell ⟨k,6,none⟩ x6).setCell ⟨k,7,none⟩ x7).setCell ⟨k,8,none⟩ x8).heap[g]? = w.heap[g]?:=by
 rw [heap_setCell_other _ _ _ _ hne,heap_setCell_other _ _ _ _ hne,heap_setCell_other _ _ _ _ hne,heap_setCell_other _ _ _ _ hne,heap_setCell_other _ _ _ _ hne,heap_setCell_other _ _ _ _ hne,heap_setCell_other _ _ _ _ hne,heap_setCell_other _ _ _ _ hne,heap_setCell_other _ _ _ _ hne]
theorem peekR_3 {f:Lf} {L:List UInt8} (h:rightB f = false):peekR f L = .inl 3:=by unfold peekR;rw [if_pos h]
theorem peekR_t {f:Lf} {L:List UInt8} (h:rightB f = true) (hb:bodyR L = .text):peekR f L = .inl 1:=by unfold peekR;rw [if_neg (by rw [h];decide),hb]
theorem peekR_s {f:Lf} {L:List UInt8} (h:rightB f = true) (hb:bodyR L = .sum):peekR f L = .inl 7:=by unfold peekR;rw [if_neg (by rw [h];decide),hb]
theorem peekR_n {f:Lf} {L b:List UInt8} {u:Nat} (h:rightB f = true) (hb:bodyR L = .ok b u) (hc:readPr b = none):peekR f L = .inl 1:=by unfold peekR;rw [if_neg (by rw [h];decide),hb];simp only;rw [hc]
theorem peekR_b {f:Lf} {L b:List UInt8} {u k:Nat} {t:St} (h:rightB f = true) (hb:bodyR L = .ok b u) (hc:readPr b = some (t,k)) (h2:t.e = 0 ∨ (t.has = true ∧ t.lo.k ≠ f.kind)):peekR f L = .inl 1:=by unfold peekR;rw [if_neg (by rw [h];decide),hb];simp only;rw [hc];simp only;rw [if_pos h2]
theorem peekR_ok {f:Lf} {L b:List UInt8} {u k:Nat} {t:St} (h:rightB f = true) (hb:bodyR L = .ok b u) (hc:readPr b = some (t,k)) (h2:¬ (t.e = 0 ∨ (t.has = true ∧ t.lo.k ≠ f.kind))):peekR f L = .inr (t,u):=by unfold peekR;rw [if_neg (by rw [h];decide),hb];simp only;rw [hc];simp only;rw [if_neg h2]
set_option maxRecDepth 100000 in
theorem peek_page (f:Lf) (vf:Value) (s:ByteArray) (hs:s.size ≤ 1000000) (w:World) (adr:Nat → Addr) (hE:ErrsAt w adr [1,2,3,4,7]) (hf:IsLf w vf f) (fo:f.Ok) :
  Calls Tryz.prog 11 #[vf,.string s] w fun e w'=>PkRet adr (peekR f s.data.toList) e w' ∧ Below w.heap.size w w':=by
 obtain ⟨p,rfl,hp⟩:=hf
 have hg1:gErr 1 < w.heap.size:=block_lt_of_cell (hE.cell 1 (by decide))
 have hg3:gErr 3 < w.heap.size:=block_lt_of_cell (hE.cell 3 (by decide))
 unfold gErr at hg1 hg3
 have HE:=Lib.hid hE;have Hp:=Lib.hid hp;have Fo:=Lib.hid fo
 clear hE hp fo
 unfold lfA
 by_cases hrt:rightB f = true
 case neg =>
  have hrf:rightB f = false:=by simpa using hrt
  have HR:=Lib.hid (peekR_3 (L:=s.data.toList) hrf)
  have HC:=Lib.hid (fun w1=>right_no f p w1 hrf)
  clear hrt hrf
  go_enter Tryz.func11,Tryz.ntmps11
  go_upto_region 1 with fail
  obtain ⟨rL,rO,hbw,hz⟩:=rows2 (w:=w) (A:=.cells #[.int .i64 f.id,.int .i64 f.kind,.int .i64 f.mr,.int .i64 f.md,p] 34) (B:=.cells #[.int .i64 0,.int .i64 0,.bool false,.int .i64 0,.int .i64 0,.string ⟨#[]⟩,.int .i64 0,.int .i64 0,.string ⟨#[]⟩] 43) (Below.refl _ _)
  have RL:=Lib.hid rL;have RO:=Lib.hid rO;have Hbw:=Lib.hid hbw
  clear rL rO hbw hz
  generalize ((w.alloc (.cells #[.int .i64 f.id,.int .i64 f.kind,.int .i64 f.mr,.int .i64 f.md,p] 34)).alloc (.cells #[.int .i64 0,.int .i64 0,.bool false,.int .i64 0,.int .i64 0,.string ⟨#[]⟩,.int .i64 0,.int .i64 0,.string ⟨#[]⟩] 43)) = w0 at *
  have cL:=rowc RL.out;have fL:=rowf RL.out;have cO:=rowc RO.out;have fO:=rowf RO.out
  go_wp2_with fail
  refine (HC.out _).mono ?_;rintro e9 w1 ⟨rfl,hb9⟩
  clear cL fL cO fO
  replace RL:=Lib.hid (row_keep hb9 RL.out);replace RO:=Lib.hid (row_keep hb9 RO.out);replace Hbw:=Lib.hid (Hbw.out.trans (hb9.mono Hbw.out.size))
  clear hb9
  have cL:=rowc RL.out;have fL:=rowf RL.out;have cO:=rowc RO.out;have fO:=rowf RO.out
  go_upto_region 2 with fail
  have e1:w1.cell? ⟨0,0,none⟩ = some (.iface 211 (.pointer (some (adr 3)))):=(HE.out.below Hbw.out).cell 3 (by decide)
  have hnb:(0:Nat) ≠ w.heap.size + 1:=Nat.ne_of_lt (Nat.lt_succ_of_lt hg3)
  refine AnyE.region (S:=fun w'=>w'.cell? ⟨0,0,none⟩ = some (.iface 211 (.pointer (some (adr 3))))) (E:=[]) (by kernel_rfl) ?_
  have hbd:=(Below.refl w1.heap.size w1).drew
  replace RO:=Lib.hid (row_keep hbd RO.out);replace Hbw:=Lib.hid (Hbw.out.trans (hbd.mono Hbw.out.size))
  have hS:w1.drew.cell? ⟨0,0,none⟩ = some (.iface 211 (.pointer (some (adr 3)))):=e1
  clear hbd e1
  generalize w1.drew = wd at *
  have cO9:=rowc RO.out;have fO9:=rowf RO.out
  refine AnyE.take (i:=0) (v:=?_) rfl (by kernel_rfl) (by kernel_rfl) (by kernel_rfl) (by kernel_rfl) (by kernel_rfl) (fun _ _ _ h=>h) (Or.inl ⟨by rfl,?_⟩) hS ?_
  rotate_left
  focus (intro wq hSq;go_simp;with_reducible rfl)
  try simp only [Act.put,List.getElem_toArray,List.getElem_cons_succ,List.getElem_cons_zero,List.setIfInBounds_toArray,List.set_cons_zero,List.set_cons_succ]
  refine AnyE.take (i:=1) (v:=?_) rfl (by kernel_rfl) (by kernel_rfl) (by kernel_rfl) (by kernel_rfl) (by kernel_rfl) (fun _ _ _ h=>h) (Or.inl ⟨by rfl,?_⟩) hS ?_
  rotate_left
  focus (intro wq hSq;go_simp;with_reducible rfl)
  try simp only [Act.put,List.getElem_toArray,List.getElem_cons_succ,List.getElem_cons_zero,List.setIfInBounds_toArray,List.set_cons_zero,List.set_cons_succ]
  refine AnyE.one (i:=2) (by kernel_rfl) rfl rfl ?_
  intro K hK
  simp only [List.getElem_toArray,List.getElem_cons_succ,List.getElem_cons_zero]
  go_simp
  refine hK _ _ (fun _=>cell_set9 hnb hS _ _ _ _ _ _ _ _ _) ?_
  clear hK K
  try simp only [Act.put,List.getElem_toArray,List.getElem_cons_succ,List.getElem_cons_zero,List.setIfInBounds_toArray,List.set_cons_zero,List.set_cons_succ]
  refine AnyE.take (i:=3) (v:=?_) rfl (by kernel_rfl) (by kernel_rfl) (by kernel_rfl) (by kernel_rfl) (by kernel_rfl) (fun _ _ _ h=>h) (Or.inl ⟨by rfl,?_⟩) (cell_set9 hnb hS _ _ _ _ _ _ _ _ _) ?_
  rotate_left
  focus (intro wq hSq;go_simp;with_reducible rfl)
  try simp only [Act.put,List.getElem_toArray,List.getElem_cons_succ,List.getElem_cons_zero,List.setIfInBounds_toArray,List.set_cons_zero,List.set_cons_succ]
  refine AnyE.take (i:=4) (v:=?_) rfl (by kernel_rfl) (by kernel_rfl) (by kernel_rfl) (by kernel_rfl) (by kernel_rfl) (fun _ _ _ h=>h) (Or.inl ⟨by rfl,?_⟩) (cell_set9 hnb hS _ _ _ _ _ _ _ _ _) ?_
  rotate_left
  focus (intro wq hSq;go_simp;with_reducible rfl)
  try simp only [Act.put,List.getElem_toArray,List.getElem_cons_succ,List.getElem_cons_zero,List.setIfInBounds_toArray,List.set_cons_zero,List.set_cons_succ]
  refine AnyE.done (by kernel_rfl) ?_ _
  go_wp2_with fail
  refine bodyPost_ret (v:=.tuple #[(.agg #[.int .i64 0,.int .i64 0,.bool false,.int .i64 0,.int .i64 0,.string ⟨#[]⟩,.int .i64 0,.int .i64 0,.string ⟨#[]⟩]),.int .i64 0,(.iface 211 (.pointer (some (adr 3))))]) ?_ rfl ⟨PkRet.bad HR.out,?_⟩
  focus (refine results_row_tmp2 Tryz.results11 _ _ (w.heap.size + 1) 43 _ (0,0) _ rfl ?_ Tryz.underlying43 rfl (by kernel_rfl);with_reducible exact row_set9 RO.out rfl _ _ _ _ _ _ _ _ _)
  focus (with_reducible exact below_set9 Hbw.out _ (Nat.le_succ _) _ _ _ _ _ _ _ _ _)
 have HRt:=Lib.hid hrt
 have HC:=Lib.hid (fun w1=>right_yes f p w1 hrt)
 clear hrt
 go_enter Tryz.func11,Tryz.ntmps11
 go_upto_region 1 with fail
 obtain ⟨rL,rO,hbw,hz⟩:=rows2 (w:=w) (A:=.cells #[.int .i64 f.id,.int .i64 f.kind,.int .i64 f.mr,.int .i64 f.md,p] 34) (B:=.cells #[.int .i64 0,.int .i64 0,.bool false,.int .i64 0,.int .i64 0,.string ⟨#[]⟩,.int .i64 0,.int .i64 0,.string ⟨#[]⟩] 43) (Below.refl _ _)
 have RL:=Lib.hid rL;have RO:=Lib.hid rO;have Hbw:=Lib.hid hbw
 clear rL rO hbw hz
 generalize ((w.alloc (.cells #[.int .i64 f.id,.int .i64 f.kind,.int .i64 f.mr,.int .i64 f.md,p] 34)).alloc (.cells #[.int .i64 0,.int .i64 0,.bool false,.int .i64 0,.int .i64 0,.string ⟨#[]⟩,.int .i64 0,.int .i64 0,.string ⟨#[]⟩] 43)) = w0 at *
 have cL:=rowc RL.out;have fL:=rowf RL.out;have cO:=rowc RO.out;have fO:=rowf RO.out
 go_wp2_with fail
 refine (HC.out _).mono ?_;rintro e9 w1 ⟨rfl,hb9⟩
 clear cL fL cO fO
 replace RL:=Lib.hid (row_keep hb9 RL.out);replace RO:=Lib.hid (row_keep hb9 RO.out);replace Hbw:=Lib.hid (Hbw.out.trans (hb9.mono Hbw.out.size))
 clear hb9
 have cL:=rowc RL.out;have fL:=rowf RL.out;have cO:=rowc RO.out;have fO:=rowf RO.out
 cases hb:bodyR s.data.toList with
 | text =>
  have HR:=Lib.hid (peekR_t HRt.out hb)
  have HB:=Lib.hid (fun w1 (h:Below w.heap.size w w1)=>body_text s hs w1 adr ((HE.out.sub (by decide)).below h) hb)
  clear hb
  go_wp2_with fail
  refine (HB.out _ Hbw.out).mono ?_;rintro e9 w2 ⟨rfl,hb9⟩
  clear cL fL cO fO
  replace RL:=Lib.hid (row_keep hb9 RL.out);replace RO:=Lib.hid (row_keep hb9 RO.out);replace Hbw:=Lib.hid (Hbw.out.trans (hb9.mono Hbw.out.size))
  clear hb9
  have cL:=rowc RL.out;have fL:=rowf RL.out;have cO:=rowc RO.out;have fO:=rowf RO.out
  go_wp2_with fail
  refine bodyPost_ret (v:=.tuple #[(.agg #[.int .i64 0,.int .i64 0,.bool false,.int .i64 0,.int .i64 0,.string ⟨#[]⟩,.int .i64 0,.int .i64 0,.string ⟨#[]⟩]),.int .i64 0,(.iface 211 (.pointer (some (adr 1))))]) ?_ rfl ⟨PkRet.bad HR.out,?_⟩
  focus (refine results_row_tmp2 Tryz.results11 _ _ (w.heap.size + 1) 43 _ (0,0) _ rfl ?_ Tryz.underlying43 rfl (by kernel_rfl);with_reducible exact row_set9 RO.out rfl _ _ _ _ _ _ _ _ _)
  focus (with_reducible exact below_set9 Hbw.out _ (Nat.le_succ _) _ _ _ _ _ _ _ _ _)
 | sum =>
  have HR:=Lib.hid (peekR_s HRt.out hb)
  have HB:=Lib.hid (fun w1 (h:Below w.heap.size w w1)=>body_sum s hs w1 adr ((HE.out.sub (by decide)).below h) hb)
  clear hb
  go_wp2_with fail
  refine (HB.out _ Hbw.out).mono ?_;rintro e9 w2 ⟨rfl,hb9⟩
  clear cL fL cO fO
  replace RL:=Lib.hid (row_keep hb9 RL.out);replace RO:=Lib.hid (row_keep hb9 RO.out);replace Hbw:=Lib.hid (Hbw.out.trans (hb9.mono Hbw.out.size))
  clear hb9
  have cL:=rowc RL.out;have fL:=rowf RL.out;have cO:=rowc RO.out;have fO:=rowf RO.out
  go_wp2_with fail
  refine bodyPost_ret (v:=.tuple #[(.agg #[.int .i64 0,.int .i64 0,.bool false,.int .i64 0,.int .i64 0,.string ⟨#[]⟩,.int .i64 0,.int .i64 0,.string ⟨#[]⟩]),.int .i64 0,(.iface 211 (.pointer (some (adr 7))))]) ?_ rfl ⟨PkRet.bad HR.out,?_⟩
  focus (refine results_row_tmp2 Tryz.results11 _ _ (w.heap.size + 1) 43 _ (0,0) _ rfl ?_ Tryz.underlying43 rfl (by kernel_rfl);with_reducible exact row_set9 RO.out rfl _ _ _ _ _ _ _ _ _)
  focus (with_reducible exact below_set9 Hbw.out _ (Nat.le_succ _) _ _ _ _ _ _ _ _ _)
 | ok b used =>
  obtain ⟨sb,hsb⟩:∃ sb:ByteArray,sb.data.toList = b:=⟨⟨b.toArray⟩,by simp⟩
  obtain ⟨hb2,hused,-⟩:=bodyR_len hb
  rw [ba_len] at hused
  have hsbz:sb.size ≤ 200000:=by rw [← ba_len sb,hsb];exact hb2
  have Hsb:=Lib.hid hsb;have Hb:=Lib.hid hb
  have HB:=Lib.hid (fun w1 (h:Below w.heap.size w w1)=>body_ok s hs w1 adr ((HE.out.sub (by decide)).below h) hb sb hsb)
  clear hb hsb hb2
  go_wp2_with fail
  refine (HB.out _ Hbw.out).mono ?_;rintro e9 w2 ⟨rfl,hb9⟩
  clear cL fL cO fO
  replace RL:=Lib.hid (row_keep hb9 RL.out);replace RO:=Lib.hid (row_keep hb9 RO.out);replace Hbw:=Lib.hid (Hbw.out.trans (hb9.mono Hbw.out.size))
  clear hb9
  have cL:=rowc RL.out;have fL:=rowf RL.out;have cO:=rowc RO.out;have fO:=rowf RO.out
  cases hr:readPr b with
  | none =>
   have HR:=Lib.hid (peekR_n HRt.out Hb.out hr)
   have HS:=Lib.hid (fun w1 (h:Below w.heap.size w w1)=>statsRead_none sb (by omega) w1 adr ((HE.out.sub (by decide)).below h) (by rw [Hsb.out];exact hr))
   clear hr
   go_wp2_with fail
   refine (HS.out _ Hbw.out).mono ?_;rintro e9 w3 ⟨rfl,hb9⟩
   clear cL fL cO fO
   replace RL:=Lib.hid (row_keep hb9 RL.out);replace RO:=Lib.hid (row_keep hb9 RO.out);replace Hbw:=Lib.hid (Hbw.out.trans (hb9.mono Hbw.out.size))
   clear hb9
   have cL:=rowc RL.out;have fL:=rowf RL.out;have cO:=rowc RO.out;have fO:=rowf RO.out
   go_upto_region 7 with fail
   replace RL:=Lib.hid ((set9_other9 (show w.heap.size ≠ w.heap.size + 1 by omega) (.int .i64 0) (.int .i64 0) (.bool false) (.int .i64 0) (.int .i64 0) (.string ⟨#[]⟩) (.int .i64 0) (.int .i64 0) (.string ⟨#[]⟩)).trans RL.out)
   replace Hbw:=Lib.hid (below_set9 Hbw.out (w.heap.size + 1) (Nat.le_succ _) (.int .i64 0) (.int .i64 0) (.bool false) (.int .i64 0) (.int .i64 0) (.string ⟨#[]⟩) (.int .i64 0) (.int .i64 0) (.string ⟨#[]⟩))
   replace RO:=Lib.hid (row_set9 RO.out rfl (.int .i64 0) (.int .i64 0) (.bool false) (.int .i64 0) (.int .i64 0) (.string ⟨#[]⟩) (.int .i64 0) (.int .i64 0) (.string ⟨#[]⟩))
   clear cL fL cO fO
   generalize ((((((((w3.setCell ⟨w.heap.size + 1,0,none⟩ (.int .i64 0)).setCell ⟨w.heap.size + 1,1,none⟩ (.int .i64 0)).setCell ⟨w.heap.size + 1,2,none⟩ (.bool false)).setCell ⟨w.heap.size + 1,3,none⟩ (.int .i64 0)).setCell ⟨w.heap.size + 1,4,none⟩ (.int .i64 0)).setCell ⟨w.heap.size + 1,5,none⟩ (.string ⟨#[]⟩)).setCell ⟨w.heap.size + 1,6,none⟩ (.int .i64 0)).setCell ⟨w.heap.size + 1,7,none⟩ (.int .i64 0)).setCell ⟨w.heap.size + 1,8,none⟩ (.string ⟨#[]⟩) = w4 at *
   have cL:=rowc RL.out;have fL:=rowf RL.out;have cO:=rowc RO.out;have fO:=rowf RO.out
   go_upto_region 8 with fail
   have e1:w4.cell? ⟨1,0,none⟩ = some (.iface 211 (.pointer (some (adr 1)))):=(HE.out.below Hbw.out).cell 1 (by decide)
   have hnb:(1:Nat) ≠ w.heap.size + 1:=Nat.ne_of_lt (Nat.lt_succ_of_lt hg1)
   refine AnyE.region (S:=fun w'=>w'.cell? ⟨1,0,none⟩ = some (.iface 211 (.pointer (some (adr 1))))) (E:=[]) (by kernel_rfl) ?_
   have hbd:=(Below.refl w4.heap.size w4).drew
   replace RO:=Lib.hid (row_keep hbd RO.out);replace Hbw:=Lib.hid (Hbw.out.trans (hbd.mono Hbw.out.size))
   have hS:w4.drew.cell? ⟨1,0,none⟩ = some (.iface 211 (.pointer (some (adr 1)))):=e1
   clear hbd e1
   generalize w4.drew = wd at *
   have cO9:=rowc RO.out;have fO9:=rowf RO.out
   refine AnyE.take (i:=0) (v:=?_) rfl (by kernel_rfl) (by kernel_rfl) (by kernel_rfl) (by kernel_rfl) (by kernel_rfl) (fun _ _ _ h=>h) (Or.inl ⟨by rfl,?_⟩) hS ?_
   rotate_left
   focus (intro wq hSq;go_simp;with_reducible rfl)
   try simp only [Act.put,List.getElem_toArray,List.getElem_cons_succ,List.getElem_cons_zero,List.setIfInBounds_toArray,List.set_cons_zero,List.set_cons_succ]
   refine AnyE.take (i:=1) (v:=?_) rfl (by kernel_rfl) (by kernel_rfl) (by kernel_rfl) (by kernel_rfl) (by kernel_rfl) (fun _ _ _ h=>h) (Or.inl ⟨by rfl,?_⟩) hS ?_
   rotate_left
   focus (intro wq hSq;go_simp;with_reducible rfl)
   try simp only [Act.put,List.getElem_toArray,List.getElem_cons_succ,List.getElem_cons_zero,List.setIfInBounds_toArray,List.set_cons_zero,List.set_cons_succ]
   refine AnyE.one (i:=2) (by kernel_rfl) rfl rfl ?_
   intro K hK
   simp only [List.getElem_toArray,List.getElem_cons_succ,List.getElem_cons_zero]
   go_simp
   refine hK _ _ (fun _=>cell_set9 hnb hS _ _ _ _ _ _ _ _ _) ?_
   clear hK K
   try simp only [Act.put,List.getElem_toArray,List.getElem_cons_succ,List.getElem_cons_zero,List.setIfInBounds_toArray,List.set_cons_zero,List.set_cons_succ]
   refine AnyE.take (i:=3) (v:=?_) rfl (by kernel_rfl) (by kernel_rfl) (by kernel_rfl) (by kernel_rfl) (by kernel_rfl) (fun _ _ _ h=>h) (Or.inl ⟨by rfl,?_⟩) (cell_set9 hnb hS _ _ _ _ _ _ _ _ _) ?_
   rotate_left
   focus (intro wq hSq;go_simp;with_reducible rfl)
   try simp only [Act.put,List.getElem_toArray,List.getElem_cons_succ,List.getElem_cons_zero,List.setIfInBounds_toArray,List.set_cons_zero,List.set_cons_succ]
   refine AnyE.take (i:=4) (v:=?_) rfl (by kernel_rfl) (by kernel_rfl) (by kernel_rfl) (by kernel_rfl) (by kernel_rfl) (fun _ _ _ h=>h) (Or.inl ⟨by rfl,?_⟩) (cell_set9 hnb hS _ _ _ _ _ _ _ _ _) ?_
   rotate_left
   focus (intro wq hSq;go_simp;with_reducible rfl)
   try simp only [Act.put,List.getElem_toArray,List.getElem_cons_succ,List.getElem_cons_zero,List.setIfInBounds_toArray,List.set_cons_zero,List.set_cons_succ]
   refine AnyE.done (by kernel_rfl) ?_ _
   go_wp2_with fail
   refine bodyPost_ret (v:=.tuple #[(.agg #[.int .i64 0,.int .i64 0,.bool false,.int .i64 0,.int .i64 0,.string ⟨#[]⟩,.int .i64 0,.int .i64 0,.string ⟨#[]⟩]),.int .i64 0,(.iface 211 (.pointer (some (adr 1))))]) ?_ rfl ⟨PkRet.bad HR.out,?_⟩
   focus (refine results_row_tmp2 Tryz.results11 _ _ (w.heap.size + 1) 43 _ (0,0) _ rfl ?_ Tryz.underlying43 rfl (by kernel_rfl);with_reducible exact row_set9 RO.out rfl _ _ _ _ _ _ _ _ _)
   focus (with_reducible exact below_set9 Hbw.out _ (Nat.le_succ _) _ _ _ _ _ _ _ _ _)
  | some y =>
   obtain ⟨t,k⟩:=y
   obtain ⟨te,tn,e1,e2,hne,he2,hkb,hk0,hlo,hhi⟩:=readPr_ok hr
   obtain ⟨te',tn',th,lo,hi⟩:=t
   simp only at e1 e2 hlo hhi
   subst e1 e2
   have HS:=Lib.hid (fun w1 (h:Below w.heap.size w w1)=>statsRead_some sb (by omega) w1 adr ((HE.out.sub (by decide)).below h) (by rw [Hsb.out];exact hr))
   have Hr:=Lib.hid hr
   clear hr hkb hk0
   go_wp2_with fail
   refine (HS.out _ Hbw.out).mono ?_;rintro e9 w3 ⟨rfl,hb9⟩
   clear cL fL cO fO
   replace RL:=Lib.hid (row_keep hb9 RL.out);replace RO:=Lib.hid (row_keep hb9 RO.out);replace Hbw:=Lib.hid (Hbw.out.trans (hb9.mono Hbw.out.size))
   clear hb9
   have cL:=rowc RL.out;have fL:=rowf RL.out;have cO:=rowc RO.out;have fO:=rowf RO.out
   go_upto_region 7 with fail
   replace RL:=Lib.hid ((set9_other9 (show w.heap.size ≠ w.heap.size + 1 by omega) (.int .i64 (te:Nat)) (.int .i64 (tn:Nat)) (.bool th) (.int .i64 lo.k) (.int .i64 lo.n) (.string lo.s) (.int .i64 hi.k) (.int .i64 hi.n) (.string hi.s)).trans RL.out)
   replace Hbw:=Lib.hid (below_set9 Hbw.out (w.heap.size + 1) (Nat.le_succ _) (.int .i64 (te:Nat)) (.int .i64 (tn:Nat)) (.bool th) (.int .i64 lo.k) (.int .i64 lo.n) (.string lo.s) (.int .i64 hi.k) (.int .i64 hi.n) (.string hi.s))
   replace RO:=Lib.hid (row_set9 RO.out rfl (.int .i64 (te:Nat)) (.int .i64 (tn:Nat)) (.bool th) (.int .i64 lo.k) (.int .i64 lo.n) (.string lo.s) (.int .i64 hi.k) (.int .i64 hi.n) (.string hi.s))
   clear cL fL cO fO
   generalize ((((((((w3.setCell ⟨w.heap.size + 1,0,none⟩ (.int .i64 (te:Nat))).setCell ⟨w.heap.size + 1,1,none⟩ (.int .i64 (tn:Nat))).setCell ⟨w.heap.size + 1,2,none⟩ (.bool th)).setCell ⟨w.heap.size + 1,3,none⟩ (.int .i64 lo.k)).setCell ⟨w.heap.size + 1,4,none⟩ (.int .i64 lo.n)).setCell ⟨w.heap.size + 1,5,none⟩ (.string lo.s)).setCell ⟨w.heap.size + 1,6,none⟩ (.int .i64 hi.k)).setCell ⟨w.heap.size + 1,7,none⟩ (.int .i64 hi.n)).setCell ⟨w.heap.size + 1,8,none⟩ (.string hi.s) = w4 at *
   have cL:=rowc RL.out;have fL:=rowf RL.out;have cO:=rowc RO.out;have fO:=rowf RO.out
   by_cases h0:te = 0
   ·have HR:=Lib.hid (peekR_b HRt.out Hb.out Hr.out (.inl (show ((te:Nat):Int) = 0 by omega)))
    have h0':(((te:Nat):Int) == 0) = true:=by rw [beq_iff_eq];omega
    clear h0
    go_upto_region 8 with fail
    have e1:w4.cell? ⟨1,0,none⟩ = some (.iface 211 (.pointer (some (adr 1)))):=(HE.out.below Hbw.out).cell 1 (by decide)
    have hnb:(1:Nat) ≠ w.heap.size + 1:=Nat.ne_of_lt (Nat.lt_succ_of_lt hg1)
    refine AnyE.region (S:=fun w'=>w'.cell? ⟨1,0,none⟩ = some (.iface 211 (.pointer (some (adr 1))))) (E:=[]) (by kernel_rfl) ?_
    have hbd:=(Below.refl w4.heap.size w4).drew
    replace RO:=Lib.hid (row_keep hbd RO.out);replace Hbw:=Lib.hid (Hbw.out.trans (hbd.mono Hbw.out.size))
    have hS:w4.drew.cell? ⟨1,0,none⟩ = some (.iface 211 (.pointer (some (adr 1)))):=e1
    clear hbd e1
    generalize w4.drew = wd at *
    have cO9:=rowc RO.out;have fO9:=rowf RO.out
    refine AnyE.take (i:=0) (v:=?_) rfl (by kernel_rfl) (by kernel_rfl) (by kernel_rfl) (by kernel_rfl) (by kernel_rfl) (fun _ _ _ h=>h) (Or.inl ⟨by rfl,?_⟩) hS ?_
    rotate_left
    focus (intro wq hSq;go_simp;with_reducible rfl)
    try simp only [Act.put,List.getElem_toArray,List.getElem_cons_succ,List.getElem_cons_zero,List.setIfInBounds_toArray,List.set_cons_zero,List.set_cons_succ]
    refine AnyE.take (i:=1) (v:=?_) rfl (by kernel_rfl) (by kernel_rfl) (by kernel_rfl) (by kernel_rfl) (by kernel_rfl) (fun _ _ _ h=>h) (Or.inl ⟨by rfl,?_⟩) hS ?_
    rotate_left
    focus (intro wq hSq;go_simp;with_reducible rfl)
    try simp only [Act.put,List.getElem_toArray,List.getElem_cons_succ,List.getElem_cons_zero,List.setIfInBounds_toArray,List.set_cons_zero,List.set_cons_succ]
    refine AnyE.one (i:=2) (by kernel_rfl) rfl rfl ?_
    intro K hK
    simp only [List.getElem_toArray,List.getElem_cons_succ,List.getElem_cons_zero]
    go_simp
    refine hK _ _ (fun _=>cell_set9 hnb hS _ _ _ _ _ _ _ _ _) ?_
    clear hK K
    try simp only [Act.put,List.getElem_toArray,List.getElem_cons_succ,List.getElem_cons_zero,List.setIfInBounds_toArray,List.set_cons_zero,List.set_cons_succ]
    refine AnyE.take (i:=3) (v:=?_) rfl (by kernel_rfl) (by kernel_rfl) (by kernel_rfl) (by kernel_rfl) (by kernel_rfl) (fun _ _ _ h=>h) (Or.inl ⟨by rfl,?_⟩) (cell_set9 hnb hS _ _ _ _ _ _ _ _ _) ?_
    rotate_left
    focus (intro wq hSq;go_simp;with_reducible rfl)
    try simp only [Act.put,List.getElem_toArray,List.getElem_cons_succ,List.getElem_cons_zero,List.setIfInBounds_toArray,List.set_cons_zero,List.set_cons_succ]
    refine AnyE.take (i:=4) (v:=?_) rfl (by kernel_rfl) (by kernel_rfl) (by kernel_rfl) (by kernel_rfl) (by kernel_rfl) (fun _ _ _ h=>h) (Or.inl ⟨by rfl,?_⟩) (cell_set9 hnb hS _ _ _ _ _ _ _ _ _) ?_
    rotate_left
    focus (intro wq hSq;go_simp;with_reducible rfl)
    try simp only [Act.put,List.getElem_toArray,List.getElem_cons_succ,List.getElem_cons_zero,List.setIfInBounds_toArray,List.set_cons_zero,List.set_cons_succ]
    refine AnyE.done (by kernel_rfl) ?_ _
    go_wp2_with fail
    refine bodyPost_ret (v:=.tuple #[(.agg #[.int .i64 0,.int .i64 0,.bool false,.int .i64 0,.int .i64 0,.string ⟨#[]⟩,.int .i64 0,.int .i64 0,.string ⟨#[]⟩]),.int .i64 0,(.iface 211 (.pointer (some (adr 1))))]) ?_ rfl ⟨PkRet.bad HR.out,?_⟩
    focus (refine results_row_tmp2 Tryz.results11 _ _ (w.heap.size + 1) 43 _ (0,0) _ rfl ?_ Tryz.underlying43 rfl (by kernel_rfl);with_reducible exact row_set9 RO.out rfl _ _ _ _ _ _ _ _ _)
    focus (with_reducible exact below_set9 Hbw.out _ (Nat.le_succ _) _ _ _ _ _ _ _ _ _)
   have h0':(((te:Nat):Int) == 0) = false:=by rw [beq_eq_false_iff_ne];omega
   have H0:=Lib.hid (show ¬ ((te:Nat):Int) = 0 by omega)
   clear h0
   cases th with
   | false =>
    have HR:=Lib.hid (peekR_ok HRt.out Hb.out Hr.out (by rintro (h | ⟨h,_⟩);exact H0.out h;cases h))
    go_wp2_with fail
    refine bodyPost_ret (v:=.tuple #[.agg #[.int .i64 (te:Nat),.int .i64 (tn:Nat),.bool false,.int .i64 lo.k,.int .i64 lo.n,.string lo.s,.int .i64 hi.k,.int .i64 hi.n,.string hi.s],.int .i64 (used:Nat),.nilIface]) ?_ rfl ⟨PkRet.good HR.out,?_⟩
    focus (refine results_row_tmp2 Tryz.results11 _ _ (w.heap.size + 1) 43 _ (0,0) _ rfl ?_ Tryz.underlying43 rfl (by kernel_rfl);with_reducible exact row_set9 RO.out rfl _ _ _ _ _ _ _ _ _)
    focus (with_reducible exact below_set9 Hbw.out _ (Nat.le_succ _) _ _ _ _ _ _ _ _ _)
   | true =>
    by_cases hk:lo.k = f.kind
    ·have HR:=Lib.hid (peekR_ok HRt.out Hb.out Hr.out (by rintro (h | ⟨_,h⟩);exact H0.out h;exact h hk))
     have hk':(lo.k != f.kind) = false:=by rw [hk];simp
     clear hk
     go_wp2_with fail
     refine bodyPost_ret (v:=.tuple #[.agg #[.int .i64 (te:Nat),.int .i64 (tn:Nat),.bool true,.int .i64 lo.k,.int .i64 lo.n,.string lo.s,.int .i64 hi.k,.int .i64 hi.n,.string hi.s],.int .i64 (used:Nat),.nilIface]) ?_ rfl ⟨PkRet.good HR.out,?_⟩
     focus (refine results_row_tmp2 Tryz.results11 _ _ (w.heap.size + 1) 43 _ (0,0) _ rfl ?_ Tryz.underlying43 rfl (by kernel_rfl);with_reducible exact row_set9 RO.out rfl _ _ _ _ _ _ _ _ _)
     focus (with_reducible exact below_set9 Hbw.out _ (Nat.le_succ _) _ _ _ _ _ _ _ _ _)
    ·have HR:=Lib.hid (peekR_b HRt.out Hb.out Hr.out (.inr ⟨rfl,hk⟩))
     have hk':(lo.k != f.kind) = true:=by simpa using hk
     clear hk
     go_upto_region 8 with fail
     have e1:w4.cell? ⟨1,0,none⟩ = some (.iface 211 (.pointer (some (adr 1)))):=(HE.out.below Hbw.out).cell 1 (by decide)
     have hnb:(1:Nat) ≠ w.heap.size + 1:=Nat.ne_of_lt (Nat.lt_succ_of_lt hg1)
     refine AnyE.region (S:=fun w'=>w'.cell? ⟨1,0,none⟩ = some (.iface 211 (.pointer (some (adr 1))))) (E:=[]) (by kernel_rfl) ?_
     have hbd:=(Below.refl w4.heap.size w4).drew
     replace RO:=Lib.hid (row_keep hbd RO.out);replace Hbw:=Lib.hid (Hbw.out.trans (hbd.mono Hbw.out.size))
     have hS:w4.drew.cell? ⟨1,0,none⟩ = some (.iface 211 (.pointer (some (adr 1)))):=e1
     clear hbd e1
     generalize w4.drew = wd at *
     have cO9:=rowc RO.out;have fO9:=rowf RO.out
     refine AnyE.take (i:=0) (v:=?_) rfl (by kernel_rfl) (by kernel_rfl) (by kernel_rfl) (by kernel_rfl) (by kernel_rfl) (fun _ _ _ h=>h) (Or.inl ⟨by rfl,?_⟩) hS ?_
     rotate_left
     focus (intro wq hSq;go_simp;with_reducible rfl)
     try simp only [Act.put,List.getElem_toArray,List.getElem_cons_succ,List.getElem_cons_zero,List.setIfInBounds_toArray,List.set_cons_zero,List.set_cons_succ]
     refine AnyE.take (i:=1) (v:=?_) rfl (by kernel_rfl) (by kernel_rfl) (by kernel_rfl) (by kernel_rfl) (by kernel_rfl) (fun _ _ _ h=>h) (Or.inl ⟨by rfl,?_⟩) hS ?_
     rotate_left
     focus (intro wq hSq;go_simp;with_reducible rfl)
     try simp only [Act.put,List.getElem_toArray,List.getElem_cons_succ,List.getElem_cons_zero,List.setIfInBounds_toArray,List.set_cons_zero,List.set_cons_succ]
     refine AnyE.one (i:=2) (by kernel_rfl) rfl rfl ?_
     intro K hK
     simp only [List.getElem_toArray,List.getElem_cons_succ,List.getElem_cons_zero]
     go_simp
     refine hK _ _ (fun _=>cell_set9 hnb hS _ _ _ _ _ _ _ _ _) ?_
     clear hK K
     try simp only [Act.put,List.getElem_toArray,List.getElem_cons_succ,List.getElem_cons_zero,List.setIfInBounds_toArray,List.set_cons_zero,List.set_cons_succ]
     refine AnyE.take (i:=3) (v:=?_) rfl (by kernel_rfl) (by kernel_rfl) (by kernel_rfl) (by kernel_rfl) (by kernel_rfl) (fun _ _ _ h=>h) (Or.inl ⟨by rfl,?_⟩) (cell_set9 hnb hS _ _ _ _ _ _ _ _ _) ?_
     rotate_left
     focus (intro wq hSq;go_simp;with_reducible rfl)
     try simp only [Act.put,List.getElem_toArray,List.getElem_cons_succ,List.getElem_cons_zero,List.setIfInBounds_toArray,List.set_cons_zero,List.set_cons_succ]
     refine AnyE.take (i:=4) (v:=?_) rfl (by kernel_rfl) (by kernel_rfl) (by kernel_rfl) (by kernel_rfl) (by kernel_rfl) (fun _ _ _ h=>h) (Or.inl ⟨by rfl,?_⟩) (cell_set9 hnb hS _ _ _ _ _ _ _ _ _) ?_
     rotate_left
     focus (intro wq hSq;go_simp;with_reducible rfl)
     try simp only [Act.put,List.getElem_toArray,List.getElem_cons_succ,List.getElem_cons_zero,List.setIfInBounds_toArray,List.set_cons_zero,List.set_cons_succ]
     refine AnyE.done (by kernel_rfl) ?_ _
     go_wp2_with fail
     refine bodyPost_ret (v:=.tuple #[(.agg #[.int .i64 0,.int .i64 0,.bool false,.int .i64 0,.int .i64 0,.string ⟨#[]⟩,.int .i64 0,.int .i64 0,.string ⟨#[]⟩]),.int .i64 0,(.iface 211 (.pointer (some (adr 1))))]) ?_ rfl ⟨PkRet.bad HR.out,?_⟩
     focus (refine results_row_tmp2 Tryz.results11 _ _ (w.heap.size + 1) 43 _ (0,0) _ rfl ?_ Tryz.underlying43 rfl (by kernel_rfl);with_reducible exact row_set9 RO.out rfl _ _ _ _ _ _ _ _ _)
     focus (with_reducible exact below_set9 Hbw.out _ (Nat.le_succ _) _ _ _ _ _ _ _ _ _)
end Go.Proofs.YtapiabmmfmfaeaaGreatDoor
