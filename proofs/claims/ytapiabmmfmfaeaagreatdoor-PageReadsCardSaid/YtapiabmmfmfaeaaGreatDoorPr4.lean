/- The walk of page.Read. -/
import Derived.Test.YtapiabmmfmfaeaaGreatDoorPr2
import Derived.Test.YtapiabmmfmfaeaaGreatDoorMRw
import Derived.Test.YtapiabmmfmfaeaaGreatDoorRegE
import Derived.Test.YtapiabmmfmfaeaaGreatDoorMTz
import Derived.Deep.RegionHeld3
import Derived.Deep.DeepCutAuto
namespace Go.Proofs.YtapiabmmfmfaeaaGreatDoor
set_option maxHeartbeats 16000000
set_option linter.unusedVariables false
set_option linter.unusedSimpArgs false
open Go Go.RowKit Go.ChangeShapes
def zcolV:Value:=.agg #[.int .i64 0,.slice none 0 0,.slice none 0 0,.slice none 0 0]
def PgRet (adr:Nat → Addr) (r:Nat ⊕ (Col × Nat)) (e:Ending) (w':World):Prop:=match r with
 | .inl k=>e = .returned (.tuple #[zcolV,.int .i64 0,.iface 211 (.pointer (some (adr k)))])
 | .inr x=>∃ u,e = .returned (.tuple #[u,.int .i64 (x.2:Nat),.nilIface]) ∧ IsCol w' u x.1
theorem PgRet.bad {adr:Nat → Addr} {r:Nat ⊕ (Col × Nat)} {k:Nat} {w':World} (h:r = .inl k):PgRet adr r (.returned (.tuple #[zcolV,.int .i64 0,.iface 211 (.pointer (some (adr k)))])) w':=by rw [h];exact rfl
theorem PgRet.good {adr:Nat → Addr} {r:Nat ⊕ (Col × Nat)} {c:Col} {n:Nat} {u:Value} {w':World} (h:r = .inr (c,n)) (hu:IsCol w' u c):PgRet adr r (.returned (.tuple #[u,.int .i64 (n:Nat),.nilIface])) w':=by rw [h];exact ⟨u,rfl,hu⟩
def BtRet (adr:Nat → Addr) (B:Nat) (r:Option (List Val)) (e:Ending) (w':World):Prop:=match r with
 | none=>∃ k:Nat,e = .returned (.tuple #[.slice none 0 0,.iface 211 (.pointer (some (adr k)))])
 | some l=>∃ u,e = .returned (.tuple #[u,.nilIface]) ∧ w'.ownsRow B 41 3 u l.length (l.flatMap valCells)
theorem BtRet.of_rd {adr:Nat → Addr} {B k:Nat} {r:Option (List Val)} {e:Ending} {w':World} (h:RdRet (.iface 211 (.pointer (some (adr k)))) B r e w'):BtRet adr B r e w':=by
 cases r with
 | none=>exact ⟨k,h⟩
 | some l=>exact h
theorem readBest_all (kind code:Int) (s:ByteArray) (n:Nat) (w:World) (adr:Nat → Addr) (hE:ErrsAt w adr [1,2,3,4]) (h1:1 ≤ kind) (h5:kind ≤ 5) (hn:n ≤ 20000) (hs:s.size ≤ 200000) :
  Calls Tryz.prog 20 #[.int .i64 kind,.int .i64 code,.string s,.int .i64 (n:Nat)] w fun e w'=>BtRet adr w.heap.size (bestR kind code s.data.toList n) e w' ∧ Below w.heap.size w w':=by
 have e1:=hE.cell 1 (by decide)
 have e3:=hE.cell 3 (by decide)
 by_cases c0:code = 0
 ·subst c0
  refine (readBest_0 kind s n _ _ w h1 h5 hn (readPlain_any kind s n _ _ w h1 h5 hn (by omega) e1)).mono fun e w' ⟨a,b⟩=>⟨?_,b⟩
  unfold bestR;rw [if_pos rfl];exact BtRet.of_rd a
 by_cases c1:code = 1
 ·subst c1
  refine (readBest_1 kind s n _ _ w h1 h5 hn (readDict_any kind s n _ _ w h1 h5 hn hs e1)).mono fun e w' ⟨a,b⟩=>⟨?_,b⟩
  unfold bestR;rw [if_neg (by decide),if_pos rfl];exact BtRet.of_rd a
 by_cases c2:code = 2 ∧ (kind = 2 ∨ kind = 3)
 ·obtain ⟨rfl,hk⟩:=c2
  refine (readBest_2 kind hk s n _ _ w hn (readDelta_any kind hk s n _ _ w adr (hE.sub (by decide)) hn hs e1)).mono fun e w' ⟨a,b⟩=>⟨?_,b⟩
  unfold bestR;rw [if_neg (by decide),if_neg (by decide),if_pos ⟨rfl,hk⟩];exact BtRet.of_rd a
 by_cases c3:code = 3 ∧ kind = 4
 ·obtain ⟨rfl,rfl⟩:=c3
  refine (readBest_3 s n _ _ w hn hs e1).mono fun e w' ⟨a,b⟩=>⟨?_,b⟩
  unfold bestR;rw [if_neg (by decide),if_neg (by decide),if_neg (by decide),if_pos ⟨rfl,rfl⟩];exact BtRet.of_rd a
 ·refine (readBest_shape kind code s n _ w h1 h5 hn e3 c0 c1 c2 c3).mono fun e w' ⟨a,b⟩=>⟨?_,b⟩
  unfold bestR;rw [if_neg c0,if_neg c1,if_neg c2,if_neg c3];exact ⟨3,a⟩
theorem err_iface {w:World} {adr:Nat → Addr} {e:GErr} {u:Value} (h:IsErr w adr e u) (hn:e.isNil = false):∃ T p,u = .iface T p:=by
 cases e with
 | nil=>cases hn
 | sent k=>exact ⟨_,_,h.2.2⟩
 | fault k p=>obtain ⟨-,-,b,h,-⟩:=h;exact ⟨_,_,h⟩
theorem statsRead_none (s:ByteArray) (hs:s.size ≤ 1000000) (w:World) (adr:Nat → Addr) (hE:ErrsAt w adr [1,2,4]) (h:readPr s.data.toList = none) :
  Calls Tryz.prog 17 #[.string s] w fun e w'=>e = .returned (.tuple #[.agg #[.int .i64 0,.int .i64 0,.bool false,.int .i64 0,.int .i64 0,.string ⟨#[]⟩,.int .i64 0,.int .i64 0,.string ⟨#[]⟩],.int .i64 0,.iface 211 (.pointer (some (adr 1)))]) ∧ Below w.heap.size w w' :=
 (read_any s hs w adr hE).mono fun e w' ⟨a,b⟩=>⟨by rw [a,h];rfl,b⟩
theorem statsRead_some (s:ByteArray) (hs:s.size ≤ 1000000) (w:World) (adr:Nat → Addr) (hE:ErrsAt w adr [1,2,4]) {te tn k:Nat} {th:Bool} {lo hi:Val} (h:readPr s.data.toList = some (⟨(te:Nat),(tn:Nat),th,lo,hi⟩,k)) :
  Calls Tryz.prog 17 #[.string s] w fun e w'=>e = .returned (.tuple #[.agg #[.int .i64 (te:Nat),.int .i64 (tn:Nat),.bool th,.int .i64 lo.k,.int .i64 lo.n,.string lo.s,.int .i64 hi.k,.int .i64 hi.n,.string hi.s],.int .i64 (k:Nat),.nilIface]) ∧ Below w.heap.size w w' :=
 (read_any s hs w adr hE).mono fun e w' ⟨a,b⟩=>⟨by rw [a,h];rfl,b⟩
set_option maxRecDepth 100000 in
theorem read_page (f:Lf) (vf:Value) (s:ByteArray) (hs:s.size ≤ 1000000) (w:World) (adr:Nat → Addr) (hE:ErrsAt w adr [1,2,3,4,7]) (hf:IsLf w vf f) (fo:f.Ok) :
  Calls Tryz.prog 6 #[vf,.string s] w fun e w'=>PgRet adr (pageR f s.data.toList) e w' ∧ Below w.heap.size w w':=by
 obtain ⟨p,rfl,hp⟩:=hf
 have hg1:gErr 1 < w.heap.size:=block_lt_of_cell (hE.cell 1 (by decide))
 have hg3:gErr 3 < w.heap.size:=block_lt_of_cell (hE.cell 3 (by decide))
 unfold gErr at hg1 hg3
 have HE:=Lib.hid hE;have Hp:=Lib.hid hp;have Fo:=Lib.hid fo
 clear hE hp fo
 unfold lfA
 by_cases hrt:rightB f = true
 case neg =>
  have hrf:rightB f = false:=by simpa using hrt
  have HR:=Lib.hid (pageR_3 (L:=s.data.toList) hrf)
  have HC:=Lib.hid (fun w1=>right_no f p w1 hrf)
  clear hrt hrf
  go_enter Tryz.func6,Tryz.ntmps6
  go_upto_region 1 with fail
  obtain ⟨rL,rO,hbw,hz⟩:=rows2 (w:=w) (A:=.cells #[.int .i64 f.id,.int .i64 f.kind,.int .i64 f.mr,.int .i64 f.md,p] 34) (B:=.cells #[.int .i64 0,.slice none 0 0,.slice none 0 0,.slice none 0 0] 29) (Below.refl _ _)
  have RL:=Lib.hid rL;have RO:=Lib.hid rO;have Hbw:=Lib.hid hbw
  clear rL rO hbw hz
  generalize ((w.alloc (.cells #[.int .i64 f.id,.int .i64 f.kind,.int .i64 f.mr,.int .i64 f.md,p] 34)).alloc (.cells #[.int .i64 0,.slice none 0 0,.slice none 0 0,.slice none 0 0] 29)) = w0 at *
  have cL:=rowc RL.out;have fL:=rowf RL.out;have cO:=rowc RO.out;have fO:=rowf RO.out
  go_wp2_with fail
  refine (HC.out _).mono ?_;rintro e9 w1 ⟨rfl,hb9⟩
  clear cL fL cO fO
  replace RL:=Lib.hid (row_keep hb9 RL.out);replace RO:=Lib.hid (row_keep hb9 RO.out);replace Hbw:=Lib.hid (Hbw.out.trans (hb9.mono Hbw.out.size))
  clear hb9
  have cL:=rowc RL.out;have fL:=rowf RL.out;have cO:=rowc RO.out;have fO:=rowf RO.out
  go_upto_region 2 with fail
  have e1:w1.cell? ⟨0,0,none⟩ = some (.iface 211 (.pointer (some (adr 3)))):=(HE.out.below Hbw.out).cell 3 (by decide)
  have hnb:(0:Nat) ≠ w.heap.size + 1:=Nat.ne_of_lt (Nat.lt_succ_of_lt hg3)
  refine AnyE.region (S:=fun w'=>w'.cell? ⟨0,0,none⟩ = some (.iface 211 (.pointer (some (adr 3))))) (E:=[]) (by kernel_rfl) ?_
  have hbd:=(Below.refl w1.heap.size w1).drew
  replace RO:=Lib.hid (row_keep hbd RO.out);replace Hbw:=Lib.hid (Hbw.out.trans (hbd.mono Hbw.out.size))
  have hS:w1.drew.cell? ⟨0,0,none⟩ = some (.iface 211 (.pointer (some (adr 3)))):=e1
  clear hbd e1
  generalize w1.drew = wd at *
  have cO9:=rowc RO.out;have fO9:=rowf RO.out
  refine AnyE.take (i:=0) (v:=?_) rfl (by kernel_rfl) (by kernel_rfl) (by kernel_rfl) (by kernel_rfl) (by kernel_rfl) (fun _ _ _ h=>h) (Or.inl ⟨by rfl,?_⟩) hS ?_
  rotate_left
  focus (intro wq hSq;go_simp;with_reducible rfl)
  try simp only [Act.put,List.getElem_toArray,List.getElem_cons_succ,List.getElem_cons_zero,List.setIfInBounds_toArray,List.set_cons_zero,List.set_cons_succ]
  refine AnyE.take (i:=1) (v:=?_) rfl (by kernel_rfl) (by kernel_rfl) (by kernel_rfl) (by kernel_rfl) (by kernel_rfl) (fun _ _ _ h=>h) (Or.inl ⟨by rfl,?_⟩) hS ?_
  rotate_left
  focus (intro wq hSq;go_simp;with_reducible rfl)
  try simp only [Act.put,List.getElem_toArray,List.getElem_cons_succ,List.getElem_cons_zero,List.setIfInBounds_toArray,List.set_cons_zero,List.set_cons_succ]
  refine AnyE.one (i:=2) (by kernel_rfl) rfl rfl ?_
  intro K hK
  simp only [List.getElem_toArray,List.getElem_cons_succ,List.getElem_cons_zero]
  go_simp
  refine hK _ _ (fun _=>cell_set4 hnb hS _ _ _ _) ?_
  clear hK K
  try simp only [Act.put,List.getElem_toArray,List.getElem_cons_succ,List.getElem_cons_zero,List.setIfInBounds_toArray,List.set_cons_zero,List.set_cons_succ]
  refine AnyE.take (i:=3) (v:=?_) rfl (by kernel_rfl) (by kernel_rfl) (by kernel_rfl) (by kernel_rfl) (by kernel_rfl) (fun _ _ _ h=>h) (Or.inl ⟨by rfl,?_⟩) (cell_set4 hnb hS _ _ _ _) ?_
  rotate_left
  focus (intro wq hSq;go_simp;with_reducible rfl)
  try simp only [Act.put,List.getElem_toArray,List.getElem_cons_succ,List.getElem_cons_zero,List.setIfInBounds_toArray,List.set_cons_zero,List.set_cons_succ]
  refine AnyE.take (i:=4) (v:=?_) rfl (by kernel_rfl) (by kernel_rfl) (by kernel_rfl) (by kernel_rfl) (by kernel_rfl) (fun _ _ _ h=>h) (Or.inl ⟨by rfl,?_⟩) (cell_set4 hnb hS _ _ _ _) ?_
  rotate_left
  focus (intro wq hSq;go_simp;with_reducible rfl)
  try simp only [Act.put,List.getElem_toArray,List.getElem_cons_succ,List.getElem_cons_zero,List.setIfInBounds_toArray,List.set_cons_zero,List.set_cons_succ]
  refine AnyE.done (by kernel_rfl) ?_ _
  go_wp2_with fail
  refine bodyPost_ret (v:=.tuple #[(.agg #[.int .i64 0,.slice none 0 0,.slice none 0 0,.slice none 0 0]),.int .i64 0,(.iface 211 (.pointer (some (adr 3))))]) ?_ rfl ⟨PgRet.bad HR.out,?_⟩
  focus (refine res_cell2 Tryz.results6 _ _ (w.heap.size + 1) 29 _ (0,0) _ _ _ ?_ ?_ ?_ ?_ Tryz.underlying29 rfl (by kernel_rfl);(focus (simp only [Array.getD_eq_getD_getElem?,List.getElem?_toArray,List.getElem?_cons_succ,List.getElem?_cons_zero,Option.getD_some]));(focus (simp only [Array.getD_eq_getD_getElem?,List.getElem?_toArray,List.getElem?_cons_succ,List.getElem?_cons_zero,Option.getD_some]));(focus (simp only [Array.getD_eq_getD_getElem?,List.getElem?_toArray,List.getElem?_cons_succ,List.getElem?_cons_zero,Option.getD_some]));with_reducible exact row_set4 RO.out rfl _ _ _ _)
  focus (with_reducible exact below_set4 Hbw.out _ (Nat.le_succ _) _ _ _ _)
 have HRt:=Lib.hid hrt
 have hrp:1 ≤ f.kind ∧ f.kind ≤ 5 ∧ 0 ≤ f.mr ∧ f.mr ≤ 40 ∧ 0 ≤ f.md ∧ f.md ≤ 40:=by unfold rightB at hrt;simpa using hrt
 have HRp:=Lib.hid hrp
 have HC:=Lib.hid (fun w1=>right_yes f p w1 hrt)
 have HB:=Lib.hid (fun w1 (h:Below w.heap.size w w1)=>body_any s hs w1 adr ((HE.out.sub (by decide)).below h))
 clear hrt hrp
 go_enter Tryz.func6,Tryz.ntmps6
 go_upto_region 1 with fail
 obtain ⟨rL,rO,hbw,hz⟩:=rows2 (w:=w) (A:=.cells #[.int .i64 f.id,.int .i64 f.kind,.int .i64 f.mr,.int .i64 f.md,p] 34) (B:=.cells #[.int .i64 0,.slice none 0 0,.slice none 0 0,.slice none 0 0] 29) (Below.refl _ _)
 have RL:=Lib.hid rL;have RO:=Lib.hid rO;have Hbw:=Lib.hid hbw
 clear rL rO hbw hz
 generalize ((w.alloc (.cells #[.int .i64 f.id,.int .i64 f.kind,.int .i64 f.mr,.int .i64 f.md,p] 34)).alloc (.cells #[.int .i64 0,.slice none 0 0,.slice none 0 0,.slice none 0 0] 29)) = w0 at *
 have cL:=rowc RL.out;have fL:=rowf RL.out;have cO:=rowc RO.out;have fO:=rowf RO.out
 go_wp2_with fail
 refine (HC.out _).mono ?_;rintro e9 w1 ⟨rfl,hb9⟩
 clear cL fL cO fO
 replace RL:=Lib.hid (row_keep hb9 RL.out);replace RO:=Lib.hid (row_keep hb9 RO.out);replace Hbw:=Lib.hid (Hbw.out.trans (hb9.mono Hbw.out.size))
 clear hb9
 have cL:=rowc RL.out;have fL:=rowf RL.out;have cO:=rowc RO.out;have fO:=rowf RO.out
 cases hb:bodyR s.data.toList with
 | text =>
  have HR:=Lib.hid (pageR_t HRt.out hb)
  have HB:=Lib.hid (fun w1 (h:Below w.heap.size w w1)=>body_text s hs w1 adr ((HE.out.sub (by decide)).below h) hb)
  clear hb
  go_wp2_with fail
  refine (HB.out _ Hbw.out).mono ?_;rintro e9 w2 ⟨rfl,hb9⟩
  clear cL fL cO fO
  replace RL:=Lib.hid (row_keep hb9 RL.out);replace RO:=Lib.hid (row_keep hb9 RO.out);replace Hbw:=Lib.hid (Hbw.out.trans (hb9.mono Hbw.out.size))
  clear hb9
  have cL:=rowc RL.out;have fL:=rowf RL.out;have cO:=rowc RO.out;have fO:=rowf RO.out
  all_goals go_wp2_with fail
  all_goals refine bodyPost_ret (v:=.tuple #[(.agg #[.int .i64 0,.slice none 0 0,.slice none 0 0,.slice none 0 0]),.int .i64 0,(.iface 211 (.pointer (some (adr 1))))]) ?_ rfl ⟨PgRet.bad HR.out,?_⟩
  all_goals first
   | (refine results_row_tmp2 Tryz.results6 _ _ (w.heap.size + 1) 29 _ (0,0) _ rfl ?_ Tryz.underlying29 rfl (by kernel_rfl);first | (with_reducible exact row_set4 RO.out rfl _ _ _ _) | (with_reducible exact row_set4 ROd.out rfl _ _ _ _) | (with_reducible exact row_set4d RO.out rfl _ _ _ _))
   | (with_reducible exact below_set4 Hbw.out _ (Nat.le_succ _) _ _ _ _)
   | (with_reducible exact (below_set4 Hbw.out _ (Nat.le_succ _) _ _ _ _).drew)
   | (with_reducible exact (below_set4 Hbw.out.drew _ (Nat.le_succ _) _ _ _ _))
 | sum =>
  have HR:=Lib.hid (pageR_s HRt.out hb)
  have HB:=Lib.hid (fun w1 (h:Below w.heap.size w w1)=>body_sum s hs w1 adr ((HE.out.sub (by decide)).below h) hb)
  clear hb
  go_wp2_with fail
  refine (HB.out _ Hbw.out).mono ?_;rintro e9 w2 ⟨rfl,hb9⟩
  clear cL fL cO fO
  replace RL:=Lib.hid (row_keep hb9 RL.out);replace RO:=Lib.hid (row_keep hb9 RO.out);replace Hbw:=Lib.hid (Hbw.out.trans (hb9.mono Hbw.out.size))
  clear hb9
  have cL:=rowc RL.out;have fL:=rowf RL.out;have cO:=rowc RO.out;have fO:=rowf RO.out
  all_goals go_wp2_with fail
  all_goals refine bodyPost_ret (v:=.tuple #[(.agg #[.int .i64 0,.slice none 0 0,.slice none 0 0,.slice none 0 0]),.int .i64 0,(.iface 211 (.pointer (some (adr 7))))]) ?_ rfl ⟨PgRet.bad HR.out,?_⟩
  all_goals first
   | (refine results_row_tmp2 Tryz.results6 _ _ (w.heap.size + 1) 29 _ (0,0) _ rfl ?_ Tryz.underlying29 rfl (by kernel_rfl);first | (with_reducible exact row_set4 RO.out rfl _ _ _ _) | (with_reducible exact row_set4 ROd.out rfl _ _ _ _) | (with_reducible exact row_set4d RO.out rfl _ _ _ _))
   | (with_reducible exact below_set4 Hbw.out _ (Nat.le_succ _) _ _ _ _)
   | (with_reducible exact (below_set4 Hbw.out _ (Nat.le_succ _) _ _ _ _).drew)
   | (with_reducible exact (below_set4 Hbw.out.drew _ (Nat.le_succ _) _ _ _ _))
 | ok b used =>
  obtain ⟨sb,hsb⟩:∃ sb:ByteArray,sb.data.toList = b:=⟨⟨b.toArray⟩,by simp⟩
  obtain ⟨hb2,hused,-⟩:=bodyR_len hb
  rw [ba_len] at hused
  have hsbz:sb.size ≤ 200000:=by rw [← ba_len sb,hsb];exact hb2
  have Hsb:=Lib.hid hsb;have Hb:=Lib.hid hb
  have HB:=Lib.hid (fun w1 (h:Below w.heap.size w w1)=>body_ok s hs w1 adr ((HE.out.sub (by decide)).below h) hb sb hsb)
  clear hb hsb hb2
  go_wp2_with fail
  refine (HB.out _ Hbw.out).mono ?_;rintro e9 w2 ⟨rfl,hb9⟩
  clear cL fL cO fO
  replace RL:=Lib.hid (row_keep hb9 RL.out);replace RO:=Lib.hid (row_keep hb9 RO.out);replace Hbw:=Lib.hid (Hbw.out.trans (hb9.mono Hbw.out.size))
  clear hb9
  have cL:=rowc RL.out;have fL:=rowf RL.out;have cO:=rowc RO.out;have fO:=rowf RO.out
  cases hr:readPr b with
  | none =>
   have HR:=Lib.hid (pageR_n HRt.out Hb.out (colR_1 hr))
   have HS:=Lib.hid (fun w1 (h:Below w.heap.size w w1)=>statsRead_none sb (by omega) w1 adr ((HE.out.sub (by decide)).below h) (by rw [Hsb.out];exact hr))
   clear hr
   go_wp2_with fail
   refine (HS.out _ Hbw.out).mono ?_;rintro e9 w3 ⟨rfl,hb9⟩
   clear cL fL cO fO
   replace RL:=Lib.hid (row_keep hb9 RL.out);replace RO:=Lib.hid (row_keep hb9 RO.out);replace Hbw:=Lib.hid (Hbw.out.trans (hb9.mono Hbw.out.size))
   clear hb9
   have cL:=rowc RL.out;have fL:=rowf RL.out;have cO:=rowc RO.out;have fO:=rowf RO.out
   have hwz:w.heap.size + 2 ≤ w3.heap.size:=row_lt RO.out
   go_upto_region 7 with fail
   have hb9:=(Below.refl w3.heap.size w3).alloc (Nat.le_refl _) (.cells #[.int .i64 0,.int .i64 0,.bool false,.int .i64 0,.int .i64 0,.string ⟨#[]⟩,.int .i64 0,.int .i64 0,.string ⟨#[]⟩] 43)
   clear cL fL cO fO
   replace RL:=Lib.hid (row_keep hb9 RL.out);replace RO:=Lib.hid (row_keep hb9 RO.out);replace Hbw:=Lib.hid (Hbw.out.trans (hb9.mono Hbw.out.size))
   have RT:=Lib.hid (heap_alloc_new w3 (.cells #[.int .i64 0,.int .i64 0,.bool false,.int .i64 0,.int .i64 0,.string ⟨#[]⟩,.int .i64 0,.int .i64 0,.string ⟨#[]⟩] 43))
   have hgT:w.heap.size + 1 < w3.heap.size:=Nat.lt_of_lt_of_le (Nat.lt_of_lt_of_le (by omega) hwz) (Nat.le_refl _)
   clear hb9
   generalize w3.alloc (.cells #[.int .i64 0,.int .i64 0,.bool false,.int .i64 0,.int .i64 0,.string ⟨#[]⟩,.int .i64 0,.int .i64 0,.string ⟨#[]⟩] 43) = w4 at *
   generalize w3.heap.size = gT at *
   have cL:=rowc RL.out;have fL:=rowf RL.out;have cO:=rowc RO.out;have fO:=rowf RO.out;have cT:=rowc RT.out;have fT:=rowf RT.out
   go_upto_region 8 with fail
   have e1:w4.cell? ⟨1,0,none⟩ = some (.iface 211 (.pointer (some (adr 1)))):=(HE.out.below Hbw.out).cell 1 (by decide)
   have hnb:(1:Nat) ≠ w.heap.size + 1:=Nat.ne_of_lt (Nat.lt_succ_of_lt hg1)
   refine AnyE.region (S:=fun w'=>w'.cell? ⟨1,0,none⟩ = some (.iface 211 (.pointer (some (adr 1))))) (E:=[]) (by kernel_rfl) ?_
   have hbd:=(Below.refl w4.heap.size w4).drew
   replace RO:=Lib.hid (row_keep hbd RO.out);replace Hbw:=Lib.hid (Hbw.out.trans (hbd.mono Hbw.out.size))
   have hS:w4.drew.cell? ⟨1,0,none⟩ = some (.iface 211 (.pointer (some (adr 1)))):=e1
   clear hbd e1
   generalize w4.drew = wd at *
   have cO9:=rowc RO.out;have fO9:=rowf RO.out
   refine AnyE.take (i:=0) (v:=?_) rfl (by kernel_rfl) (by kernel_rfl) (by kernel_rfl) (by kernel_rfl) (by kernel_rfl) (fun _ _ _ h=>h) (Or.inl ⟨by rfl,?_⟩) hS ?_
   rotate_left
   focus (intro wq hSq;go_simp;with_reducible rfl)
   try simp only [Act.put,List.getElem_toArray,List.getElem_cons_succ,List.getElem_cons_zero,List.setIfInBounds_toArray,List.set_cons_zero,List.set_cons_succ]
   refine AnyE.take (i:=1) (v:=?_) rfl (by kernel_rfl) (by kernel_rfl) (by kernel_rfl) (by kernel_rfl) (by kernel_rfl) (fun _ _ _ h=>h) (Or.inl ⟨by rfl,?_⟩) hS ?_
   rotate_left
   focus (intro wq hSq;go_simp;with_reducible rfl)
   try simp only [Act.put,List.getElem_toArray,List.getElem_cons_succ,List.getElem_cons_zero,List.setIfInBounds_toArray,List.set_cons_zero,List.set_cons_succ]
   refine AnyE.one (i:=2) (by kernel_rfl) rfl rfl ?_
   intro K hK
   simp only [List.getElem_toArray,List.getElem_cons_succ,List.getElem_cons_zero]
   go_simp
   refine hK _ _ (fun _=>cell_set4 hnb hS _ _ _ _) ?_
   clear hK K
   try simp only [Act.put,List.getElem_toArray,List.getElem_cons_succ,List.getElem_cons_zero,List.setIfInBounds_toArray,List.set_cons_zero,List.set_cons_succ]
   refine AnyE.take (i:=3) (v:=?_) rfl (by kernel_rfl) (by kernel_rfl) (by kernel_rfl) (by kernel_rfl) (by kernel_rfl) (fun _ _ _ h=>h) (Or.inl ⟨by rfl,?_⟩) (cell_set4 hnb hS _ _ _ _) ?_
   rotate_left
   focus (intro wq hSq;go_simp;with_reducible rfl)
   try simp only [Act.put,List.getElem_toArray,List.getElem_cons_succ,List.getElem_cons_zero,List.setIfInBounds_toArray,List.set_cons_zero,List.set_cons_succ]
   refine AnyE.take (i:=4) (v:=?_) rfl (by kernel_rfl) (by kernel_rfl) (by kernel_rfl) (by kernel_rfl) (by kernel_rfl) (fun _ _ _ h=>h) (Or.inl ⟨by rfl,?_⟩) (cell_set4 hnb hS _ _ _ _) ?_
   rotate_left
   focus (intro wq hSq;go_simp;with_reducible rfl)
   try simp only [Act.put,List.getElem_toArray,List.getElem_cons_succ,List.getElem_cons_zero,List.setIfInBounds_toArray,List.set_cons_zero,List.set_cons_succ]
   refine AnyE.done (by kernel_rfl) ?_ _
   go_wp2_with fail
   refine bodyPost_ret (v:=.tuple #[(.agg #[.int .i64 0,.slice none 0 0,.slice none 0 0,.slice none 0 0]),.int .i64 0,(.iface 211 (.pointer (some (adr 1))))]) ?_ rfl ⟨PgRet.bad HR.out,?_⟩
   focus (refine res_cell2 Tryz.results6 _ _ (w.heap.size + 1) 29 _ (0,0) _ _ _ ?_ ?_ ?_ ?_ Tryz.underlying29 rfl (by kernel_rfl);(focus (simp only [Array.getD_eq_getD_getElem?,List.getElem?_toArray,List.getElem?_cons_succ,List.getElem?_cons_zero,Option.getD_some]));(focus (simp only [Array.getD_eq_getD_getElem?,List.getElem?_toArray,List.getElem?_cons_succ,List.getElem?_cons_zero,Option.getD_some]));(focus (simp only [Array.getD_eq_getD_getElem?,List.getElem?_toArray,List.getElem?_cons_succ,List.getElem?_cons_zero,Option.getD_some]));with_reducible exact row_set4 RO.out rfl _ _ _ _)
   focus (with_reducible exact below_set4 Hbw.out _ (Nat.le_succ _) _ _ _ _)
  | some y =>
   obtain ⟨t,k⟩:=y
   obtain ⟨te,tn,e1,e2,hne,he2,hkb,hk0,hlo,hhi⟩:=readPr_ok hr
   obtain ⟨te',tn',th,lo,hi⟩:=t
   simp only at e1 e2 hlo hhi
   subst e1 e2
   have HS:=Lib.hid (fun w1 (h:Below w.heap.size w w1)=>statsRead_some sb (by omega) w1 adr ((HE.out.sub (by decide)).below h) (by rw [Hsb.out];exact hr))
   have Hr:=Lib.hid hr
   rw [← Hsb.out,ba_len] at hkb
   clear hr
   go_wp2_with fail
   refine (HS.out _ Hbw.out).mono ?_;rintro e9 w3 ⟨rfl,hb9⟩
   clear cL fL cO fO
   replace RL:=Lib.hid (row_keep hb9 RL.out);replace RO:=Lib.hid (row_keep hb9 RO.out);replace Hbw:=Lib.hid (Hbw.out.trans (hb9.mono Hbw.out.size))
   clear hb9
   have cL:=rowc RL.out;have fL:=rowf RL.out;have cO:=rowc RO.out;have fO:=rowf RO.out
   have hwz:w.heap.size + 2 ≤ w3.heap.size:=row_lt RO.out
   go_upto_region 7 with fail
   have hb9:=(Below.refl w3.heap.size w3).alloc (Nat.le_refl _) (.cells #[.int .i64 (te:Nat),.int .i64 (tn:Nat),.bool th,.int .i64 lo.k,.int .i64 lo.n,.string lo.s,.int .i64 hi.k,.int .i64 hi.n,.string hi.s] 43)
   clear cL fL cO fO
   replace RL:=Lib.hid (row_keep hb9 RL.out);replace RO:=Lib.hid (row_keep hb9 RO.out);replace Hbw:=Lib.hid (Hbw.out.trans (hb9.mono Hbw.out.size))
   have RT:=Lib.hid (heap_alloc_new w3 (.cells #[.int .i64 (te:Nat),.int .i64 (tn:Nat),.bool th,.int .i64 lo.k,.int .i64 lo.n,.string lo.s,.int .i64 hi.k,.int .i64 hi.n,.string hi.s] 43))
   have hgT:w.heap.size + 1 < w3.heap.size:=Nat.lt_of_lt_of_le (Nat.lt_of_lt_of_le (by omega) hwz) (Nat.le_refl _)
   clear hb9
   generalize w3.alloc (.cells #[.int .i64 (te:Nat),.int .i64 (tn:Nat),.bool th,.int .i64 lo.k,.int .i64 lo.n,.string lo.s,.int .i64 hi.k,.int .i64 hi.n,.string hi.s] 43) = w4 at *
   generalize w3.heap.size = gT at *
   have cL:=rowc RL.out;have fL:=rowf RL.out;have cO:=rowc RO.out;have fO:=rowf RO.out;have cT:=rowc RT.out;have fT:=rowf RT.out
   by_cases h0:te = 0
   ·have HR:=Lib.hid (pageR_n HRt.out Hb.out (colR_2 Hr.out (show ((te:Nat):Int) = 0 by omega)))
    have h0':(((te:Nat):Int) == 0) = true:=by rw [beq_iff_eq];omega
    clear h0
    go_upto_region 8 with fail
    have e1:w4.cell? ⟨1,0,none⟩ = some (.iface 211 (.pointer (some (adr 1)))):=(HE.out.below Hbw.out).cell 1 (by decide)
    have hnb:(1:Nat) ≠ w.heap.size + 1:=Nat.ne_of_lt (Nat.lt_succ_of_lt hg1)
    refine AnyE.region (S:=fun w'=>w'.cell? ⟨1,0,none⟩ = some (.iface 211 (.pointer (some (adr 1))))) (E:=[]) (by kernel_rfl) ?_
    have hbd:=(Below.refl w4.heap.size w4).drew
    replace RO:=Lib.hid (row_keep hbd RO.out);replace Hbw:=Lib.hid (Hbw.out.trans (hbd.mono Hbw.out.size))
    have hS:w4.drew.cell? ⟨1,0,none⟩ = some (.iface 211 (.pointer (some (adr 1)))):=e1
    clear hbd e1
    generalize w4.drew = wd at *
    have cO9:=rowc RO.out;have fO9:=rowf RO.out
    refine AnyE.take (i:=0) (v:=?_) rfl (by kernel_rfl) (by kernel_rfl) (by kernel_rfl) (by kernel_rfl) (by kernel_rfl) (fun _ _ _ h=>h) (Or.inl ⟨by rfl,?_⟩) hS ?_
    rotate_left
    focus (intro wq hSq;go_simp;with_reducible rfl)
    try simp only [Act.put,List.getElem_toArray,List.getElem_cons_succ,List.getElem_cons_zero,List.setIfInBounds_toArray,List.set_cons_zero,List.set_cons_succ]
    refine AnyE.take (i:=1) (v:=?_) rfl (by kernel_rfl) (by kernel_rfl) (by kernel_rfl) (by kernel_rfl) (by kernel_rfl) (fun _ _ _ h=>h) (Or.inl ⟨by rfl,?_⟩) hS ?_
    rotate_left
    focus (intro wq hSq;go_simp;with_reducible rfl)
    try simp only [Act.put,List.getElem_toArray,List.getElem_cons_succ,List.getElem_cons_zero,List.setIfInBounds_toArray,List.set_cons_zero,List.set_cons_succ]
    refine AnyE.one (i:=2) (by kernel_rfl) rfl rfl ?_
    intro K hK
    simp only [List.getElem_toArray,List.getElem_cons_succ,List.getElem_cons_zero]
    go_simp
    refine hK _ _ (fun _=>cell_set4 hnb hS _ _ _ _) ?_
    clear hK K
    try simp only [Act.put,List.getElem_toArray,List.getElem_cons_succ,List.getElem_cons_zero,List.setIfInBounds_toArray,List.set_cons_zero,List.set_cons_succ]
    refine AnyE.take (i:=3) (v:=?_) rfl (by kernel_rfl) (by kernel_rfl) (by kernel_rfl) (by kernel_rfl) (by kernel_rfl) (fun _ _ _ h=>h) (Or.inl ⟨by rfl,?_⟩) (cell_set4 hnb hS _ _ _ _) ?_
    rotate_left
    focus (intro wq hSq;go_simp;with_reducible rfl)
    try simp only [Act.put,List.getElem_toArray,List.getElem_cons_succ,List.getElem_cons_zero,List.setIfInBounds_toArray,List.set_cons_zero,List.set_cons_succ]
    refine AnyE.take (i:=4) (v:=?_) rfl (by kernel_rfl) (by kernel_rfl) (by kernel_rfl) (by kernel_rfl) (by kernel_rfl) (fun _ _ _ h=>h) (Or.inl ⟨by rfl,?_⟩) (cell_set4 hnb hS _ _ _ _) ?_
    rotate_left
    focus (intro wq hSq;go_simp;with_reducible rfl)
    try simp only [Act.put,List.getElem_toArray,List.getElem_cons_succ,List.getElem_cons_zero,List.setIfInBounds_toArray,List.set_cons_zero,List.set_cons_succ]
    refine AnyE.done (by kernel_rfl) ?_ _
    go_wp2_with fail
    refine bodyPost_ret (v:=.tuple #[(.agg #[.int .i64 0,.slice none 0 0,.slice none 0 0,.slice none 0 0]),.int .i64 0,(.iface 211 (.pointer (some (adr 1))))]) ?_ rfl ⟨PgRet.bad HR.out,?_⟩
    focus (refine res_cell2 Tryz.results6 _ _ (w.heap.size + 1) 29 _ (0,0) _ _ _ ?_ ?_ ?_ ?_ Tryz.underlying29 rfl (by kernel_rfl);(focus (simp only [Array.getD_eq_getD_getElem?,List.getElem?_toArray,List.getElem?_cons_succ,List.getElem?_cons_zero,Option.getD_some]));(focus (simp only [Array.getD_eq_getD_getElem?,List.getElem?_toArray,List.getElem?_cons_succ,List.getElem?_cons_zero,Option.getD_some]));(focus (simp only [Array.getD_eq_getD_getElem?,List.getElem?_toArray,List.getElem?_cons_succ,List.getElem?_cons_zero,Option.getD_some]));with_reducible exact row_set4 RO.out rfl _ _ _ _)
    focus (with_reducible exact below_set4 Hbw.out _ (Nat.le_succ _) _ _ _ _)
   have h0':(((te:Nat):Int) == 0) = false:=by rw [beq_eq_false_iff_ne];omega
   have H0:=Lib.hid (show ¬ ((te:Nat):Int) = 0 by omega)
   clear h0
   go_upto_region 10 with fail
   obtain ⟨p1,p2,p3,p4⟩:=store_cell_row (j:=0) (v:=.int .i64 f.id) RO.out
   replace RL:=Lib.hid ((p2 _ (by omega)).trans RL.out);replace RT:=Lib.hid ((p2 _ (by omega)).trans RT.out);replace RO:=Lib.hid (p1.trans (show _ = some (.cells #[.int .i64 f.id,.slice none 0 0,.slice none 0 0,.slice none 0 0] 29 (0,0)) from rfl));replace Hbw:=Lib.hid (Hbw.out.trans (p3.mono (Nat.le_succ _)))
   clear p1 p2 p3 p4 cL fL cO fO cT fT
   generalize w4.setCell ⟨w.heap.size + 1,0,none⟩ (.int .i64 f.id) = w5 at *
   have cL:=rowc RL.out;have fL:=rowf RL.out;have cO:=rowc RO.out;have fO:=rowf RO.out;have cT:=rowc RT.out;have fT:=rowf RT.out
   have hkI:(k:Int) ≤ (sb.size:Int):=by omega
   go_upto_region 11 with fail
   have HX:=Lib.hid (show (sb.extract k sb.size).data.toList = b.drop k from by rw [bext_list,Hsb.out])
   have hz2:(sb.extract k sb.size).size ≤ 200000:=by rw [ByteArray.size_extract];omega
   generalize sb.extract k sb.size = s2 at *
   have HL1:=Lib.hid (fun w1 (h:Below w.heap.size w w1)=>levels_none s2 hz2 f.mr HRp.out.2.2.1 HRp.out.2.2.2.1 te he2 w1 adr ((HE.out.sub (by decide)).below h))
   have HL2:=Lib.hid (fun w1 (h:Below w.heap.size w w1) (l:List Nat) (k1:Nat)=>levels_some s2 hz2 f.mr HRp.out.2.2.1 HRp.out.2.2.2.1 te he2 w1 adr ((HE.out.sub (by decide)).below h) (l:=l) (k:=k1))
   have HM:=Lib.hid (fun w1 (h:Below w.heap.size w w1) (k1:Nat)=>levels_free (s2.extract k1 s2.size) (by rw [ByteArray.size_extract];omega) f.md HRp.out.2.2.2.2.1 HRp.out.2.2.2.2.2 te he2 w1 adr ((HE.out.sub (by decide)).below h))
   have HM1:=Lib.hid (fun w1 (h:Below w.heap.size w w1) (k1:Nat)=>levels_none (s2.extract k1 s2.size) (by rw [ByteArray.size_extract];omega) f.md HRp.out.2.2.2.2.1 HRp.out.2.2.2.2.2 te he2 w1 adr ((HE.out.sub (by decide)).below h))
   have HM2:=Lib.hid (fun w1 (h:Below w.heap.size w w1) (k1:Nat) (l:List Nat) (k2:Nat)=>levels_some (s2.extract k1 s2.size) (by rw [ByteArray.size_extract];omega) f.md HRp.out.2.2.2.2.1 HRp.out.2.2.2.2.2 te he2 w1 adr ((HE.out.sub (by decide)).below h) (l:=l) (k:=k2))
   cases hl1:levR f.mr te (b.drop k) with
   | none =>
    have HR:=Lib.hid (pageR_n HRt.out Hb.out (colR_3 Hr.out H0.out hl1))
    have HLa:=Lib.hid (fun w1 h=>HL1.out w1 h (by rw [HX.out];exact hl1))
    clear hl1
    go_wp2_with fail
    refine (HLa.out _ Hbw.out).mono ?_;rintro e9 w6 ⟨⟨u1,k1,hk1,rfl⟩,hb9⟩
    clear cL fL cO fO cT fT
    replace RL:=Lib.hid (row_keep hb9 RL.out);replace RO:=Lib.hid (row_keep hb9 RO.out);replace RT:=Lib.hid (row_keep hb9 RT.out);replace Hbw:=Lib.hid (Hbw.out.trans (hb9.mono Hbw.out.size))
    clear hb9
    have cL:=rowc RL.out;have fL:=rowf RL.out;have cO:=rowc RO.out;have fO:=rowf RO.out;have cT:=rowc RT.out;have fT:=rowf RT.out
    have hk1I:(k1:Int) ≤ (s2.size:Int):=by omega
    have hk10:(0:Int) ≤ (k1:Int):=by omega
    go_upto_region 12 with fail
    have HB9:=Lib.hid (Below.refl w6.heap.size w6)
    go_region_held3 (fun w'=>(∀ j,w'.cell? ⟨w.heap.size,j,none⟩ = (#[.int .i64 f.id,.int .i64 f.kind,.int .i64 f.mr,.int .i64 f.md,p]:Array Value)[j]?) ∧ (∀ j,w'.cell? ⟨gT,j,none⟩ = (#[.int .i64 (te:Nat),.int .i64 (tn:Nat),.bool th,.int .i64 lo.k,.int .i64 lo.n,.string lo.s,.int .i64 hi.k,.int .i64 hi.n,.string hi.s]:Array Value)[j]?)) (first | (with_reducible exact ⟨rowc RL.out,rowc RT.out⟩) | (with_reducible exact ⟨rowc_drew RL.out,rowc_drew RT.out⟩))
     (first
     | (go_at_call 18;(with_reducible refine (HM.out _ ?_ k1).mono ?_);(focus (first | (with_reducible exact Hbw.out) | (with_reducible exact Hbw.out.drew)));rintro e9 w7 ⟨⟨u2,k2,o2,rfl⟩,hb9⟩;(first | (with_reducible have hbs:=drew_first hb9) | (have hbs:=hb9));replace RL:=Lib.hid (row_keep hbs RL.out);replace RO:=Lib.hid (row_keep hbs RO.out);replace RT:=Lib.hid (row_keep hbs RT.out);replace Hbw:=Lib.hid (Hbw.out.trans (hbs.mono Hbw.out.size));clear hb9 hbs))
    clear cL fL cO fO cT fT
    have cL:=rowc RL.out;have fL:=rowf RL.out;have cO:=rowc RO.out;have fO:=rowf RO.out;have cT:=rowc RT.out;have fT:=rowf RT.out
    go_upto_region 14 with fail
    have e1:w7.cell? ⟨1,0,none⟩ = some (.iface 211 (.pointer (some (adr 1)))):=(HE.out.below Hbw.out).cell 1 (by decide)
    have hnb:(1:Nat) ≠ w.heap.size + 1:=Nat.ne_of_lt (Nat.lt_succ_of_lt hg1)
    refine AnyE.region (S:=fun w'=>w'.cell? ⟨1,0,none⟩ = some (.iface 211 (.pointer (some (adr 1))))) (E:=[]) (by kernel_rfl) ?_
    have hbd:=(Below.refl w7.heap.size w7).drew
    replace RO:=Lib.hid (row_keep hbd RO.out);replace Hbw:=Lib.hid (Hbw.out.trans (hbd.mono Hbw.out.size))
    have hS:w7.drew.cell? ⟨1,0,none⟩ = some (.iface 211 (.pointer (some (adr 1)))):=e1
    clear hbd e1
    generalize w7.drew = wd at *
    have cO9:=rowc RO.out;have fO9:=rowf RO.out
    refine AnyE.take (i:=0) (v:=?_) rfl (by kernel_rfl) (by kernel_rfl) (by kernel_rfl) (by kernel_rfl) (by kernel_rfl) (fun _ _ _ h=>h) (Or.inl ⟨by rfl,?_⟩) hS ?_
    rotate_left
    focus (intro wq hSq;go_simp;with_reducible rfl)
    try simp only [Act.put,List.getElem_toArray,List.getElem_cons_succ,List.getElem_cons_zero,List.setIfInBounds_toArray,List.set_cons_zero,List.set_cons_succ]
    refine AnyE.take (i:=1) (v:=?_) rfl (by kernel_rfl) (by kernel_rfl) (by kernel_rfl) (by kernel_rfl) (by kernel_rfl) (fun _ _ _ h=>h) (Or.inl ⟨by rfl,?_⟩) hS ?_
    rotate_left
    focus (intro wq hSq;go_simp;with_reducible rfl)
    try simp only [Act.put,List.getElem_toArray,List.getElem_cons_succ,List.getElem_cons_zero,List.setIfInBounds_toArray,List.set_cons_zero,List.set_cons_succ]
    refine AnyE.one (i:=2) (by kernel_rfl) rfl rfl ?_
    intro K hK
    simp only [List.getElem_toArray,List.getElem_cons_succ,List.getElem_cons_zero]
    go_simp
    refine hK _ _ (fun _=>cell_set4 hnb hS _ _ _ _) ?_
    clear hK K
    try simp only [Act.put,List.getElem_toArray,List.getElem_cons_succ,List.getElem_cons_zero,List.setIfInBounds_toArray,List.set_cons_zero,List.set_cons_succ]
    refine AnyE.take (i:=3) (v:=?_) rfl (by kernel_rfl) (by kernel_rfl) (by kernel_rfl) (by kernel_rfl) (by kernel_rfl) (fun _ _ _ h=>h) (Or.inl ⟨by rfl,?_⟩) (cell_set4 hnb hS _ _ _ _) ?_
    rotate_left
    focus (intro wq hSq;go_simp;with_reducible rfl)
    try simp only [Act.put,List.getElem_toArray,List.getElem_cons_succ,List.getElem_cons_zero,List.setIfInBounds_toArray,List.set_cons_zero,List.set_cons_succ]
    refine AnyE.take (i:=4) (v:=?_) rfl (by kernel_rfl) (by kernel_rfl) (by kernel_rfl) (by kernel_rfl) (by kernel_rfl) (fun _ _ _ h=>h) (Or.inl ⟨by rfl,?_⟩) (cell_set4 hnb hS _ _ _ _) ?_
    rotate_left
    focus (intro wq hSq;go_simp;with_reducible rfl)
    try simp only [Act.put,List.getElem_toArray,List.getElem_cons_succ,List.getElem_cons_zero,List.setIfInBounds_toArray,List.set_cons_zero,List.set_cons_succ]
    refine AnyE.done (by kernel_rfl) ?_ _
    go_wp2_with fail
    refine bodyPost_ret (v:=.tuple #[(.agg #[.int .i64 0,.slice none 0 0,.slice none 0 0,.slice none 0 0]),.int .i64 0,(.iface 211 (.pointer (some (adr 1))))]) ?_ rfl ⟨PgRet.bad HR.out,?_⟩
    focus (refine res_cell2 Tryz.results6 _ _ (w.heap.size + 1) 29 _ (0,0) _ _ _ ?_ ?_ ?_ ?_ Tryz.underlying29 rfl (by kernel_rfl);(focus (simp only [Array.getD_eq_getD_getElem?,List.getElem?_toArray,List.getElem?_cons_succ,List.getElem?_cons_zero,Option.getD_some]));(focus (simp only [Array.getD_eq_getD_getElem?,List.getElem?_toArray,List.getElem?_cons_succ,List.getElem?_cons_zero,Option.getD_some]));(focus (simp only [Array.getD_eq_getD_getElem?,List.getElem?_toArray,List.getElem?_cons_succ,List.getElem?_cons_zero,Option.getD_some]));with_reducible exact row_set4 RO.out rfl _ _ _ _)
    focus (with_reducible exact below_set4 Hbw.out _ (Nat.le_succ _) _ _ _ _)
   | some z1 =>
    obtain ⟨rep,k1⟩:=z1
    have HLa:=Lib.hid (fun w1 h=>HL2.out w1 h rep k1 (by rw [HX.out];exact hl1))
    obtain ⟨hrl,hr64,hk10,hk1⟩:=levR_ok HRp.out.2.2.1 HRp.out.2.2.2.1 hl1
    rw [← HX.out,ba_len] at hk1
    have Hl1:=Lib.hid hl1;have Hrl:=Lib.hid (And.intro hrl hr64)
    clear hl1 hrl hr64
    have hwz5:w.heap.size + 2 ≤ w5.heap.size:=row_lt RO.out
    go_wp2_with fail
    refine (HLa.out _ Hbw.out).mono ?_;rintro e9 w6 ⟨⟨u1,rfl,hu1⟩,hb9⟩
    clear cL fL cO fO cT fT
    replace RL:=Lib.hid (row_keep hb9 RL.out);replace RO:=Lib.hid (row_keep hb9 RO.out);replace RT:=Lib.hid (row_keep hb9 RT.out);replace Hbw:=Lib.hid (Hbw.out.trans (hb9.mono Hbw.out.size))
    clear hb9
    have cL:=rowc RL.out;have fL:=rowf RL.out;have cO:=rowc RO.out;have fO:=rowf RO.out;have cT:=rowc RT.out;have fT:=rowf RT.out
    have HU1:=Lib.hid (own_base hu1 hwz5)
    clear hu1
    have hk1I:(k1:Int) ≤ (s2.size:Int):=by omega
    have hk10I:(0:Int) ≤ (k1:Int):=by omega
    go_upto_region 12 with fail
    have HX2:=Lib.hid (show (s2.extract k1 s2.size).data.toList = (b.drop k).drop k1 from by rw [bext_list,HX.out])
    cases hl2:levR f.md te ((b.drop k).drop k1) with
    | none =>
     have HR:=Lib.hid (pageR_n HRt.out Hb.out (colR_4 Hr.out H0.out Hl1.out hl2))
     have HMa:=Lib.hid (fun w1 h=>HM1.out w1 h k1 (by rw [HX2.out];exact hl2))
     clear hl2
     have HB9:=Lib.hid (Below.refl w6.heap.size w6)
     go_region_held3 (fun w'=>(∀ j,w'.cell? ⟨w.heap.size,j,none⟩ = (#[.int .i64 f.id,.int .i64 f.kind,.int .i64 f.mr,.int .i64 f.md,p]:Array Value)[j]?) ∧ (∀ j,w'.cell? ⟨gT,j,none⟩ = (#[.int .i64 (te:Nat),.int .i64 (tn:Nat),.bool th,.int .i64 lo.k,.int .i64 lo.n,.string lo.s,.int .i64 hi.k,.int .i64 hi.n,.string hi.s]:Array Value)[j]?)) (first | (with_reducible exact ⟨rowc RL.out,rowc RT.out⟩) | (with_reducible exact ⟨rowc_drew RL.out,rowc_drew RT.out⟩))
      (first
      | (go_at_call 18;(with_reducible refine (HMa.out _ ?_).mono ?_);(focus (first | (with_reducible exact Hbw.out) | (with_reducible exact Hbw.out.drew)));rintro e9 w7 ⟨⟨u2,k2,hk2,rfl⟩,hb9⟩;(first | (with_reducible have hbs:=drew_first hb9) | (have hbs:=hb9));replace RL:=Lib.hid (row_keep hbs RL.out);replace RO:=Lib.hid (row_keep hbs RO.out);replace RT:=Lib.hid (row_keep hbs RT.out);replace HU1:=Lib.hid (ownBelow HU1.out hbs);replace Hbw:=Lib.hid (Hbw.out.trans (hbs.mono Hbw.out.size));clear hb9 hbs))
     clear cL fL cO fO cT fT
     have cL:=rowc RL.out;have fL:=rowf RL.out;have cO:=rowc RO.out;have fO:=rowf RO.out;have cT:=rowc RT.out;have fT:=rowf RT.out
     go_upto_region 14 with fail
     have e1:w7.cell? ⟨1,0,none⟩ = some (.iface 211 (.pointer (some (adr 1)))):=(HE.out.below Hbw.out).cell 1 (by decide)
     have hnb:(1:Nat) ≠ w.heap.size + 1:=Nat.ne_of_lt (Nat.lt_succ_of_lt hg1)
     refine AnyE.region (S:=fun w'=>w'.cell? ⟨1,0,none⟩ = some (.iface 211 (.pointer (some (adr 1))))) (E:=[]) (by kernel_rfl) ?_
     have hbd:=(Below.refl w7.heap.size w7).drew
     replace RO:=Lib.hid (row_keep hbd RO.out);replace Hbw:=Lib.hid (Hbw.out.trans (hbd.mono Hbw.out.size))
     have hS:w7.drew.cell? ⟨1,0,none⟩ = some (.iface 211 (.pointer (some (adr 1)))):=e1
     clear hbd e1
     generalize w7.drew = wd at *
     have cO9:=rowc RO.out;have fO9:=rowf RO.out
     refine AnyE.take (i:=0) (v:=?_) rfl (by kernel_rfl) (by kernel_rfl) (by kernel_rfl) (by kernel_rfl) (by kernel_rfl) (fun _ _ _ h=>h) (Or.inl ⟨by rfl,?_⟩) hS ?_
     rotate_left
     focus (intro wq hSq;go_simp;with_reducible rfl)
     try simp only [Act.put,List.getElem_toArray,List.getElem_cons_succ,List.getElem_cons_zero,List.setIfInBounds_toArray,List.set_cons_zero,List.set_cons_succ]
     refine AnyE.take (i:=1) (v:=?_) rfl (by kernel_rfl) (by kernel_rfl) (by kernel_rfl) (by kernel_rfl) (by kernel_rfl) (fun _ _ _ h=>h) (Or.inl ⟨by rfl,?_⟩) hS ?_
     rotate_left
     focus (intro wq hSq;go_simp;with_reducible rfl)
     try simp only [Act.put,List.getElem_toArray,List.getElem_cons_succ,List.getElem_cons_zero,List.setIfInBounds_toArray,List.set_cons_zero,List.set_cons_succ]
     refine AnyE.one (i:=2) (by kernel_rfl) rfl rfl ?_
     intro K hK
     simp only [List.getElem_toArray,List.getElem_cons_succ,List.getElem_cons_zero]
     go_simp
     refine hK _ _ (fun _=>cell_set4 hnb hS _ _ _ _) ?_
     clear hK K
     try simp only [Act.put,List.getElem_toArray,List.getElem_cons_succ,List.getElem_cons_zero,List.setIfInBounds_toArray,List.set_cons_zero,List.set_cons_succ]
     refine AnyE.take (i:=3) (v:=?_) rfl (by kernel_rfl) (by kernel_rfl) (by kernel_rfl) (by kernel_rfl) (by kernel_rfl) (fun _ _ _ h=>h) (Or.inl ⟨by rfl,?_⟩) (cell_set4 hnb hS _ _ _ _) ?_
     rotate_left
     focus (intro wq hSq;go_simp;with_reducible rfl)
     try simp only [Act.put,List.getElem_toArray,List.getElem_cons_succ,List.getElem_cons_zero,List.setIfInBounds_toArray,List.set_cons_zero,List.set_cons_succ]
     refine AnyE.take (i:=4) (v:=?_) rfl (by kernel_rfl) (by kernel_rfl) (by kernel_rfl) (by kernel_rfl) (by kernel_rfl) (fun _ _ _ h=>h) (Or.inl ⟨by rfl,?_⟩) (cell_set4 hnb hS _ _ _ _) ?_
     rotate_left
     focus (intro wq hSq;go_simp;with_reducible rfl)
     try simp only [Act.put,List.getElem_toArray,List.getElem_cons_succ,List.getElem_cons_zero,List.setIfInBounds_toArray,List.set_cons_zero,List.set_cons_succ]
     refine AnyE.done (by kernel_rfl) ?_ _
     go_wp2_with fail
     refine bodyPost_ret (v:=.tuple #[(.agg #[.int .i64 0,.slice none 0 0,.slice none 0 0,.slice none 0 0]),.int .i64 0,(.iface 211 (.pointer (some (adr 1))))]) ?_ rfl ⟨PgRet.bad HR.out,?_⟩
     focus (refine res_cell2 Tryz.results6 _ _ (w.heap.size + 1) 29 _ (0,0) _ _ _ ?_ ?_ ?_ ?_ Tryz.underlying29 rfl (by kernel_rfl);(focus (simp only [Array.getD_eq_getD_getElem?,List.getElem?_toArray,List.getElem?_cons_succ,List.getElem?_cons_zero,Option.getD_some]));(focus (simp only [Array.getD_eq_getD_getElem?,List.getElem?_toArray,List.getElem?_cons_succ,List.getElem?_cons_zero,Option.getD_some]));(focus (simp only [Array.getD_eq_getD_getElem?,List.getElem?_toArray,List.getElem?_cons_succ,List.getElem?_cons_zero,Option.getD_some]));with_reducible exact row_set4 RO.out rfl _ _ _ _)
     focus (with_reducible exact below_set4 Hbw.out _ (Nat.le_succ _) _ _ _ _)
    | some z2 =>
     obtain ⟨df,k2⟩:=z2
     have HMa:=Lib.hid (fun w1 h=>HM2.out w1 h k1 df k2 (by rw [HX2.out];exact hl2))
     obtain ⟨hdl,hd64,hk20,hk2⟩:=levR_ok HRp.out.2.2.2.2.1 HRp.out.2.2.2.2.2 hl2
     rw [List.length_drop,← HX.out,ba_len] at hk2
     have Hc5:=Lib.hid (colR_5 Hr.out H0.out Hl1.out hl2)
     have Hdl:=Lib.hid (And.intro hdl hd64)
     have hwz6:w.heap.size + 2 ≤ w6.heap.size:=row_lt RO.out
     clear hl2 hdl hd64
     have HB9:=Lib.hid (Below.refl w6.heap.size w6)
     go_region_held3 (fun w'=>(∀ j,w'.cell? ⟨w.heap.size,j,none⟩ = (#[.int .i64 f.id,.int .i64 f.kind,.int .i64 f.mr,.int .i64 f.md,p]:Array Value)[j]?) ∧ (∀ j,w'.cell? ⟨gT,j,none⟩ = (#[.int .i64 (te:Nat),.int .i64 (tn:Nat),.bool th,.int .i64 lo.k,.int .i64 lo.n,.string lo.s,.int .i64 hi.k,.int .i64 hi.n,.string hi.s]:Array Value)[j]?)) (first | (with_reducible exact ⟨rowc RL.out,rowc RT.out⟩) | (with_reducible exact ⟨rowc_drew RL.out,rowc_drew RT.out⟩))
      (first
      | (go_at_call 18;(with_reducible refine (HMa.out _ ?_).mono ?_);(focus (first | (with_reducible exact Hbw.out) | (with_reducible exact Hbw.out.drew)));rintro e9 w7 ⟨⟨u2,rfl,hu2⟩,hb9⟩;(first | (with_reducible have hbs:=drew_first hb9) | (have hbs:=hb9));replace RL:=Lib.hid (row_keep hbs RL.out);replace RO:=Lib.hid (row_keep hbs RO.out);replace RT:=Lib.hid (row_keep hbs RT.out);replace HU1:=Lib.hid (ownBelow HU1.out hbs);replace Hbw:=Lib.hid (Hbw.out.trans (hbs.mono Hbw.out.size));clear hb9 hbs;have HU2:=Lib.hid (own_base hu2 hwz6);clear hu2))
     clear cL fL cO fO cT fT
     have cL:=rowc RL.out;have fL:=rowf RL.out;have cO:=rowc RO.out;have fO:=rowf RO.out;have cT:=rowc RT.out;have fT:=rowf RT.out
     obtain ⟨n1,b1,c1,eu1⟩:=own_cap' HU1.out;obtain ⟨n2,b2,c2,eu2⟩:=own_cap' HU2.out
     subst eu1 eu2
     obtain ⟨q,hq⟩:∃ q,k1 + k2 = q:=⟨_,rfl⟩
     have hqI:(k1:Int) + (k2:Int) = (q:Int):=by omega
     rw [hq] at Hc5
     by_cases hqs:s2.size ≤ q
     ·have HR:=Lib.hid (pageR_n HRt.out Hb.out (Hc5.out.trans (valsR_0 (List.drop_eq_nil_of_le (by rw [← HX.out,ba_len];exact hqs)))))
      have hqs':(s2.size:Int) ≤ (q:Int):=by omega
      have hqs'':decide (s2.size ≤ q) = true:=by simpa using hqs
      clear hqs
      go_upto_region 14 with fail
      have e1:w7.cell? ⟨1,0,none⟩ = some (.iface 211 (.pointer (some (adr 1)))):=(HE.out.below Hbw.out).cell 1 (by decide)
      have hnb:(1:Nat) ≠ w.heap.size + 1:=Nat.ne_of_lt (Nat.lt_succ_of_lt hg1)
      refine AnyE.region (S:=fun w'=>w'.cell? ⟨1,0,none⟩ = some (.iface 211 (.pointer (some (adr 1))))) (E:=[]) (by kernel_rfl) ?_
      have hbd:=(Below.refl w7.heap.size w7).drew
      replace RO:=Lib.hid (row_keep hbd RO.out);replace Hbw:=Lib.hid (Hbw.out.trans (hbd.mono Hbw.out.size))
      have hS:w7.drew.cell? ⟨1,0,none⟩ = some (.iface 211 (.pointer (some (adr 1)))):=e1
      clear hbd e1
      generalize w7.drew = wd at *
      have cO9:=rowc RO.out;have fO9:=rowf RO.out
      refine AnyE.take (i:=0) (v:=?_) rfl (by kernel_rfl) (by kernel_rfl) (by kernel_rfl) (by kernel_rfl) (by kernel_rfl) (fun _ _ _ h=>h) (Or.inl ⟨by rfl,?_⟩) hS ?_
      rotate_left
      focus (intro wq hSq;go_simp;with_reducible rfl)
      try simp only [Act.put,List.getElem_toArray,List.getElem_cons_succ,List.getElem_cons_zero,List.setIfInBounds_toArray,List.set_cons_zero,List.set_cons_succ]
      refine AnyE.take (i:=1) (v:=?_) rfl (by kernel_rfl) (by kernel_rfl) (by kernel_rfl) (by kernel_rfl) (by kernel_rfl) (fun _ _ _ h=>h) (Or.inl ⟨by rfl,?_⟩) hS ?_
      rotate_left
      focus (intro wq hSq;go_simp;with_reducible rfl)
      try simp only [Act.put,List.getElem_toArray,List.getElem_cons_succ,List.getElem_cons_zero,List.setIfInBounds_toArray,List.set_cons_zero,List.set_cons_succ]
      refine AnyE.one (i:=2) (by kernel_rfl) rfl rfl ?_
      intro K hK
      simp only [List.getElem_toArray,List.getElem_cons_succ,List.getElem_cons_zero]
      go_simp
      refine hK _ _ (fun _=>cell_set4 hnb hS _ _ _ _) ?_
      clear hK K
      try simp only [Act.put,List.getElem_toArray,List.getElem_cons_succ,List.getElem_cons_zero,List.setIfInBounds_toArray,List.set_cons_zero,List.set_cons_succ]
      refine AnyE.take (i:=3) (v:=?_) rfl (by kernel_rfl) (by kernel_rfl) (by kernel_rfl) (by kernel_rfl) (by kernel_rfl) (fun _ _ _ h=>h) (Or.inl ⟨by rfl,?_⟩) (cell_set4 hnb hS _ _ _ _) ?_
      rotate_left
      focus (intro wq hSq;go_simp;with_reducible rfl)
      try simp only [Act.put,List.getElem_toArray,List.getElem_cons_succ,List.getElem_cons_zero,List.setIfInBounds_toArray,List.set_cons_zero,List.set_cons_succ]
      refine AnyE.take (i:=4) (v:=?_) rfl (by kernel_rfl) (by kernel_rfl) (by kernel_rfl) (by kernel_rfl) (by kernel_rfl) (fun _ _ _ h=>h) (Or.inl ⟨by rfl,?_⟩) (cell_set4 hnb hS _ _ _ _) ?_
      rotate_left
      focus (intro wq hSq;go_simp;with_reducible rfl)
      try simp only [Act.put,List.getElem_toArray,List.getElem_cons_succ,List.getElem_cons_zero,List.setIfInBounds_toArray,List.set_cons_zero,List.set_cons_succ]
      refine AnyE.done (by kernel_rfl) ?_ _
      go_wp2_with fail
      refine bodyPost_ret (v:=.tuple #[(.agg #[.int .i64 0,.slice none 0 0,.slice none 0 0,.slice none 0 0]),.int .i64 0,(.iface 211 (.pointer (some (adr 1))))]) ?_ rfl ⟨PgRet.bad HR.out,?_⟩
      focus (refine res_cell2 Tryz.results6 _ _ (w.heap.size + 1) 29 _ (0,0) _ _ _ ?_ ?_ ?_ ?_ Tryz.underlying29 rfl (by kernel_rfl);(focus (simp only [Array.getD_eq_getD_getElem?,List.getElem?_toArray,List.getElem?_cons_succ,List.getElem?_cons_zero,Option.getD_some]));(focus (simp only [Array.getD_eq_getD_getElem?,List.getElem?_toArray,List.getElem?_cons_succ,List.getElem?_cons_zero,Option.getD_some]));(focus (simp only [Array.getD_eq_getD_getElem?,List.getElem?_toArray,List.getElem?_cons_succ,List.getElem?_cons_zero,Option.getD_some]));with_reducible exact row_set4 RO.out rfl _ _ _ _)
      focus (with_reducible exact below_set4 Hbw.out _ (Nat.le_succ _) _ _ _ _)
     have hqs':¬ (s2.size:Int) ≤ (q:Int):=by omega
     have hqs'':decide (s2.size ≤ q) = false:=by simpa using hqs
     have hq2:q < s2.size:=by omega
     have hq2I:(q:Int) < (s2.size:Int):=by omega
     clear hqs hq
     go_upto_region 16 with fail
     obtain ⟨p1,p2,p3,p4⟩:=store_cell_row (j:=1) (v:=(.slice b1 n1 c1)) RO.out
     obtain ⟨r1,r2,r3,r4⟩:=store_cell_row (j:=2) (v:=(.slice b2 n2 c2)) p1
     replace RL:=Lib.hid ((r2 _ (by omega)).trans ((p2 _ (by omega)).trans RL.out));replace RT:=Lib.hid ((r2 _ (by omega)).trans ((p2 _ (by omega)).trans RT.out))
     replace HU1:=Lib.hid (ownK (ownK HU1.out fun i hi _=>p2 i (by omega)) fun i hi _=>r2 i (by omega));replace HU2:=Lib.hid (ownK (ownK HU2.out fun i hi _=>p2 i (by omega)) fun i hi _=>r2 i (by omega))
     replace RO:=Lib.hid (r1.trans (show _ = some (.cells #[.int .i64 f.id,(.slice b1 n1 c1),(.slice b2 n2 c2),.slice none 0 0] 29 (0,0)) from rfl));replace Hbw:=Lib.hid (Hbw.out.trans ((p3.mono (Nat.le_succ _)).trans (r3.mono (Nat.le_succ _))))
     clear p1 p2 p3 p4 r1 r2 r3 r4
     clear cL fL cO fO cT fT
     generalize (w7.setCell ⟨w.heap.size + 1,1,none⟩ (.slice b1 n1 c1)).setCell ⟨w.heap.size + 1,2,none⟩ (.slice b2 n2 c2) = w8 at *
     have cL:=rowc RL.out;have fL:=rowf RL.out;have cO:=rowc RO.out;have fO:=rowf RO.out;have cT:=rowc RT.out;have fT:=rowf RT.out
     have HD:=Lib.hid (show (b.drop k).drop q = s2[q] :: s2.data.toList.drop (q + 1) from by rw [← HX.out];exact drop_cons s2 q hq2)
     have hcb:(s2[q]).toNat < 256:=(s2[q]).toNat_lt
     go_upto_region 17 with fail
     generalize s2[q] = cb at *
     have HX3:=Lib.hid (show (s2.extract (q + 1) s2.size).data.toList = s2.data.toList.drop (q + 1) from bext_list s2 (q + 1))
     have hz3:(s2.extract (q + 1) s2.size).size ≤ maxLen:=by rw [ByteArray.size_extract];unfold maxLen;omega
     have HT1:=Lib.hid (fun w1 (h:Below w.heap.size w w1)=>readText_none (s2.extract (q + 1) s2.size) _ _ w1 hz3 (((HE.out.sub (ls:=[1]) (by decide)).below h).cell 1 (by decide)))
     have HT2:=Lib.hid (fun w1 (h:Below w.heap.size w w1) (v:List UInt8) (x:Nat)=>readText_ba (s2.extract (q + 1) s2.size) _ _ w1 hz3 (((HE.out.sub (ls:=[1]) (by decide)).below h).cell 1 (by decide)) (t:=v) (k:=x))
     clear hz3
     cases ht:readT (s2.data.toList.drop (q + 1)) with
     | none =>
      have HR:=Lib.hid (pageR_n HRt.out Hb.out (Hc5.out.trans (valsR_1 HD.out ht)))
      have HTa:=Lib.hid (fun w1 h=>HT1.out w1 h (by rw [HX3.out];exact ht))
      clear ht
      go_wp2_with fail
      refine (HTa.out _ Hbw.out).mono ?_;rintro e9 w9 ⟨rfl,hb9⟩
      clear cL fL cO fO cT fT
      replace RL:=Lib.hid (row_keep hb9 RL.out);replace RO:=Lib.hid (row_keep hb9 RO.out);replace RT:=Lib.hid (row_keep hb9 RT.out);replace HU1:=Lib.hid (ownBelow HU1.out hb9);replace HU2:=Lib.hid (ownBelow HU2.out hb9);replace Hbw:=Lib.hid (Hbw.out.trans (hb9.mono Hbw.out.size))
      clear hb9
      have cL:=rowc RL.out;have fL:=rowf RL.out;have cO:=rowc RO.out;have fO:=rowf RO.out;have cT:=rowc RT.out;have fT:=rowf RT.out
      go_upto_region 19 with fail
      have e1:w9.cell? ⟨1,0,none⟩ = some (.iface 211 (.pointer (some (adr 1)))):=(HE.out.below Hbw.out).cell 1 (by decide)
      have hnb:(1:Nat) ≠ w.heap.size + 1:=Nat.ne_of_lt (Nat.lt_succ_of_lt hg1)
      refine AnyE.region (S:=fun w'=>w'.cell? ⟨1,0,none⟩ = some (.iface 211 (.pointer (some (adr 1))))) (E:=[]) (by kernel_rfl) ?_
      have hbd:=(Below.refl w9.heap.size w9).drew
      replace RO:=Lib.hid (row_keep hbd RO.out);replace Hbw:=Lib.hid (Hbw.out.trans (hbd.mono Hbw.out.size))
      have hS:w9.drew.cell? ⟨1,0,none⟩ = some (.iface 211 (.pointer (some (adr 1)))):=e1
      clear hbd e1
      generalize w9.drew = wd at *
      have cO9:=rowc RO.out;have fO9:=rowf RO.out
      refine AnyE.take (i:=0) (v:=?_) rfl (by kernel_rfl) (by kernel_rfl) (by kernel_rfl) (by kernel_rfl) (by kernel_rfl) (fun _ _ _ h=>h) (Or.inl ⟨by rfl,?_⟩) hS ?_
      rotate_left
      focus (intro wq hSq;go_simp;with_reducible rfl)
      try simp only [Act.put,List.getElem_toArray,List.getElem_cons_succ,List.getElem_cons_zero,List.setIfInBounds_toArray,List.set_cons_zero,List.set_cons_succ]
      refine AnyE.take (i:=1) (v:=?_) rfl (by kernel_rfl) (by kernel_rfl) (by kernel_rfl) (by kernel_rfl) (by kernel_rfl) (fun _ _ _ h=>h) (Or.inl ⟨by rfl,?_⟩) hS ?_
      rotate_left
      focus (intro wq hSq;go_simp;with_reducible rfl)
      try simp only [Act.put,List.getElem_toArray,List.getElem_cons_succ,List.getElem_cons_zero,List.setIfInBounds_toArray,List.set_cons_zero,List.set_cons_succ]
      refine AnyE.one (i:=2) (by kernel_rfl) rfl rfl ?_
      intro K hK
      simp only [List.getElem_toArray,List.getElem_cons_succ,List.getElem_cons_zero]
      go_simp
      refine hK _ _ (fun _=>cell_set4 hnb hS _ _ _ _) ?_
      clear hK K
      try simp only [Act.put,List.getElem_toArray,List.getElem_cons_succ,List.getElem_cons_zero,List.setIfInBounds_toArray,List.set_cons_zero,List.set_cons_succ]
      refine AnyE.take (i:=3) (v:=?_) rfl (by kernel_rfl) (by kernel_rfl) (by kernel_rfl) (by kernel_rfl) (by kernel_rfl) (fun _ _ _ h=>h) (Or.inl ⟨by rfl,?_⟩) (cell_set4 hnb hS _ _ _ _) ?_
      rotate_left
      focus (intro wq hSq;go_simp;with_reducible rfl)
      try simp only [Act.put,List.getElem_toArray,List.getElem_cons_succ,List.getElem_cons_zero,List.setIfInBounds_toArray,List.set_cons_zero,List.set_cons_succ]
      refine AnyE.take (i:=4) (v:=?_) rfl (by kernel_rfl) (by kernel_rfl) (by kernel_rfl) (by kernel_rfl) (by kernel_rfl) (fun _ _ _ h=>h) (Or.inl ⟨by rfl,?_⟩) (cell_set4 hnb hS _ _ _ _) ?_
      rotate_left
      focus (intro wq hSq;go_simp;with_reducible rfl)
      try simp only [Act.put,List.getElem_toArray,List.getElem_cons_succ,List.getElem_cons_zero,List.setIfInBounds_toArray,List.set_cons_zero,List.set_cons_succ]
      refine AnyE.done (by kernel_rfl) ?_ _
      go_wp2_with fail
      refine bodyPost_ret (v:=.tuple #[(.agg #[.int .i64 0,.slice none 0 0,.slice none 0 0,.slice none 0 0]),.int .i64 0,(.iface 211 (.pointer (some (adr 1))))]) ?_ rfl ⟨PgRet.bad HR.out,?_⟩
      focus (refine res_cell2 Tryz.results6 _ _ (w.heap.size + 1) 29 _ (0,0) _ _ _ ?_ ?_ ?_ ?_ Tryz.underlying29 rfl (by kernel_rfl);(focus (simp only [Array.getD_eq_getD_getElem?,List.getElem?_toArray,List.getElem?_cons_succ,List.getElem?_cons_zero,Option.getD_some]));(focus (simp only [Array.getD_eq_getD_getElem?,List.getElem?_toArray,List.getElem?_cons_succ,List.getElem?_cons_zero,Option.getD_some]));(focus (simp only [Array.getD_eq_getD_getElem?,List.getElem?_toArray,List.getElem?_cons_succ,List.getElem?_cons_zero,Option.getD_some]));with_reducible exact row_set4 RO.out rfl _ _ _ _)
      focus (with_reducible exact below_set4 Hbw.out _ (Nat.le_succ _) _ _ _ _)
     | some z3 =>
      obtain ⟨v,x⟩:=z3
      obtain ⟨sv,hsv⟩:∃ sv:ByteArray,sv.data.toList = v:=⟨⟨v.toArray⟩,by simp⟩
      have HTa:=Lib.hid (fun w1 h=>HT2.out w1 h v x (by rw [HX3.out];exact ht) sv hsv)
      obtain ⟨hxl,hvl⟩:=readT_le ht
      rw [List.length_drop,ba_len] at hxl hvl
      have hsvz:sv.size ≤ 200000:=by rw [← ba_len sv,hsv];omega
      have Hsv:=Lib.hid hsv;have Ht:=Lib.hid ht
      clear hsv ht hvl
      go_wp2_with fail
      refine (HTa.out _ Hbw.out).mono ?_;rintro e9 w9 ⟨rfl,hb9⟩
      clear cL fL cO fO cT fT
      replace RL:=Lib.hid (row_keep hb9 RL.out);replace RO:=Lib.hid (row_keep hb9 RO.out);replace RT:=Lib.hid (row_keep hb9 RT.out);replace HU1:=Lib.hid (ownBelow HU1.out hb9);replace HU2:=Lib.hid (ownBelow HU2.out hb9);replace Hbw:=Lib.hid (Hbw.out.trans (hb9.mono Hbw.out.size))
      clear hb9
      have cL:=rowc RL.out;have fL:=rowf RL.out;have cO:=rowc RO.out;have fO:=rowf RO.out;have cT:=rowc RT.out;have fT:=rowf RT.out
      by_cases hx:q + 1 + x = s2.size
      case neg =>
       have HR:=Lib.hid (pageR_n HRt.out Hb.out (Hc5.out.trans (valsR_2 HD.out Ht.out (by rw [List.length_drop,ba_len];omega))))
       have hx':(((q:Int) + 1 + (x:Int)) != (s2.size:Int)) = true:=by rw [bne_iff_ne];omega
       clear hx
       go_upto_region 19 with fail
       have e1:w9.cell? ⟨1,0,none⟩ = some (.iface 211 (.pointer (some (adr 1)))):=(HE.out.below Hbw.out).cell 1 (by decide)
       have hnb:(1:Nat) ≠ w.heap.size + 1:=Nat.ne_of_lt (Nat.lt_succ_of_lt hg1)
       refine AnyE.region (S:=fun w'=>w'.cell? ⟨1,0,none⟩ = some (.iface 211 (.pointer (some (adr 1))))) (E:=[]) (by kernel_rfl) ?_
       have hbd:=(Below.refl w9.heap.size w9).drew
       replace RO:=Lib.hid (row_keep hbd RO.out);replace Hbw:=Lib.hid (Hbw.out.trans (hbd.mono Hbw.out.size))
       have hS:w9.drew.cell? ⟨1,0,none⟩ = some (.iface 211 (.pointer (some (adr 1)))):=e1
       clear hbd e1
       generalize w9.drew = wd at *
       have cO9:=rowc RO.out;have fO9:=rowf RO.out
       refine AnyE.take (i:=0) (v:=?_) rfl (by kernel_rfl) (by kernel_rfl) (by kernel_rfl) (by kernel_rfl) (by kernel_rfl) (fun _ _ _ h=>h) (Or.inl ⟨by rfl,?_⟩) hS ?_
       rotate_left
       focus (intro wq hSq;go_simp;with_reducible rfl)
       try simp only [Act.put,List.getElem_toArray,List.getElem_cons_succ,List.getElem_cons_zero,List.setIfInBounds_toArray,List.set_cons_zero,List.set_cons_succ]
       refine AnyE.take (i:=1) (v:=?_) rfl (by kernel_rfl) (by kernel_rfl) (by kernel_rfl) (by kernel_rfl) (by kernel_rfl) (fun _ _ _ h=>h) (Or.inl ⟨by rfl,?_⟩) hS ?_
       rotate_left
       focus (intro wq hSq;go_simp;with_reducible rfl)
       try simp only [Act.put,List.getElem_toArray,List.getElem_cons_succ,List.getElem_cons_zero,List.setIfInBounds_toArray,List.set_cons_zero,List.set_cons_succ]
       refine AnyE.one (i:=2) (by kernel_rfl) rfl rfl ?_
       intro K hK
       simp only [List.getElem_toArray,List.getElem_cons_succ,List.getElem_cons_zero]
       go_simp
       refine hK _ _ (fun _=>cell_set4 hnb hS _ _ _ _) ?_
       clear hK K
       try simp only [Act.put,List.getElem_toArray,List.getElem_cons_succ,List.getElem_cons_zero,List.setIfInBounds_toArray,List.set_cons_zero,List.set_cons_succ]
       refine AnyE.take (i:=3) (v:=?_) rfl (by kernel_rfl) (by kernel_rfl) (by kernel_rfl) (by kernel_rfl) (by kernel_rfl) (fun _ _ _ h=>h) (Or.inl ⟨by rfl,?_⟩) (cell_set4 hnb hS _ _ _ _) ?_
       rotate_left
       focus (intro wq hSq;go_simp;with_reducible rfl)
       try simp only [Act.put,List.getElem_toArray,List.getElem_cons_succ,List.getElem_cons_zero,List.setIfInBounds_toArray,List.set_cons_zero,List.set_cons_succ]
       refine AnyE.take (i:=4) (v:=?_) rfl (by kernel_rfl) (by kernel_rfl) (by kernel_rfl) (by kernel_rfl) (by kernel_rfl) (fun _ _ _ h=>h) (Or.inl ⟨by rfl,?_⟩) (cell_set4 hnb hS _ _ _ _) ?_
       rotate_left
       focus (intro wq hSq;go_simp;with_reducible rfl)
       try simp only [Act.put,List.getElem_toArray,List.getElem_cons_succ,List.getElem_cons_zero,List.setIfInBounds_toArray,List.set_cons_zero,List.set_cons_succ]
       refine AnyE.done (by kernel_rfl) ?_ _
       go_wp2_with fail
       refine bodyPost_ret (v:=.tuple #[(.agg #[.int .i64 0,.slice none 0 0,.slice none 0 0,.slice none 0 0]),.int .i64 0,(.iface 211 (.pointer (some (adr 1))))]) ?_ rfl ⟨PgRet.bad HR.out,?_⟩
       focus (refine res_cell2 Tryz.results6 _ _ (w.heap.size + 1) 29 _ (0,0) _ _ _ ?_ ?_ ?_ ?_ Tryz.underlying29 rfl (by kernel_rfl);(focus (simp only [Array.getD_eq_getD_getElem?,List.getElem?_toArray,List.getElem?_cons_succ,List.getElem?_cons_zero,Option.getD_some]));(focus (simp only [Array.getD_eq_getD_getElem?,List.getElem?_toArray,List.getElem?_cons_succ,List.getElem?_cons_zero,Option.getD_some]));(focus (simp only [Array.getD_eq_getD_getElem?,List.getElem?_toArray,List.getElem?_cons_succ,List.getElem?_cons_zero,Option.getD_some]));with_reducible exact row_set4 RO.out rfl _ _ _ _)
       focus (with_reducible exact below_set4 Hbw.out _ (Nat.le_succ _) _ _ _ _)
      have hx':(((q:Int) + 1 + (x:Int)) != (s2.size:Int)) = false:=by rw [bne_eq_false_iff_eq];omega
      have Hx:=Lib.hid (show ¬ x ≠ (s2.data.toList.drop (q + 1)).length by rw [List.length_drop,ba_len];omega)
      clear hx
      have hsub:((te - tn:Nat):Int) = (te:Int) - (tn:Int):=by omega
      have HB1:=fun w1 (h:Below w.heap.size w w1)=>readBest_all f.kind ((cb.toNat:Nat):Int) sv (te - tn) w1 adr ((HE.out.sub (by decide)).below h) HRp.out.1 HRp.out.2.1 (by omega) hsvz
      rw [hsub,Hsv.out] at HB1
      have HBt:=Lib.hid HB1
      have Htn:=Lib.hid (show (((te:Nat):Int) - ((tn:Nat):Int)).toNat = te - tn by omega)
      clear HB1 hsub
      cases hbs:bestR f.kind ((cb.toNat:Nat):Int) v (te - tn) with
      | none =>
       have HR:=Lib.hid (pageR_n HRt.out Hb.out (Hc5.out.trans (valsR_3 HD.out Ht.out Hx.out (by rw [Htn.out];exact hbs))))
       rw [hbs] at HBt
       have HBa:=Lib.hid (fun w1 h=>show Calls Tryz.prog 20 _ w1 fun e w'=>(∃ k:Nat,e = .returned (.tuple #[.slice none 0 0,.iface 211 (.pointer (some (adr k)))])) ∧ Below w1.heap.size w1 w' from HBt.out w1 h)
       clear hbs
       go_wp2_with fail
       refine (HBa.out _ Hbw.out).mono ?_;rintro e9 w10 ⟨⟨kk,rfl⟩,hb9⟩
       clear cL fL cO fO cT fT
       replace RL:=Lib.hid (row_keep hb9 RL.out);replace RO:=Lib.hid (row_keep hb9 RO.out);replace RT:=Lib.hid (row_keep hb9 RT.out);replace HU1:=Lib.hid (ownBelow HU1.out hb9);replace HU2:=Lib.hid (ownBelow HU2.out hb9);replace Hbw:=Lib.hid (Hbw.out.trans (hb9.mono Hbw.out.size))
       clear hb9
       have cL:=rowc RL.out;have fL:=rowf RL.out;have cO:=rowc RO.out;have fO:=rowf RO.out;have cT:=rowc RT.out;have fT:=rowf RT.out
       go_upto_region 21 with fail
       obtain ⟨p1,p2,p3,p4⟩:=store_cell_row (j:=3) (v:=(.slice none 0 0)) RO.out
       replace RL:=Lib.hid ((p2 _ (by omega)).trans RL.out);replace RT:=Lib.hid ((p2 _ (by omega)).trans RT.out);replace HU1:=Lib.hid (ownK HU1.out fun i hi _=>p2 i (by omega));replace HU2:=Lib.hid (ownK HU2.out fun i hi _=>p2 i (by omega))
       replace RO:=Lib.hid (p1.trans (show _ = some (.cells #[.int .i64 f.id,(.slice b1 n1 c1),(.slice b2 n2 c2),(.slice none 0 0)] 29 (0,0)) from rfl));replace Hbw:=Lib.hid (Hbw.out.trans (p3.mono (Nat.le_succ _)))
       clear p1 p2 p3 p4
       clear cL fL cO fO cT fT
       generalize w10.setCell ⟨w.heap.size + 1,3,none⟩ (.slice none 0 0) = w11 at *
       have cL:=rowc RL.out;have fL:=rowf RL.out;have cO:=rowc RO.out;have fO:=rowf RO.out;have cT:=rowc RT.out;have fT:=rowf RT.out
       go_upto_region 22 with fail
       have e1:w11.cell? ⟨1,0,none⟩ = some (.iface 211 (.pointer (some (adr 1)))):=(HE.out.below Hbw.out).cell 1 (by decide)
       have hnb:(1:Nat) ≠ w.heap.size + 1:=Nat.ne_of_lt (Nat.lt_succ_of_lt hg1)
       refine AnyE.region (S:=fun w'=>w'.cell? ⟨1,0,none⟩ = some (.iface 211 (.pointer (some (adr 1))))) (E:=[]) (by kernel_rfl) ?_
       have hbd:=(Below.refl w11.heap.size w11).drew
       replace RO:=Lib.hid (row_keep hbd RO.out);replace Hbw:=Lib.hid (Hbw.out.trans (hbd.mono Hbw.out.size))
       have hS:w11.drew.cell? ⟨1,0,none⟩ = some (.iface 211 (.pointer (some (adr 1)))):=e1
       clear hbd e1
       generalize w11.drew = wd at *
       have cO9:=rowc RO.out;have fO9:=rowf RO.out
       refine AnyE.take (i:=0) (v:=?_) rfl (by kernel_rfl) (by kernel_rfl) (by kernel_rfl) (by kernel_rfl) (by kernel_rfl) (fun _ _ _ h=>h) (Or.inl ⟨by rfl,?_⟩) hS ?_
       rotate_left
       focus (intro wq hSq;go_simp;with_reducible rfl)
       try simp only [Act.put,List.getElem_toArray,List.getElem_cons_succ,List.getElem_cons_zero,List.setIfInBounds_toArray,List.set_cons_zero,List.set_cons_succ]
       refine AnyE.take (i:=1) (v:=?_) rfl (by kernel_rfl) (by kernel_rfl) (by kernel_rfl) (by kernel_rfl) (by kernel_rfl) (fun _ _ _ h=>h) (Or.inl ⟨by rfl,?_⟩) hS ?_
       rotate_left
       focus (intro wq hSq;go_simp;with_reducible rfl)
       try simp only [Act.put,List.getElem_toArray,List.getElem_cons_succ,List.getElem_cons_zero,List.setIfInBounds_toArray,List.set_cons_zero,List.set_cons_succ]
       refine AnyE.one (i:=2) (by kernel_rfl) rfl rfl ?_
       intro K hK
       simp only [List.getElem_toArray,List.getElem_cons_succ,List.getElem_cons_zero]
       go_simp
       refine hK _ _ (fun _=>cell_set4 hnb hS _ _ _ _) ?_
       clear hK K
       try simp only [Act.put,List.getElem_toArray,List.getElem_cons_succ,List.getElem_cons_zero,List.setIfInBounds_toArray,List.set_cons_zero,List.set_cons_succ]
       refine AnyE.take (i:=3) (v:=?_) rfl (by kernel_rfl) (by kernel_rfl) (by kernel_rfl) (by kernel_rfl) (by kernel_rfl) (fun _ _ _ h=>h) (Or.inl ⟨by rfl,?_⟩) (cell_set4 hnb hS _ _ _ _) ?_
       rotate_left
       focus (intro wq hSq;go_simp;with_reducible rfl)
       try simp only [Act.put,List.getElem_toArray,List.getElem_cons_succ,List.getElem_cons_zero,List.setIfInBounds_toArray,List.set_cons_zero,List.set_cons_succ]
       refine AnyE.take (i:=4) (v:=?_) rfl (by kernel_rfl) (by kernel_rfl) (by kernel_rfl) (by kernel_rfl) (by kernel_rfl) (fun _ _ _ h=>h) (Or.inl ⟨by rfl,?_⟩) (cell_set4 hnb hS _ _ _ _) ?_
       rotate_left
       focus (intro wq hSq;go_simp;with_reducible rfl)
       try simp only [Act.put,List.getElem_toArray,List.getElem_cons_succ,List.getElem_cons_zero,List.setIfInBounds_toArray,List.set_cons_zero,List.set_cons_succ]
       refine AnyE.done (by kernel_rfl) ?_ _
       go_wp2_with fail
       refine bodyPost_ret (v:=.tuple #[(.agg #[.int .i64 0,.slice none 0 0,.slice none 0 0,.slice none 0 0]),.int .i64 0,(.iface 211 (.pointer (some (adr 1))))]) ?_ rfl ⟨PgRet.bad HR.out,?_⟩
       focus (refine res_cell2 Tryz.results6 _ _ (w.heap.size + 1) 29 _ (0,0) _ _ _ ?_ ?_ ?_ ?_ Tryz.underlying29 rfl (by kernel_rfl);(focus (simp only [Array.getD_eq_getD_getElem?,List.getElem?_toArray,List.getElem?_cons_succ,List.getElem?_cons_zero,Option.getD_some]));(focus (simp only [Array.getD_eq_getD_getElem?,List.getElem?_toArray,List.getElem?_cons_succ,List.getElem?_cons_zero,Option.getD_some]));(focus (simp only [Array.getD_eq_getD_getElem?,List.getElem?_toArray,List.getElem?_cons_succ,List.getElem?_cons_zero,Option.getD_some]));with_reducible exact row_set4 RO.out rfl _ _ _ _)
       focus (with_reducible exact below_set4 Hbw.out _ (Nat.le_succ _) _ _ _ _)
      | some l =>
       rw [hbs] at HBt
       have HBa:=Lib.hid (fun w1 h=>show Calls Tryz.prog 20 _ w1 fun e w'=>(∃ u,e = .returned (.tuple #[u,.nilIface]) ∧ w'.ownsRow w1.heap.size 41 3 u l.length (l.flatMap valCells)) ∧ Below w1.heap.size w1 w' from HBt.out w1 h)
       have Hv4:=Lib.hid (Hc5.out.trans (valsR_4 HD.out Ht.out Hx.out (by rw [Htn.out];exact hbs)))
       obtain ⟨hll,hlo2⟩:=bestR_ok HRp.out.1 HRp.out.2.1 hbs
       have hlm:l.length ≤ maxLen:=by rw [hll];unfold maxLen;omega
       have Hco:=Lib.hid (show Col.Ok ⟨f.id,ints rep,ints df,l⟩ from ⟨Fo.out.id0,Fo.out.id1,ints_fits (by rw [Hrl.out.1];unfold maxLen;omega) Hrl.out.2,ints_fits (by rw [Hdl.out.1];unfold maxLen;omega) Hdl.out.2,hlm,hlo2⟩)
       have hwz9:w.heap.size + 2 ≤ w9.heap.size:=row_lt RO.out
       clear hbs hll hlo2 hlm
       go_wp2_with fail
       refine (HBa.out _ Hbw.out).mono ?_;rintro e9 w10 ⟨⟨u3,rfl,hu3⟩,hb9⟩
       obtain ⟨n3,b3,c3,eu3⟩:=own_cap' hu3;subst eu3
       have HU3:=Lib.hid (own_base hu3 hwz9);clear hu3
       clear cL fL cO fO cT fT
       replace RL:=Lib.hid (row_keep hb9 RL.out);replace RO:=Lib.hid (row_keep hb9 RO.out);replace RT:=Lib.hid (row_keep hb9 RT.out);replace HU1:=Lib.hid (ownBelow HU1.out hb9);replace HU2:=Lib.hid (ownBelow HU2.out hb9);replace Hbw:=Lib.hid (Hbw.out.trans (hb9.mono Hbw.out.size))
       clear hb9
       have cL:=rowc RL.out;have fL:=rowf RL.out;have cO:=rowc RO.out;have fO:=rowf RO.out;have cT:=rowc RT.out;have fT:=rowf RT.out
       go_upto_region 21 with fail
       obtain ⟨p1,p2,p3,p4⟩:=store_cell_row (j:=3) (v:=(.slice b3 n3 c3)) RO.out
       replace RL:=Lib.hid ((p2 _ (by omega)).trans RL.out);replace RT:=Lib.hid ((p2 _ (by omega)).trans RT.out);replace HU1:=Lib.hid (ownK HU1.out fun i hi _=>p2 i (by omega));replace HU2:=Lib.hid (ownK HU2.out fun i hi _=>p2 i (by omega));replace HU3:=Lib.hid (ownK HU3.out fun i hi _=>p2 i (by omega))
       replace RO:=Lib.hid (p1.trans (show _ = some (.cells #[.int .i64 f.id,(.slice b1 n1 c1),(.slice b2 n2 c2),(.slice b3 n3 c3)] 29 (0,0)) from rfl));replace Hbw:=Lib.hid (Hbw.out.trans (p3.mono (Nat.le_succ _)))
       clear p1 p2 p3 p4
       clear cL fL cO fO cT fT
       generalize w10.setCell ⟨w.heap.size + 1,3,none⟩ (.slice b3 n3 c3) = w11 at *
       have cL:=rowc RL.out;have fL:=rowf RL.out;have cO:=rowc RO.out;have fO:=rowf RO.out;have cT:=rowc RT.out;have fT:=rowf RT.out
       obtain ⟨c,hc⟩:∃ c:Col,c = ⟨f.id,ints rep,ints df,l⟩:=⟨_,rfl⟩
       have HCol:=Lib.hid (show IsCol w11 (.agg #[.int .i64 f.id,(.slice b1 n1 c1),(.slice b2 n2 c2),(.slice b3 n3 c3)]) c from by rw [hc];exact ⟨_,_,_,rfl,nums_nat HU1.out,nums_nat HU2.out,IsVals.of_own HU3.out⟩)
       have HCold:=Lib.hid (HCol.out.below ((Below.refl w11.heap.size w11).drew) (Nat.le_refl _))
       rw [← hc] at Hv4 Hco
       have Hcq:=Lib.hid hc
       clear hc
       have HCk:=fun w1 (h:Below w.heap.size w w1) (hcc:IsCol w1 (.agg #[.int .i64 f.id,(.slice b1 n1 c1),(.slice b2 n2 c2),(.slice b3 n3 c3)]) c)=>ck_any f c true (.agg #[.int .i64 f.id,.int .i64 f.kind,.int .i64 f.mr,.int .i64 f.md,p]) (.agg #[.int .i64 f.id,(.slice b1 n1 c1),(.slice b2 n2 c2),(.slice b3 n3 c3)]) w1 adr ((HE.out.sub (by decide)).below h) ⟨p,rfl,Hp.out.below h (Nat.le_refl _)⟩ hcc Fo.out Hco.out
       go_upto_region 23 with fail
       by_cases hce:(colErr f c true).isNil = true
       case neg =>
        have hce':(colErr f c true).isNil = false:=by simpa using hce
        have HR:=Lib.hid (pageR_n HRt.out Hb.out (Hv4.out.trans (if_neg fun h=>hce h.1)))
        have HCa:=Lib.hid (fun w1 h hcc=>(HCk w1 h hcc).mono fun e w' ⟨⟨u,hu1,hu2⟩,hb⟩=>show (∃ T p,e = Ending.returned (.iface T p)) ∧ Below w1.heap.size w1 w' from (err_iface hu2 hce').elim fun T h=>h.elim fun p h=>⟨⟨T,p,by rw [hu1,h]⟩,hb⟩)
        clear HCk hce hce'
        go_region_with
         (first
         | (go_at_call 21;(with_reducible refine (HCa.out _ ?_ ?_).mono ?_);(focus (first | (with_reducible exact Hbw.out) | (with_reducible exact Hbw.out.drew)));(focus (first | (with_reducible exact HCol.out) | (with_reducible exact HCold.out)));rintro e9 w12 ⟨⟨T9,p9,rfl⟩,hb9⟩;(first | (with_reducible have hbs:=drew_first hb9) | (have hbs:=hb9));replace RL:=Lib.hid (row_keep hbs RL.out);replace RO:=Lib.hid (row_keep hbs RO.out);replace RT:=Lib.hid (row_keep hbs RT.out);replace HU1:=Lib.hid (ownBelow HU1.out hbs);replace HU2:=Lib.hid (ownBelow HU2.out hbs);replace HU3:=Lib.hid (ownBelow HU3.out hbs);replace HCol:=Lib.hid (HCol.out.below hbs (Nat.le_refl _));replace Hbw:=Lib.hid (Hbw.out.trans (hbs.mono Hbw.out.size));clear hb9 hbs))
        all_goals
         clear cL fL cO fO cT fT
         have cL:=rowc RL.out;have fL:=rowf RL.out;have cO:=rowc RO.out;have fO:=rowf RO.out;have cT:=rowc RT.out;have fT:=rowf RT.out
         go_upto_region 24 with fail
         have e1:w12.cell? ⟨1,0,none⟩ = some (.iface 211 (.pointer (some (adr 1)))):=(HE.out.below Hbw.out).cell 1 (by decide)
         have hnb:(1:Nat) ≠ w.heap.size + 1:=Nat.ne_of_lt (Nat.lt_succ_of_lt hg1)
         refine AnyE.region (S:=fun w'=>w'.cell? ⟨1,0,none⟩ = some (.iface 211 (.pointer (some (adr 1))))) (E:=[]) (by kernel_rfl) ?_
         have hbd:=(Below.refl w12.heap.size w12).drew
         replace RO:=Lib.hid (row_keep hbd RO.out);replace Hbw:=Lib.hid (Hbw.out.trans (hbd.mono Hbw.out.size))
         have hS:w12.drew.cell? ⟨1,0,none⟩ = some (.iface 211 (.pointer (some (adr 1)))):=e1
         clear hbd e1
         generalize w12.drew = wd at *
         have cO9:=rowc RO.out;have fO9:=rowf RO.out
         refine AnyE.take (i:=0) (v:=?_) rfl (by kernel_rfl) (by kernel_rfl) (by kernel_rfl) (by kernel_rfl) (by kernel_rfl) (fun _ _ _ h=>h) (Or.inl ⟨by rfl,?_⟩) hS ?_
         rotate_left
         focus (intro wq hSq;go_simp;with_reducible rfl)
         try simp only [Act.put,List.getElem_toArray,List.getElem_cons_succ,List.getElem_cons_zero,List.setIfInBounds_toArray,List.set_cons_zero,List.set_cons_succ]
         refine AnyE.take (i:=1) (v:=?_) rfl (by kernel_rfl) (by kernel_rfl) (by kernel_rfl) (by kernel_rfl) (by kernel_rfl) (fun _ _ _ h=>h) (Or.inl ⟨by rfl,?_⟩) hS ?_
         rotate_left
         focus (intro wq hSq;go_simp;with_reducible rfl)
         try simp only [Act.put,List.getElem_toArray,List.getElem_cons_succ,List.getElem_cons_zero,List.setIfInBounds_toArray,List.set_cons_zero,List.set_cons_succ]
         refine AnyE.one (i:=2) (by kernel_rfl) rfl rfl ?_
         intro K hK
         simp only [List.getElem_toArray,List.getElem_cons_succ,List.getElem_cons_zero]
         go_simp
         refine hK _ _ (fun _=>cell_set4 hnb hS _ _ _ _) ?_
         clear hK K
         try simp only [Act.put,List.getElem_toArray,List.getElem_cons_succ,List.getElem_cons_zero,List.setIfInBounds_toArray,List.set_cons_zero,List.set_cons_succ]
         refine AnyE.take (i:=3) (v:=?_) rfl (by kernel_rfl) (by kernel_rfl) (by kernel_rfl) (by kernel_rfl) (by kernel_rfl) (fun _ _ _ h=>h) (Or.inl ⟨by rfl,?_⟩) (cell_set4 hnb hS _ _ _ _) ?_
         rotate_left
         focus (intro wq hSq;go_simp;with_reducible rfl)
         try simp only [Act.put,List.getElem_toArray,List.getElem_cons_succ,List.getElem_cons_zero,List.setIfInBounds_toArray,List.set_cons_zero,List.set_cons_succ]
         refine AnyE.take (i:=4) (v:=?_) rfl (by kernel_rfl) (by kernel_rfl) (by kernel_rfl) (by kernel_rfl) (by kernel_rfl) (fun _ _ _ h=>h) (Or.inl ⟨by rfl,?_⟩) (cell_set4 hnb hS _ _ _ _) ?_
         rotate_left
         focus (intro wq hSq;go_simp;with_reducible rfl)
         try simp only [Act.put,List.getElem_toArray,List.getElem_cons_succ,List.getElem_cons_zero,List.setIfInBounds_toArray,List.set_cons_zero,List.set_cons_succ]
         refine AnyE.done (by kernel_rfl) ?_ _
         go_wp2_with fail
         refine bodyPost_ret (v:=.tuple #[(.agg #[.int .i64 0,.slice none 0 0,.slice none 0 0,.slice none 0 0]),.int .i64 0,(.iface 211 (.pointer (some (adr 1))))]) ?_ rfl ⟨PgRet.bad HR.out,?_⟩
         focus (refine res_cell2 Tryz.results6 _ _ (w.heap.size + 1) 29 _ (0,0) _ _ _ ?_ ?_ ?_ ?_ Tryz.underlying29 rfl (by kernel_rfl);(focus (simp only [Array.getD_eq_getD_getElem?,List.getElem?_toArray,List.getElem?_cons_succ,List.getElem?_cons_zero,Option.getD_some]));(focus (simp only [Array.getD_eq_getD_getElem?,List.getElem?_toArray,List.getElem?_cons_succ,List.getElem?_cons_zero,Option.getD_some]));(focus (simp only [Array.getD_eq_getD_getElem?,List.getElem?_toArray,List.getElem?_cons_succ,List.getElem?_cons_zero,Option.getD_some]));with_reducible exact row_set4 RO.out rfl _ _ _ _)
         focus (with_reducible exact below_set4 Hbw.out _ (Nat.le_succ _) _ _ _ _)
       have HCa:=Lib.hid (fun w1 h hcc=>(HCk w1 h hcc).mono fun e w' ⟨⟨u,hu1,hu2⟩,hb⟩=>show e = Ending.returned .nilIface ∧ Below w1.heap.size w1 w' from ⟨by rw [hu1];rw [(GErr.isNil_iff _).1 hce] at hu2;rw [show u = .nilIface from hu2],hb⟩)
       obtain ⟨ks,hks⟩:∃ s:St,s = knownSt c:=⟨_,rfl⟩
       have HK:=fun w1 (h:Below w.heap.size w w1) (hcc:IsCol w1 (.agg #[.int .i64 f.id,(.slice b1 n1 c1),(.slice b2 n2 c2),(.slice b3 n3 c3)]) c)=>knownS_any c _ w1 hcc Hco.out
       rw [← hks] at HK
       unfold stA at HK
       have HKn:=Lib.hid HK
       have Hce:=Lib.hid hce
       clear HK HCk hce
       rw [← hks] at Hv4
       clear hks
       by_cases hst:stEq ks ⟨(te:Nat),(tn:Nat),th,lo,hi⟩ = true
       case neg =>
        have HR:=Lib.hid (pageR_n HRt.out Hb.out (Hv4.out.trans (if_neg fun h=>hst h.2)))
        have he:∀ wx,(binOp .neq 43 (.agg (stA ks)) (.agg (stA ⟨(te:Nat),(tn:Nat),th,lo,hi⟩))).run Tryz.prog wx = .ok (.bool true) wx:=fun wx=>by rw [neq_st,show stEq ks ⟨(te:Nat),(tn:Nat),th,lo,hi⟩ = false by simpa using hst];rfl
        unfold stA at he
        clear hst
        go_region_held3 (fun w'=>(∀ j,w'.cell? ⟨w.heap.size,j,none⟩ = (#[.int .i64 f.id,.int .i64 f.kind,.int .i64 f.mr,.int .i64 f.md,p]:Array Value)[j]?) ∧ (∀ j,w'.cell? ⟨w.heap.size + 1,j,none⟩ = (#[.int .i64 f.id,(.slice b1 n1 c1),(.slice b2 n2 c2),(.slice b3 n3 c3)]:Array Value)[j]?) ∧ (∀ j,w'.cell? ⟨gT,j,none⟩ = (#[.int .i64 (te:Nat),.int .i64 (tn:Nat),.bool th,.int .i64 lo.k,.int .i64 lo.n,.string lo.s,.int .i64 hi.k,.int .i64 hi.n,.string hi.s]:Array Value)[j]?)) (first | (with_reducible exact ⟨rowc RL.out,rowc RO.out,rowc RT.out⟩) | (with_reducible exact ⟨rowc_drew RL.out,rowc_drew RO.out,rowc_drew RT.out⟩))
         (first
         | (go_at_call 21;(with_reducible refine (HCa.out _ ?_ ?_).mono ?_);(focus (first | (with_reducible exact Hbw.out) | (with_reducible exact Hbw.out.drew)));(focus (first | (with_reducible exact HCol.out) | (with_reducible exact HCold.out)));rintro e9 w12 ⟨rfl,hb9⟩;(first | (with_reducible have hbs:=drew_first hb9) | (have hbs:=hb9));replace RL:=Lib.hid (row_keep hbs RL.out);replace RO:=Lib.hid (row_keep hbs RO.out);replace RT:=Lib.hid (row_keep hbs RT.out);replace HU1:=Lib.hid (ownBelow HU1.out hbs);replace HU2:=Lib.hid (ownBelow HU2.out hbs);replace HU3:=Lib.hid (ownBelow HU3.out hbs);replace HCol:=Lib.hid (HCol.out.below hbs (Nat.le_refl _));replace Hbw:=Lib.hid (Hbw.out.trans (hbs.mono Hbw.out.size));clear hb9 hbs)
         | (go_at_call 22;(with_reducible refine (HKn.out _ ?_ ?_).mono ?_);(focus (first | (with_reducible exact Hbw.out) | (with_reducible exact Hbw.out.drew)));(focus (first | (with_reducible exact HCol.out) | (with_reducible exact HCold.out)));rintro e9 w13 ⟨rfl,hb9⟩;(first | (with_reducible have hbs:=drew_first hb9) | (have hbs:=hb9));replace RL:=Lib.hid (row_keep hbs RL.out);replace RO:=Lib.hid (row_keep hbs RO.out);replace RT:=Lib.hid (row_keep hbs RT.out);replace HU1:=Lib.hid (ownBelow HU1.out hbs);replace HU2:=Lib.hid (ownBelow HU2.out hbs);replace HU3:=Lib.hid (ownBelow HU3.out hbs);replace HCol:=Lib.hid (HCol.out.below hbs (Nat.le_refl _));replace Hbw:=Lib.hid (Hbw.out.trans (hbs.mono Hbw.out.size));clear hb9 hbs))
        clear cL fL cO fO cT fT
        have cL:=rowc RL.out;have fL:=rowf RL.out;have cO:=rowc RO.out;have fO:=rowf RO.out;have cT:=rowc RT.out;have fT:=rowf RT.out
        go_upto_region 24 with fail
        have e1:w13.cell? ⟨1,0,none⟩ = some (.iface 211 (.pointer (some (adr 1)))):=(HE.out.below Hbw.out).cell 1 (by decide)
        have hnb:(1:Nat) ≠ w.heap.size + 1:=Nat.ne_of_lt (Nat.lt_succ_of_lt hg1)
        refine AnyE.region (S:=fun w'=>w'.cell? ⟨1,0,none⟩ = some (.iface 211 (.pointer (some (adr 1))))) (E:=[]) (by kernel_rfl) ?_
        have hbd:=(Below.refl w13.heap.size w13).drew
        replace RO:=Lib.hid (row_keep hbd RO.out);replace Hbw:=Lib.hid (Hbw.out.trans (hbd.mono Hbw.out.size))
        have hS:w13.drew.cell? ⟨1,0,none⟩ = some (.iface 211 (.pointer (some (adr 1)))):=e1
        clear hbd e1
        generalize w13.drew = wd at *
        have cO9:=rowc RO.out;have fO9:=rowf RO.out
        refine AnyE.take (i:=0) (v:=?_) rfl (by kernel_rfl) (by kernel_rfl) (by kernel_rfl) (by kernel_rfl) (by kernel_rfl) (fun _ _ _ h=>h) (Or.inl ⟨by rfl,?_⟩) hS ?_
        rotate_left
        focus (intro wq hSq;go_simp;with_reducible rfl)
        try simp only [Act.put,List.getElem_toArray,List.getElem_cons_succ,List.getElem_cons_zero,List.setIfInBounds_toArray,List.set_cons_zero,List.set_cons_succ]
        refine AnyE.take (i:=1) (v:=?_) rfl (by kernel_rfl) (by kernel_rfl) (by kernel_rfl) (by kernel_rfl) (by kernel_rfl) (fun _ _ _ h=>h) (Or.inl ⟨by rfl,?_⟩) hS ?_
        rotate_left
        focus (intro wq hSq;go_simp;with_reducible rfl)
        try simp only [Act.put,List.getElem_toArray,List.getElem_cons_succ,List.getElem_cons_zero,List.setIfInBounds_toArray,List.set_cons_zero,List.set_cons_succ]
        refine AnyE.one (i:=2) (by kernel_rfl) rfl rfl ?_
        intro K hK
        simp only [List.getElem_toArray,List.getElem_cons_succ,List.getElem_cons_zero]
        go_simp
        refine hK _ _ (fun _=>cell_set4 hnb hS _ _ _ _) ?_
        clear hK K
        try simp only [Act.put,List.getElem_toArray,List.getElem_cons_succ,List.getElem_cons_zero,List.setIfInBounds_toArray,List.set_cons_zero,List.set_cons_succ]
        refine AnyE.take (i:=3) (v:=?_) rfl (by kernel_rfl) (by kernel_rfl) (by kernel_rfl) (by kernel_rfl) (by kernel_rfl) (fun _ _ _ h=>h) (Or.inl ⟨by rfl,?_⟩) (cell_set4 hnb hS _ _ _ _) ?_
        rotate_left
        focus (intro wq hSq;go_simp;with_reducible rfl)
        try simp only [Act.put,List.getElem_toArray,List.getElem_cons_succ,List.getElem_cons_zero,List.setIfInBounds_toArray,List.set_cons_zero,List.set_cons_succ]
        refine AnyE.take (i:=4) (v:=?_) rfl (by kernel_rfl) (by kernel_rfl) (by kernel_rfl) (by kernel_rfl) (by kernel_rfl) (fun _ _ _ h=>h) (Or.inl ⟨by rfl,?_⟩) (cell_set4 hnb hS _ _ _ _) ?_
        rotate_left
        focus (intro wq hSq;go_simp;with_reducible rfl)
        try simp only [Act.put,List.getElem_toArray,List.getElem_cons_succ,List.getElem_cons_zero,List.setIfInBounds_toArray,List.set_cons_zero,List.set_cons_succ]
        refine AnyE.done (by kernel_rfl) ?_ _
        go_wp2_with fail
        refine bodyPost_ret (v:=.tuple #[(.agg #[.int .i64 0,.slice none 0 0,.slice none 0 0,.slice none 0 0]),.int .i64 0,(.iface 211 (.pointer (some (adr 1))))]) ?_ rfl ⟨PgRet.bad HR.out,?_⟩
        focus (refine res_cell2 Tryz.results6 _ _ (w.heap.size + 1) 29 _ (0,0) _ _ _ ?_ ?_ ?_ ?_ Tryz.underlying29 rfl (by kernel_rfl);(focus (simp only [Array.getD_eq_getD_getElem?,List.getElem?_toArray,List.getElem?_cons_succ,List.getElem?_cons_zero,Option.getD_some]));(focus (simp only [Array.getD_eq_getD_getElem?,List.getElem?_toArray,List.getElem?_cons_succ,List.getElem?_cons_zero,Option.getD_some]));(focus (simp only [Array.getD_eq_getD_getElem?,List.getElem?_toArray,List.getElem?_cons_succ,List.getElem?_cons_zero,Option.getD_some]));with_reducible exact row_set4 RO.out rfl _ _ _ _)
        focus (with_reducible exact below_set4 Hbw.out _ (Nat.le_succ _) _ _ _ _)
       have HR:=Lib.hid (pageR_ok HRt.out Hb.out (Hv4.out.trans (if_pos ⟨Hce.out,hst⟩)))
       have he:∀ wx,(binOp .neq 43 (.agg (stA ks)) (.agg (stA ⟨(te:Nat),(tn:Nat),th,lo,hi⟩))).run Tryz.prog wx = .ok (.bool false) wx:=fun wx=>by rw [neq_st,hst];rfl
       unfold stA at he
       clear hst
       go_region_held3 (fun w'=>(∀ j,w'.cell? ⟨w.heap.size,j,none⟩ = (#[.int .i64 f.id,.int .i64 f.kind,.int .i64 f.mr,.int .i64 f.md,p]:Array Value)[j]?) ∧ (∀ j,w'.cell? ⟨w.heap.size + 1,j,none⟩ = (#[.int .i64 f.id,(.slice b1 n1 c1),(.slice b2 n2 c2),(.slice b3 n3 c3)]:Array Value)[j]?) ∧ (∀ j,w'.cell? ⟨gT,j,none⟩ = (#[.int .i64 (te:Nat),.int .i64 (tn:Nat),.bool th,.int .i64 lo.k,.int .i64 lo.n,.string lo.s,.int .i64 hi.k,.int .i64 hi.n,.string hi.s]:Array Value)[j]?)) (first | (with_reducible exact ⟨rowc RL.out,rowc RO.out,rowc RT.out⟩) | (with_reducible exact ⟨rowc_drew RL.out,rowc_drew RO.out,rowc_drew RT.out⟩))
        (first
        | (go_at_call 21;(with_reducible refine (HCa.out _ ?_ ?_).mono ?_);(focus (first | (with_reducible exact Hbw.out) | (with_reducible exact Hbw.out.drew)));(focus (first | (with_reducible exact HCol.out) | (with_reducible exact HCold.out)));rintro e9 w12 ⟨rfl,hb9⟩;(first | (with_reducible have hbs:=drew_first hb9) | (have hbs:=hb9));replace RL:=Lib.hid (row_keep hbs RL.out);replace RO:=Lib.hid (row_keep hbs RO.out);replace RT:=Lib.hid (row_keep hbs RT.out);replace HU1:=Lib.hid (ownBelow HU1.out hbs);replace HU2:=Lib.hid (ownBelow HU2.out hbs);replace HU3:=Lib.hid (ownBelow HU3.out hbs);replace HCol:=Lib.hid (HCol.out.below hbs (Nat.le_refl _));replace Hbw:=Lib.hid (Hbw.out.trans (hbs.mono Hbw.out.size));clear hb9 hbs)
        | (go_at_call 22;(with_reducible refine (HKn.out _ ?_ ?_).mono ?_);(focus (first | (with_reducible exact Hbw.out) | (with_reducible exact Hbw.out.drew)));(focus (first | (with_reducible exact HCol.out) | (with_reducible exact HCold.out)));rintro e9 w13 ⟨rfl,hb9⟩;(first | (with_reducible have hbs:=drew_first hb9) | (have hbs:=hb9));replace RL:=Lib.hid (row_keep hbs RL.out);replace RO:=Lib.hid (row_keep hbs RO.out);replace RT:=Lib.hid (row_keep hbs RT.out);replace HU1:=Lib.hid (ownBelow HU1.out hbs);replace HU2:=Lib.hid (ownBelow HU2.out hbs);replace HU3:=Lib.hid (ownBelow HU3.out hbs);replace HCol:=Lib.hid (HCol.out.below hbs (Nat.le_refl _));replace Hbw:=Lib.hid (Hbw.out.trans (hbs.mono Hbw.out.size));clear hb9 hbs))
       clear cL fL cO fO cT fT
       have cL:=rowc RL.out;have fL:=rowf RL.out;have cO:=rowc RO.out;have fO:=rowf RO.out;have cT:=rowc RT.out;have fT:=rowf RT.out
       go_wp2_with fail
       refine bodyPost_ret (v:=.tuple #[.agg #[.int .i64 f.id,(.slice b1 n1 c1),(.slice b2 n2 c2),(.slice b3 n3 c3)],.int .i64 (used:Nat),.nilIface]) ?_ rfl ⟨PgRet.good HR.out ?_,?_⟩
       focus (refine results_row_tmp2 Tryz.results6 _ _ (w.heap.size + 1) 29 _ (0,0) _ rfl ?_ Tryz.underlying29 rfl (by kernel_rfl);with_reducible exact row_set4 RO.out rfl _ _ _ _)
       focus (rw [Hcq.out];exact ⟨_,_,_,rfl,nums_nat (ownK HU1.out fun i hi _=>set4_other (by omega) _ _ _ _),nums_nat (ownK HU2.out fun i hi _=>set4_other (by omega) _ _ _ _),IsVals.of_own (ownK HU3.out fun i hi _=>set4_other (by omega) _ _ _ _)⟩)
       focus (with_reducible exact below_set4 Hbw.out _ (Nat.le_succ _) _ _ _ _)
end Go.Proofs.YtapiabmmfmfaeaaGreatDoor
