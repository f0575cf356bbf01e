/- Merged texts: OwnR, Slim, AppW. -/
import Derived.Test.YtdcgihplkangeaaGreatDoorMRef
import Derived.Test.YtdcgihplkangeaaGreatDoorMRow
import Derived.Deep.RegionHeld3
import Derived.Laws.Closers25b
import Derived.Deep.AppendLies
/- Rows of the call's own, by their place: what is kept where other blocks change; appending a list that came in onto one. -/
namespace Go.Proofs.YtdcgihplkangeaaGreatDoor
set_option maxHeartbeats 4000000
set_option linter.unusedVariables false
open Go Go.RowKit Go.ChangeShapes
def iV (x:Int):Value:=.int .i64 x
theorem info_iV:(Tryz.prog.info? 3).map (fun i=>(i.zero,i.size,i.bytes)) = some (some (.int .i64 0),1,8):=by kernel_rfl
theorem ownK {w w':World} {B n s:Nat} {e:TypeId} {v:Value} {xs:List Value} (h:w.ownsRow B e s v n xs) (hk:∀ i,B ≤ i → i < w.heap.size → w'.heap[i]? = w.heap[i]?):w'.ownsRow B e s v n xs:=by
 refine ⟨h.1,?_⟩
 rcases h.2 with h2 | ⟨g,cap,cur,h1,h2,h3,h4⟩
 ·exact .inl h2
 ·exact .inr ⟨g,cap,cur,h1,h2,(hk g h2 (row_lt h3)).trans h3,h4⟩
theorem ownBelow {w w':World} {B n s:Nat} {e:TypeId} {v:Value} {xs:List Value} (h:w.ownsRow B e s v n xs) (hb:Below w.heap.size w w'):w'.ownsRow B e s v n xs :=
 ownK h fun i _ hi=>hb.block i hi
theorem own_cap {w:World} {B n s:Nat} {e:TypeId} {v:Value} {xs:List Value} (h:w.ownsRow B e s v n xs):∃ b c,v = .slice b n c ∧ n ≤ c:=by
 rcases h.2 with ⟨rfl,rfl⟩ | ⟨g,cap,cur,rfl,_,_,h4,_⟩
 ·exact ⟨none,0,rfl,Nat.le_refl _⟩
 ·exact ⟨_,cap,rfl,h4⟩
theorem grownBy_refl (w:World) (k:Option Nat):w.grownBy w k:=⟨rfl,rfl,rfl,Nat.le_refl _,fun _ _ _=>rfl⟩
theorem wpList_appI {w:World} {ops:Array Oper} {rest:List Oper} {o:Oper} {a:Act} {Q:Exit → Act → World → Prop} (hg:o.guard = none) (s x:Operand)
  (ho:o.op = .call { callee:=.builtin .append,args:=#[s,x],argTypes:=#[22,22] }) (B:Nat) (v:Value) (l0:List Int) (hs:a.eval s = v) (hown:w.ownsRow B 3 1 v l0.length (l0.map iV))
  (u:Value) (l:List Int) (hx:a.eval x = u) (hI:IsInts w u l) (h8:(l0.length + l.length) * 8 ≤ 140737488355328) (hB:B ≤ w.heap.size)
  (h:∀ v' w',w'.ownsRow B 3 1 v' (l0 ++ l).length ((l0 ++ l).map iV) → w.grownBy w' v.ownBlock → (∃ ad cap,v' = .slice ad (l0.length + l.length) cap) → wpList Tryz.prog ops Q rest (a.put o.dst v') w'):wpList Tryz.prog ops Q (o :: rest) a w:=by
 obtain ⟨i0,hi,hz0,hz1,hz2⟩:=info_parts info_iV
 rcases hI with ⟨rfl,ad,cap,rfl⟩ | ⟨b,off,cap,rfl,hlt,hc⟩
 ·obtain ⟨vb,vc,rfl,hvc⟩:=own_cap hown
  refine wpList_plain hg fun K hK=>?_
  unfold Oper.wp execOp
  have hr:=run_append_none (P:=Tryz.prog) w 22 o.type 3 0 i0 Tryz.underlying22 hi vb l0.length vc ad cap hvc
  simp only [ho,resolve,invoke,builtin,Sem.run_bind,Sem.run_pure,Result.andThen_ok,List.map_toArray,List.map_cons,List.map_nil,hs,hx,hr]
  exact hK _ _ (h _ _ (by simpa using hown) (grownBy_refl _ _) ⟨vb,vc,by simp⟩)
 ·refine wpList_append_own _ hg s x 22 ho B 3 i0 (.int .i64 0) 1 8 Tryz.underlying22 hi hz0 hz1 hz2 rfl (by decide) v l0.length _ hs hown ⟨b,off,none⟩ l.length cap (l.map iV) hx (by simp) ?_ (one_map (fun _=>rfl) l) (by unfold maxLen;omega) h8 hB ?_
  ·intro j u hj
   rw [List.getElem?_map] at hj
   cases hlj:l[j]? with
   | none=>simp [hlj] at hj
   | some x =>
    simp [hlj] at hj
    subst hj
    rw [Go.WideShapes.add_plain];exact hc j x hlj
  ·intro v' w' h1 h2 _
   obtain ⟨vb,vc,e,_⟩:=own_cap h1
   exact h v' w' (by simpa using h1) h2 ⟨vb,vc,e⟩
theorem wpList_appV {w:World} {ops:Array Oper} {rest:List Oper} {o:Oper} {a:Act} {Q:Exit → Act → World → Prop} (hg:o.guard = none) (s x:Operand)
  (ho:o.op = .call { callee:=.builtin .append,args:=#[s,x],argTypes:=#[25,25] }) (B:Nat) (v:Value) (l0:List Val) (hs:a.eval s = v) (hown:w.ownsRow B 62 3 v l0.length (l0.flatMap valCells))
  (u:Value) (l:List Val) (hx:a.eval x = u) (hI:IsVals w u l) (h8:(l0.length + l.length) * 32 ≤ 140737488355328) (hB:B ≤ w.heap.size)
  (h:∀ v' w',w'.ownsRow B 62 3 v' (l0 ++ l).length ((l0 ++ l).flatMap valCells) → w.grownBy w' v.ownBlock → (∃ ad cap,v' = .slice ad (l0.length + l.length) cap) → wpList Tryz.prog ops Q rest (a.put o.dst v') w'):wpList Tryz.prog ops Q (o :: rest) a w:=by
 obtain ⟨i0,hi,hz0,hz1,hz2⟩:=val_infoB
 rcases hI with ⟨rfl,ad,cap,rfl⟩ | ⟨b,off,cap,rfl,hlt,hc⟩
 ·obtain ⟨vb,vc,rfl,hvc⟩:=own_cap hown
  refine wpList_plain hg fun K hK=>?_
  unfold Oper.wp execOp
  have hr:=run_append_none (P:=Tryz.prog) w 25 o.type 62 0 i0 Tryz.underlying25 hi vb l0.length vc ad cap hvc
  simp only [ho,resolve,invoke,builtin,Sem.run_bind,Sem.run_pure,Result.andThen_ok,List.map_toArray,List.map_cons,List.map_nil,hs,hx,hr]
  exact hK _ _ (h _ _ (by simpa using hown) (grownBy_refl _ _) ⟨vb,vc,by simp⟩)
 ·refine wpList_append_own _ hg s x 25 ho B 62 i0 (.agg #[.int .i64 0,.int .i64 0,.string ByteArray.empty]) 3 32 Tryz.underlying25 hi hz0 hz1 hz2 rfl (by decide) v l0.length _ hs hown ⟨b,off,none⟩ l.length cap (l.flatMap valCells) hx (by rw [flat_len]) ?_ (flat_one l) (by unfold maxLen;omega) h8 hB ?_
  ·intro j u hj
   rw [Go.WideShapes.add_plain];exact flat_cell l off hc j u hj
  ·intro v' w' h1 h2 _
   obtain ⟨vb,vc,e,_⟩:=own_cap h1
   exact h v' w' (by simpa using h1) h2 ⟨vb,vc,e⟩
end Go.Proofs.YtdcgihplkangeaaGreatDoor
/- The walks of the laws' slim, ints, ownLeaf and of the document's OwnColumn. -/
namespace Go.Proofs.YtdcgihplkangeaaGreatDoor
set_option maxHeartbeats 4000000
set_option linter.unusedVariables false
open Go Go.RowKit Go.ChangeShapes
theorem IsInts_of_own {w:World} {B:Nat} {v:Value} {l:List Int} (h:w.ownsRow B 3 1 v l.length (l.map iV)):IsInts w v l:=IsNums.of_own (B:=B) (e:=3) h
structure Col.Reach (c:Col):Prop where
 rep:c.rep.length * 8 ≤ 140737488355328
 df:c.df.length * 8 ≤ 140737488355328
 vals:c.vals.length * 32 ≤ 140737488355328
set_option maxRecDepth 100000 in
theorem ints_own (v:Value) (l:List Int) (w:World) (hI:IsInts w v l) (h8:l.length * 8 ≤ 140737488355328) :
  Calls Tryz.prog 32 #[v] w fun e w'=>(∃ u,e = .returned u ∧ w'.ownsRow w.heap.size 3 1 u l.length (l.map iV)) ∧ Below w.heap.size w w':=by
 have HI:=Lib.hid hI
 clear hI
 go_enter Tryz.func32,Tryz.ntmps32
 go_wp2_with (at_builtin;refine wpList_appI rfl _ _ rfl w.heap.size (.slice none 0 0) [] rfl (World.ownsRow_nil _ _ _ _) v l rfl HI.out (by simpa using h8) (Nat.le_refl _) ?_;intro v' w2 ho hg _;have HO:=Lib.hid ho;have HG:=Lib.hid hg;clear ho hg)
 go_ret
 refine ⟨⟨_,rfl,by simpa using HO.out⟩,(Below.refl w.heap.size w).grown HG.out (Nat.le_refl _) (fun k hk=>by simp [Value.ownBlock] at hk)⟩
theorem set5_row {w:World} {g:Nat} {cs:Array Value} {t:TypeId} (hg:w.heap[g]? = some (.cells cs t (0,0))) (hsz:cs.size = 5) (x0 x1 x2 x3 x4:Value) :
  (((((w.setCell ⟨g,0,none⟩ x0).setCell ⟨g,1,none⟩ x1).setCell ⟨g,2,none⟩ x2).setCell ⟨g,3,none⟩ x3).setCell ⟨g,4,none⟩ x4).heap[g]? = some (.cells #[x0,x1,x2,x3,x4] t (0,0)):=by
 obtain ⟨a,-⟩:=setCells_row g t [x0,x1,x2,x3,x4] w cs 0 hg
 rw [setPart_eq _ _ _ (by simp;omega)] at a
 refine Eq.trans a ?_
 obtain ⟨L⟩:=cs
 have hL:L.length = 5:=by simpa using hsz
 simp [setPart,List.drop_of_length_le (Nat.le_of_eq hL)]
theorem rowc_set5 {w:World} {g k:Nat} {cs:Array Value} {t:TypeId} (hg:w.heap[g]? = some (.cells cs t (0,0))) (hne:g ≠ k) (x0 x1 x2 x3 x4:Value) :
  ∀ j,(((((w.setCell ⟨k,0,none⟩ x0).setCell ⟨k,1,none⟩ x1).setCell ⟨k,2,none⟩ x2).setCell ⟨k,3,none⟩ x3).setCell ⟨k,4,none⟩ x4).cell? ⟨g,j,none⟩ = cs[j]?:=by
 refine rowc (t:=t) ?_
 rw [heap_setCell_other _ _ _ _ hne,heap_setCell_other _ _ _ _ hne,heap_setCell_other _ _ _ _ hne,heap_setCell_other _ _ _ _ hne,heap_setCell_other _ _ _ _ hne]
 exact hg
theorem set5_otherS {w:World} {g k:Nat} (hne:g ≠ k) (x0 x1 x2 x3 x4:Value):(((((w.setCell ⟨k,0,none⟩ x0).setCell ⟨k,1,none⟩ x1).setCell ⟨k,2,none⟩ x2).setCell ⟨k,3,none⟩ x3).setCell ⟨k,4,none⟩ x4).heap[g]? = w.heap[g]?:=by
 rw [heap_setCell_other _ _ _ _ hne,heap_setCell_other _ _ _ _ hne,heap_setCell_other _ _ _ _ hne,heap_setCell_other _ _ _ _ hne,heap_setCell_other _ _ _ _ hne]
theorem below_set5S {w:World} {B:Nat} {a:World} (h:Below B a w) (g:Nat) (hg:B ≤ g) (x0 x1 x2 x3 x4:Value):Below B a (((((w.setCell ⟨g,0,none⟩ x0).setCell ⟨g,1,none⟩ x1).setCell ⟨g,2,none⟩ x2).setCell ⟨g,3,none⟩ x3).setCell ⟨g,4,none⟩ x4) :=
 ((((h.setCell hg x0).setCell hg x1).setCell hg x2).setCell hg x3).setCell hg x4
set_option maxRecDepth 100000 in
theorem ownLeaf_any (f:Lf) (vf:Value) (w:World) (hf:IsLf w vf f) (hp:f.path.length ≤ 100) :
  Calls Tryz.prog 11 #[vf] w fun e w'=>(∃ u,e = .returned u ∧ IsLf w' u f) ∧ Below w.heap.size w w':=by
 obtain ⟨p,rfl,hI⟩:=hf
 have HI:=Lib.hid hI
 have HC:=Lib.hid (fun w1 (h:Below w.heap.size w w1)=>ints_own p f.path w1 (HI.out.below h (Nat.le_refl _)) (by omega))
 clear hI hp
 unfold lfA
 go_enter Tryz.func11,Tryz.ntmps11
 go_upto_region 1 with fail
 have RA:Hid (((w.alloc (.cells #[.int .i64 f.id,.int .i64 f.kind,.int .i64 f.mr,.int .i64 f.md,p] 24)).alloc (.cells #[.int .i64 0,.int .i64 0,.int .i64 0,.int .i64 0,.slice none 0 0] 39)).heap[w.heap.size]? = some (.cells #[.int .i64 f.id,.int .i64 f.kind,.int .i64 f.mr,.int .i64 f.md,p] 24 (0,0))):=Lib.hid (rows2 (Below.refl _ _)).1
 have RB:=Lib.hid (rows2 (w:=w) (A:=.cells #[.int .i64 f.id,.int .i64 f.kind,.int .i64 f.mr,.int .i64 f.md,p] 24) (B:=.cells #[.int .i64 0,.int .i64 0,.int .i64 0,.int .i64 0,.slice none 0 0] 39) (Below.refl _ _)).2.1
 have Hbw:=Lib.hid (rows2 (w:=w) (A:=.cells #[.int .i64 f.id,.int .i64 f.kind,.int .i64 f.mr,.int .i64 f.md,p] 24) (B:=.cells #[.int .i64 0,.int .i64 0,.int .i64 0,.int .i64 0,.slice none 0 0] 39) (Below.refl _ _)).2.2.1
 generalize ((w.alloc (.cells #[.int .i64 f.id,.int .i64 f.kind,.int .i64 f.mr,.int .i64 f.md,p] 24)).alloc (.cells #[.int .i64 0,.int .i64 0,.int .i64 0,.int .i64 0,.slice none 0 0] 39)) = w1 at *
 have hg1:=row_lt RB.out
 have cA:=rowc RA.out;have fB:=rowf RB.out;have cB:=rowc RB.out
 go_cut [] (fun wx=>∃ u,IsInts wx u f.path ∧ wx.heap[w.heap.size + 1]? = some (.cells #[.int .i64 f.id,.int .i64 f.kind,.int .i64 f.mr,.int .i64 f.md,u] 39 (0,0)) ∧ Below w.heap.size w wx)
 case first =>
  have HB:=Lib.hid (Below.refl w1.heap.size w1)
  go_region_held3 (fun w'=>(∀ j,w'.cell? ⟨w.heap.size,j,none⟩ = (#[.int .i64 f.id,.int .i64 f.kind,.int .i64 f.mr,.int .i64 f.md,p]:Array Value)[j]?))
   (first | (with_reducible exact rowc RA.out) | (with_reducible exact rowc_drew RA.out) | ((with_reducible refine rowc_set5 RA.out ?_ _ _ _ _ _) <;> omega))
   (first
   | (go_at_call 32;(with_reducible refine (HC.out _ ?_).mono ?_);(focus (first | exact (Hbw.out.trans (HB.out.mono Hbw.out.size)) | exact (Hbw.out.trans (HB.out.mono Hbw.out.size)).drew));rintro e w9 ⟨⟨u,rfl,hu⟩,hb9⟩;(first | (with_reducible have hbs:=drew_first hb9) | (have hbs:=hb9));obtain ⟨ad9,cp9,hu9⟩:=(IsInts_of_own hu).form;subst hu9;have HU:=Lib.hid hu;replace RA:=Lib.hid (row_keep hbs RA.out);replace RB:=Lib.hid (row_keep hbs RB.out);replace HB:=Lib.hid (HB.out.trans (hbs.mono HB.out.size));clear hb9 hbs hu;replace cB:=rowc RB.out;replace fB:=rowf RB.out))
  all_goals (go_wp2_with fail;go_meet)
  all_goals
   refine ⟨_,?_,set5_row RB.out rfl _ _ _ _ _,below_set5S (Hbw.out.trans (HB.out.mono Hbw.out.size)) _ (by omega) _ _ _ _ _⟩
   exact IsInts_of_own (ownK HU.out fun i hi _=>set5_otherS (by first | omega | (simp at hi;omega)) _ _ _ _ _)
 case rest =>
  obtain ⟨u,hu,rU,hbu⟩:=hcut
  go_wp2_with fail
  refine bodyPost_ret (v:=.agg (lfA f u)) (results_cell_row Tryz.results11 _ _ (w.heap.size + 1) 39 _ (0,0) _ rfl rU Tryz.underlying39 rfl (by kernel_rfl)) rfl ⟨⟨_,rfl,u,rfl,hu⟩,hbu⟩
theorem own_room {w:World} {B n s n' cap:Nat} {e:TypeId} {ad:Option Addr} {xs:List Value} (h:w.ownsRow B e s (.slice ad n' cap) n xs):n' ≤ cap:=by
 obtain ⟨b,c,h1,h2⟩:=own_cap h
 injection h1 with _ e1 e2
 omega
def RoomCol (v:Value):Prop:=∀ i a b d,v = .agg #[i,a,b,d] → (∀ ad n cap,a = .slice ad n cap → n ≤ cap) ∧ (∀ ad n cap,b = .slice ad n cap → n ≤ cap)
theorem room_lit {i d:Value} {ad1 ad2:Option Addr} {n1 n2 c1 c2:Nat} (h1:n1 ≤ c1) (h2:n2 ≤ c2):RoomCol (.agg #[i,.slice ad1 n1 c1,.slice ad2 n2 c2,d]):=by
 intro i' a b d' h
 simp only [Value.agg.injEq,Array.mk.injEq,List.cons.injEq,and_true] at h
 obtain ⟨-,rfl,rfl,-⟩:=h
 refine ⟨fun ad n cap e=>?_,fun ad n cap e=>?_⟩ <;> injection e with _ e1 e2 <;> omega
set_option maxRecDepth 100000 in
theorem ownCol_cap (c:Col) (vc:Value) (w:World) (hc:IsCol w vc c) (cr:c.Reach) :
  Calls Tryz.prog 12 #[vc] w fun e w'=>(∃ u,e = .returned u ∧ IsCol w' u c ∧ RoomCol u) ∧ Below w.heap.size w w':=by
 obtain ⟨a,b,d,rfl,ha,hb,hd⟩:=hc
 have HA:=Lib.hid ha;have HB:=Lib.hid hb;have HD:=Lib.hid hd
 have h8a:=cr.rep;have h8b:=cr.df;have h8d:=cr.vals
 obtain ⟨a1,q1,e1⟩:=ha.form
 obtain ⟨a2,q2,e2⟩:=hb.form
 obtain ⟨a3,q3,e3⟩:=hd.form
 clear ha hb hd cr
 subst e1 e2 e3
 unfold colA
 go_enter Tryz.func12,Tryz.ntmps12
 go_upto_region 2 with fail
 obtain ⟨rI,rZ,rO,hbw,hz⟩:=rows3 (w:=w) (A:=(.cells #[.int .i64 c.id,.slice a1 c.rep.length q1,.slice a2 c.df.length q2,.slice a3 c.vals.length q3] 27)) (B:=(.cells #[.int .i64 0,.slice none 0 0,.slice none 0 0,.slice none 0 0] 27)) (C:=(.cells #[.int .i64 c.id,.slice none 0 0,.slice none 0 0,.slice none 0 0] 27)) (Below.refl _ _)
 have RI:=Lib.hid rI;have RZ:=Lib.hid rZ;have RO:=Lib.hid rO;have Hbw:=Lib.hid hbw
 have hsz:w.heap.size + 3 ≤ (((w.alloc (.cells #[.int .i64 c.id,.slice a1 c.rep.length q1,.slice a2 c.df.length q2,.slice a3 c.vals.length q3] 27)).alloc (.cells #[.int .i64 0,.slice none 0 0,.slice none 0 0,.slice none 0 0] 27)).alloc (.cells #[.int .i64 c.id,.slice none 0 0,.slice none 0 0,.slice none 0 0] 27)).heap.size:=hz
 clear rI rZ rO hbw hz
 generalize (((w.alloc (.cells #[.int .i64 c.id,.slice a1 c.rep.length q1,.slice a2 c.df.length q2,.slice a3 c.vals.length q3] 27)).alloc (.cells #[.int .i64 0,.slice none 0 0,.slice none 0 0,.slice none 0 0] 27)).alloc (.cells #[.int .i64 c.id,.slice none 0 0,.slice none 0 0,.slice none 0 0] 27)) = w1 at *
 have cI:=rowc RI.out;have cO:=rowc RO.out;have fO:=rowf RO.out
 go_upto_region 3 with (at_builtin;refine wpList_appI rfl _ _ rfl w1.heap.size (.slice none 0 0) [] rfl (World.ownsRow_nil _ _ _ _) (.slice a1 c.rep.length q1) c.rep rfl (HA.out.below Hbw.out (Nat.le_refl _)) (by simpa using h8a) (Nat.le_refl _) ?_;intro v1 x1 ho1 hg1 hf1;obtain ⟨ad1,cp1,hv1⟩:=hf1;subst hv1;have hbg:=(Below.refl w1.heap.size w1).grown hg1 (Nat.le_refl _) (fun k hk=>by cases hk);have HO1:=Lib.hid ho1;have Hbg:=Lib.hid hbg;clear ho1 hg1 hbg;replace RI:=Lib.hid (row_keep Hbg.out RI.out);replace RZ:=Lib.hid (row_keep Hbg.out RZ.out);replace RO:=Lib.hid (row_keep Hbg.out RO.out);have hsz1:=Nat.le_trans hsz Hbg.out.size;replace Hbw:=Lib.hid (Hbw.out.trans (Hbg.out.mono (by omega)));clear Hbg cI cO fO;have cI:=rowc RI.out;have cO:=rowc RO.out;have fO:=rowf RO.out)
 obtain ⟨s1,s2,s3,s4⟩:=store_cell_row (j:=1) (v:=.slice ad1 c.rep.length cp1) RO.out
 replace RI:=Lib.hid ((s2 _ (by omega)).trans RI.out);replace RZ:=Lib.hid ((s2 _ (by omega)).trans RZ.out);replace Hbw:=Lib.hid (Hbw.out.trans (s3.mono (by omega)))
 replace HO1:=Lib.hid (ownK HO1.out fun i hi _=>s2 i (by omega))
 replace RO:=Lib.hid (s1.trans (show _ = some (.cells #[.int .i64 c.id,.slice ad1 c.rep.length cp1,.slice none 0 0,.slice none 0 0] 27 (0,0)) from rfl))
 have hsz':=Nat.le_trans hsz1 (Nat.le_of_eq s4.symm)
 clear cI;clear cO;clear fO;clear s1;clear s2;clear s3;clear s4;clear hsz1
 generalize x1.setCell ⟨w.heap.size + 1 + 1,1,none⟩ (.slice ad1 c.rep.length cp1) = w2 at *
 have hq1:w.heap.size + 3 ≤ w1.heap.size:=hsz;clear hsz;have hsz:=hsz';clear hsz'
 have cI:=rowc RI.out;have cO:=rowc RO.out;have fO:=rowf RO.out
 go_upto_region 4 with (at_builtin;refine wpList_appI rfl _ _ rfl w2.heap.size (.slice none 0 0) [] rfl (World.ownsRow_nil _ _ _ _) (.slice a2 c.df.length q2) c.df rfl (HB.out.below Hbw.out (Nat.le_refl _)) (by simpa using h8b) (Nat.le_refl _) ?_;intro v2 x2 ho2 hg2 hf2;obtain ⟨ad2,cp2,hv2⟩:=hf2;subst hv2;have hbg:=(Below.refl w2.heap.size w2).grown hg2 (Nat.le_refl _) (fun k hk=>by cases hk);have HO2:=Lib.hid ho2;have Hbg:=Lib.hid hbg;clear ho2 hg2 hbg;replace HO1:=Lib.hid (ownBelow HO1.out Hbg.out);replace RI:=Lib.hid (row_keep Hbg.out RI.out);replace RZ:=Lib.hid (row_keep Hbg.out RZ.out);replace RO:=Lib.hid (row_keep Hbg.out RO.out);have hsz2:=Nat.le_trans hsz Hbg.out.size;replace Hbw:=Lib.hid (Hbw.out.trans (Hbg.out.mono (by omega)));clear Hbg cI cO fO;have cI:=rowc RI.out;have cO:=rowc RO.out;have fO:=rowf RO.out)
 obtain ⟨s1,s2,s3,s4⟩:=store_cell_row (j:=2) (v:=.slice ad2 c.df.length cp2) RO.out
 replace RI:=Lib.hid ((s2 _ (by omega)).trans RI.out);replace RZ:=Lib.hid ((s2 _ (by omega)).trans RZ.out);replace Hbw:=Lib.hid (Hbw.out.trans (s3.mono (by omega)))
 replace HO1:=Lib.hid (ownK HO1.out fun i hi _=>s2 i (by omega))
 replace HO2:=Lib.hid (ownK HO2.out fun i hi _=>s2 i (by omega))
 replace RO:=Lib.hid (s1.trans (show _ = some (.cells #[.int .i64 c.id,.slice ad1 c.rep.length cp1,.slice ad2 c.df.length cp2,.slice none 0 0] 27 (0,0)) from rfl))
 have hsz':=Nat.le_trans hsz2 (Nat.le_of_eq s4.symm)
 clear cI;clear cO;clear fO;clear s1;clear s2;clear s3;clear s4;clear hsz2
 generalize x2.setCell ⟨w.heap.size + 1 + 1,2,none⟩ (.slice ad2 c.df.length cp2) = w3 at *
 have hq2:w.heap.size + 3 ≤ w2.heap.size:=hsz;clear hsz;have hsz:=hsz';clear hsz'
 have cI:=rowc RI.out;have cO:=rowc RO.out;have fO:=rowf RO.out
 go_upto_region 5 with (at_builtin;refine wpList_appV rfl _ _ rfl w3.heap.size (.slice none 0 0) [] rfl (World.ownsRow_nil _ _ _ _) (.slice a3 c.vals.length q3) c.vals rfl (HD.out.below Hbw.out (Nat.le_refl _)) (by simpa using h8d) (Nat.le_refl _) ?_;intro v3 x3 ho3 hg3 hf3;obtain ⟨ad3,cp3,hv3⟩:=hf3;subst hv3;have hbg:=(Below.refl w3.heap.size w3).grown hg3 (Nat.le_refl _) (fun k hk=>by cases hk);have HO3:=Lib.hid ho3;have Hbg:=Lib.hid hbg;clear ho3 hg3 hbg;replace HO1:=Lib.hid (ownBelow HO1.out Hbg.out);replace HO2:=Lib.hid (ownBelow HO2.out Hbg.out);replace RI:=Lib.hid (row_keep Hbg.out RI.out);replace RZ:=Lib.hid (row_keep Hbg.out RZ.out);replace RO:=Lib.hid (row_keep Hbg.out RO.out);have hsz3:=Nat.le_trans hsz Hbg.out.size;replace Hbw:=Lib.hid (Hbw.out.trans (Hbg.out.mono (by omega)));clear Hbg cI cO fO;have cI:=rowc RI.out;have cO:=rowc RO.out;have fO:=rowf RO.out)
 obtain ⟨s1,s2,s3,s4⟩:=store_cell_row (j:=3) (v:=.slice ad3 c.vals.length cp3) RO.out
 replace RI:=Lib.hid ((s2 _ (by omega)).trans RI.out);replace RZ:=Lib.hid ((s2 _ (by omega)).trans RZ.out);replace Hbw:=Lib.hid (Hbw.out.trans (s3.mono (by omega)))
 replace HO1:=Lib.hid (ownK HO1.out fun i hi _=>s2 i (by omega))
 replace HO2:=Lib.hid (ownK HO2.out fun i hi _=>s2 i (by omega))
 replace HO3:=Lib.hid (ownK HO3.out fun i hi _=>s2 i (by omega))
 replace RO:=Lib.hid (s1.trans (show _ = some (.cells #[.int .i64 c.id,.slice ad1 c.rep.length cp1,.slice ad2 c.df.length cp2,.slice ad3 c.vals.length cp3] 27 (0,0)) from rfl))
 have hsz':=Nat.le_trans hsz3 (Nat.le_of_eq s4.symm)
 clear cI;clear cO;clear fO;clear s1;clear s2;clear s3;clear s4;clear hsz3
 generalize x3.setCell ⟨w.heap.size + 1 + 1,3,none⟩ (.slice ad3 c.vals.length cp3) = w4 at *
 have hq3:w.heap.size + 3 ≤ w3.heap.size:=hsz;clear hsz;have hsz:=hsz';clear hsz'
 have cI:=rowc RI.out;have cO:=rowc RO.out;have fO:=rowf RO.out
 go_wp2_with (refine wpList_store_part rfl 27 _ _ rfl (w.heap.size + 1) 0 _ 27 #[.int .i64 c.id,.slice ad1 c.rep.length cp1,.slice ad2 c.df.length cp2,.slice ad3 c.vals.length cp3] rfl rfl RZ.out (by kernel_rfl) (by simp [Value.oneCell']) (Nat.le_of_ble_eq_true rfl) #[.int .i64 c.id,.slice ad1 c.rep.length cp1,.slice ad2 c.df.length cp2,.slice ad3 c.vals.length cp3] rfl ?_;intro w5 rR5 hoth hbl hsz5;have hbw5:=Lib.hid (Hbw.out.trans (hbl.mono (by omega)));have RR5:=Lib.hid rR5;have hO1:=ownK HO1.out (w':=w5) (fun i hi _=>hoth i (by omega));have hO2:=ownK HO2.out (w':=w5) (fun i hi _=>hoth i (by omega));have hO3:=ownK HO3.out (w':=w5) (fun i hi _=>hoth i (by omega));have h1:=Lib.hid hO1;have h2:=Lib.hid hO2;have h3:=Lib.hid hO3;clear hoth hbl hsz5 rR5 hO1 hO2 hO3)
 refine bodyPost_ret (v:=.agg #[.int .i64 c.id,.slice ad1 c.rep.length cp1,.slice ad2 c.df.length cp2,.slice ad3 c.vals.length cp3]) (results_cell_row Tryz.results12 _ _ (w.heap.size + 1) 27 _ (0,0) _ rfl RR5.out Tryz.underlying27 rfl (by kernel_rfl)) rfl ⟨⟨_,rfl,⟨_,_,_,rfl,IsInts_of_own (by simpa using h1.out),IsInts_of_own (by simpa using h2.out),IsVals.of_own (by simpa using h3.out)⟩,room_lit (by have h:=own_room h1.out;simpa using h) (by have h:=own_room h2.out;simpa using h)⟩,hbw5.out⟩
end Go.Proofs.YtdcgihplkangeaaGreatDoor
/- append(own, s...) at an operation, and where the new slice lies. -/
namespace Go.Proofs.YtdcgihplkangeaaGreatDoor
set_option maxHeartbeats 4000000
set_option linter.unusedVariables false
open Go Go.RowKit Go.ChangeShapes
theorem wp_appI {w:World} {o:Oper} {a:Act} {K:Act → World → Prop} {Q:Exit → Act → World → Prop} (s x:Operand)
  (ho:o.op = .call { callee:=.builtin .append,args:=#[s,x],argTypes:=#[22,22] }) (B:Nat) (v:Value) (l0:List Int) (hs:a.eval s = v) (hown:w.ownsRow B 3 1 v l0.length (l0.map iV))
  (u:Value) (l:List Int) (hx:a.eval x = u) (hI:IsInts w u l) (h8:(l0.length + l.length) * 8 ≤ 140737488355328) (hB:B ≤ w.heap.size)
  (h:∀ v' w',w'.ownsRow B 3 1 v' (l0 ++ l).length ((l0 ++ l).map iV) → w.grownBy w' v.ownBlock → (v'.ownBlock = v.ownBlock ∨ v'.ownBlock = some w.heap.size) → K (a.put o.dst v') w'):Oper.wp Tryz.prog o a w K Q:=by
 obtain ⟨i0,hi,hz0,hz1,hz2⟩:=info_parts info_iV
 rcases hI with ⟨rfl,ad,cap,rfl⟩ | ⟨b,off,cap,rfl,hlt,hc⟩
 ·obtain ⟨vb,vc,rfl,hvc⟩:=own_cap hown
  unfold Oper.wp execOp
  have hr:=run_append_none (P:=Tryz.prog) w 22 o.type 3 0 i0 Tryz.underlying22 hi vb l0.length vc ad cap hvc
  simp only [ho,resolve,invoke,builtin,Sem.run_bind,Sem.run_pure,Result.andThen_ok,List.map_toArray,List.map_cons,List.map_nil,hs,hx,hr]
  exact h _ _ (by simpa using hown) (grownBy_refl _ _) (.inl rfl)
 ·obtain ⟨v',w',hr,h2,h3,_,h5⟩:=run_append_own_at (P:=Tryz.prog) w B 22 o.type 3 i0 (.int .i64 0) 1 8 Tryz.underlying22 hi hz0 hz1 hz2 rfl (by decide) v l0.length _ hown ⟨b,off,none⟩ l.length cap (l.map iV) (by simp) (by
    intro j u hj
    rw [List.getElem?_map] at hj
    cases hlj:l[j]? with
    | none=>simp [hlj] at hj
    | some x =>
     simp [hlj] at hj
     subst hj
     rw [Go.WideShapes.add_plain];exact hc j x hlj) (one_map (fun _=>rfl) l) (by unfold maxLen;omega) h8 hB
  unfold Oper.wp execOp
  simp only [ho,resolve,invoke,builtin,Sem.run_bind,Sem.run_pure,Result.andThen_ok,List.map_toArray,List.map_cons,List.map_nil,hs,hx,hr]
  exact h v' w' (by simpa using h2) h3 h5
theorem wp_appV {w:World} {o:Oper} {a:Act} {K:Act → World → Prop} {Q:Exit → Act → World → Prop} (s x:Operand)
  (ho:o.op = .call { callee:=.builtin .append,args:=#[s,x],argTypes:=#[25,25] }) (B:Nat) (v:Value) (l0:List Val) (hs:a.eval s = v) (hown:w.ownsRow B 62 3 v l0.length (l0.flatMap valCells))
  (u:Value) (l:List Val) (hx:a.eval x = u) (hI:IsVals w u l) (h8:(l0.length + l.length) * 32 ≤ 140737488355328) (hB:B ≤ w.heap.size)
  (h:∀ v' w',w'.ownsRow B 62 3 v' (l0 ++ l).length ((l0 ++ l).flatMap valCells) → w.grownBy w' v.ownBlock → (v'.ownBlock = v.ownBlock ∨ v'.ownBlock = some w.heap.size) → K (a.put o.dst v') w'):Oper.wp Tryz.prog o a w K Q:=by
 obtain ⟨i0,hi,hz0,hz1,hz2⟩:=val_infoB
 rcases hI with ⟨rfl,ad,cap,rfl⟩ | ⟨b,off,cap,rfl,hlt,hc⟩
 ·obtain ⟨vb,vc,rfl,hvc⟩:=own_cap hown
  unfold Oper.wp execOp
  have hr:=run_append_none (P:=Tryz.prog) w 25 o.type 62 0 i0 Tryz.underlying25 hi vb l0.length vc ad cap hvc
  simp only [ho,resolve,invoke,builtin,Sem.run_bind,Sem.run_pure,Result.andThen_ok,List.map_toArray,List.map_cons,List.map_nil,hs,hx,hr]
  exact h _ _ (by simpa using hown) (grownBy_refl _ _) (.inl rfl)
 ·obtain ⟨v',w',hr,h2,h3,_,h5⟩:=run_append_own_at (P:=Tryz.prog) w B 25 o.type 62 i0 (.agg #[.int .i64 0,.int .i64 0,.string ByteArray.empty]) 3 32 Tryz.underlying25 hi hz0 hz1 hz2 rfl (by decide) v l0.length _ hown ⟨b,off,none⟩ l.length cap (l.flatMap valCells) (by rw [flat_len]) (by
    intro j u hj
    rw [Go.WideShapes.add_plain];exact flat_cell l off hc j u hj) (flat_one l) (by unfold maxLen;omega) h8 hB
  unfold Oper.wp execOp
  simp only [ho,resolve,invoke,builtin,Sem.run_bind,Sem.run_pure,Result.andThen_ok,List.map_toArray,List.map_cons,List.map_nil,hs,hx,hr]
  exact h v' w' (by simpa using h2) h3 h5
theorem own_far {w w':World} {B s n:Nat} {e:TypeId} {v x:Value} {xs:List Value} (h:w.ownsRow B e s v n xs) (hg:w.grownBy w' x.ownBlock) (hne:∀ k,v.ownBlock = some k → x.ownBlock ≠ some k):w'.ownsRow B e s v n xs:=by
 refine ⟨h.1,?_⟩
 rcases h.2 with h2 | ⟨g,cap,cur,h1,h2,h3,h4⟩
 ·exact .inl h2
 ·exact .inr ⟨g,cap,cur,h1,h2,(hg.block g (row_lt h3) (fun e=>hne g (by rw [h1];rfl) e.symm)).trans h3,h4⟩
end Go.Proofs.YtdcgihplkangeaaGreatDoor
