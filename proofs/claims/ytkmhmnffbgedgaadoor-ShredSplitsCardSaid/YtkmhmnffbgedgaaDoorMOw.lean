/- Merged texts: OwnR, Slim, AppW. -/
import Derived.Test.YtkmhmnffbgedgaaDoorMRef
import Derived.Test.YtkmhmnffbgedgaaDoorMRow
import Derived.Deep.RegionHeld3
import Derived.Laws.Closers25b
import Derived.Deep.AppendLies
/- Rows of the call's own, by their place: what is kept where other blocks change; appending a list that came in onto one. -/
namespace Go.Proofs.YtkmhmnffbgedgaaDoor
set_option maxHeartbeats 4000000
set_option linter.unusedVariables false
open Go Go.RowKit Go.ChangeShapes
def iV (x:Int):Value:=.int .i64 x
theorem info_iV:(Tryd.prog.info? 3).map (fun i=>(i.zero,i.size,i.bytes)) = some (some (.int .i64 0),1,8):=by kernel_rfl
theorem ownK {w w':World} {B n s:Nat} {e:TypeId} {v:Value} {xs:List Value} (h:w.ownsRow B e s v n xs) (hk:∀ i,B ≤ i → i < w.heap.size → w'.heap[i]? = w.heap[i]?):w'.ownsRow B e s v n xs:=by
 refine ⟨h.1,?_⟩
 rcases h.2 with h2 | ⟨g,cap,cur,h1,h2,h3,h4⟩
 ·exact .inl h2
 ·exact .inr ⟨g,cap,cur,h1,h2,(hk g h2 (row_lt h3)).trans h3,h4⟩
theorem ownBelow {w w':World} {B n s:Nat} {e:TypeId} {v:Value} {xs:List Value} (h:w.ownsRow B e s v n xs) (hb:Below w.heap.size w w'):w'.ownsRow B e s v n xs :=
 ownK h fun i _ hi=>hb.block i hi
theorem own_cap {w:World} {B n s:Nat} {e:TypeId} {v:Value} {xs:List Value} (h:w.ownsRow B e s v n xs):∃ b c,v = .slice b n c ∧ n ≤ c:=by
 rcases h.2 with ⟨rfl,rfl⟩ | ⟨g,cap,cur,rfl,_,_,h4,_⟩
 ·exact ⟨none,0,rfl,Nat.le_refl _⟩
 ·exact ⟨_,cap,rfl,h4⟩
theorem grownBy_refl (w:World) (k:Option Nat):w.grownBy w k:=⟨rfl,rfl,rfl,Nat.le_refl _,fun _ _ _=>rfl⟩
theorem wpList_appI {w:World} {ops:Array Oper} {rest:List Oper} {o:Oper} {a:Act} {Q:Exit → Act → World → Prop} (hg:o.guard = none) (s x:Operand)
  (ho:o.op = .call { callee:=.builtin .append,args:=#[s,x],argTypes:=#[22,22] }) (B:Nat) (v:Value) (l0:List Int) (hs:a.eval s = v) (hown:w.ownsRow B 3 1 v l0.length (l0.map iV))
  (u:Value) (l:List Int) (hx:a.eval x = u) (hI:IsInts w u l) (h8:(l0.length + l.length) * 8 ≤ 140737488355328) (hB:B ≤ w.heap.size)
  (h:∀ v' w',w'.ownsRow B 3 1 v' (l0 ++ l).length ((l0 ++ l).map iV) → w.grownBy w' v.ownBlock → (∃ ad cap,v' = .slice ad (l0.length + l.length) cap) → wpList Tryd.prog ops Q rest (a.put o.dst v') w'):wpList Tryd.prog ops Q (o :: rest) a w:=by
 obtain ⟨i0,hi,hz0,hz1,hz2⟩:=info_parts info_iV
 rcases hI with ⟨rfl,ad,cap,rfl⟩ | ⟨b,off,cap,rfl,hlt,hc⟩
 ·obtain ⟨vb,vc,rfl,hvc⟩:=own_cap hown
  refine wpList_plain hg fun K hK=>?_
  unfold Oper.wp execOp
  have hr:=run_append_none (P:=Tryd.prog) w 22 o.type 3 0 i0 Tryd.underlying22 hi vb l0.length vc ad cap hvc
  simp only [ho,resolve,invoke,builtin,Sem.run_bind,Sem.run_pure,Result.andThen_ok,List.map_toArray,List.map_cons,List.map_nil,hs,hx,hr]
  exact hK _ _ (h _ _ (by simpa using hown) (grownBy_refl _ _) ⟨vb,vc,by simp⟩)
 ·refine wpList_append_own _ hg s x 22 ho B 3 i0 (.int .i64 0) 1 8 Tryd.underlying22 hi hz0 hz1 hz2 rfl (by decide) v l0.length _ hs hown ⟨b,off,none⟩ l.length cap (l.map iV) hx (by simp) ?_ (one_map (fun _=>rfl) l) (by unfold maxLen;omega) h8 hB ?_
  ·intro j u hj
   rw [List.getElem?_map] at hj
   cases hlj:l[j]? with
   | none=>simp [hlj] at hj
   | some x =>
    simp [hlj] at hj
    subst hj
    rw [Go.WideShapes.add_plain];exact hc j x hlj
  ·intro v' w' h1 h2 _
   obtain ⟨vb,vc,e,_⟩:=own_cap h1
   exact h v' w' (by simpa using h1) h2 ⟨vb,vc,e⟩
theorem wpList_appV {w:World} {ops:Array Oper} {rest:List Oper} {o:Oper} {a:Act} {Q:Exit → Act → World → Prop} (hg:o.guard = none) (s x:Operand)
  (ho:o.op = .call { callee:=.builtin .append,args:=#[s,x],argTypes:=#[30,30] }) (B:Nat) (v:Value) (l0:List Val) (hs:a.eval s = v) (hown:w.ownsRow B 61 3 v l0.length (l0.flatMap valCells))
  (u:Value) (l:List Val) (hx:a.eval x = u) (hI:IsVals w u l) (h8:(l0.length + l.length) * 32 ≤ 140737488355328) (hB:B ≤ w.heap.size)
  (h:∀ v' w',w'.ownsRow B 61 3 v' (l0 ++ l).length ((l0 ++ l).flatMap valCells) → w.grownBy w' v.ownBlock → (∃ ad cap,v' = .slice ad (l0.length + l.length) cap) → wpList Tryd.prog ops Q rest (a.put o.dst v') w'):wpList Tryd.prog ops Q (o :: rest) a w:=by
 obtain ⟨i0,hi,hz0,hz1,hz2⟩:=val_infoB
 rcases hI with ⟨rfl,ad,cap,rfl⟩ | ⟨b,off,cap,rfl,hlt,hc⟩
 ·obtain ⟨vb,vc,rfl,hvc⟩:=own_cap hown
  refine wpList_plain hg fun K hK=>?_
  unfold Oper.wp execOp
  have hr:=run_append_none (P:=Tryd.prog) w 30 o.type 61 0 i0 Tryd.underlying30 hi vb l0.length vc ad cap hvc
  simp only [ho,resolve,invoke,builtin,Sem.run_bind,Sem.run_pure,Result.andThen_ok,List.map_toArray,List.map_cons,List.map_nil,hs,hx,hr]
  exact hK _ _ (h _ _ (by simpa using hown) (grownBy_refl _ _) ⟨vb,vc,by simp⟩)
 ·refine wpList_append_own _ hg s x 30 ho B 61 i0 (.agg #[.int .i64 0,.int .i64 0,.string ByteArray.empty]) 3 32 Tryd.underlying30 hi hz0 hz1 hz2 rfl (by decide) v l0.length _ hs hown ⟨b,off,none⟩ l.length cap (l.flatMap valCells) hx (by rw [flat_len]) ?_ (flat_one l) (by unfold maxLen;omega) h8 hB ?_
  ·intro j u hj
   rw [Go.WideShapes.add_plain];exact flat_cell l off hc j u hj
  ·intro v' w' h1 h2 _
   obtain ⟨vb,vc,e,_⟩:=own_cap h1
   exact h v' w' (by simpa using h1) h2 ⟨vb,vc,e⟩
end Go.Proofs.YtkmhmnffbgedgaaDoor
/- The walks of the laws' slim, ints, ownLeaf and of the document's OwnColumn. -/
namespace Go.Proofs.YtkmhmnffbgedgaaDoor
set_option maxHeartbeats 4000000
set_option linter.unusedVariables false
open Go Go.RowKit Go.ChangeShapes
theorem IsInts_of_own {w:World} {B:Nat} {v:Value} {l:List Int} (h:w.ownsRow B 3 1 v l.length (l.map iV)):IsInts w v l:=IsNums.of_own (B:=B) (e:=3) h
set_option maxRecDepth 100000 in
theorem ints_own (v:Value) (l:List Int) (w:World) (hI:IsInts w v l) (h8:l.length * 8 ≤ 140737488355328) :
  Calls Tryd.prog 30 #[v] w fun e w'=>(∃ u,e = .returned u ∧ w'.ownsRow w.heap.size 3 1 u l.length (l.map iV)) ∧ Below w.heap.size w w':=by
 have HI:=Lib.hid hI
 clear hI
 go_enter Tryd.func30,Tryd.ntmps30
 go_wp2_with (at_builtin;refine wpList_appI rfl _ _ rfl w.heap.size (.slice none 0 0) [] rfl (World.ownsRow_nil _ _ _ _) v l rfl HI.out (by simpa using h8) (Nat.le_refl _) ?_;intro v' w2 ho hg _;have HO:=Lib.hid ho;have HG:=Lib.hid hg;clear ho hg)
 go_ret
 refine ⟨⟨_,rfl,by simpa using HO.out⟩,(Below.refl w.heap.size w).grown HG.out (Nat.le_refl _) (fun k hk=>by simp [Value.ownBlock] at hk)⟩
theorem set5_row {w:World} {g:Nat} {cs:Array Value} {t:TypeId} (hg:w.heap[g]? = some (.cells cs t (0,0))) (hsz:cs.size = 5) (x0 x1 x2 x3 x4:Value) :
  (((((w.setCell ⟨g,0,none⟩ x0).setCell ⟨g,1,none⟩ x1).setCell ⟨g,2,none⟩ x2).setCell ⟨g,3,none⟩ x3).setCell ⟨g,4,none⟩ x4).heap[g]? = some (.cells #[x0,x1,x2,x3,x4] t (0,0)):=by
 obtain ⟨a,-⟩:=setCells_row g t [x0,x1,x2,x3,x4] w cs 0 hg
 rw [setPart_eq _ _ _ (by simp;omega)] at a
 refine Eq.trans a ?_
 obtain ⟨L⟩:=cs
 have hL:L.length = 5:=by simpa using hsz
 simp [setPart,List.drop_of_length_le (Nat.le_of_eq hL)]
theorem rowc_set5 {w:World} {g k:Nat} {cs:Array Value} {t:TypeId} (hg:w.heap[g]? = some (.cells cs t (0,0))) (hne:g ≠ k) (x0 x1 x2 x3 x4:Value) :
  ∀ j,(((((w.setCell ⟨k,0,none⟩ x0).setCell ⟨k,1,none⟩ x1).setCell ⟨k,2,none⟩ x2).setCell ⟨k,3,none⟩ x3).setCell ⟨k,4,none⟩ x4).cell? ⟨g,j,none⟩ = cs[j]?:=by
 refine rowc (t:=t) ?_
 rw [heap_setCell_other _ _ _ _ hne,heap_setCell_other _ _ _ _ hne,heap_setCell_other _ _ _ _ hne,heap_setCell_other _ _ _ _ hne,heap_setCell_other _ _ _ _ hne]
 exact hg
theorem set5_otherS {w:World} {g k:Nat} (hne:g ≠ k) (x0 x1 x2 x3 x4:Value):(((((w.setCell ⟨k,0,none⟩ x0).setCell ⟨k,1,none⟩ x1).setCell ⟨k,2,none⟩ x2).setCell ⟨k,3,none⟩ x3).setCell ⟨k,4,none⟩ x4).heap[g]? = w.heap[g]?:=by
 rw [heap_setCell_other _ _ _ _ hne,heap_setCell_other _ _ _ _ hne,heap_setCell_other _ _ _ _ hne,heap_setCell_other _ _ _ _ hne,heap_setCell_other _ _ _ _ hne]
theorem below_set5S {w:World} {B:Nat} {a:World} (h:Below B a w) (g:Nat) (hg:B ≤ g) (x0 x1 x2 x3 x4:Value):Below B a (((((w.setCell ⟨g,0,none⟩ x0).setCell ⟨g,1,none⟩ x1).setCell ⟨g,2,none⟩ x2).setCell ⟨g,3,none⟩ x3).setCell ⟨g,4,none⟩ x4) :=
 ((((h.setCell hg x0).setCell hg x1).setCell hg x2).setCell hg x3).setCell hg x4
set_option maxRecDepth 100000 in
theorem ownLeaf_any (f:Lf) (vf:Value) (w:World) (hf:IsLf w vf f) (hp:f.path.length ≤ 100) :
  Calls Tryd.prog 10 #[vf] w fun e w'=>(∃ u,e = .returned u ∧ IsLf w' u f) ∧ Below w.heap.size w w':=by
 obtain ⟨p,rfl,hI⟩:=hf
 have HI:=Lib.hid hI
 have HC:=Lib.hid (fun w1 (h:Below w.heap.size w w1)=>ints_own p f.path w1 (HI.out.below h (Nat.le_refl _)) (by omega))
 clear hI hp
 unfold lfA
 go_enter Tryd.func10,Tryd.ntmps10
 go_upto_region 1 with fail
 have RA:Hid (((w.alloc (.cells #[.int .i64 f.id,.int .i64 f.kind,.int .i64 f.mr,.int .i64 f.md,p] 24)).alloc (.cells #[.int .i64 0,.int .i64 0,.int .i64 0,.int .i64 0,.slice none 0 0] 39)).heap[w.heap.size]? = some (.cells #[.int .i64 f.id,.int .i64 f.kind,.int .i64 f.mr,.int .i64 f.md,p] 24 (0,0))):=Lib.hid (rows2 (Below.refl _ _)).1
 have RB:=Lib.hid (rows2 (w:=w) (A:=.cells #[.int .i64 f.id,.int .i64 f.kind,.int .i64 f.mr,.int .i64 f.md,p] 24) (B:=.cells #[.int .i64 0,.int .i64 0,.int .i64 0,.int .i64 0,.slice none 0 0] 39) (Below.refl _ _)).2.1
 have Hbw:=Lib.hid (rows2 (w:=w) (A:=.cells #[.int .i64 f.id,.int .i64 f.kind,.int .i64 f.mr,.int .i64 f.md,p] 24) (B:=.cells #[.int .i64 0,.int .i64 0,.int .i64 0,.int .i64 0,.slice none 0 0] 39) (Below.refl _ _)).2.2.1
 generalize ((w.alloc (.cells #[.int .i64 f.id,.int .i64 f.kind,.int .i64 f.mr,.int .i64 f.md,p] 24)).alloc (.cells #[.int .i64 0,.int .i64 0,.int .i64 0,.int .i64 0,.slice none 0 0] 39)) = w1 at *
 have hg1:=row_lt RB.out
 have cA:=rowc RA.out;have fB:=rowf RB.out;have cB:=rowc RB.out
 go_cut [] (fun wx=>∃ u,IsInts wx u f.path ∧ wx.heap[w.heap.size + 1]? = some (.cells #[.int .i64 f.id,.int .i64 f.kind,.int .i64 f.mr,.int .i64 f.md,u] 39 (0,0)) ∧ Below w.heap.size w wx)
 case first =>
  have HB:=Lib.hid (Below.refl w1.heap.size w1)
  go_region_held3 (fun w'=>(∀ j,w'.cell? ⟨w.heap.size,j,none⟩ = (#[.int .i64 f.id,.int .i64 f.kind,.int .i64 f.mr,.int .i64 f.md,p]:Array Value)[j]?))
   (first | (with_reducible exact rowc RA.out) | (with_reducible exact rowc_drew RA.out) | ((with_reducible refine rowc_set5 RA.out ?_ _ _ _ _ _) <;> omega))
   (first
   | (go_at_call 30;(with_reducible refine (HC.out _ ?_).mono ?_);(focus (first | exact (Hbw.out.trans (HB.out.mono Hbw.out.size)) | exact (Hbw.out.trans (HB.out.mono Hbw.out.size)).drew));rintro e w9 ⟨⟨u,rfl,hu⟩,hb9⟩;(first | (with_reducible have hbs:=drew_first hb9) | (have hbs:=hb9));obtain ⟨ad9,cp9,hu9⟩:=(IsInts_of_own hu).form;subst hu9;have HU:=Lib.hid hu;replace RA:=Lib.hid (row_keep hbs RA.out);replace RB:=Lib.hid (row_keep hbs RB.out);replace HB:=Lib.hid (HB.out.trans (hbs.mono HB.out.size));clear hb9 hbs hu;replace cB:=rowc RB.out;replace fB:=rowf RB.out))
  all_goals (go_wp2_with fail;go_meet)
  all_goals
   refine ⟨_,?_,set5_row RB.out rfl _ _ _ _ _,below_set5S (Hbw.out.trans (HB.out.mono Hbw.out.size)) _ (by omega) _ _ _ _ _⟩
   exact IsInts_of_own (ownK HU.out fun i hi _=>set5_otherS (by first | omega | (simp at hi;omega)) _ _ _ _ _)
 case rest =>
  obtain ⟨u,hu,rU,hbu⟩:=hcut
  go_wp2_with fail
  refine bodyPost_ret (v:=.agg (lfA f u)) (results_cell_row Tryd.results10 _ _ (w.heap.size + 1) 39 _ (0,0) _ rfl rU Tryd.underlying39 rfl (by kernel_rfl)) rfl ⟨⟨_,rfl,u,rfl,hu⟩,hbu⟩
def RoomCol (v:Value):Prop:=∀ i a b d,v = .agg #[i,a,b,d] → (∀ ad n cap,a = .slice ad n cap → n ≤ cap) ∧ (∀ ad n cap,b = .slice ad n cap → n ≤ cap)
theorem room_lit {i d:Value} {ad1 ad2:Option Addr} {n1 n2 c1 c2:Nat} (h1:n1 ≤ c1) (h2:n2 ≤ c2):RoomCol (.agg #[i,.slice ad1 n1 c1,.slice ad2 n2 c2,d]):=by
 intro i' a b d' h
 simp only [Value.agg.injEq,Array.mk.injEq,List.cons.injEq,and_true] at h
 obtain ⟨-,rfl,rfl,-⟩:=h
 refine ⟨fun ad n cap e=>?_,fun ad n cap e=>?_⟩ <;> injection e with _ e1 e2 <;> omega
end Go.Proofs.YtkmhmnffbgedgaaDoor
/- append(own, s...) at an operation, and where the new slice lies. -/
namespace Go.Proofs.YtkmhmnffbgedgaaDoor
set_option maxHeartbeats 4000000
set_option linter.unusedVariables false
open Go Go.RowKit Go.ChangeShapes
theorem wp_appI {w:World} {o:Oper} {a:Act} {K:Act → World → Prop} {Q:Exit → Act → World → Prop} (s x:Operand)
  (ho:o.op = .call { callee:=.builtin .append,args:=#[s,x],argTypes:=#[22,22] }) (B:Nat) (v:Value) (l0:List Int) (hs:a.eval s = v) (hown:w.ownsRow B 3 1 v l0.length (l0.map iV))
  (u:Value) (l:List Int) (hx:a.eval x = u) (hI:IsInts w u l) (h8:(l0.length + l.length) * 8 ≤ 140737488355328) (hB:B ≤ w.heap.size)
  (h:∀ v' w',w'.ownsRow B 3 1 v' (l0 ++ l).length ((l0 ++ l).map iV) → w.grownBy w' v.ownBlock → (v'.ownBlock = v.ownBlock ∨ v'.ownBlock = some w.heap.size) → K (a.put o.dst v') w'):Oper.wp Tryd.prog o a w K Q:=by
 obtain ⟨i0,hi,hz0,hz1,hz2⟩:=info_parts info_iV
 rcases hI with ⟨rfl,ad,cap,rfl⟩ | ⟨b,off,cap,rfl,hlt,hc⟩
 ·obtain ⟨vb,vc,rfl,hvc⟩:=own_cap hown
  unfold Oper.wp execOp
  have hr:=run_append_none (P:=Tryd.prog) w 22 o.type 3 0 i0 Tryd.underlying22 hi vb l0.length vc ad cap hvc
  simp only [ho,resolve,invoke,builtin,Sem.run_bind,Sem.run_pure,Result.andThen_ok,List.map_toArray,List.map_cons,List.map_nil,hs,hx,hr]
  exact h _ _ (by simpa using hown) (grownBy_refl _ _) (.inl rfl)
 ·obtain ⟨v',w',hr,h2,h3,_,h5⟩:=run_append_own_at (P:=Tryd.prog) w B 22 o.type 3 i0 (.int .i64 0) 1 8 Tryd.underlying22 hi hz0 hz1 hz2 rfl (by decide) v l0.length _ hown ⟨b,off,none⟩ l.length cap (l.map iV) (by simp) (by
    intro j u hj
    rw [List.getElem?_map] at hj
    cases hlj:l[j]? with
    | none=>simp [hlj] at hj
    | some x =>
     simp [hlj] at hj
     subst hj
     rw [Go.WideShapes.add_plain];exact hc j x hlj) (one_map (fun _=>rfl) l) (by unfold maxLen;omega) h8 hB
  unfold Oper.wp execOp
  simp only [ho,resolve,invoke,builtin,Sem.run_bind,Sem.run_pure,Result.andThen_ok,List.map_toArray,List.map_cons,List.map_nil,hs,hx,hr]
  exact h v' w' (by simpa using h2) h3 h5
theorem wp_appV {w:World} {o:Oper} {a:Act} {K:Act → World → Prop} {Q:Exit → Act → World → Prop} (s x:Operand)
  (ho:o.op = .call { callee:=.builtin .append,args:=#[s,x],argTypes:=#[30,30] }) (B:Nat) (v:Value) (l0:List Val) (hs:a.eval s = v) (hown:w.ownsRow B 61 3 v l0.length (l0.flatMap valCells))
  (u:Value) (l:List Val) (hx:a.eval x = u) (hI:IsVals w u l) (h8:(l0.length + l.length) * 32 ≤ 140737488355328) (hB:B ≤ w.heap.size)
  (h:∀ v' w',w'.ownsRow B 61 3 v' (l0 ++ l).length ((l0 ++ l).flatMap valCells) → w.grownBy w' v.ownBlock → (v'.ownBlock = v.ownBlock ∨ v'.ownBlock = some w.heap.size) → K (a.put o.dst v') w'):Oper.wp Tryd.prog o a w K Q:=by
 obtain ⟨i0,hi,hz0,hz1,hz2⟩:=val_infoB
 rcases hI with ⟨rfl,ad,cap,rfl⟩ | ⟨b,off,cap,rfl,hlt,hc⟩
 ·obtain ⟨vb,vc,rfl,hvc⟩:=own_cap hown
  unfold Oper.wp execOp
  have hr:=run_append_none (P:=Tryd.prog) w 30 o.type 61 0 i0 Tryd.underlying30 hi vb l0.length vc ad cap hvc
  simp only [ho,resolve,invoke,builtin,Sem.run_bind,Sem.run_pure,Result.andThen_ok,List.map_toArray,List.map_cons,List.map_nil,hs,hx,hr]
  exact h _ _ (by simpa using hown) (grownBy_refl _ _) (.inl rfl)
 ·obtain ⟨v',w',hr,h2,h3,_,h5⟩:=run_append_own_at (P:=Tryd.prog) w B 30 o.type 61 i0 (.agg #[.int .i64 0,.int .i64 0,.string ByteArray.empty]) 3 32 Tryd.underlying30 hi hz0 hz1 hz2 rfl (by decide) v l0.length _ hown ⟨b,off,none⟩ l.length cap (l.flatMap valCells) (by rw [flat_len]) (by
    intro j u hj
    rw [Go.WideShapes.add_plain];exact flat_cell l off hc j u hj) (flat_one l) (by unfold maxLen;omega) h8 hB
  unfold Oper.wp execOp
  simp only [ho,resolve,invoke,builtin,Sem.run_bind,Sem.run_pure,Result.andThen_ok,List.map_toArray,List.map_cons,List.map_nil,hs,hx,hr]
  exact h v' w' (by simpa using h2) h3 h5
theorem own_far {w w':World} {B s n:Nat} {e:TypeId} {v x:Value} {xs:List Value} (h:w.ownsRow B e s v n xs) (hg:w.grownBy w' x.ownBlock) (hne:∀ k,v.ownBlock = some k → x.ownBlock ≠ some k):w'.ownsRow B e s v n xs:=by
 refine ⟨h.1,?_⟩
 rcases h.2 with h2 | ⟨g,cap,cur,h1,h2,h3,h4⟩
 ·exact .inl h2
 ·exact .inr ⟨g,cap,cur,h1,h2,(hg.block g (row_lt h3) (fun e=>hne g (by rw [h1];rfl) e.symm)).trans h3,h4⟩
end Go.Proofs.YtkmhmnffbgedgaaDoor
