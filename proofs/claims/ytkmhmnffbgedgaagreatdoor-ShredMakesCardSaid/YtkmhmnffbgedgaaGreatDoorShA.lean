/- Plain: what the document writes of a datum, element by element; a column of its own that grows. -/
import Derived.Test.YtkmhmnffbgedgaaGreatDoorSh9
namespace Go.Proofs.YtkmhmnffbgedgaaGreatDoor
set_option linter.unusedVariables false
set_option linter.unusedSimpArgs false
open Go Go.RowKit Go.ChangeShapes
def addD (c:Col) (l:List EntD):Col:=⟨c.id,c.rep ++ l.map EntD.r,c.df ++ l.map EntD.d,c.vals ++ l.filterMap EntD.v⟩
theorem addD_nil (c:Col):addD c [] = c:=by simp [addD]
theorem addD_app (c:Col) (a b:List EntD):addD (addD c a) b = addD c (a ++ b):=by simp [addD,List.filterMap_append]
theorem addD_rep (c:Col) (a:List EntD):(addD c a).rep.length = c.rep.length + a.length:=by simp [addD]
theorem filterMap_le {α β:Type} (f:α → Option β):∀ l:List α,(l.filterMap f).length ≤ l.length
 | []=>Nat.le_refl _
 | x :: r=>by
  rw [List.filterMap_cons]
  have:=filterMap_le f r
  split
  ·simp only [List.length_cons];omega
  ·simp only [List.length_cons];omega
def even (c:Col):Prop:=c.df.length = c.rep.length ∧ c.vals.length ≤ c.rep.length
theorem addD_even {c:Col} (h:even c) (l:List EntD):even (addD c l):=by
 obtain ⟨h1,h2⟩:=h
 have:=filterMap_le EntD.v l
 unfold even addD
 simp only [List.length_append,List.length_map]
 omega
theorem docEL_app (p:List Nd):∀ (a b:List Dt) (rep df lv:Int),docEL p (a ++ b) rep df lv = docEL p a rep df lv ++ docEL p b (if a.isEmpty = true then rep else lv + 1) df lv
 | [],b,rep,df,lv=>by simp [docEL]
 | x :: a,b,rep,df,lv=>by
  simp only [List.cons_append,docEL,docEL_app p a b (lv + 1) df lv,List.append_assoc]
  congr 2
  cases a <;> simp
theorem docEF_app:∀ (s t:List Nd) (a b:List Dt) (p:List Nd) (rep df lv:Int),s.length = a.length → docEF (s ++ t) (a ++ b) p rep df lv = docEF s a p rep df lv ++ docEF t b p rep df lv
 | [],t,[],b,p,rep,df,lv,_=>by simp [docEF]
 | [],t,_ :: _,b,p,rep,df,lv,h=>by simp at h
 | _ :: _,t,[],b,p,rep,df,lv,h=>by simp at h
 | m :: s,t,x :: a,b,p,rep,df,lv,h=>by
  simp only [List.cons_append,docEF]
  rw [docEF_app s t a b p rep df lv (by simpa using h),List.append_assoc]
theorem docEL_up (p:List Nd) {l:List Dt} {k:Nat} {x:Dt} (h:l[k]? = some x) (rep df lv:Int) :
  docEL p (l.take (k + 1)) rep df lv = docEL p (l.take k) rep df lv ++ docE p x (if k = 0 then rep else lv + 1) (df + 1) (lv + 1) true ∧
  (docEL p (l.take k) rep df lv).length + (docE p x (if k = 0 then rep else lv + 1) (df + 1) (lv + 1) true).length ≤ (docEL p l rep df lv).length:=by
 have hk:=(List.getElem?_eq_some_iff.1 h).1
 have e1:l.take (k + 1) = l.take k ++ [x]:=by rw [List.take_add_one,h];rfl
 have e2:(l.take k).isEmpty = true ↔ k = 0:=by
  rw [List.isEmpty_iff]
  constructor
  ·intro h2
   have:=congrArg List.length h2
   rw [List.length_take,List.length_nil] at this
   omega
  ·intro h2;subst h2;rfl
 have a:docEL p (l.take (k + 1)) rep df lv = docEL p (l.take k) rep df lv ++ docE p x (if k = 0 then rep else lv + 1) (df + 1) (lv + 1) true:=by
  rw [e1,docEL_snoc]
  congr 2
  by_cases hz:k = 0
  ·rw [if_pos hz,if_pos (e2.2 hz)]
  ·rw [if_neg hz,if_neg (fun q=>hz (e2.1 q))]
 refine ⟨a,?_⟩
 have b:=docEL_app p (l.take (k + 1)) (l.drop (k + 1)) rep df lv
 rw [List.take_append_drop,a] at b
 have c:=congrArg List.length b
 simp only [List.length_append] at c
 omega
theorem docEF_up {s:List Nd} {l:List Dt} {k:Nat} {m:Nd} {x:Dt} (hs:s[k]? = some m) (h:l[k]? = some x) (hsl:s.length = l.length) (p:List Nd) (rep df lv:Int) :
  docEF (s.take (k + 1)) (l.take (k + 1)) p rep df lv = docEF (s.take k) (l.take k) p rep df lv ++ (if m.id = hdId p then docE p x rep df lv false else []) ∧
  (docEF (s.take k) (l.take k) p rep df lv).length + (if m.id = hdId p then docE p x rep df lv false else []).length ≤ (docEF s l p rep df lv).length:=by
 have e1:l.take (k + 1) = l.take k ++ [x]:=by rw [List.take_add_one,h];rfl
 have e2:s.take (k + 1) = s.take k ++ [m]:=by rw [List.take_add_one,hs];rfl
 have a:docEF (s.take (k + 1)) (l.take (k + 1)) p rep df lv = docEF (s.take k) (l.take k) p rep df lv ++ (if m.id = hdId p then docE p x rep df lv false else []):=by
  rw [e1,e2,docEF_snoc _ _ _ _ _ _ _ _ (by simp [List.length_take,hsl])]
 refine ⟨a,?_⟩
 have b:=docEF_app (s.take (k + 1)) (s.drop (k + 1)) (l.take (k + 1)) (l.drop (k + 1)) p rep df lv (by simp [List.length_take,hsl])
 rw [List.take_append_drop,List.take_append_drop,a] at b
 have c:=congrArg List.length b
 simp only [List.length_append] at c
 omega
def OwnC (B:Nat) (w:World) (u:Value) (c:Col):Prop:=∃ P Q D,u = .agg #[.int .i64 c.id,P,Q,D] ∧ w.ownsRow B 3 1 P c.rep.length (c.rep.flatMap intC) ∧ w.ownsRow B 3 1 Q c.df.length (c.df.flatMap intC) ∧ w.ownsRow B 44 3 D c.vals.length (c.vals.flatMap valCells) ∧ apartV P Q
theorem OwnC.below {B:Nat} {w w':World} {u:Value} {c:Col} (h:OwnC B w u c) (hb:Below w.heap.size w w'):OwnC B w' u c:=by
 obtain ⟨P,Q,D,e,h1,h2,h3,h4⟩:=h
 exact ⟨P,Q,D,e,own_blw h1 hb,own_blw h2 hb,own_blw h3 hb,h4⟩
structure OcS (B:Nat) (w:World) (gc:Nat) (c:Col) (P Q D:Value):Prop where
 row:w.heap[gc]? = some (.cells #[.int .i64 c.id,P,Q,D] 51 (0,0))
 p:w.ownsRow B 3 1 P c.rep.length (c.rep.flatMap intC)
 q:w.ownsRow B 3 1 Q c.df.length (c.df.flatMap intC)
 d:w.ownsRow B 44 3 D c.vals.length (c.vals.flatMap valCells)
 ap:apartV P Q
 hB:B ≤ w.heap.size
 hg:B ≤ gc
theorem OcS.keep {B gc:Nat} {w w':World} {c:Col} {P Q D:Value} (h:OcS B w gc c P Q D) (hb:Below w.heap.size w w'):OcS B w' gc c P Q D :=
 ⟨row_keep hb h.row,own_blw h.p hb,own_blw h.q hb,own_blw h.d hb,h.ap,Nat.le_trans h.hB hb.size,h.hg⟩
theorem OcS.own {B gc:Nat} {w:World} {c:Col} {P Q D:Value} (h:OcS B w gc c P Q D):OwnC B w (.agg #[.int .i64 c.id,P,Q,D]) c:=⟨P,Q,D,rfl,h.p,h.q,h.d,h.ap⟩
theorem store_own {w:World} {B n s gc i:Nat} {e:TypeId} {v x:Value} {xs:List Value} {cs:Array Value} (h:w.ownsRow B e s v n xs) (hr:w.heap[gc]? = some (.cells cs 51 (0,0))) (he:e ≠ 51):(w.setCell ⟨gc,i,none⟩ x).ownsRow B e s v n xs :=
 own_stay h fun b _ _ hb=>heap_setCell_other w ⟨gc,i,none⟩ b x (fun e1=>own_neB h hr (Ne.symm he) (by rw [hb];exact congrArg some e1))
theorem OcS.pushP {B gc:Nat} {w w5:World} {c:Col} {P Q D v':Value} {x:Int} {o:Obj} (h:OcS B w gc c P Q D) (hn:w5.ownsRow B 3 1 v' (c.rep ++ [x]).length ((c.rep ++ [x]).flatMap intC)) (hgr:(w.alloc o).grownBy w5 P.ownBlock) (hq:v'.ownBlock = P.ownBlock ∨ v'.ownBlock = some (w.heap.size + 1)) :
  OcS B (w5.setCell ⟨gc,1,none⟩ v') gc ⟨c.id,c.rep ++ [x],c.df,c.vals⟩ v' Q D ∧ Fr B B gc w (w5.setCell ⟨gc,1,none⟩ v'):=by
 have hb:=(Below.refl w.heap.size w).alloc (Nat.le_refl _) o
 have h1:=h.keep hb
 have hr:=grown_keep h1.p hgr h1.row (by decide)
 have hQ:=own_far2 h1.q hgr h.ap.symm
 have hD:=own_far2 h1.d hgr (own_ne_type h1.d h1.p (by decide))
 have hf:=(Fr.of_below (B0:=B) (g:=gc) hb (Nat.le_refl _) h.hB).trans (Fr.grown h1.p (.inl rfl) hgr (Nat.le_refl _) h1.hB)
 refine ⟨⟨heap_setCell_same _ _ 1 _ _ _ hr,store_own hn hr (by decide),store_own hQ hr (by decide),store_own hD hr (by decide),apart_new h.q h.ap (by omega) hq,by simp [World.setCell];exact Nat.le_trans h.hB hf.size,h.hg⟩,hf.trans (Fr.store w5 1 v' h.hg)⟩
theorem OcS.pushQ {B gc:Nat} {w w5:World} {c:Col} {P Q D v':Value} {x:Int} {o:Obj} (h:OcS B w gc c P Q D) (hn:w5.ownsRow B 3 1 v' (c.df ++ [x]).length ((c.df ++ [x]).flatMap intC)) (hgr:(w.alloc o).grownBy w5 Q.ownBlock) (hq:v'.ownBlock = Q.ownBlock ∨ v'.ownBlock = some (w.heap.size + 1)) :
  OcS B (w5.setCell ⟨gc,2,none⟩ v') gc ⟨c.id,c.rep,c.df ++ [x],c.vals⟩ P v' D ∧ Fr B B gc w (w5.setCell ⟨gc,2,none⟩ v'):=by
 have hb:=(Below.refl w.heap.size w).alloc (Nat.le_refl _) o
 have h1:=h.keep hb
 have hr:=grown_keep h1.q hgr h1.row (by decide)
 have hP:=own_far2 h1.p hgr h.ap
 have hD:=own_far2 h1.d hgr (own_ne_type h1.d h1.q (by decide))
 have hf:=(Fr.of_below (B0:=B) (g:=gc) hb (Nat.le_refl _) h.hB).trans (Fr.grown h1.q (.inl rfl) hgr (Nat.le_refl _) h1.hB)
 refine ⟨⟨heap_setCell_same _ _ 2 _ _ _ hr,store_own hP hr (by decide),store_own hn hr (by decide),store_own hD hr (by decide),(apart_new h.p h.ap.symm (by omega) hq).symm,by simp [World.setCell];exact Nat.le_trans h.hB hf.size,h.hg⟩,hf.trans (Fr.store w5 2 v' h.hg)⟩
theorem OcS.pushD {B gc:Nat} {w w5:World} {c:Col} {P Q D v':Value} {x:Val} {o:Obj} (h:OcS B w gc c P Q D) (hn:w5.ownsRow B 44 3 v' (c.vals ++ [x]).length ((c.vals ++ [x]).flatMap valCells)) (hgr:(w.alloc o).grownBy w5 D.ownBlock) :
  OcS B (w5.setCell ⟨gc,3,none⟩ v') gc ⟨c.id,c.rep,c.df,c.vals ++ [x]⟩ P Q v' ∧ Fr B B gc w (w5.setCell ⟨gc,3,none⟩ v'):=by
 have hb:=(Below.refl w.heap.size w).alloc (Nat.le_refl _) o
 have h1:=h.keep hb
 have hr:=grown_keep h1.d hgr h1.row (by decide)
 have hP:=own_far2 h1.p hgr (own_ne_type h1.p h1.d (by decide))
 have hQ:=own_far2 h1.q hgr (own_ne_type h1.q h1.d (by decide))
 have hf:=(Fr.of_below (B0:=B) (g:=gc) hb (Nat.le_refl _) h.hB).trans (Fr.grown h1.d (.inr rfl) hgr (Nat.le_refl _) h1.hB)
 refine ⟨⟨heap_setCell_same _ _ 3 _ _ _ hr,store_own hP hr (by decide),store_own hQ hr (by decide),store_own hn hr (by decide),h.ap,by simp [World.setCell];exact Nat.le_trans h.hB hf.size,h.hg⟩,hf.trans (Fr.store w5 3 v' h.hg)⟩
structure FrN (B:Nat) (w w':World):Prop where
 below:Below B w w'
 tag:∀ (b:Nat) (cs:Array Value) (T:TypeId) (fz:Nat × Nat),T ≠ 3 → T ≠ 44 → w.heap[b]? = some (.cells cs T fz) → w'.heap[b]? = some (.cells cs T fz)
theorem FrN.toFr {B g:Nat} {w w':World} (h:FrN B w w'):Fr B B g w w':=⟨h.below,fun b hb _=>h.below.block b hb,fun b cs T fz h1 h2 _ hg=>h.tag b cs T fz h1 h2 hg⟩
theorem Fr.toN {B gc:Nat} {w w1 wc:World} (hb:Below w.heap.size w w1) (hB:B ≤ w.heap.size) (hg:w.heap.size ≤ gc) (h:Fr B B gc w1 wc):FrN B w wc :=
 ⟨(hb.mono hB).trans h.below,fun b cs T fz h1 h2 hr=>h.tag b cs T fz h1 h2 (by have:=row_lt hr;omega) (row_keep hb hr)⟩
def EntRet (B:Nat) (c:Col) (E:List EntD) (w:World) (e:Ending) (w':World):Prop:=∃ u,e = .returned u ∧ OwnC B w' u (addD c E) ∧ FrN B w w'
end Go.Proofs.YtkmhmnffbgedgaaGreatDoor
