/- Columns that are written entry by entry: their rows in memory. -/
import Derived.Test.YtdcgihplkangeaaGreatDoorTw0
import Derived.Test.YtdcgihplkangeaaGreatDoorTw1
import Derived.Test.YtdcgihplkangeaaGreatDoorMVal
namespace Go.Proofs.YtdcgihplkangeaaGreatDoor
set_option linter.unusedVariables false
set_option linter.unusedSimpArgs false
open Go Go.RowKit Go.ChangeShapes
def upd {α:Type} (f:Nat → α) (j:Nat) (v:α):Nat → α:=fun i=>if i = j then v else f i
theorem upd_same {α:Type} (f:Nat → α) (j:Nat) (v:α):upd f j v j = v:=if_pos rfl
theorem upd_ne {α:Type} (f:Nat → α) {i j:Nat} (v:α) (h:i ≠ j):upd f j v i = f i:=if_neg h
def apartV (a b:Value):Prop:=∀ k,a.ownBlock = some k → b.ownBlock ≠ some k
theorem apartV.symm {a b:Value} (h:apartV a b):apartV b a:=fun k hb ha=>h k ha hb
def addC (m:Int) (c:Col) (l:List Ent):Col:=⟨c.id,c.rep ++ l.map Ent.r,c.df ++ l.map Ent.d,c.vals ++ l.filterMap fun e=>if e.d = m then some e.v else none⟩
theorem addC_nil (m:Int) (c:Col):addC m c [] = c:=by simp [addC]
theorem addC_app (m:Int) (c:Col) (a b:List Ent):addC m (addC m c a) b = addC m c (a ++ b):=by simp [addC,List.filterMap_append]
theorem addC_yes {m:Int} {c:Col} {e:Ent} (h:e.d = m):addC m c [e] = ⟨c.id,c.rep ++ [e.r],c.df ++ [e.d],c.vals ++ [e.v]⟩:=by simp [addC,h]
theorem addC_no {m:Int} {c:Col} {e:Ent} (h:¬ e.d = m):addC m c [e] = ⟨c.id,c.rep ++ [e.r],c.df ++ [e.d],c.vals⟩:=by simp [addC,h]
def intC (x:Int):List Value:=[.int .i64 x]
theorem intC_one (x:Int):∀ u ∈ intC x,u.oneCell' = true:=by intro u hu;obtain rfl:=List.mem_singleton.1 hu;rfl
theorem info_intC:(Tryz.prog.info? 3).map (fun i=>(i.zero,i.size,i.bytes)) = some (some (.int .i64 0),1,8):=by kernel_rfl
theorem info_valC:(Tryz.prog.info? 62).map (fun i=>(i.zero,i.size,i.bytes)) = some (some (.agg #[.int .i64 0,.int .i64 0,.string ByteArray.empty]),3,32):=by kernel_rfl
theorem intC_map (l:List Int):l.flatMap intC = l.map fun x=>.int .i64 x:=by
 induction l with
 | nil=>rfl
 | cons x r ih=>rw [List.flatMap_cons,ih];rfl
structure CRows (w:World) (B n:Nat) (P Q D:Nat → Value) (C:Nat → Col):Prop where
 p:∀ j,j < n → w.ownsRow B 3 1 (P j) (C j).rep.length ((C j).rep.flatMap intC)
 q:∀ j,j < n → w.ownsRow B 3 1 (Q j) (C j).df.length ((C j).df.flatMap intC)
 d:∀ j,j < n → w.ownsRow B 62 3 (D j) (C j).vals.length ((C j).vals.flatMap valCells)
 pp:∀ j k,j < n → k < n → j ≠ k → apartV (P j) (P k)
 pq:∀ j k,j < n → k < n → apartV (P j) (Q k)
 qq:∀ j k,j < n → k < n → j ≠ k → apartV (Q j) (Q k)
 dd:∀ j k,j < n → k < n → j ≠ k → apartV (D j) (D k)
theorem own_stay {w w':World} {B n s:Nat} {e:TypeId} {v:Value} {xs:List Value} (h:w.ownsRow B e s v n xs) (hk:∀ b,B ≤ b → b < w.heap.size → v.ownBlock = some b → w'.heap[b]? = w.heap[b]?):w'.ownsRow B e s v n xs:=by
 refine ⟨h.1,?_⟩
 rcases h.2 with h2 | ⟨g,cap,cur,h1,h2,h3,h4⟩
 ·exact .inl h2
 ·exact .inr ⟨g,cap,cur,h1,h2,(hk g h2 (row_lt h3) (by rw [h1];rfl)).trans h3,h4⟩
theorem CRows.keep {w w':World} {B n:Nat} {P Q D:Nat → Value} {C:Nat → Col} (h:CRows w B n P Q D C) (hk:∀ b,B ≤ b → b < w.heap.size → w'.heap[b]? = w.heap[b]?):CRows w' B n P Q D C :=
 ⟨fun j hj=>own_stay (h.p j hj) fun b h1 h2 _=>hk b h1 h2,fun j hj=>own_stay (h.q j hj) fun b h1 h2 _=>hk b h1 h2,fun j hj=>own_stay (h.d j hj) fun b h1 h2 _=>hk b h1 h2,h.pp,h.pq,h.qq,h.dd⟩
theorem CRows.below {w w':World} {B n:Nat} {P Q D:Nat → Value} {C:Nat → Col} (h:CRows w B n P Q D C) (hb:Below w.heap.size w w'):CRows w' B n P Q D C:=h.keep fun b _ hl=>hb.block b hl
theorem own_ne_type {w:World} {B n s B' n' s':Nat} {e e':TypeId} {v v':Value} {xs xs':List Value} (h:w.ownsRow B e s v n xs) (h':w.ownsRow B' e' s' v' n' xs') (he:e ≠ e'):apartV v v':=by
 intro k hk hk'
 rcases h.2 with ⟨rfl,_⟩ | ⟨g,cap,cur,rfl,_,h1,_⟩
 ·simp [Value.ownBlock] at hk
 rcases h'.2 with ⟨rfl,_⟩ | ⟨g',cap',cur',rfl,_,h1',_⟩
 ·simp [Value.ownBlock] at hk'
 simp only [Value.ownBlock,Option.some.injEq] at hk hk'
 subst hk hk'
 rw [h1] at h1'
 simp only [Option.some.injEq,Obj.cells.injEq] at h1'
 exact he h1'.2.1
theorem apart_new {w:World} {B n s:Nat} {e:TypeId} {v v' u:Value} {xs:List Value} {z:Nat} (hu:w.ownsRow B e s u n xs) (ha:apartV v u) (hz:w.heap.size ≤ z) (hv:v'.ownBlock = v.ownBlock ∨ v'.ownBlock = some z):apartV v' u:=by
 intro k hk hk'
 rcases hv with hv | hv
 ·rw [hv] at hk;exact ha k hk hk'
 ·rw [hv] at hk;injection hk with hk;have:=(hu.lt k hk').2;omega
theorem own_far2 {w w':World} {B s n:Nat} {e:TypeId} {v x:Value} {xs:List Value} (h:w.ownsRow B e s v n xs) (hg:w.grownBy w' x.ownBlock) (hne:apartV v x):w'.ownsRow B e s v n xs :=
 own_stay h fun b _ hl hb=>hg.block b hl fun e=>hne b hb e.symm
theorem CRows.addP {w w':World} {B n:Nat} {P Q D:Nat → Value} {C:Nat → Col} (h:CRows w B n P Q D C) {j:Nat} (hj:j < n) {v':Value} {c':Col} (hg:w.grownBy w' (P j).ownBlock)
  (ho:w'.ownsRow B 3 1 v' c'.rep.length (c'.rep.flatMap intC)) (hn:v'.ownBlock = (P j).ownBlock ∨ v'.ownBlock = some w.heap.size) (h1:c'.df = (C j).df) (h2:c'.vals = (C j).vals) :
  CRows w' B n (upd P j v') Q D (upd C j c') where
 p i hi:=by
  by_cases e:i = j
  ·subst e;rw [upd_same,upd_same];exact ho
  ·rw [upd_ne _ _ e,upd_ne _ _ e];exact own_far2 (h.p i hi) hg (h.pp i j hi hj e)
 q i hi:=by
  have:=own_far2 (h.q i hi) hg (h.pq j i hj hi).symm
  by_cases e:i = j
  ·subst e;rw [upd_same,h1];exact this
  ·rw [upd_ne _ _ e];exact this
 d i hi:=by
  have:=own_far2 (h.d i hi) hg (own_ne_type (h.d i hi) (h.p j hj) (by decide))
  by_cases e:i = j
  ·subst e;rw [upd_same,h2];exact this
  ·rw [upd_ne _ _ e];exact this
 pp i k hi hk hne:=by
  by_cases e:i = j
  ·subst e;rw [upd_same,upd_ne _ _ (Ne.symm hne)];exact apart_new (h.p k hk) (h.pp i k hi hk hne) (Nat.le_refl _) hn
  ·rw [upd_ne _ _ e]
   by_cases e2:k = j
   ·subst e2;rw [upd_same];exact (apart_new (h.p i hi) (h.pp k i hk hi (Ne.symm hne)) (Nat.le_refl _) hn).symm
   ·rw [upd_ne _ _ e2];exact h.pp i k hi hk hne
 pq i k hi hk:=by
  by_cases e:i = j
  ·subst e;rw [upd_same];exact apart_new (h.q k hk) (h.pq i k hi hk) (Nat.le_refl _) hn
  ·rw [upd_ne _ _ e];exact h.pq i k hi hk
 qq:=h.qq
 dd:=h.dd
theorem CRows.addQ {w w':World} {B n:Nat} {P Q D:Nat → Value} {C:Nat → Col} (h:CRows w B n P Q D C) {j:Nat} (hj:j < n) {v':Value} {c':Col} (hg:w.grownBy w' (Q j).ownBlock)
  (ho:w'.ownsRow B 3 1 v' c'.df.length (c'.df.flatMap intC)) (hn:v'.ownBlock = (Q j).ownBlock ∨ v'.ownBlock = some w.heap.size) (h1:c'.rep = (C j).rep) (h2:c'.vals = (C j).vals) :
  CRows w' B n P (upd Q j v') D (upd C j c') where
 q i hi:=by
  by_cases e:i = j
  ·subst e;rw [upd_same,upd_same];exact ho
  ·rw [upd_ne _ _ e,upd_ne _ _ e];exact own_far2 (h.q i hi) hg (h.qq i j hi hj e)
 p i hi:=by
  have:=own_far2 (h.p i hi) hg (h.pq i j hi hj)
  by_cases e:i = j
  ·subst e;rw [upd_same,h1];exact this
  ·rw [upd_ne _ _ e];exact this
 d i hi:=by
  have:=own_far2 (h.d i hi) hg (own_ne_type (h.d i hi) (h.q j hj) (by decide))
  by_cases e:i = j
  ·subst e;rw [upd_same,h2];exact this
  ·rw [upd_ne _ _ e];exact this
 qq i k hi hk hne:=by
  by_cases e:i = j
  ·subst e;rw [upd_same,upd_ne _ _ (Ne.symm hne)];exact apart_new (h.q k hk) (h.qq i k hi hk hne) (Nat.le_refl _) hn
  ·rw [upd_ne _ _ e]
   by_cases e2:k = j
   ·subst e2;rw [upd_same];exact (apart_new (h.q i hi) (h.qq k i hk hi (Ne.symm hne)) (Nat.le_refl _) hn).symm
   ·rw [upd_ne _ _ e2];exact h.qq i k hi hk hne
 pq i k hi hk:=by
  by_cases e:k = j
  ·subst e;rw [upd_same];exact (apart_new (h.p i hi) (h.pq i k hi hk).symm (Nat.le_refl _) hn).symm
  ·rw [upd_ne _ _ e];exact h.pq i k hi hk
 pp:=h.pp
 dd:=h.dd
theorem CRows.addD {w w':World} {B n:Nat} {P Q D:Nat → Value} {C:Nat → Col} (h:CRows w B n P Q D C) {j:Nat} (hj:j < n) {v':Value} {c':Col} (hg:w.grownBy w' (D j).ownBlock)
  (ho:w'.ownsRow B 62 3 v' c'.vals.length (c'.vals.flatMap valCells)) (hn:v'.ownBlock = (D j).ownBlock ∨ v'.ownBlock = some w.heap.size) (h1:c'.rep = (C j).rep) (h2:c'.df = (C j).df) :
  CRows w' B n P Q (upd D j v') (upd C j c') where
 d i hi:=by
  by_cases e:i = j
  ·subst e;rw [upd_same,upd_same];exact ho
  ·rw [upd_ne _ _ e,upd_ne _ _ e];exact own_far2 (h.d i hi) hg (h.dd i j hi hj e)
 p i hi:=by
  have:=own_far2 (h.p i hi) hg (own_ne_type (h.p i hi) (h.d j hj) (by decide))
  by_cases e:i = j
  ·subst e;rw [upd_same,h1];exact this
  ·rw [upd_ne _ _ e];exact this
 q i hi:=by
  have:=own_far2 (h.q i hi) hg (own_ne_type (h.q i hi) (h.d j hj) (by decide))
  by_cases e:i = j
  ·subst e;rw [upd_same,h2];exact this
  ·rw [upd_ne _ _ e];exact this
 dd i k hi hk hne:=by
  by_cases e:i = j
  ·subst e;rw [upd_same,upd_ne _ _ (Ne.symm hne)];exact apart_new (h.d k hk) (h.dd i k hi hk hne) (Nat.le_refl _) hn
  ·rw [upd_ne _ _ e]
   by_cases e2:k = j
   ·subst e2;rw [upd_same];exact (apart_new (h.d i hi) (h.dd k i hk hi (Ne.symm hne)) (Nat.le_refl _) hn).symm
   ·rw [upd_ne _ _ e2];exact h.dd i k hi hk hne
 pp:=h.pp
 pq:=h.pq
 qq:=h.qq
def CCells (cs:Array Value) (n:Nat) (ids:Nat → Int) (P Q D:Nat → Value):Prop:=∀ j,j < n → cs[j * 4]? = some (.int .i64 (ids j)) ∧ cs[j * 4 + 1]? = some (P j) ∧ cs[j * 4 + 2]? = some (Q j) ∧ cs[j * 4 + 3]? = some (D j)
theorem set_get {cs:Array Value} {i k:Nat} {v x:Value} (h:cs[k]? = some x) (hne:i ≠ k):(cs.setIfInBounds i v)[k]? = some x:=by rw [Array.getElem?_setIfInBounds_ne hne];exact h
theorem set_at {cs:Array Value} {i:Nat} {v x:Value} (h:cs[i]? = some x):(cs.setIfInBounds i v)[i]? = some v:=by
 have:=(Array.getElem?_eq_some_iff.1 h).1
 rw [Array.getElem?_setIfInBounds_self_of_lt this]
theorem CCells.setP {cs:Array Value} {n:Nat} {ids:Nat → Int} {P Q D:Nat → Value} (h:CCells cs n ids P Q D) {j:Nat} (hj:j < n) (v:Value):CCells (cs.setIfInBounds (j * 4 + 1) v) n ids (upd P j v) Q D:=by
 intro i hi
 obtain ⟨h0,h1,h2,h3⟩:=h i hi
 refine ⟨set_get h0 (by omega),?_,set_get h2 (by omega),set_get h3 (by omega)⟩
 by_cases e:i = j
 ·subst e;rw [upd_same];exact set_at h1
 ·rw [upd_ne _ _ e];exact set_get h1 (by omega)
theorem CCells.setQ {cs:Array Value} {n:Nat} {ids:Nat → Int} {P Q D:Nat → Value} (h:CCells cs n ids P Q D) {j:Nat} (hj:j < n) (v:Value):CCells (cs.setIfInBounds (j * 4 + 2) v) n ids P (upd Q j v) D:=by
 intro i hi
 obtain ⟨h0,h1,h2,h3⟩:=h i hi
 refine ⟨set_get h0 (by omega),set_get h1 (by omega),?_,set_get h3 (by omega)⟩
 by_cases e:i = j
 ·subst e;rw [upd_same];exact set_at h2
 ·rw [upd_ne _ _ e];exact set_get h2 (by omega)
theorem CCells.setD {cs:Array Value} {n:Nat} {ids:Nat → Int} {P Q D:Nat → Value} (h:CCells cs n ids P Q D) {j:Nat} (hj:j < n) (v:Value):CCells (cs.setIfInBounds (j * 4 + 3) v) n ids P Q (upd D j v):=by
 intro i hi
 obtain ⟨h0,h1,h2,h3⟩:=h i hi
 refine ⟨set_get h0 (by omega),set_get h1 (by omega),set_get h2 (by omega),?_⟩
 by_cases e:i = j
 ·subst e;rw [upd_same];exact set_at h3
 ·rw [upd_ne _ _ e];exact set_get h3 (by omega)
structure Fr (B0 B g:Nat) (w w':World):Prop where
 below:Below B0 w w'
 lo:∀ b,b < B → b ≠ g → w'.heap[b]? = w.heap[b]?
 tag:∀ (b:Nat) (cs:Array Value) (T:TypeId) (fz:Nat × Nat),T ≠ 3 → T ≠ 62 → b ≠ g → w.heap[b]? = some (.cells cs T fz) → w'.heap[b]? = some (.cells cs T fz)
theorem Fr.refl (B0 B g:Nat) (w:World):Fr B0 B g w w:=⟨Below.refl _ _,fun _ _ _=>rfl,fun _ _ _ _ _ _ _ h=>h⟩
theorem Fr.trans {B0 B g:Nat} {a b c:World} (h:Fr B0 B g a b) (k:Fr B0 B g b c):Fr B0 B g a c :=
 ⟨h.below.trans k.below,fun i h1 h2=>(k.lo i h1 h2).trans (h.lo i h1 h2),fun i cs T fz h1 h2 h3 hg=>k.tag i cs T fz h1 h2 h3 (h.tag i cs T fz h1 h2 h3 hg)⟩
theorem Fr.of_below {B0 B g:Nat} {w w':World} (h:Below w.heap.size w w') (h0:B0 ≤ B) (hB:B ≤ w.heap.size):Fr B0 B g w w' :=
 ⟨h.mono (by omega),fun b hb _=>h.block b (by omega),fun b cs T fz _ _ _ hg=>row_keep h hg⟩
theorem Fr.size {B0 B g:Nat} {w w':World} (h:Fr B0 B g w w'):w.heap.size ≤ w'.heap.size:=h.below.size
theorem Fr.grown {B0 B g s n:Nat} {w w':World} {e:TypeId} {v:Value} {xs:List Value} (ho:w.ownsRow B e s v n xs) (he:e = 3 ∨ e = 62) (hg:w.grownBy w' v.ownBlock) (h0:B0 ≤ B) (hB:B ≤ w.heap.size):Fr B0 B g w w':=by
 refine ⟨(Below.refl B0 w).grown hg (by omega) (fun k hk=>Nat.le_trans h0 (ho.lt k hk).1),fun b hb _=>hg.block b (by omega) (fun e=>by have:=(ho.lt b e.symm).1;omega),fun b cs T fz h1 h2 _ hb=>?_⟩
 refine (hg.block b (row_lt hb) (fun e'=>?_)).trans hb
 rcases ho.2 with ⟨rfl,_⟩ | ⟨q,cap,cur,rfl,_,hq,_⟩
 ·simp [Value.ownBlock] at e'
 ·simp only [Value.ownBlock,Option.some.injEq] at e'
  subst e'
  rw [hb] at hq
  simp only [Option.some.injEq,Obj.cells.injEq] at hq
  obtain ⟨_,rfl,_⟩:=hq
  rcases he with he | he
  ·exact h1 he
  ·exact h2 he
theorem Fr.store {B0 B g:Nat} (w:World) (i:Nat) (v:Value) (h0:B0 ≤ g):Fr B0 B g w (w.setCell ⟨g,i,none⟩ v) :=
 ⟨(Below.refl B0 w).setCell (p:=⟨g,i,none⟩) h0 v,fun b _ hne=>heap_setCell_other w ⟨g,i,none⟩ b v hne,fun b cs T fz _ _ hne hg=>(heap_setCell_other w ⟨g,i,none⟩ b v hne).trans hg⟩
structure Wr (B0 B W g cap n:Nat) (mv:Value) (mx ids:Nat → Int) (w:World) (C:Nat → Col):Prop where
 hW:W < B
 hg:g < B
 hgW:g ≠ W
 hB:B ≤ w.heap.size
 h0:B0 ≤ B
 h0g:B0 ≤ g
 nc:n ≤ cap
 n1:n ≤ 1000000
 wr:w.heap[W]? = some (.cells #[.slice (some ⟨g,0,none⟩) n cap,mv] 88 (0,0))
 mx:∃ (gm mc:Nat) (cur:Array Value),mv = .slice (some ⟨gm,0,none⟩) n mc ∧ gm < B ∧ gm ≠ g ∧ w.heap[gm]? = some (.cells cur 3 (0,0)) ∧ ∀ j,j < n → cur[j]? = some (.int .i64 (mx j))
 st:∃ (cs:Array Value) (P Q D:Nat → Value),w.heap[g]? = some (.cells cs 27 (0,0)) ∧ CCells cs n ids P Q D ∧ CRows w B n P Q D C
 len:∀ j,j < n → (C j).df.length = (C j).rep.length ∧ (C j).vals.length ≤ (C j).rep.length
theorem Wr.keep {B0 B W g cap n:Nat} {mv:Value} {mx ids:Nat → Int} {w w':World} {C:Nat → Col} (h:Wr B0 B W g cap n mv mx ids w C) (hb:Below w.heap.size w w'):Wr B0 B W g cap n mv mx ids w' C:=by
 obtain ⟨gm,mc,cur,h1,h2,h3,h4,h5⟩:=h.mx
 obtain ⟨cs,P,Q,D,k1,k2,k3⟩:=h.st
 exact ⟨h.hW,h.hg,h.hgW,Nat.le_trans h.hB hb.size,h.h0,h.h0g,h.nc,h.n1,row_keep hb h.wr,⟨gm,mc,cur,h1,h2,h3,row_keep hb h4,h5⟩,⟨cs,P,Q,D,row_keep hb k1,k2,k3.below hb⟩,h.len⟩
end Go.Proofs.YtdcgihplkangeaaGreatDoor
