/- Shredding: what is wrong with records; the columns of right ones; a writer at its start and at its end. -/
import Derived.Test.YtdcgihplkangeaaGreatDoorSh4
import Derived.Test.YtdcgihplkangeaaGreatDoorSh6
import Derived.Test.YtdcgihplkangeaaGreatDoorDc2
namespace Go.Proofs.YtdcgihplkangeaaGreatDoor
set_option linter.unusedVariables false
set_option linter.unusedSimpArgs false
open Go Go.RowKit Go.ChangeShapes
def badDt (n:Nd):List Dt → Nat → GErr
 | [],_=>.nil
 | x :: r,i=>if datE n false x = 0 then badDt n r (i + 1) else .fault (datE n false x) (i:Nat)
def shredErr (n:Nd) (l:List Dt):GErr:=if validE n ≠ 0 then .sent (validE n) else if 100 < l.length then .sent 2 else badDt n l 0
theorem badDt_take (n:Nd):∀ (l:List Dt) (i k:Nat) (x:Dt),l[k]? = some x → (∀ (j:Nat) y,j < k → l[j]? = some y → datE n false y = 0) → datE n false x ≠ 0 → badDt n l i = .fault (datE n false x) ((i + k:Nat):Int)
 | [],i,k,x,h,_,_=>by simp at h
 | a :: r,i,0,x,h,_,hx=>by
  obtain rfl:a = x:=by simpa using h
  simp only [badDt];rw [if_neg hx];rfl
 | a :: r,i,k + 1,x,h,hj,hx=>by
  simp only [badDt]
  rw [if_pos (hj 0 a (by omega) rfl),badDt_take n r (i + 1) k x (by simpa using h) (fun j y hjk hy=>hj (j + 1) y (by omega) (by simpa using hy)) hx,show i + 1 + k = i + (k + 1) by omega]
theorem badDt_nil (n:Nd):∀ (l:List Dt) (i:Nat),(∀ (j:Nat) y,l[j]? = some y → datE n false y = 0) → badDt n l i = .nil
 | [],_,_=>rfl
 | a :: r,i,h=>by
  simp only [badDt]
  rw [if_pos (h 0 a rfl)]
  exact badDt_nil n r (i + 1) fun j y hy=>h (j + 1) y (by simpa using hy)
def shAll (n:Nd) (l:List Dt) (j:Nat):List Ent:=l.flatMap fun d=>shE n d 0 0 0 0 false j
theorem shAll_up (n:Nd) {l:List Dt} {k:Nat} {x:Dt} (h:l[k]? = some x) (j:Nat):shAll n (l.take (k + 1)) j = shAll n (l.take k) j ++ shE n x 0 0 0 0 false j ∧ (shAll n (l.take k) j).length + (shE n x 0 0 0 0 false j).length ≤ (shAll n l j).length:=by
 have e:l.take (k + 1) = l.take k ++ [x]:=by rw [List.take_add_one,h];rfl
 have a:shAll n (l.take (k + 1)) j = shAll n (l.take k) j ++ shE n x 0 0 0 0 false j:=by unfold shAll;rw [e,List.flatMap_append];simp
 refine ⟨a,?_⟩
 have b:shAll n l j = shAll n (l.take (k + 1)) j ++ shAll n (l.drop (k + 1)) j:=by unfold shAll;rw [← List.flatMap_append,List.take_append_drop]
 rw [b,a];simp only [List.length_append];omega
theorem shAll_len (n:Nd) (l:List Dt) (j:Nat):(shAll n l j).length ≤ wgtL l:=by
 induction l with
 | nil=>simp [shAll]
 | cons x r ih =>
  unfold shAll at ih ⊢
  rw [List.flatMap_cons,List.length_append]
  simp only [wgtL]
  have:=shE_len x n 0 0 0 0 false j
  omega
def lvMd (n:Nd) (j:Nat):Int:=(((leavesN n)[j]?).map Lvf.md).getD 0
def lvId (n:Nd) (j:Nat):Int:=(((leavesN n)[j]?).map Lvf.id).getD 0
def shCol (n:Nd) (l:List Dt) (j:Nat):Col:=addC (lvMd n j) ⟨lvId n j,[],[],[]⟩ (shAll n l j)
def shCols (n:Nd) (l:List Dt):List Col:=(List.range (leavesN n).length).map (shCol n l)
theorem valid_shapes {n:Nd} (h:validE n = 0):∀ x ∈ nodes n,okShape x = true:=by
 obtain ⟨_,hr,hs,_⟩:=valid_facts h
 intro x hx
 rw [nodes_eq] at hx
 rcases List.mem_cons.1 hx with rfl | hx
 ·unfold rootOk at hr
  simp only [Bool.and_eq_true,decide_eq_true_eq,Bool.not_eq_true'] at hr
  obtain ⟨⟨⟨⟨_,_⟩,h1⟩,h2⟩,h3⟩:=hr
  unfold okShape
  rw [h1,h2,h3];rfl
 ·exact List.all_eq_true.1 hs x hx
theorem valid_root {n:Nd} (h:validE n = 0):n.kind = 0 ∧ n.sub ≠ [] ∧ n.rep = 1:=by
 obtain ⟨_,hr,_,_⟩:=valid_facts h
 unfold rootOk at hr
 simp only [Bool.and_eq_true,decide_eq_true_eq,Bool.not_eq_true'] at hr
 refine ⟨hr.1.2,fun e=>?_,hr.1.1.2⟩
 have:=hr.2
 rw [e] at this
 cases this
theorem lvs_pos:∀ n:Nd,(∀ x ∈ nodes n,okShape x = true) → 1 ≤ lvs n:=by
 apply Nd.ind
 intro n ih h
 rw [lvs_eq]
 split
 ·rename_i hk
  have h1:=h n (by rw [nodes_eq];exact List.mem_cons_self ..)
  unfold okShape at h1
  simp only [Bool.and_eq_true,beq_iff_eq] at h1
  have h2:=h1.2
  rw [decide_eq_false (by simpa using hk)] at h2
  cases hs:n.sub with
  | nil=>rw [hs] at h2;simp at h2
  | cons y r =>
   simp only [lvsL]
   have:=ih y (by rw [hs];exact List.mem_cons_self ..) (fun x hx=>h x (by rw [nodes_eq];exact List.mem_cons_of_mem _ (nodesL_mem (by rw [hs];exact List.mem_cons_self ..) hx)))
   omega
 ·exact Nat.le_refl _
theorem leaves_len {n:Nd} (h:n.kind = 0):(leavesN n).length = lvs n:=by rw [leaves_chs,List.length_map,chs_len.2,lvs_eq,if_pos h]
def zcC (p:Lvf × Value):List Value:=[.int .i64 p.1.id,.slice none 0 0,.slice none 0 0,.slice none 0 0]
theorem zcC_one (p:Lvf × Value):∀ u ∈ zcC p,u.oneCell' = true:=by
 intro u hu
 simp only [zcC,List.mem_cons,List.not_mem_nil,or_false] at hu
 rcases hu with rfl | rfl | rfl | rfl <;> rfl
def mdC (p:Lvf × Value):List Value:=[.int .i64 p.1.md]
theorem mdC_one (p:Lvf × Value):∀ u ∈ mdC p,u.oneCell' = true:=by intro u hu;obtain rfl:=List.mem_singleton.1 hu;rfl
theorem flat_atK {α:Type} (f:α → List Value) (k:Nat) (hfk:∀ y,(f y).length = k):∀ (l:List α) (i:Nat) (p:α),l[i]? = some p → ∀ j,j < k → (l.flatMap f)[i * k + j]? = (f p)[j]?:=by
 intro l
 induction l with
 | nil=>intro i p h;simp at h
 | cons a r ih =>
  intro i p h j hj
  rw [List.flatMap_cons]
  cases i with
  | zero=>simp at h;subst h;rw [List.getElem?_append_left (by rw [hfk];omega)];simp
  | succ i=>rw [List.getElem?_append_right (by rw [hfk,Nat.succ_mul];omega),hfk,show (i + 1) * k + j - k = i * k + j by rw [Nat.succ_mul];omega];exact ih i p (by simpa using h) j hj
theorem own_rowS {w:World} {B s n:Nat} {e:TypeId} {v:Value} {xs:List Value} (h:w.ownsRow B e s v n xs) (hn:0 < n):∃ (g cap:Nat) (cur:Array Value),v = .slice (some ⟨g,0,none⟩) n cap ∧ B ≤ g ∧ w.heap[g]? = some (.cells cur e (0,0)) ∧ n ≤ cap ∧ ∀ (i:Nat) (x:Value),xs[i]? = some x → cur[i]? = some x:=by
 rcases h.2 with ⟨_,h0⟩ | ⟨g,cap,cur,h1,h2,h3,h4,_,h6,h7⟩
 ·omega
 ·refine ⟨g,cap,cur,h1,h2,h3,h4,fun i x hx=>?_⟩
  rw [← h7,List.getElem?_take] at hx
  split at hx
  ·simpa using hx
  ·cases hx
theorem wr_start {B0 B1 W:Nat} {w:World} {a1 a2:Option Addr} {nL c1 c2:Nat} {LO:List (Lvf × Value)} (hn:LO.length = nL) (h0:0 < nL) (h1:nL ≤ 1000000) (h01:B0 ≤ B1) (hWB:B0 ≤ W) (hW1:W < B1)
  (hw:w.heap[W]? = some (.cells #[.slice a1 nL c1,.slice a2 nL c2] 88 (0,0))) (hc:w.ownsRow B1 27 4 (.slice a1 nL c1) nL (LO.flatMap zcC)) (hm:w.ownsRow B1 3 1 (.slice a2 nL c2) nL (LO.flatMap mdC)) :
  ∃ g,(Value.slice a1 nL c1) = .slice (some ⟨g,0,none⟩) nL c1 ∧ Wr B0 w.heap.size W g c1 nL (.slice a2 nL c2) (fun j=>((LO[j]?).map fun p=>p.1.md).getD 0) (fun j=>((LO[j]?).map fun p=>p.1.id).getD 0) w (fun j=>⟨((LO[j]?).map fun p=>p.1.id).getD 0,[],[],[]⟩):=by
 subst hn
 obtain ⟨g,cap,cur,e1,k1,k2,k3,k4⟩:=own_rowS hc h0
 obtain ⟨gm,capm,curm,e2,m1,m2,m3,m4⟩:=own_rowS hm h0
 injection e1 with e1 e1' e1''
 subst e1 e1''
 refine ⟨g,rfl,⟨row_lt hw,row_lt k2,by omega,Nat.le_refl _,?_,by omega,k3,h1,hw,⟨gm,capm,curm,e2,row_lt m2,?_,m2,?_⟩,⟨cur,fun _=>.slice none 0 0,fun _=>.slice none 0 0,fun _=>.slice none 0 0,k2,?_,?_⟩,fun j _=>⟨rfl,Nat.le_refl _⟩⟩⟩
 ·have:=row_lt hw;omega
 ·intro e
  subst e
  rw [m2] at k2
  simp only [Option.some.injEq,Obj.cells.injEq] at k2
  exact absurd k2.2.1 (by decide)
 ·intro j hj
  have hp:=List.getElem?_eq_getElem hj
  have:=flat_atK mdC 1 (fun _=>rfl) LO j _ hp 0 (by omega)
  refine m4 j _ ?_
  rw [hp]
  rw [show j * 1 + 0 = j by omega] at this
  rw [this];rfl
 ·intro j hj
  have hp:=List.getElem?_eq_getElem hj
  have key:=flat_atK zcC 4 (fun _=>rfl) LO j _ hp
  dsimp only
  rw [hp]
  exact ⟨k4 _ _ (key 0 (by omega)),k4 _ _ (key 1 (by omega)),k4 _ _ (key 2 (by omega)),k4 _ _ (key 3 (by omega))⟩
 ·have hnone:∀ j:Nat,(Value.slice none 0 0).ownBlock ≠ some j:=fun j h=>by simp [Value.ownBlock] at h
  exact ⟨fun j _=>World.ownsRow_nil _ _ _ _,fun j _=>World.ownsRow_nil _ _ _ _,fun j _=>World.ownsRow_nil _ _ _ _,fun _ _ _ _ _ k h=>absurd h (hnone k),fun _ _ _ _ k h=>absurd h (hnone k),fun _ _ _ _ _ k h=>absurd h (hnone k),fun _ _ _ _ _ k h=>absurd h (hnone k)⟩
theorem Wr.cols {B0 B W g cap n:Nat} {mv:Value} {mx ids:Nat → Int} {w:World} {C:Nat → Col} (h:Wr B0 B W g cap n mv mx ids w C) (hid:∀ j,j < n → (C j).id = ids j):IsCols w (.slice (some ⟨g,0,none⟩) n cap) ((List.range n).map C):=by
 obtain ⟨cs,P,Q,D,k1,k2,k3⟩:=h.st
 refine .inr ⟨g,0,cap,by rw [List.length_map,List.length_range],row_lt k1,fun j c hj=>?_⟩
 rw [List.getElem?_map] at hj
 obtain ⟨i,hi,rfl⟩:=Option.map_eq_some_iff.1 hj
 have hjn:j < n:=by have:=(List.getElem?_eq_some_iff.1 hi).1;simpa using this
 obtain rfl:j = i:=by rw [List.getElem?_range hjn] at hi;simpa using hi
 obtain ⟨c0,c1,c2,c3⟩:=k2 j hjn
 refine ⟨P j,Q j,D j,IsNums.of_own (B:=B) (e:=3) (by rw [← show (C j).rep.flatMap intC = _ from intC_map _];exact k3.p j hjn),IsNums.of_own (B:=B) (e:=3) (by rw [← show (C j).df.flatMap intC = _ from intC_map _];exact k3.q j hjn),IsVals.of_own (k3.d j hjn),fun i v hv=>?_⟩
 rw [Nat.zero_add]
 rw [rowc k1]
 have hi4:i < 4:=by have:=(Array.getElem?_eq_some_iff.1 hv).1;simpa [colA] using this
 rw [← hv]
 match i,hi4 with
 | 0,_=>rw [Nat.add_zero,c0,← hid j hjn];rfl
 | 1,_=>rw [c1];rfl
 | 2,_=>rw [c2];rfl
 | 3,_=>rw [c3];rfl
def ShredRet (adr:Nat → Addr) (G:GErr) (cols:List Col) (w:World) (e:Ending) (w':World):Prop:=Below w.heap.size w w' ∧
 ((G = .nil ∧ ∃ v,e = .returned (.tuple #[v,.nilIface]) ∧ IsCols w' v cols) ∨ (G ≠ .nil ∧ ∃ u,e = .returned (.tuple #[.slice none 0 0,u]) ∧ IsErr w' adr G u))
end Go.Proofs.YtdcgihplkangeaaGreatDoor
