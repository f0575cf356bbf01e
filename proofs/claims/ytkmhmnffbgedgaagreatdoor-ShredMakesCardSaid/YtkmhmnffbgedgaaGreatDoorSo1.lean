/- The walk of the document's OwnColumns. -/
import Derived.Test.YtkmhmnffbgedgaaGreatDoorMOw
import Derived.Test.YtkmhmnffbgedgaaGreatDoorColC
import Derived.Test.YtkmhmnffbgedgaaGreatDoorTv2
namespace Go.Proofs.YtkmhmnffbgedgaaGreatDoor
set_option linter.unusedVariables false
set_option linter.unusedSimpArgs false
open Go Go.RowKit Go.ChangeShapes
abbrev ColV:=Col × Value × Value × Value
def colC (p:ColV):List Value:=[.int .i64 p.1.id,cell1 p.2.1,cell1 p.2.2.1,cell1 p.2.2.2]
theorem colC_one (p:ColV):∀ u ∈ colC p,u.oneCell' = true:=by
 intro u hu
 simp only [colC,List.mem_cons,List.not_mem_nil,or_false] at hu
 rcases hu with rfl | rfl | rfl | rfl <;> first | rfl | exact cell1_one _
theorem col_info3:(Tryz.prog.info? 51).map (fun i=>(i.zero,i.size,i.bytes)) = some (some (.agg #[.int .i64 0,.slice none 0 0,.slice none 0 0,.slice none 0 0]),4,80):=by kernel_rfl
theorem flat4 (L:List ColV):∀ (i:Nat) p,L[i]? = some p → ∀ j,j < 4 → (L.flatMap colC)[i * 4 + j]? = (colC p)[j]?:=by
 induction L with
 | nil=>intro i p h;simp at h
 | cons a r ih =>
  intro i p h j hj
  rw [List.flatMap_cons]
  have e:(colC a).length = 4:=rfl
  cases i with
  | zero=>simp at h;subst h;rw [List.getElem?_append_left (by rw [e];omega)];simp
  | succ i=>rw [List.getElem?_append_right (by rw [e];omega),e,show (i + 1) * 4 + j - 4 = i * 4 + j by omega];exact ih i p (by simpa using h) j hj
def OwnP (B:Nat) (w:World) (p:ColV):Prop:=w.ownsRow B 3 1 p.2.1 p.1.rep.length (p.1.rep.map iV) ∧ w.ownsRow B 3 1 p.2.2.1 p.1.df.length (p.1.df.map iV) ∧ w.ownsRow B 44 3 p.2.2.2 p.1.vals.length (p.1.vals.flatMap valCells)
theorem own_base0 {w:World} {B B' n s:Nat} {e:TypeId} {v:Value} {xs:List Value} (h:w.ownsRow B e s v n xs) (hB:B' ≤ B):w.ownsRow B' e s v n xs:=by
 refine ⟨h.1,?_⟩
 rcases h.2 with h0 | ⟨g,cap,cur,hv,h1,h2,h3⟩
 ·exact .inl h0
 ·exact .inr ⟨g,cap,cur,hv,Nat.le_trans hB h1,h2,h3⟩
theorem own_tag {w w':World} {B n s:Nat} {e:TypeId} {v:Value} {xs:List Value} (h:w.ownsRow B e s v n xs) (hk:∀ (b:Nat) (cs:Array Value) (fr:Nat × Nat),w.heap[b]? = some (.cells cs e fr) → w'.heap[b]? = some (.cells cs e fr)):w'.ownsRow B e s v n xs:=by
 refine ⟨h.1,?_⟩
 rcases h.2 with h0 | ⟨g,cap,cur,hv,h1,h2,h3⟩
 ·exact .inl h0
 ·exact .inr ⟨g,cap,cur,hv,h1,hk _ _ _ h2,h3⟩
theorem OwnP.tag {B:Nat} {w w':World} {p:ColV} (h:OwnP B w p) (hk:∀ (b:Nat) (cs:Array Value) (e:TypeId) (fr:Nat × Nat),e ≠ 51 → w.heap[b]? = some (.cells cs e fr) → w'.heap[b]? = some (.cells cs e fr)):OwnP B w' p :=
 ⟨own_tag h.1 fun b cs fr=>hk b cs _ fr (by decide),own_tag h.2.1 fun b cs fr=>hk b cs _ fr (by decide),own_tag h.2.2 fun b cs fr=>hk b cs _ fr (by decide)⟩
theorem OwnP.below {B:Nat} {w w':World} {p:ColV} (h:OwnP B w p) (hb:Below w.heap.size w w'):OwnP B w' p:=h.tag fun b cs e fr _ hr=>row_keep hb hr
theorem own_lit {w:World} {B n s:Nat} {e:TypeId} {v:Value} {xs:List Value} (h:w.ownsRow B e s v n xs):∃ m b c,v = .slice b m c:=by
 obtain ⟨b,c,h1,-⟩:=own_cap h
 exact ⟨n,b,c,h1⟩
theorem cols_of_own {w:World} {B:Nat} {v:Value} {L:List ColV} (h:w.ownsRow B 51 4 v L.length (L.flatMap colC)) (hs:∀ p ∈ L,OwnP B w p):IsCols w v (L.map Prod.fst):=by
 rcases h.2 with ⟨rfl,h0⟩ | ⟨g,cap,cur,rfl,h1,h2,h3⟩
 ·have:L = []:=List.eq_nil_of_length_eq_zero h0
  subst this
  exact .inl ⟨rfl,none,0,rfl⟩
 ·refine .inr ⟨g,0,cap,by rw [List.length_map],(Array.getElem?_eq_some_iff.1 h2).1,fun j c hj=>?_⟩
  rw [List.getElem?_map] at hj
  cases hx:L[j]? with
  | none=>simp [hx] at hj
  | some p =>
   simp [hx] at hj
   subst hj
   obtain ⟨o1,o2,o3⟩:=hs p (List.mem_of_getElem? hx)
   refine ⟨p.2.1,p.2.2.1,p.2.2.2,IsInts_of_own o1,IsInts_of_own o2,IsVals.of_own o3,fun q u hu=>?_⟩
   have hjl:=(List.getElem?_eq_some_iff.1 hx).1
   have hq:q < 4:=by
    rcases Nat.lt_or_ge q 4 with h | h
    ·exact h
    ·rw [Array.getElem?_eq_none (by simp [colA];omega)] at hu;cases hu
   rw [Nat.zero_add,h.cellAt _ (by omega),flat4 L j p hx q hq,← hu]
   have hc:∀ {v:Value},(∃ m b c,v = .slice b m c) → cell1 v = v:=fun {v} ⟨m,b,c,h⟩=>by subst h;rfl
   unfold colA colC
   rw [hc (own_lit o1),hc (own_lit o2),hc (own_lit o3)]
   match q,hq with
   | 0,_=>rfl
   | 1,_=>rfl
   | 2,_=>rfl
   | 3,_=>rfl
def OwnCsRet (l:List Col) (w:World) (e:Ending) (w':World):Prop:=∃ v,e = .returned v ∧ IsCols w' v l ∧ Below w.heap.size w w'
end Go.Proofs.YtkmhmnffbgedgaaGreatDoor
