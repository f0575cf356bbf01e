/- Merged texts: Bnd1, BestC, Tx1, Jn0, Pg1. -/
import Derived.Test.YtkmhmnffbgedgaaDoorMRef
import Derived.Test.YtkmhmnffbgedgaaDoorMHow
import Derived.Test.YtkmhmnffbgedgaaDoorMOw
import Derived.Test.YtkmhmnffbgedgaaDoorMWire
import Derived.Deep.RegionHeld3
import Derived.Test.YtkmhmnffbgedgaaDoorColC
/- Columns joined: plain Lean; what is known of them. -/
namespace Go.Proofs.YtkmhmnffbgedgaaDoor
set_option linter.unusedVariables false
open Go Go.RowKit
def Col.app (a b:Col):Col:=⟨a.id,a.rep ++ b.rep,a.df ++ b.df,a.vals ++ b.vals⟩
theorem levelsB_app (f:Lf):∀ (r d r' d':List Int),r.length = d.length → levelsB f r d = true → levelsB f r' d' = true → levelsB f (r ++ r') (d ++ d') = true
 | [],[],_,_,_,_,h=>by simpa using h
 | x :: r,y :: d,r',d',hl,h,h'=>by
  simp only [List.length_cons] at hl
  simp only [levelsB,Bool.and_eq_true,List.cons_append] at h ⊢
  exact ⟨h.1,levelsB_app f r d r' d' (by omega) h.2 h'⟩
theorem many_app (md:Int) (a b:List Int):many md (a ++ b) = many md a + many md b:=by
 unfold many
 rw [List.filter_append,List.length_append]
theorem colErr_nil {f:Lf} {c:Col} {free:Bool}:colErr f c free = .nil ↔ shapeB f c free = true ∧ ∀ x ∈ c.vals,OkP f.kind x:=by
 unfold colErr
 constructor
 ·intro h
  split at h
  ·rename_i hs
   refine ⟨hs,(badAt_none f.kind c.vals 0).1 ?_⟩
   split at h
   ·assumption
   ·cases h
  ·cases h
 ·rintro ⟨h1,h2⟩
  rw [if_pos h1,(badAt_none f.kind c.vals 0).2 h2]
structure Right (f:Lf) (c:Col):Prop where
 k1:1 ≤ f.kind
 k5:f.kind ≤ 5
 r0:0 ≤ f.mr
 r40:f.mr ≤ 40
 d0:0 ≤ f.md
 d40:f.md ≤ 40
 id:f.id = c.id
 len:c.rep.length = c.df.length
 lev:levelsB f c.rep c.df = true
 many:many f.md c.df = c.vals.length
 vals:∀ x ∈ c.vals,OkP f.kind x
theorem right_of {f:Lf} {c:Col} {free:Bool} (h:colErr f c free = .nil):Right f c ∧ (free || (c.rep.head?.getD 0 == 0)) = true:=by
 obtain ⟨h1,h2⟩:=colErr_nil.1 h
 unfold shapeB headB rightB at h1
 simp only [Bool.and_eq_true,decide_eq_true_iff] at h1
 obtain ⟨⟨⟨a1,a2,a3,a4,a5,a6⟩,b,c',d⟩,e,g⟩:=h1
 exact ⟨⟨a1,a2,a3,a4,a5,a6,b,c',e,g,h2⟩,d⟩
theorem Right.nil {f:Lf} {c:Col} {free:Bool} (h:Right f c) (hf:(free || (c.rep.head?.getD 0 == 0)) = true):colErr f c free = .nil:=by
 refine colErr_nil.2 ⟨?_,h.vals⟩
 unfold shapeB headB rightB
 simp only [Bool.and_eq_true,decide_eq_true_iff]
 exact ⟨⟨⟨h.k1,h.k5,h.r0,h.r40,h.d0,h.d40⟩,h.id,h.len,hf⟩,h.lev,h.many⟩
theorem Right.app {f:Lf} {a b:Col} (ha:Right f a) (hb:Right f b):Right f (a.app b) :=
 ⟨ha.k1,ha.k5,ha.r0,ha.r40,ha.d0,ha.d40,ha.id,by simp [Col.app,ha.len,hb.len],levelsB_app f _ _ _ _ ha.len ha.lev hb.lev,by simp [Col.app,many_app,ha.many,hb.many],by
  intro x hx
  rcases List.mem_append.1 hx with h | h
  ·exact ha.vals x h
  ·exact hb.vals x h⟩
end Go.Proofs.YtkmhmnffbgedgaaDoor
/- Which way is the best one: plain Lean. -/
namespace Go.Proofs.YtkmhmnffbgedgaaDoor
set_option linter.unusedVariables false
open Go Go.RowKit Go.ChangeShapes
end Go.Proofs.YtkmhmnffbgedgaaDoor
/- The text of what is known: plain Lean; the walks of stats.one and stats.Text. -/
namespace Go.Proofs.YtkmhmnffbgedgaaDoor
set_option linter.unusedVariables false
open Go Go.RowKit Go.ChangeShapes
end Go.Proofs.YtkmhmnffbgedgaaDoor
/- Columns in memory: slices of them; plain Lean on joining. -/
namespace Go.Proofs.YtkmhmnffbgedgaaDoor
set_option linter.unusedVariables false
open Go Go.RowKit Go.ChangeShapes
theorem Right.vals_leJ {f:Lf} {c:Col} (h:Right f c):c.vals.length ≤ c.rep.length:=by
 rw [← h.many,h.len];exact List.length_filter_le _ _
def joinC (id:Int) (l:List Col):Col:=⟨id,l.flatMap Col.rep,l.flatMap Col.df,l.flatMap Col.vals⟩
theorem own_cap' {w:World} {B n s:Nat} {e:TypeId} {v:Value} {xs:List Value} (h:w.ownsRow B e s v n xs):∃ m b c,v = .slice b m c:=by
 obtain ⟨b,c,h1,-⟩:=own_cap h
 exact ⟨n,b,c,h1⟩
theorem own_cap3 {w:World} {B n s:Nat} {e:TypeId} {v:Value} {xs:List Value} (h:w.ownsRow B e s v n xs):∃ m b c,v = .slice b m c ∧ m = n ∧ m ≤ c:=by
 obtain ⟨b,c,h1,h2⟩:=own_cap h
 exact ⟨n,b,c,h1,rfl,h2⟩
theorem flat_take_le {α β:Type} (g:α → List β) (l:List α) (j:Nat) (h:j < l.length):((l.take j).flatMap g).length + (g l[j]).length ≤ (l.flatMap g).length:=by
 have e:l.flatMap g = (l.take j).flatMap g ++ (g l[j] ++ (l.drop (j + 1)).flatMap g):=by
  rw [← List.flatMap_cons,← List.flatMap_append,← List.drop_eq_getElem_cons h,List.take_append_drop]
 rw [e,List.length_append,List.length_append]
 omega
theorem flat_len_le {α β γ:Type} (g:α → List β) (k:α → List γ):∀ (l:List α),(∀ c ∈ l,(g c).length ≤ (k c).length) → (l.flatMap g).length ≤ (l.flatMap k).length
 | [],_=>Nat.le_refl _
 | c :: l,h=>by
  rw [List.flatMap_cons,List.flatMap_cons,List.length_append,List.length_append]
  have h1:=h c (by simp)
  have h2:=flat_len_le g k l (fun x hx=>h x (List.mem_cons_of_mem _ hx))
  omega
end Go.Proofs.YtkmhmnffbgedgaaDoor
/- A page: plain Lean. -/
namespace Go.Proofs.YtkmhmnffbgedgaaDoor
set_option linter.unusedVariables false
open Go Go.RowKit Go.ChangeShapes
def lwd (m:Int):Nat:=Lib.bitLen m.toNat
theorem manyB_le (md:Int) (l:List Int):many md l ≤ l.length:=List.length_filter_le _ _
theorem Right.vals_le {f:Lf} {c:Col} (h:Right f c):c.vals.length ≤ c.rep.length:=by
 rw [← h.many,h.len];exact manyB_le _ _
def lev (m:Int) (l:List Int):List UInt8:=textOf (runsB (lwd m) (nats l) [])
end Go.Proofs.YtkmhmnffbgedgaaDoor
