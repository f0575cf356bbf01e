/- Slices of columns in memory. -/
import Derived.Test.YtkmhmnffbgedgaaDoorMVal
namespace Go.Proofs.YtkmhmnffbgedgaaDoor
set_option linter.unusedVariables false
open Go Go.RowKit Go.ChangeShapes
def ColAt (w:World) (b o:Nat) (c:Col):Prop:=∃ p q d,IsInts w p c.rep ∧ IsInts w q c.df ∧ IsVals w d c.vals ∧ ∀ j v,(colA c p q d)[j]? = some v → w.cell? ⟨b,o + j,none⟩ = some v
def IsCols (w:World) (v:Value) (l:List Col):Prop :=
 (l = [] ∧ ∃ ad cap,v = .slice ad 0 cap) ∨ ∃ b off cap,v = .slice (some ⟨b,off,none⟩) l.length cap ∧ b < w.heap.size ∧ ∀ (j:Nat) (c:Col),l[j]? = some c → ColAt w b (off + j * 4) c
theorem ColAt.below {w w':World} {b o:Nat} {c:Col} {B:Nat} (h:ColAt w b o c) (hb:Below B w w') (hB:w.heap.size ≤ B) (hl:b < w.heap.size):ColAt w' b o c:=by
 obtain ⟨p,q,d,h1,h2,h3,h4⟩:=h
 exact ⟨p,q,d,h1.below hb hB,h2.below hb hB,h3.below hb hB,fun j v hj=>(hb.cell (p:=⟨b,o + j,none⟩) (Nat.lt_of_lt_of_le hl hB)).trans (h4 j v hj)⟩
theorem IsCols.below {w w':World} {v:Value} {l:List Col} {B:Nat} (h:IsCols w v l) (hb:Below B w w') (hB:w.heap.size ≤ B):IsCols w' v l:=by
 rcases h with h | ⟨b,off,cap,h1,h2,h3⟩
 ·exact .inl h
 ·exact .inr ⟨b,off,cap,h1,Nat.lt_of_lt_of_le h2 hb.size,fun j c hj=>(h3 j c hj).below hb hB h2⟩
theorem IsCols.form {w:World} {v:Value} {l:List Col} (h:IsCols w v l):∃ ad cap,v = .slice ad l.length cap:=by
 rcases h with ⟨rfl,ad,cap,rfl⟩ | ⟨b,off,cap,rfl,_⟩
 ·exact ⟨ad,cap,rfl⟩
 ·exact ⟨_,cap,rfl⟩
theorem IsCols.at {w:World} {ad:Option Addr} {n cap:Nat} {l:List Col} (h:IsCols w (.slice ad n cap) l) (hl:0 < l.length) :
  ∃ b off,ad = some ⟨b,off,none⟩ ∧ n = l.length ∧ b < w.heap.size ∧ ∀ (j:Nat) (c:Col),l[j]? = some c → ColAt w b (off + j * 4) c:=by
 rcases h with ⟨rfl,_⟩ | ⟨b,off,cap',hv,h2,h3⟩
 ·simp at hl
 ·injection hv with e1 e2 e3
  exact ⟨b,off,e1,e2,h2,h3⟩
theorem col_info:(Tryd.prog.info? 32).map (·.size) = some 4:=by kernel_rfl
end Go.Proofs.YtkmhmnffbgedgaaDoor
