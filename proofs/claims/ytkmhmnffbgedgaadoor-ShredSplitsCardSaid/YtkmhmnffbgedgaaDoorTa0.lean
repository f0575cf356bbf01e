/- Which leaf is read next: plain; the walk of auto.common. -/
import Derived.Test.YtkmhmnffbgedgaaDoorTv3
import Derived.BigQuiet
import Derived.Test.YtkmhmnffbgedgaaDoorRegE
import Derived.Deep.DeepCutAuto
import Derived.Test.YtkmhmnffbgedgaaDoorTr2
import Derived.Test.YtkmhmnffbgedgaaDoorMRow
namespace Go.Proofs.YtkmhmnffbgedgaaDoor
set_option linter.unusedVariables false
set_option linter.unusedSimpArgs false
open Go Go.RowKit Go.ChangeShapes
def commonN:List Int → List Int → Nat
 | a :: x,b :: y=>if a = b then 1 + commonN x y else 0
 | _,_=>0
end Go.Proofs.YtkmhmnffbgedgaaDoor
/- The walk of auto.lists. -/
namespace Go.Proofs.YtkmhmnffbgedgaaDoor
set_option linter.unusedVariables false
set_option linter.unusedSimpArgs false
open Go Go.RowKit Go.ChangeShapes
def IntsT (w:World) (v:Value) (l:List Int):Prop:=IsInts w v l ∧ (l = [] ∨ ∃ (g o n c:Nat) (cs:Array Value) (fz:Nat × Nat),v = .slice (some ⟨g,o,none⟩) n c ∧ w.heap[g]? = some (.cells cs 3 fz))
theorem IntsT.nil (w:World):IntsT w (.slice none 0 0) []:=⟨.inl ⟨rfl,none,0,rfl⟩,.inl rfl⟩
theorem IntsT.keep {w w':World} {v:Value} {l:List Int} (h:IntsT w v l) (hz:w.heap.size ≤ w'.heap.size) (hk:∀ (g:Nat) (cs:Array Value) (fz:Nat × Nat),w.heap[g]? = some (.cells cs 3 fz) → w'.heap[g]? = some (.cells cs 3 fz)):IntsT w' v l:=by
 obtain ⟨h1,h2⟩:=h
 rcases h2 with rfl | ⟨g,o,n,c,cs,fz,rfl,hg⟩
 ·rcases h1 with h1 | ⟨b,off,cap,hv,hlt,hc⟩
  ·exact ⟨.inl h1,.inl rfl⟩
  ·exact ⟨.inl ⟨rfl,_,_,hv⟩,.inl rfl⟩
 ·have hg':=hk g cs fz hg
  rcases h1 with h1 | ⟨b,off,cap,hv,hlt,hc⟩
  ·exact ⟨.inl h1,.inr ⟨g,o,n,c,cs,fz,rfl,hg'⟩⟩
  ·injection hv with e1 e2 e3
   injection e1 with e1
   injection e1 with e1 e4 e5
   subst e1 e4
   refine ⟨.inr ⟨g,o,cap,by rw [e2,e3],by omega,fun j x hj=>?_⟩,.inr ⟨g,o,n,c,cs,fz,rfl,hg'⟩⟩
   rw [World.cell?_of_block (w:=w) (w':=w') (a:=⟨g,o + j,none⟩) (hg'.trans hg.symm)]
   exact hc j x hj
theorem IntsT.below {w w':World} {v:Value} {l:List Int} (h:IntsT w v l) (hb:Below w.heap.size w w'):IntsT w' v l:=h.keep hb.size fun g cs fz hg=>row_keep hb hg
theorem IntsT.of_own {w:World} {B:Nat} {v:Value} {l:List Int} (h:w.ownsRow B 3 1 v l.length (l.map intN)):IntsT w v l:=by
 refine ⟨IsNums.of_own (B:=B) (e:=3) h,?_⟩
 rcases h.2 with ⟨h1,h0⟩ | ⟨g,cap,cur,hv,h1,h2,h3⟩
 ·exact .inl (List.eq_nil_of_length_eq_zero h0)
 ·exact .inr ⟨g,0,_,cap,cur,_,hv,h2⟩
def rwC (p:List Int × Value):Value:=cell1 p.2
def RowsAt (B:Nat) (w:World) (v:Value) (LR:List (List Int × Value)):Prop:=w.ownsRow B 22 1 v LR.length (LR.map rwC) ∧ ∀ p ∈ LR,IntsT w p.2 p.1
theorem RowsAt.below {B:Nat} {w w':World} {v:Value} {LR:List (List Int × Value)} (h:RowsAt B w v LR) (hb:Below w.heap.size w w'):RowsAt B w' v LR:=⟨own_blw h.1 hb,fun p hp=>(h.2 p hp).below hb⟩
theorem sizeL_app (a b:List Nd):sizeL (a ++ b) = sizeL a + sizeL b:=by
 induction a with
 | nil=>simp [sizeL]
 | cons x r ih=>simp only [List.cons_append,sizeL,ih];omega
theorem hgt_mem {x:Nd} {l:List Nd} (h:x ∈ l):hgt x ≤ hgtL l:=by
 induction l with
 | nil=>cases h
 | cons y r ih =>
  simp only [hgtL]
  rcases List.mem_cons.1 h with rfl | h
  ·omega
  ·have:=ih h;omega
end Go.Proofs.YtkmhmnffbgedgaaDoor
/- The walk of data.bare. -/
namespace Go.Proofs.YtkmhmnffbgedgaaDoor
set_option maxHeartbeats 16000000
set_option linter.unusedVariables false
set_option linter.unusedSimpArgs false
open Go Go.RowKit Go.ChangeShapes
theorem isEmpty_len {α:Type} (l:List α):l.isEmpty = decide (l.length = 0):=by cases l <;> simp
set_option maxRecDepth 100000 in
theorem dbare_any (d:Dt) (ul uf:Value) (a b c e:Bool) (w:World) (P:Nat → Prop) (hv:d.v.Ok) (hl:IsDts P w ul d.l) (hf:IsDts P w uf d.f) (hp:(a,b,c,e) = (true,false,false,false) ∨ (a,b,c,e) = (false,false,true,false) ∨ (a,b,c,e) = (false,true,false,false) ∨ (a,b,c,e) = (false,false,false,true)) :
  Calls Tryd.prog 75 #[.agg (dtA d ul uf),.bool a,.bool b,.bool c,.bool e] w fun r w'=>r = .returned (.bool (bareB d a b c e)) ∧ Below w.heap.size w w':=by
 obtain ⟨al,cl,rfl⟩:=hl.form
 obtain ⟨af,cf,rfl⟩:=hf.form
 unfold bareB hasV
 rw [isEmpty_len,isEmpty_len]
 have hbv:(d.v.k = 0 ∧ d.v.n = 0 ∧ d.v.s = ByteArray.empty ∧ valEq d.v zeroV = true) ∨ (¬ d.v.k = 0 ∧ valEq d.v zeroV = false) ∨ (d.v.k = 0 ∧ ¬ d.v.n = 0 ∧ valEq d.v zeroV = false) ∨ (d.v.k = 0 ∧ d.v.n = 0 ∧ ¬ d.v.s.toList = [] ∧ valEq d.v zeroV = false):=by
  unfold valEq zeroV
  by_cases h1:d.v.k = 0
  ·by_cases h2:d.v.n = 0
   ·by_cases h3:d.v.s = ByteArray.empty
    ·exact .inl ⟨h1,h2,h3,by simp [h1,h2,h3]⟩
    ·exact .inr (.inr (.inr ⟨h1,h2,fun h=>h3 (toList_inj (by rw [h];decide +kernel)),by simp [h1,h2,h3]⟩))
   ·exact .inr (.inr (.inl ⟨h1,h2,by simp [h1,h2]⟩))
  ·exact .inr (.inl ⟨h1,by simp [h1]⟩)
 generalize valEq d.v zeroV = bv at *
 have hel:(((d.l.length:Nat):Int) == 0) = decide (d.l.length = 0):=by
  by_cases h:d.l.length = 0
  ·rw [h];rfl
  ·rw [decide_eq_false h];simpa using h
 have hef:(((d.f.length:Nat):Int) == 0) = decide (d.f.length = 0):=by
  by_cases h:d.f.length = 0
  ·rw [h];rfl
  ·rw [decide_eq_false h];simpa using h
 generalize hnl:d.l.length = nl at *
 generalize hnf:d.f.length = nf at *
 generalize decide (nl = 0) = bl at *
 generalize decide (nf = 0) = bf at *
 unfold dtA
 generalize d.no = no at *
 generalize d.v.k = k at *
 generalize d.v.n = n at *
 generalize d.v.s = s at *
 have hw1:Below w.heap.size w (w.alloc (.cells #[.bool no,.int .i64 k,.int .i64 n,.string s,.slice al nl cl,.slice af nf cf] 63)):=(Below.refl _ _).alloc (Nat.le_refl _) _
 have HB:=Lib.hid hw1
 clear hw1 hnl hnf hl hf hv
 rcases hbv with ⟨rfl,rfl,rfl,rfl⟩ | ⟨hk,rfl⟩ | ⟨rfl,hn,rfl⟩ | ⟨rfl,rfl,hs,rfl⟩
 all_goals (rcases hp with h | h | h | h <;> (simp only [Prod.mk.injEq] at h;obtain ⟨rfl,rfl,rfl,rfl⟩:=h))
 all_goals first
  | (cases no <;> cases bl <;> cases bf <;> (go_enter Tryd.func75,Tryd.ntmps75;go_wp2_with fail;go_ret;exact ⟨rfl,HB.out⟩))
end Go.Proofs.YtkmhmnffbgedgaaDoor
/- A struct stored into a block that is known, at an operation of a region. -/
namespace Go.Proofs.YtkmhmnffbgedgaaDoor
set_option linter.unusedVariables false
open Go Go.RowKit Go.ChangeShapes
theorem wp_store_part {P:Program} {w:World} {op:Oper} {a:Act} {K:Act → World → Prop} {Q:Exit → Act → World → Prop} (hgd:op.guard = none) (ty:TypeId) (x y:Operand) (ho:op.op = .store ty x y)
  (g o:Nat) (cs:Array Value) (t:TypeId) (vs:Array Value) (hx:a.eval x = .pointer (some ⟨g,o,none⟩)) (hy:a.eval y = .agg vs) (hg:w.heap[g]? = some (.cells cs t (0,0)))
  (hi:(P.info? ty).map (·.size) = some vs.size) (h1:vs.all (·.oneCell') = true) (hsz:o + vs.size ≤ cs.size) (cs':Array Value) (hcs:setPart cs o vs.toList = cs')
  (h:∀ w',w'.heap[g]? = some (.cells cs' t (0,0)) → (∀ i,i ≠ g → w'.heap[i]? = w.heap[i]?) → Below g w w' → w'.heap.size = w.heap.size → K (a.put op.dst undef) w'):Oper.wp P op a w K Q:=by
 refine wp_store_mid ty x y ho g o vs hx hy ?_ hi h1 ?_
 ·intro j hj
  exact ⟨by rw [rowc hg,Array.getElem?_eq_getElem (by omega)];rfl,rowf hg _⟩
 ·obtain ⟨b1,b2,b3,b4⟩:=setCells_row g t vs.toList w cs o hg
  rw [setPart_eq _ _ _ (by simpa using hsz),hcs] at b1
  exact h _ b1 b2 b3 b4
end Go.Proofs.YtkmhmnffbgedgaaDoor
