/- The walks of the document's FindOf and HasInt. -/
import Derived.Test.YtkmhmnffbgedgaaDoorTv2
import Derived.Test.YtkmhmnffbgedgaaDoorTr2
import Derived.Deep.RegionHeld3
import Derived.Laws.Closers25b
import Derived.Deep.DeepCutAuto
import Derived.Test.YtkmhmnffbgedgaaDoorRegE
namespace Go.Proofs.YtkmhmnffbgedgaaDoor
set_option linter.unusedVariables false
set_option linter.unusedSimpArgs false
open Go Go.RowKit Go.ChangeShapes
def findD (F:List Pl) (id:Int):Option Pl:=F.find? fun p=>decide (p.n.id = id)
def zeroNd:Nd:=.mk 0 ByteArray.empty 0 0 []
def FindRet (F:List Pl) (id:Int) (w:World) (e:Ending) (w':World):Prop :=
 Below w.heap.size w w' ∧ ((∃ p a c,findD F id = some p ∧ e = .returned (.tuple #[.agg (ndA p.n (.slice a p.n.sub.length c)),.bool true]) ∧ IsNds (· < w.heap.size) w' (.slice a p.n.sub.length c) p.n.sub) ∨
  (findD F id = none ∧ e = .returned (.tuple #[.agg (ndA zeroNd (.slice none 0 0)),.bool false])))
end Go.Proofs.YtkmhmnffbgedgaaDoor
/- The walk of the document's LeavesOf at a right schema. -/
namespace Go.Proofs.YtkmhmnffbgedgaaDoor
set_option linter.unusedVariables false
set_option linter.unusedSimpArgs false
open Go Go.RowKit Go.ChangeShapes
theorem own_baseN {w:World} {B B' n s:Nat} {e:TypeId} {v:Value} {xs:List Value} (h:w.ownsRow B e s v n xs) (hB:B' ≤ B):w.ownsRow B' e s v n xs:=by
 refine ⟨h.1,?_⟩
 rcases h.2 with h0 | ⟨g,cap,cur,hv,h1,h2,h3⟩
 ·exact .inl h0
 ·exact .inr ⟨g,cap,cur,hv,Nat.le_trans hB h1,h2,h3⟩
def lfC (x:Lvf × Value):List Value:=[.int .i64 x.1.id,.int .i64 x.1.kind,.int .i64 x.1.mr,.int .i64 x.1.md,cell1 x.2]
theorem lfC_one (p:Lvf × Value):∀ u ∈ lfC p,u.oneCell' = true:=by
 intro u hu
 simp only [lfC,List.mem_cons,List.not_mem_nil,or_false] at hu
 rcases hu with rfl | rfl | rfl | rfl | rfl <;> first | rfl | exact cell1_one _
def LvsRow (B:Nat) (w:World) (v:Value) (LO:List (Lvf × Value)):Prop:=w.ownsRow B 24 5 v LO.length (LO.flatMap lfC) ∧ ∀ p ∈ LO,w.ownsRow B 3 1 p.2 p.1.path.length (p.1.path.map intN)
theorem LvsRow.below {B:Nat} {w w':World} {v:Value} {LO:List (Lvf × Value)} (h:LvsRow B w v LO) (hb:Below w.heap.size w w'):LvsRow B w' v LO:=⟨own_blw h.1 hb,fun p hp=>own_blw (h.2 p hp) hb⟩
end Go.Proofs.YtkmhmnffbgedgaaDoor
/- The walk of the document's listsOf. -/
namespace Go.Proofs.YtkmhmnffbgedgaaDoor
set_option linter.unusedVariables false
set_option linter.unusedSimpArgs false
open Go Go.RowKit Go.ChangeShapes
def lsD1 (F:List Pl) (id:Int):List Int:=match findD F id with | some p=>if p.n.rep = 3 then [p.n.id] else [] | none=>[]
def FindOne (F:List Pl) (id:Int) (w:World) (e:Ending) (w':World):Prop :=
 ∃ (i:Int) (nm:ByteArray) (rp kd:Int) (a:Option Addr) (k c:Nat) (b:Bool),e = .returned (.tuple #[.agg #[.int .i64 i,.string nm,.int .i64 rp,.int .i64 kd,.slice a k c],.bool b]) ∧ Below w.heap.size w w' ∧ (rp = 3 → lsD1 F id = [i]) ∧ (rp ≠ 3 → lsD1 F id = [])
theorem FindRet.one {F:List Pl} {id:Int} {w w':World} {e:Ending} (h:FindRet F id w e w'):FindOne F id w e w':=by
 obtain ⟨hb,⟨p,a,c,h1,h2,h3⟩ | ⟨h1,h2⟩⟩:=h
 ·exact ⟨_,_,_,_,_,_,_,_,h2,hb,fun h=>by unfold lsD1;rw [h1];simp [h],fun h=>by unfold lsD1;rw [h1];simp [h]⟩
 ·exact ⟨_,_,_,_,_,_,_,_,h2,hb,fun h=>by simp [zeroNd,Nd.rep] at h,fun h=>by unfold lsD1;rw [h1]⟩
theorem AnyE.two {P:Program} {ops:Array Oper} {Q:Exit → Act → World → Prop} {md:Region.Mode} {S:World → Prop} {E:List Nat} {i j:Nat} {oi oj:Oper} {n:Nat} {listed:Array Bool} {a:Act} {w:World} (hr:Region.ready md ops listed = [i,j]) (hoi:ops[i]? = some oi) (hgi:oi.guard = none) (hoj:ops[j]? = some oj) (hgj:oj.guard = none)
  (hi:∀ K:Act → World → Prop,(∀ a' w',(E.contains i = false → S w') → AnyE P md ops Q S E n (listed.setIfInBounds i true) a' w' → K a' w') → Oper.wp P oi a w K Q)
  (hj:∀ K:Act → World → Prop,(∀ a' w',(E.contains j = false → S w') → AnyE P md ops Q S E n (listed.setIfInBounds j true) a' w' → K a' w') → Oper.wp P oj a w K Q):AnyE P md ops Q S E (n + 1) listed a w:=by
 refine ⟨fun h0=>(by rw [hr] at h0;cases h0),?_⟩
 rw [hr]
 intro q hq
 simp only [List.mem_cons,List.not_mem_nil,or_false] at hq
 rcases hq with rfl | rfl
 ·unfold wpOp
  simp only [hoi]
  have hw:Region.wanted oi (yielded ops a.tmps) = true:=by simp [Region.wanted,hgi]
  rw [if_pos hw]
  exact .inl (hi _ fun a' w' h1 h2=>⟨h1,h2⟩)
 ·unfold wpOp
  simp only [hoj]
  have hw:Region.wanted oj (yielded ops a.tmps) = true:=by simp [Region.wanted,hgj]
  rw [if_pos hw]
  exact .inl (hj _ fun a' w' h1 h2=>⟨h1,h2⟩)
end Go.Proofs.YtkmhmnffbgedgaaDoor
/- A region that draws its order: pure operations that nothing waits for taken first; loads taken where what may spoil them waits or is done. Over any program. -/
namespace Go.Proofs.YtkmhmnffbgedgaaDoor
set_option linter.unusedVariables false
set_option linter.unusedSimpArgs false
open Go Go.RowKit
section
variable {P:Program} {ops:Array Oper} {Q:Exit → Act → World → Prop} {md:Region.Mode} {S:World → Prop} {E:List Nat}
theorem AnyE.firstP {i:Nat} {oi:Oper} {v:Value} (hi:ops[i]? = some oi) (hsel:∀ (j:Nat) (o:Oper) cs b,ops[j]? = some o → o.op ≠ .select cs b)
  (hQ:∀ c a w,Q (.panic c) (a.put oi.dst v) w → Q (.panic c) a w) (hE:E.contains i = true) :
  ∀ (n:Nat) (listed:Array Bool) (a:Act) (w:World),
   (∀ j oj,ops[j]? = some oj → j ≠ i → listed.getD j true = false → (∀ e ∈ oj.after,Region.binds md e = true → e.on ≠ i) → oi.apart ops oj = true) →
   i ∈ Region.ready md ops listed → YieldsIf P ops (fun _=>True) oi v a →
   AnyE P md ops Q S E n (listed.setIfInBounds i true) (a.put oi.dst v) w → AnyE P md ops Q S E (n + 1) listed a w:=by
 intro n
 induction n with
 | zero =>
  intro listed a w _ hr hy H
  refine ⟨fun h=>absurd (h ▸ hr) (by simp),fun j hj=>?_⟩
  by_cases hji:j = i
  ·subst hji;exact hy.wpOp hi trivial ⟨fun h=>absurd (hE.symm.trans h) (by simp),H⟩
  ·have h0:=ready_mono hj hji
   rw [H.1] at h0
   cases h0
 | succ n ih =>
  intro listed a w hfree hr hy H
  refine ⟨fun h=>absurd (h ▸ hr) (by simp),fun j hj=>?_⟩
  by_cases hji:j = i
  ·subst hji;exact hy.wpOp hi trivial ⟨fun h=>absurd (hE.symm.trans h) (by simp),H⟩
  obtain ⟨hjun,oj,hoj,hall⟩:=mem_ready.1 hj
  have hnot:∀ e ∈ oj.after,Region.binds md e = true → e.on ≠ i:=by
   intro e he hb heq
   have h1:=hall e he hb
   have h0:=(mem_ready.1 hr).1
   rw [heq] at h1
   rcases Nat.lt_or_ge i listed.size with h' | h'
   ·simp [h'] at h0 h1;rw [h0] at h1;cases h1
   ·simp [Array.getElem?_eq_none h'] at h1
  have h2:=wpOp_putIf hoj (hfree j oj hoj hji hjun hnot) (fun cs b=>hsel i oi cs b hi) (fun cs b=>hsel j oj cs b hoj) hQ hy (H.2 j (ready_mono hj hji))
  refine wpOp_mono (fun a' w' h3=>⟨h3.2.1,ih (listed.setIfInBounds j true) a' w' (fun k ok hk hki hun hno=>?_) (ready_mono hr (Ne.symm hji)) h3.1 ?_⟩) h2
  ·refine hfree k ok hk hki ?_ hno
   by_cases hjk:j = k
   ·subst hjk;exact hjun
   ·rw [getD_set_ne true hjk] at hun;exact hun
  ·rw [Array.setIfInBounds_comm _ _ hji]
   exact h3.2.2
theorem AnyE.takeP {i:Nat} {oi:Oper} {v:Value} {n:Nat} {listed:Array Bool} {a:Act} {w:World} (hi:ops[i]? = some oi)
  (hs:Region.noSelect ops = true) (hf:Region.free md ops listed i = true) (hr:(Region.ready md ops listed).contains i = true) (hE:E.contains i = true)
  (hQ:∀ c a w,Q (.panic c) (a.put oi.dst v) w → Q (.panic c) a w) (hy:YieldsIf P ops (fun _=>True) oi v a)
  (h:AnyE P md ops Q S E n (listed.setIfInBounds i true) (a.put oi.dst v) w):AnyE P md ops Q S E (n + 1) listed a w :=
 AnyE.firstP hi (Region.noSelect_spec hs) hQ hE n listed a w (Region.free_spec hi hf) (by simpa using hr) hy h
def waitsL (md:Region.Mode) (ops:Array Oper) (E:List Nat) (listed:Array Bool) (i:Nat):Bool:=E.all fun j=>listed.getD j true || reach md ops 8 j i
theorem AnyE.firstL {i:Nat} {oi:Oper} {v:Value} (hi:ops[i]? = some oi) (hsel:∀ (j:Nat) (o:Oper) cs b,ops[j]? = some o → o.op ≠ .select cs b)
  (hQ:∀ c a w,Q (.panic c) (a.put oi.dst v) w → Q (.panic c) a w) :
  ∀ (n:Nat) (listed:Array Bool) (a:Act) (w:World),waitsL md ops E listed i = true →
   closed md ops listed = true → (∀ j oj,ops[j]? = some oj → j ≠ i → listed.getD j true = false → (∀ e ∈ oj.after,Region.binds md e = true → e.on ≠ i) → oi.apart ops oj = true) →
   i ∈ Region.ready md ops listed → YieldsIf P ops S oi v a → S w →
   AnyE P md ops Q S E n (listed.setIfInBounds i true) (a.put oi.dst v) w → AnyE P md ops Q S E (n + 1) listed a w:=by
 intro n
 induction n with
 | zero =>
  intro listed a w _ _ _ hr hy hS H
  refine ⟨fun h=>absurd (h ▸ hr) (by simp),fun j hj=>?_⟩
  by_cases hji:j = i
  ·subst hji;exact hy.wpOp hi hS ⟨fun _=>hS,H⟩
  ·have h0:=ready_mono hj hji
   rw [H.1] at h0
   cases h0
 | succ n ih =>
  intro listed a w hE hcl hfree hr hy hS H
  refine ⟨fun h=>absurd (h ▸ hr) (by simp),fun j hj=>?_⟩
  by_cases hji:j = i
  ·subst hji;exact hy.wpOp hi hS ⟨fun _=>hS,H⟩
  obtain ⟨hjun,oj,hoj,hall⟩:=mem_ready.1 hj
  have hnot:∀ e ∈ oj.after,Region.binds md e = true → e.on ≠ i:=by
   intro e he hb heq
   have h1:=hall e he hb
   have h0:=(mem_ready.1 hr).1
   rw [heq] at h1
   rcases Nat.lt_or_ge i listed.size with h' | h'
   ·simp [h'] at h0 h1;rw [h0] at h1;cases h1
   ·simp [Array.getElem?_eq_none h'] at h1
  have hjE:E.contains j = false:=by
   cases hc:E.contains j with
   | false=>rfl
   | true =>
    exfalso
    have hm:j ∈ E:=by simpa using hc
    have hq:=List.all_eq_true.1 hE j hm
    rw [hjun,Bool.false_or] at hq
    obtain ⟨o',ho',e,he,hb,hu⟩:=reach_spec hcl (mem_ready.1 hr).1 8 j hq
    rw [hoj] at ho'
    cases ho'
    have h1:=getD_up (hall e he hb)
    rw [hu] at h1
    cases h1
  have hcl':closed md ops (listed.setIfInBounds j true) = true:=by
   unfold closed
   rw [List.all_eq_true]
   intro k hk
   cases hok:ops[k]? with
   | none=>simp
   | some o =>
    cases hl:(listed.setIfInBounds j true).getD k true with
    | false=>rfl
    | true =>
     simp only [Bool.not_true,Bool.false_or]
     rw [Array.all_eq_true']
     intro e he
     cases hb:Region.binds md e with
     | false=>rfl
     | true =>
      simp only [Bool.not_true,Bool.false_or]
      refine getD_set_up ?_
      by_cases hjk:j = k
      ·subst hjk
       rw [hoj] at hok
       cases hok
       exact getD_up (hall e he hb)
      ·rw [getD_set_ne true hjk] at hl
       exact closed_spec hcl k o hok hl e he hb
  have hE':waitsL md ops E (listed.setIfInBounds j true) i = true:=by
   unfold waitsL at hE ⊢
   rw [List.all_eq_true] at hE ⊢
   intro k hk
   have h1:=hE k hk
   rw [Bool.or_eq_true] at h1 ⊢
   exact h1.imp (fun h=>getD_set_up h) id
  have h2:=wpOp_putIf hoj (hfree j oj hoj hji hjun hnot) (fun cs b=>hsel i oi cs b hi) (fun cs b=>hsel j oj cs b hoj) hQ hy (H.2 j (ready_mono hj hji))
  refine wpOp_mono (fun a' w' h3=>⟨h3.2.1,ih (listed.setIfInBounds j true) a' w' hE' hcl' (fun k ok hk hki hun hno=>?_) (ready_mono hr (Ne.symm hji)) h3.1 (h3.2.1 hjE) ?_⟩) h2
  ·refine hfree k ok hk hki ?_ hno
   by_cases hjk:j = k
   ·subst hjk;exact hjun
   ·rw [getD_set_ne true hjk] at hun;exact hun
  ·rw [Array.setIfInBounds_comm _ _ hji]
   exact h3.2.2
theorem AnyE.takeL {i:Nat} {oi:Oper} {v:Value} {n:Nat} {listed:Array Bool} {a:Act} {w:World} (hi:ops[i]? = some oi)
  (hs:Region.noSelect ops = true) (hf:Region.free md ops listed i = true) (hr:(Region.ready md ops listed).contains i = true) (hE:waitsL md ops E listed i = true) (hc:closed md ops listed = true)
  (hQ:∀ c a w,Q (.panic c) (a.put oi.dst v) w → Q (.panic c) a w) (hy:YieldsIf P ops S oi v a) (hS:S w)
  (h:AnyE P md ops Q S E n (listed.setIfInBounds i true) (a.put oi.dst v) w):AnyE P md ops Q S E (n + 1) listed a w :=
 AnyE.firstL hi (Region.noSelect_spec hs) hQ n listed a w hE hc (Region.free_spec hi hf) (by simpa using hr) hy hS h
end
end Go.Proofs.YtkmhmnffbgedgaaDoor
