/- A region that draws its order: a condition on the world that need not hold behind the last operations (those that wait for every load that leans on it). Over any program. -/
import Derived.Test.YtkmhmnffbgedgaaDoorMPlain
import Derived.OrdersHeld
namespace Go.Proofs.YtkmhmnffbgedgaaDoor
set_option linter.unusedVariables false
set_option linter.unusedSimpArgs false
open Go Go.RowKit
theorem wp_load_cells {P:Program} {w:World} {o:Oper} {a:Act} {K:Act → World → Prop} {Q:Exit → Act → World → Prop} (ty:TypeId) (x:Operand) (ho:o.op = .load ty x)
  (b f:Nat) (hx:a.eval x = .pointer (some ⟨b,f,none⟩)) (cs:Array Value) (d:TypeDesc) (hc:∀ j v,cs[j]? = some v → w.cell? ⟨b,f + j,none⟩ = some v)
  (hu:P.underlying ty = some d) (hd:(match d with | .struct _ | .array _ _=>true | _=>false) = true) (hi:(P.info? ty).map (·.size) = some cs.size)
  (h:K (a.put o.dst (.agg cs)) w):Oper.wp P o a w K Q:=by
 unfold Oper.wp execOp
 simp only [ho,hx,Instr.loadAt,Instr.sureAddr,Sem.run_bind,Sem.run_pure,Result.andThen_ok,run_loadVar_cells w b f ty cs d hc hu hd hi]
 exact h
theorem yields_load {P:Program} {S:World → Prop} {ops:Array Oper} {o:Oper} {a:Act} (ty:TypeId) (x:Operand) (ho:o.op = .load ty x) (hw:Region.wanted o (yielded ops a.tmps) = true)
  (b f:Nat) (hx:a.eval x = .pointer (some ⟨b,f,none⟩)) (cs:Array Value) (d:TypeDesc) (hc:∀ w,S w → ∀ j v,cs[j]? = some v → w.cell? ⟨b,f + j,none⟩ = some v)
  (hu:P.underlying ty = some d) (hd:(match d with | .struct _ | .array _ _=>true | _=>false) = true) (hi:(P.info? ty).map (·.size) = some cs.size):YieldsIf P ops S o (.agg cs) a :=
 Or.inl ⟨hw,fun w hS=>by
  unfold execOp
  simp only [ho,hx,Instr.loadAt,Instr.sureAddr,Sem.run_bind,Sem.run_pure,Result.andThen_ok,run_loadVar_cells w b f ty cs d (hc w hS) hu hd hi]⟩
section
variable {P:Program} {ops:Array Oper} {Q:Exit → Act → World → Prop} {md:Region.Mode} {S:World → Prop} {E:List Nat}
def AnyE (P:Program) (md:Region.Mode) (ops:Array Oper) (Q:Exit → Act → World → Prop) (S:World → Prop) (E:List Nat):Nat → Array Bool → Act → World → Prop
 | 0,listed,a,w=>Region.ready md ops listed = [] ∧ Q .normal a w
 | n + 1,listed,a,w=>(Region.ready md ops listed = [] → Q .normal a w) ∧
   ∀ i ∈ Region.ready md ops listed,wpOp P ops Q i (fun a' w'=>(E.contains i = false → S w') ∧ AnyE P md ops Q S E n (listed.setIfInBounds i true) a' w') a w
theorem AnyE.any:∀ (n:Nat) (listed:Array Bool) (a:Act) (w:World),AnyE P md ops Q S E n listed a w → wpAny P md ops Q n listed a w
 | 0,_,_,_,h=>h
 | n + 1,_,_,_,h=>⟨h.1,fun i hi=>wpOp_mono (fun a' w' h'=>AnyE.any n _ a' w' h'.2) (h.2 i hi)⟩
def reach (md:Region.Mode) (ops:Array Oper):Nat → Nat → Nat → Bool
 | 0,_,_=>false
 | n + 1,j,i=>match ops[j]? with
  | some o=>o.after.any fun e=>Region.binds md e && (e.on == i || reach md ops n e.on i)
  | none=>false
def waits (md:Region.Mode) (ops:Array Oper) (E:List Nat) (i:Nat):Bool:=E.all fun j=>reach md ops 8 j i
def closed (md:Region.Mode) (ops:Array Oper) (listed:Array Bool):Bool :=
 (List.range ops.size).all fun k=>!(listed.getD k true) || match ops[k]? with
  | some o=>o.after.all fun e=>!(Region.binds md e) || listed.getD e.on true
  | none=>true
theorem closed_spec {listed:Array Bool} (h:closed md ops listed = true) (k:Nat) (o:Oper) (ho:ops[k]? = some o) (hk:listed.getD k true = true):∀ e ∈ o.after,Region.binds md e = true → listed.getD e.on true = true:=by
 intro e he hb
 have h1:=List.all_eq_true.1 h k (List.mem_range.2 (Array.getElem?_eq_some_iff.1 ho).1)
 rw [hk,ho] at h1
 simp only [Bool.not_true,Bool.false_or] at h1
 have h2:=Array.all_eq_true'.1 h1 e he
 rw [hb] at h2
 simpa using h2
theorem getD_up {l:Array Bool} {k:Nat} (h:l.getD k false = true):l.getD k true = true:=by
 rcases Nat.lt_or_ge k l.size with h' | h'
 ·simpa [h'] using h
 ·simp [Array.getElem?_eq_none h']
theorem getD_set_up {l:Array Bool} {j k:Nat} (h:l.getD k true = true):(l.setIfInBounds j true).getD k true = true:=by
 by_cases hjk:j = k
 ·subst hjk
  rcases Nat.lt_or_ge j l.size with h' | h'
  ·simp [h']
  ·simp [Array.getElem?_eq_none h']
 ·rw [getD_set_ne true hjk];exact h
theorem reach_spec {listed:Array Bool} (hc:closed md ops listed = true) {i:Nat} (hi:listed.getD i true = false):∀ (n j:Nat),reach md ops n j i = true → ∃ o,ops[j]? = some o ∧ ∃ e ∈ o.after,Region.binds md e = true ∧ listed.getD e.on true = false
 | 0,j,h=>by cases h
 | n + 1,j,h=>by
  unfold reach at h
  cases ho:ops[j]? with
  | none=>rw [ho] at h;cases h
  | some o =>
   rw [ho] at h
   simp only at h
   obtain ⟨e,he,hb⟩:=Array.any_eq_true'.1 h
   rw [Bool.and_eq_true,Bool.or_eq_true,beq_iff_eq] at hb
   refine ⟨o,rfl,e,he,hb.1,?_⟩
   rcases hb.2 with h2 | h2
   ·rw [h2];exact hi
   ·obtain ⟨o',ho',e',he',hb',hu'⟩:=reach_spec hc hi n e.on h2
    cases hk:listed.getD e.on true with
    | false=>rfl
    | true =>
     have:=closed_spec hc e.on o' ho' hk e' he' hb'
     rw [hu'] at this
     cases this
theorem AnyE.first {i:Nat} {oi:Oper} {v:Value} (hi:ops[i]? = some oi) (hsel:∀ (j:Nat) (o:Oper) cs b,ops[j]? = some o → o.op ≠ .select cs b)
  (hQ:∀ c a w,Q (.panic c) (a.put oi.dst v) w → Q (.panic c) a w) (hE:waits md ops E i = true) :
  ∀ (n:Nat) (listed:Array Bool) (a:Act) (w:World),
   closed md ops listed = true → (∀ j oj,ops[j]? = some oj → j ≠ i → listed.getD j true = false → (∀ e ∈ oj.after,Region.binds md e = true → e.on ≠ i) → oi.apart ops oj = true) →
   i ∈ Region.ready md ops listed → YieldsIf P ops S oi v a → S w →
   AnyE P md ops Q S E n (listed.setIfInBounds i true) (a.put oi.dst v) w → AnyE P md ops Q S E (n + 1) listed a w:=by
 intro n
 induction n with
 | zero =>
  intro listed a w _ _ hr hy hS H
  refine ⟨fun h=>absurd (h ▸ hr) (by simp),fun j hj=>?_⟩
  by_cases hji:j = i
  ·subst hji;exact hy.wpOp hi hS ⟨fun _=>hS,H⟩
  ·have h0:=ready_mono hj hji
   rw [H.1] at h0
   cases h0
 | succ n ih =>
  intro listed a w hcl hfree hr hy hS H
  refine ⟨fun h=>absurd (h ▸ hr) (by simp),fun j hj=>?_⟩
  by_cases hji:j = i
  ·subst hji;exact hy.wpOp hi hS ⟨fun _=>hS,H⟩
  obtain ⟨hjun,oj,hoj,hall⟩:=mem_ready.1 hj
  have hnot:∀ e ∈ oj.after,Region.binds md e = true → e.on ≠ i:=by
   intro e he hb heq
   have h1:=hall e he hb
   have h0:=(mem_ready.1 hr).1
   rw [heq] at h1
   rcases Nat.lt_or_ge i listed.size with h' | h'
   ·simp [h'] at h0 h1;rw [h0] at h1;cases h1
   ·simp [Array.getElem?_eq_none h'] at h1
  have hjE:E.contains j = false:=by
   cases hc:E.contains j with
   | false=>rfl
   | true =>
    exfalso
    have hm:j ∈ E:=by simpa using hc
    obtain ⟨o',ho',e,he,hb,hu⟩:=reach_spec hcl (mem_ready.1 hr).1 8 j (List.all_eq_true.1 hE j hm)
    rw [hoj] at ho'
    cases ho'
    have h1:=getD_up (hall e he hb)
    rw [hu] at h1
    cases h1
  have hcl':closed md ops (listed.setIfInBounds j true) = true:=by
   unfold closed
   rw [List.all_eq_true]
   intro k hk
   cases hok:ops[k]? with
   | none=>simp
   | some o =>
    cases hl:(listed.setIfInBounds j true).getD k true with
    | false=>rfl
    | true =>
     simp only [Bool.not_true,Bool.false_or]
     rw [Array.all_eq_true']
     intro e he
     cases hb:Region.binds md e with
     | false=>rfl
     | true =>
      simp only [Bool.not_true,Bool.false_or]
      refine getD_set_up ?_
      by_cases hjk:j = k
      ·subst hjk
       rw [hoj] at hok
       cases hok
       exact getD_up (hall e he hb)
      ·rw [getD_set_ne true hjk] at hl
       exact closed_spec hcl k o hok hl e he hb
  have h2:=wpOp_putIf hoj (hfree j oj hoj hji hjun hnot) (fun cs b=>hsel i oi cs b hi) (fun cs b=>hsel j oj cs b hoj) hQ hy (H.2 j (ready_mono hj hji))
  refine wpOp_mono (fun a' w' h3=>⟨h3.2.1,ih (listed.setIfInBounds j true) a' w' hcl' (fun k ok hk hki hun hno=>?_) (ready_mono hr (Ne.symm hji)) h3.1 (h3.2.1 hjE) ?_⟩) h2
  ·refine hfree k ok hk hki ?_ hno
   by_cases hjk:j = k
   ·subst hjk;exact hjun
   ·rw [getD_set_ne true hjk] at hun;exact hun
  ·rw [Array.setIfInBounds_comm _ _ hji]
   exact h3.2.2
theorem AnyE.take {i:Nat} {oi:Oper} {v:Value} {n:Nat} {listed:Array Bool} {a:Act} {w:World} (hi:ops[i]? = some oi)
  (hs:Region.noSelect ops = true) (hf:Region.free md ops listed i = true) (hr:(Region.ready md ops listed).contains i = true) (hE:waits md ops E i = true) (hc:closed md ops listed = true)
  (hQ:∀ c a w,Q (.panic c) (a.put oi.dst v) w → Q (.panic c) a w) (hy:YieldsIf P ops S oi v a) (hS:S w)
  (h:AnyE P md ops Q S E n (listed.setIfInBounds i true) (a.put oi.dst v) w):AnyE P md ops Q S E (n + 1) listed a w :=
 AnyE.first hi (Region.noSelect_spec hs) hQ hE n listed a w hc (Region.free_spec hi hf) (by simpa using hr) hy hS h
theorem AnyE.one {i:Nat} {o:Oper} {n:Nat} {listed:Array Bool} {a:Act} {w:World} (hr:Region.ready md ops listed = [i]) (ho:ops[i]? = some o) (hg:o.guard = none)
  (h:∀ K:Act → World → Prop,(∀ a' w',(E.contains i = false → S w') → AnyE P md ops Q S E n (listed.setIfInBounds i true) a' w' → K a' w') → Oper.wp P o a w K Q):AnyE P md ops Q S E (n + 1) listed a w:=by
 refine ⟨fun h0=>(by rw [hr] at h0;cases h0),?_⟩
 rw [hr]
 intro j hj
 simp only [List.mem_singleton] at hj
 subst hj
 unfold wpOp
 simp only [ho]
 have hw:Region.wanted o (yielded ops a.tmps) = true:=by simp [Region.wanted,hg]
 rw [if_pos hw]
 exact .inl (h _ fun a' w' h1 h2=>⟨h1,h2⟩)
theorem AnyE.done {listed:Array Bool} {a:Act} {w:World} (hr:Region.ready md ops listed = []) (h:Q .normal a w):∀ n,AnyE P md ops Q S E n listed a w
 | 0=>⟨hr,h⟩
 | _ + 1=>⟨fun _=>h,by rw [hr];simp⟩
theorem AnyE.region {id:Nat} {a:Act} {w:World} (hm:P.follows .mixedOrders = true)
  (h:AnyE P .any ops Q S E ops.size (Array.replicate ops.size false) a w.drew):(Code.region id ops true).wp P Q a w :=
 wp_region_any hm (AnyE.any _ _ _ _ h)
end
end Go.Proofs.YtkmhmnffbgedgaaDoor
