/- Merged texts: Errs, Is, As, Code, Env, ErrsAt. -/
import Derived.Test.YtkmhmnffbgedgaaGreatDoorMPlain
import Derived.Test.YtkmhmnffbgedgaaGreatDoorRows
import Derived.LaidLaws
import Derived.LaidHandle
import Derived.Stop.LaidErr
import Derived.LaidEql
import Derived.Stop.Asserts
import Derived.RowKitTokens
import Derived.Deep.QuietTactic
import Derived.BigQuiet
/- What the listed package-level variables give a walk: each sentinel's variable holds a pointer of its own. -/
namespace Go.Proofs.YtkmhmnffbgedgaaGreatDoor
set_option maxHeartbeats 1000000
open Go Go.RowKit Go.ChangeShapes
def SentsAt (T:TypeId) (W:World):List Nat → List Addr → Prop
 | [],[]=>True
 | g :: gs,a :: ads=>W.cell? ⟨g,0,none⟩ = some (.iface T (.pointer (some a))) ∧ (∃ c t,W.heap[a.block]? = some (.cells c t (0,0))) ∧ SentsAt T W gs ads
 | _,_=>False
theorem sents_of_vars {P:Program} {W:World} {nm:String} {ti tp te ts:TypeId} {ms:Array (String × TypeId)} {f:Field}
  (hi:P.underlying ti = some (.interface ms)) (hrow:∀ u,P.typeName? 3 u = some nm → u = tp)
  (hp:P.underlying tp = some (.pointer te)) (he:P.underlying te = some (.struct #[f])) (hft:f.type = ts) (hfo:f.offset = 0) (hs:P.underlying ts = some .string) (hc:P.cellsOf te = 1) (hcs:P.cellsOf ts = 1) :
  ∀ (l:List (String × List UInt8 × Nat)) (ps:List MemPlace),(∀ x ∈ l,P.globalNamed x.1 = some x.2.2 ∧ (P.globals[x.2.2]?).map (·.type) = some ti) →
   DataW.LaidVars P W (l.map fun x=>(x.1,.iface nm (.ptr (.agg [.lit (.string x.2.1)])))) ps →
   (∀ b off,MemPlace.cell b off ∈ ps → (∃ c t,W.heap[b]? = some (.cells c t (0,0))) ∧ ∀ u v,W.cell? ⟨b,off,none⟩ = some (.iface u v) → Value.okWide P W .any 0 u v) →
   ∃ ads,SentsAt tp W (l.map (·.2.2)) ads ∧ (∀ a ∈ ads,MemPlace.cell a.block a.off ∈ ps) ∧ (ps.Nodup → ads.Nodup):=by
 intro l
 induction l with
 | nil=>intro ps _ _ _;exact ⟨[],trivial,by simp,by simp⟩
 | cons x l ih =>
  intro ps hx hv hrows
  obtain ⟨n,text,g⟩:=x
  obtain ⟨hg,ht⟩:=hx _ (List.mem_cons_self ..)
  obtain ⟨g0,t0,cs0,f0,p0,q0,hg0,ht0,hv0,hd0,hq,e0⟩:=hv
  obtain rfl:=Option.some.inj (hg.symm.trans hg0)
  obtain rfl:=Option.some.inj (ht.symm.trans ht0)
  subst e0
  obtain ⟨l0⟩:=cs0
  have ok0:∀ u v,l0 = [.iface u v] → Value.okWide P W .any 0 u v:=fun u v e=>by
   subst e
   exact (hrows g 0 (by simp [MemPlace.row])).2 u v (by simpa using World.var?_cell hg0 hv0 0)
  obtain ⟨a0,s0,rfl,hc0,hs0,hz0,rfl⟩:=errorString_of_trod hi hrow hp he hft hfo hs hc hcs hd0 ok0
  obtain ⟨ads,h1,h2,h3⟩:=ih q0 (fun y hy=>hx y (List.mem_cons_of_mem _ hy)) hq (fun b off hm=>hrows b off (List.mem_append_right _ hm))
  refine ⟨a0 :: ads,⟨?_,?_,h1⟩,?_,?_⟩
  ·simpa using World.var?_cell hg0 hv0 0
  ·exact (hrows a0.block a0.off (by simp [MemPlace.row])).1
  ·intro a ha
   rcases List.mem_cons.1 ha with rfl | ha
   ·simp [MemPlace.row]
   ·exact List.mem_append_right _ (h2 a ha)
  ·intro hnd
   rw [List.nodup_append] at hnd
   refine List.nodup_cons.2 ⟨fun hm=>?_,h3 hnd.2.1⟩
   exact hnd.2.2 _ (by simp [MemPlace.row]) _ (h2 a0 hm) rfl
theorem SentsAt.below {T:TypeId} {w w':World} (hb:Below w.heap.size w w'):∀ {gs ads},SentsAt T w gs ads → SentsAt T w' gs ads
 | [],[],_=>trivial
 | _ :: _,_ :: _,⟨h1,⟨c,t,h2⟩,h3⟩=>⟨(hb.cell (block_lt_of_cell h1)).trans h1,⟨c,t,(hb.block _ (Array.getElem?_eq_some_iff.1 h2).1).trans h2⟩,h3.below hb⟩
 | [],_ :: _,h=>h.elim
 | _ :: _,[],h=>h.elim
theorem sentTypeRow : ∀ u, Tryz.prog.typeName? 3 u = some "*errors.errorString" → u = 162 := fun u h =>
 typeName_ptr_named (nm := "errors.errorString") (by rw [show "*" ++ "errors.errorString" = "*errors.errorString" by rfl]; kernel_rfl) (by kernel_rfl) (by decide) u (by rw [show "*" ++ "errors.errorString" = "*errors.errorString" by rfl]; exact h)
theorem cellsES:Tryz.prog.cellsOf 184 = 1:=by kernel_rfl
theorem cellsS:Tryz.prog.cellsOf 9 = 1:=by kernel_rfl
theorem sents_of_laid {W:World} (l:List (String × List UInt8 × Nat)) (hl:∀ x ∈ l,Tryz.prog.globalNamed x.1 = some x.2.2 ∧ (Tryz.prog.globals[x.2.2]?).map (·.type) = some 34)
  (h : laidMet Tryz.prog (l.map fun x => (x.1, .iface "*errors.errorString" (.ptr (.agg [.lit (.string x.2.1)])))) W) :
  ∃ ads,SentsAt 162 W (l.map (·.2.2)) ads ∧ ads.Nodup:=by
 obtain ⟨ps,hv,hnd,hrows⟩:=h
 obtain ⟨ads,h1,_,h3⟩:=sents_of_vars Tryz.underlying34 sentTypeRow Tryz.underlying162 Tryz.underlying184 rfl rfl Tryz.underlying9 cellsES cellsS l ps hl hv hrows
 exact ⟨ads,h1,h3 hnd⟩
end Go.Proofs.YtkmhmnffbgedgaaGreatDoor
/- errors.As at a *api.Fault and errors.Is at a sentinel, by their contracts: Go's own text of both is walked. -/
namespace Go.Proofs.YtkmhmnffbgedgaaGreatDoor
set_option maxHeartbeats 1000000
open Go Go.RowKit Go.Extern.Stop Go.Stop Go.Extern
/-! closed facts on the model's entries for internal/reflectlite at this program's types -/
theorem is_TypeOf (v:Value) (w:World):(Extern.ReflectliteType.typeOf #[.iface 162 v]).run Tryz.prog w = .ok (.iface 128 (.agg #[.pointer (some ⟨12,162,none⟩)])) w:=by kernel_rfl
theorem is_MethodComparable (v : Value) (w : World) : (Go.method 296 128 v "Comparable").run Tryz.prog w = .ok (113, v) w := by kernel_rfl
theorem is_Comp:(Tryz.prog.info? 162).map (·.comparable) = some true:=by kernel_rfl
theorem is_Size:(Tryz.prog.info? 184).map (·.size) = some 1:=by kernel_rfl
theorem noIsE (v:Value) (xT:TypeId) (w:World):(Instr.typeAssert (.iface 162 v) xT 139 true).run Tryz.prog w = .ok (.tuple #[.nilIface,.bool false]) w:=run_typeAssert_lacksB Tryz.underlying139 (by kernel_rfl) (by kernel_rfl) v xT w
theorem noUnwrapE (v:Value) (xT:TypeId) (w:World):(Instr.typeAssert (.iface 162 v) xT 135 true).run Tryz.prog w = .ok (.tuple #[.nilIface,.bool false]) w:=run_typeAssert_lacksB Tryz.underlying135 (by kernel_rfl) (by kernel_rfl) v xT w
theorem noUnwrapsE (v:Value) (xT:TypeId) (w:World):(Instr.typeAssert (.iface 162 v) xT 137 true).run Tryz.prog w = .ok (.tuple #[.nilIface,.bool false]) w:=run_typeAssert_lacksB Tryz.underlying137 (by kernel_rfl) (by kernel_rfl) v xT w
theorem noAsE (v:Value) (xT:TypeId) (w:World):(Instr.typeAssert (.iface 162 v) xT 132 true).run Tryz.prog w = .ok (.tuple #[.nilIface,.bool false]) w:=run_typeAssert_lacksB Tryz.underlying132 (by kernel_rfl) (by kernel_rfl) v xT w
theorem noIsF (v:Value) (xT:TypeId) (w:World):(Instr.typeAssert (.iface 70 v) xT 139 true).run Tryz.prog w = .ok (.tuple #[.nilIface,.bool false]) w:=run_typeAssert_lacksB Tryz.underlying139 (by kernel_rfl) (by kernel_rfl) v xT w
theorem hasUnwrapF (v:Value) (xT:TypeId) (w:World):(Instr.typeAssert (.iface 70 v) xT 135 true).run Tryz.prog w = .ok (.tuple #[.iface 70 v,.bool true]) w:=run_typeAssert_hasB Tryz.underlying135 (by kernel_rfl) v xT w
theorem methodUnwrapF (v : Value) (w : World) : (Go.method 296 70 v "Unwrap").run Tryz.prog w = .ok (107, v) w := by kernel_rfl
def cmpE : Array Value → Sem Value := Extern.ReflectliteType.method fun t => do Extern.Rtype.noPackHeld "Comparable" t; pure (.bool (← typeInfo t).comparable)
theorem is_Comparable (w:World):(cmpE #[.agg #[.pointer (some ⟨12,162,none⟩)]]).run Tryz.prog w = .ok (.bool true) w:=by kernel_rfl
theorem is_same (a:Addr) (w:World) :
  Calls Tryz.prog 42 #[.iface 162 (.pointer (some a)),.iface 162 (.pointer (some a))] w fun e w'=>e = .returned (.bool true) ∧ w' = w:=by
 obtain ⟨i,hi,hcmp⟩:=Option.map_eq_some_iff.1 is_Comp
 obtain ⟨j,hj,hjs⟩:=Option.map_eq_some_iff.1 is_Size
 have h8:=@run_callFunc_extern Tryz.prog 61 _ Extern.ReflectliteType.typeOf Tryz.func61 (by kernel_rfl) (by kernel_rfl) (by kernel_rfl) (by kernel_rfl)
 have h32:=@run_callFunc_extern Tryz.prog 113 _ cmpE Tryz.func113 (by kernel_rfl) (by kernel_rfl) (by kernel_rfl) (by kernel_rfl)
 have tT:=is_TypeOf
 have cT:=is_Comparable
 have mR:=is_MethodComparable
 have heq:=run_eql_iface_ptr_same (P:=Tryz.prog) w a Tryz.underlying34 Tryz.underlying162 hi hcmp hj
 go_enter Tryz.func42,Tryz.ntmps42
 go_wp2
 refine wp_loop_rounds 1 ?_
 rw [rounds_succ]
 go_wp2
 go_ret
 exact ⟨rfl,rfl⟩
theorem is_other (a b:Addr) (ca cb:Array Value) (ta tb:TypeId) (w:World) (hne:a ≠ b) (ha:w.heap[a.block]? = some (.cells ca ta (0,0))) (hb:w.heap[b.block]? = some (.cells cb tb (0,0))) :
  Calls Tryz.prog 42 #[.iface 162 (.pointer (some a)),.iface 162 (.pointer (some b))] w fun e w'=>e = .returned (.bool false) ∧ w' = w:=by
 obtain ⟨i,hi,hcmp⟩:=Option.map_eq_some_iff.1 is_Comp
 obtain ⟨j,hj,hjs⟩:=Option.map_eq_some_iff.1 is_Size
 have h8:=@run_callFunc_extern Tryz.prog 61 _ Extern.ReflectliteType.typeOf Tryz.func61 (by kernel_rfl) (by kernel_rfl) (by kernel_rfl) (by kernel_rfl)
 have h32:=@run_callFunc_extern Tryz.prog 113 _ cmpE Tryz.func113 (by kernel_rfl) (by kernel_rfl) (by kernel_rfl) (by kernel_rfl)
 have tT:=is_TypeOf
 have cT:=is_Comparable
 have mR:=is_MethodComparable
 have nE:=noIsE
 have uE:=noUnwrapE
 have vE:=noUnwrapsE
 have heq:=run_eql_iface_ptr_other (P:=Tryz.prog) w Tryz.underlying34 Tryz.underlying162 hi hcmp hj (by rw [hjs];decide) hne ha hb
 go_enter Tryz.func42,Tryz.ntmps42
 go_wp2
 refine wp_loop_rounds 1 ?_
 rw [rounds_succ]
 go_wp2
 go_ret
 exact ⟨rfl,rfl⟩
theorem is_fault_same (pb:Nat) (b:Addr) (w:World) (h1:w.cell? ⟨pb,1,none⟩ = some (.iface 162 (.pointer (some b)))) :
  Calls Tryz.prog 42 #[.iface 70 (.pointer (some ⟨pb,0,none⟩)),.iface 162 (.pointer (some b))] w fun e w'=>e = .returned (.bool true) ∧ w' = w:=by
 obtain ⟨i,hi,hcmp⟩:=Option.map_eq_some_iff.1 is_Comp
 obtain ⟨j,hj,hjs⟩:=Option.map_eq_some_iff.1 is_Size
 have h8:=@run_callFunc_extern Tryz.prog 61 _ Extern.ReflectliteType.typeOf Tryz.func61 (by kernel_rfl) (by kernel_rfl) (by kernel_rfl) (by kernel_rfl)
 have h32:=@run_callFunc_extern Tryz.prog 113 _ cmpE Tryz.func113 (by kernel_rfl) (by kernel_rfl) (by kernel_rfl) (by kernel_rfl)
 have tT:=is_TypeOf
 have cT:=is_Comparable
 have mR:=is_MethodComparable
 have nE:=noIsE
 have uE:=noUnwrapE
 have vE:=noUnwrapsE
 have nF:=noIsF
 have uF:=hasUnwrapF
 have mU:=methodUnwrapF
 have heq:=run_eql_iface_ptr_same (P:=Tryz.prog) w b Tryz.underlying34 Tryz.underlying162 hi hcmp hj
 have hty:=run_eql_iface_types (P:=Tryz.prog) 70 162 (.pointer (some ⟨pb,0,none⟩)) (.pointer (some b)) Tryz.underlying34 (by decide) w
 go_enter Tryz.func42,Tryz.ntmps42
 go_wp2
 refine wp_loop_rounds 2 ?_
 rw [rounds_succ]
 go_wp2
 rw [rounds_succ]
 go_wp2
 go_ret
 exact ⟨rfl,rfl⟩
theorem is_fault_other (pb:Nat) (a b:Addr) (ca cb:Array Value) (ta tb:TypeId) (w:World) (h1:w.cell? ⟨pb,1,none⟩ = some (.iface 162 (.pointer (some a)))) (hne:a ≠ b) (ha:w.heap[a.block]? = some (.cells ca ta (0,0))) (hb:w.heap[b.block]? = some (.cells cb tb (0,0))) :
  Calls Tryz.prog 42 #[.iface 70 (.pointer (some ⟨pb,0,none⟩)),.iface 162 (.pointer (some b))] w fun e w'=>e = .returned (.bool false) ∧ w' = w:=by
 obtain ⟨i,hi,hcmp⟩:=Option.map_eq_some_iff.1 is_Comp
 obtain ⟨j,hj,hjs⟩:=Option.map_eq_some_iff.1 is_Size
 have h8:=@run_callFunc_extern Tryz.prog 61 _ Extern.ReflectliteType.typeOf Tryz.func61 (by kernel_rfl) (by kernel_rfl) (by kernel_rfl) (by kernel_rfl)
 have h32:=@run_callFunc_extern Tryz.prog 113 _ cmpE Tryz.func113 (by kernel_rfl) (by kernel_rfl) (by kernel_rfl) (by kernel_rfl)
 have tT:=is_TypeOf
 have cT:=is_Comparable
 have mR:=is_MethodComparable
 have nE:=noIsE
 have uE:=noUnwrapE
 have vE:=noUnwrapsE
 have nF:=noIsF
 have uF:=hasUnwrapF
 have mU:=methodUnwrapF
 have heq:=run_eql_iface_ptr_other (P:=Tryz.prog) w Tryz.underlying34 Tryz.underlying162 hi hcmp hj (by rw [hjs];decide) hne ha hb
 have hty:=run_eql_iface_types (P:=Tryz.prog) 70 162 (.pointer (some ⟨pb,0,none⟩)) (.pointer (some b)) Tryz.underlying34 (by decide) w
 go_enter Tryz.func42,Tryz.ntmps42
 go_wp2
 refine wp_loop_rounds 2 ?_
 rw [rounds_succ]
 go_wp2
 rw [rounds_succ]
 go_wp2
 go_ret
 exact ⟨rfl,rfl⟩
end Go.Proofs.YtkmhmnffbgedgaaGreatDoor
/- errors.As at a *api.Fault, by its contracts: Go's own text is walked. -/
namespace Go.Proofs.YtkmhmnffbgedgaaGreatDoor
set_option maxHeartbeats 1000000
open Go Go.RowKit Go.Extern.Stop Go.Stop Go.Extern
theorem as_valueOfPP (t:Addr) (w:World):(ReflectliteValue.unpack (.iface 96 (.pointer (some t)))).run Tryz.prog w
  = .ok (.agg #[.pointer (some ⟨12,96,none⟩),.pointer (some ⟨w.heap.size,0,none⟩),.int .u64 150]) (w.alloc (.cells #[.pointer (some t)] 96)):=by kernel_rfl
theorem as_typePP (a : Addr) (w : World) : (ReflectliteValue.methodAny (ReflectliteValue.valueError "reflectlite.Value.Type" 0) (fun t _ _ _ => ReflectliteType.toType t) #[.agg #[.pointer (some ⟨12, 96, none⟩), .pointer (some a), .int .u64 150]]).run Tryz.prog w
  = .ok (.iface 128 (.agg #[.pointer (some ⟨12,96,none⟩)])) w:=by kernel_rfl
theorem as_methodKind (h : Value) (w : World) : (Go.method 296 128 (.agg #[h]) "Kind").run Tryz.prog w = .ok (103, h) w := by kernel_rfl
theorem as_kindPP (w:World):((ReflectliteType.abiMethod fun t=>(fun a:Nat=>Value.int IntKind.u8 (a:Int)) <$> Rtype.kind t) #[.pointer (some ⟨12,96,none⟩)]).run Tryz.prog w = .ok (.int .u8 22) w:=by kernel_rfl
theorem as_kindP (w:World):((ReflectliteType.abiMethod fun t=>(fun a:Nat=>Value.int IntKind.u8 (a:Int)) <$> Rtype.kind t) #[.pointer (some ⟨12,70,none⟩)]).run Tryz.prog w = .ok (.int .u8 22) w:=by kernel_rfl
theorem as_rlm (z:Sem Value) (f:TypeId → Addr → Nat → Nat → Sem Value) (v:Value) :
  ReflectliteValue.method z f #[v] = (do match ← ReflectliteValue.parts v with | none=>z | some (t,a,fl)=>f t a fl (fl % 32)):=rfl
theorem as_partsPP (a:Addr) (w:World):(ReflectliteValue.parts (.agg #[.pointer (some ⟨12,96,none⟩),.pointer (some a),.int .u64 150])).run Tryz.prog w = .ok (some (96,a,150)) w:=by kernel_rfl
theorem as_isNil (a p:Addr) (W:World) (ha:W.cell? a = some (.pointer (some p))) :
  (ReflectliteValue.method (ReflectliteValue.valueError "reflectlite.Value.IsNil" 0) ReflectliteValue.isNil #[.agg #[.pointer (some ⟨12, 96, none⟩), .pointer (some a), .int .u64 150]]).run Tryz.prog W = .ok (.bool false) W := by
 rw [as_rlm]
 simp only [Sem.run_bind,as_partsPP,Result.andThen]
 simp [ReflectliteValue.isNil,loadVar,isAgg,underlying,Tryz.underlying96,ha,Result.andThen]
theorem as_methodElem (h : Value) (w : World) : (Go.method 296 128 (.agg #[h]) "Elem").run Tryz.prog w = .ok (114, .agg #[h]) w := by kernel_rfl
theorem as_methodImplements (h : Value) (w : World) : (Go.method 296 128 (.agg #[h]) "Implements").run Tryz.prog w = .ok (115, .agg #[h]) w := by kernel_rfl
theorem as_methodAssignableTo (h : Value) (w : World) : (Go.method 296 128 (.agg #[h]) "AssignableTo").run Tryz.prog w = .ok (112, .agg #[h]) w := by kernel_rfl
theorem as_elemPP (w:World):(ReflectliteType.method ReflectliteType.elem #[.agg #[.pointer (some ⟨12,96,none⟩)]]).run Tryz.prog w = .ok (.iface 128 (.agg #[.pointer (some ⟨12,70,none⟩)])) w:=by kernel_rfl
theorem as_implementsP (w : World) : (ReflectliteType.relation "Implements" ReflectliteType.implements_ #[.agg #[.pointer (some ⟨12, 70, none⟩)], .iface 128 (.agg #[.pointer (some ⟨12, 34, none⟩)])]).run Tryz.prog w = .ok (.bool true) w := by kernel_rfl
theorem as_typeOfP (v:Value) (w:World):(ReflectliteType.typeOf #[.iface 70 v]).run Tryz.prog w = .ok (.iface 128 (.agg #[.pointer (some ⟨12,70,none⟩)])) w:=by kernel_rfl
theorem as_assignableP (w : World) : (ReflectliteType.relation "AssignableTo" ReflectliteType.assignableTo #[.agg #[.pointer (some ⟨12, 70, none⟩)], .iface 128 (.agg #[.pointer (some ⟨12, 70, none⟩)])]).run Tryz.prog w = .ok (.bool true) w := by kernel_rfl
theorem as_assignableE (w : World) : (ReflectliteType.relation "AssignableTo" ReflectliteType.assignableTo #[.agg #[.pointer (some ⟨12, 162, none⟩)], .iface 128 (.agg #[.pointer (some ⟨12, 70, none⟩)])]).run Tryz.prog w = .ok (.bool false) w := by kernel_rfl
theorem as_valueOfP (e:Addr) (w:World):(ReflectliteValue.unpack (.iface 70 (.pointer (some e)))).run Tryz.prog w
  = .ok (.agg #[.pointer (some ⟨12,70,none⟩),.pointer (some ⟨w.heap.size,0,none⟩),.int .u64 150]) (w.alloc (.cells #[.pointer (some e)] 70)):=by kernel_rfl
theorem as_elemOfPP (w:World):(Rtype.elem? 96).run Tryz.prog w = .ok (some 70) w:=by kernel_rfl
theorem as_mkP (p:Addr) (w:World):(ReflectliteValue.mk 70 p ReflectliteValue.flagAddr).run Tryz.prog w = .ok (.agg #[.pointer (some ⟨12,70,none⟩),.pointer (some p),.int .u64 406]) w:=by kernel_rfl
theorem as_elemV (a p:Addr) (W:World) (ha:W.cell? a = some (.pointer (some p))) :
  (ReflectliteValue.method (ReflectliteValue.valueError "reflectlite.Value.Elem" 0) ReflectliteValue.elem #[.agg #[.pointer (some ⟨12, 96, none⟩), .pointer (some a), .int .u64 150]]).run Tryz.prog W
   = .ok (.agg #[.pointer (some ⟨12,70,none⟩),.pointer (some p),.int .u64 406]) W:=by
 rw [as_rlm]
 simp only [Sem.run_bind,as_partsPP,Result.andThen]
 simp [ReflectliteValue.elem,loadVar,isAgg,underlying,Tryz.underlying96,ha,Result.andThen,as_elemOfPP,as_mkP]
theorem as_rls (v x:Value):ReflectliteValue.set #[v,x] = (do
  let (some (dst,a,fl),some (src,b,_)):=(← ReflectliteValue.parts v,← ReflectliteValue.parts x)
   | unsupported (.noEntry "extern/(internal/reflectlite.Value).Set.zeroValue")
  if fl / ReflectliteValue.flagAddr % 2 == 0 then unsupported (.noEntry "extern/(internal/reflectlite.Value).Set.unaddressable")
  let val ← loadVar src b
  if ← Rtype.directlyAssignable dst src then storeVar dst a val
  else if ← Rtype.implements dst src then
   if (← Rtype.kind src) == 20 then
    match val with
    | .nilIface => unsupported (.noEntry "extern/reflectlite: a nil value of one interface type handed on as a value of another")
    | _=>storeVar dst a val
   else storeVar dst a (.iface src val)
  else panicString ("reflectlite.Set: value of type " ++ (← Rtype.spelt src) ++ " is not assignable to type " ++ (← Rtype.spelt dst))
  pure (.tuple #[])):=rfl
theorem as_partsPa (a:Addr) (w:World):(ReflectliteValue.parts (.agg #[.pointer (some ⟨12,70,none⟩),.pointer (some a),.int .u64 406])).run Tryz.prog w = .ok (some (70,a,406)) w:=by kernel_rfl
theorem as_partsP (a:Addr) (w:World):(ReflectliteValue.parts (.agg #[.pointer (some ⟨12,70,none⟩),.pointer (some a),.int .u64 150])).run Tryz.prog w = .ok (some (70,a,150)) w:=by kernel_rfl
theorem as_direct (w:World):(Rtype.directlyAssignable 70 70).run Tryz.prog w = .ok true w:=by kernel_rfl
theorem as_set (ta b e:Addr) (old:Value) (W:World) (hb:W.cell? b = some (.pointer (some e))) (ht:W.cell? ta = some old) (hf:W.frozen? ta = false) :
  (ReflectliteValue.set #[.agg #[.pointer (some ⟨12,70,none⟩),.pointer (some ta),.int .u64 406],.agg #[.pointer (some ⟨12,70,none⟩),.pointer (some b),.int .u64 150]]).run Tryz.prog W
   = .ok (.tuple #[]) (W.setCell ta (.pointer (some e))):=by
 rw [as_rls]
 simp only [Sem.run_bind,as_partsPa,as_partsP,Result.andThen]
 simp [ReflectliteValue.flagAddr,loadVar,isAgg,underlying,Tryz.underlying70,hb,Result.andThen,as_direct,storeVar,Value.cells,storeCells,Addr.add]
 rw [run_store Tryz.prog W ta _ _ (by rfl)]
 simp [ht,hf]
theorem as_hit_world (e t:Addr) (old:Value) (w:World) (hg:w.cell? ⟨8,0,none⟩ = some (.iface 128 (.agg #[.pointer (some ⟨12,34,none⟩)]))) (ht0:w.cell? t = some old) (hf0:w.frozen? t = false) :
  Calls Tryz.prog 41 #[.iface 70 (.pointer (some e)),.iface 96 (.pointer (some t))] w fun ev w'=>ev = .returned (.bool true) ∧ w' = ((((w.alloc (.cells #[.pointer (some t)] 96)).alloc (.cells #[.pointer (some ⟨12,96,none⟩),.pointer (some ⟨w.heap.size,0,none⟩),.int .u64 150] 112)).alloc (.cells #[.pointer (some ⟨12,96,none⟩),.pointer (some ⟨w.heap.size,0,none⟩),.int .u64 150] 112)).alloc (.cells #[.pointer (some e)] 70)).setCell t (.pointer (some e)):=by
 have h6:=@run_callFunc_extern Tryz.prog 57 _ (fun args=>ReflectliteValue.unpack (args.getD 0 (.tuple #[]))) Tryz.func57 (by kernel_rfl) (by kernel_rfl) (by kernel_rfl) (by kernel_rfl)
 have h7 := @run_callFunc_extern Tryz.prog 58 _ (ReflectliteValue.methodAny (ReflectliteValue.valueError "reflectlite.Value.Type" 0) (fun t _ _ _ => ReflectliteType.toType t)) Tryz.func58 (by kernel_rfl) (by kernel_rfl) (by kernel_rfl) (by kernel_rfl)
 have h8 := @run_callFunc_extern Tryz.prog 59 _ (ReflectliteValue.method (ReflectliteValue.valueError "reflectlite.Value.IsNil" 0) ReflectliteValue.isNil) Tryz.func59 (by kernel_rfl) (by kernel_rfl) (by kernel_rfl) (by kernel_rfl)
 have h27:=@run_callFunc_extern Tryz.prog 103 _ (ReflectliteType.abiMethod fun t=>do pure (.int .u8 (← Rtype.kind t))) Tryz.func103 (by kernel_rfl) (by kernel_rfl) (by kernel_rfl) (by kernel_rfl)
 have h37:=@run_callFunc_extern Tryz.prog 114 _ (ReflectliteType.method ReflectliteType.elem) Tryz.func114 (by kernel_rfl) (by kernel_rfl) (by kernel_rfl) (by kernel_rfl)
 have h38 := @run_callFunc_extern Tryz.prog 115 _ (ReflectliteType.relation "Implements" ReflectliteType.implements_) Tryz.func115 (by kernel_rfl) (by kernel_rfl) (by kernel_rfl) (by kernel_rfl)
 have h10:=@run_callFunc_extern Tryz.prog 61 _ ReflectliteType.typeOf Tryz.func61 (by kernel_rfl) (by kernel_rfl) (by kernel_rfl) (by kernel_rfl)
 have h35 := @run_callFunc_extern Tryz.prog 112 _ (ReflectliteType.relation "AssignableTo" ReflectliteType.assignableTo) Tryz.func112 (by kernel_rfl) (by kernel_rfl) (by kernel_rfl) (by kernel_rfl)
 have h11 := @run_callFunc_extern Tryz.prog 67 _ (ReflectliteValue.method (ReflectliteValue.valueError "reflectlite.Value.Elem" 0) ReflectliteValue.elem) Tryz.func67 (by kernel_rfl) (by kernel_rfl) (by kernel_rfl) (by kernel_rfl)
 have h12:=@run_callFunc_extern Tryz.prog 68 _ ReflectliteValue.set Tryz.func68 (by kernel_rfl) (by kernel_rfl) (by kernel_rfl) (by kernel_rfl)
 have tO:=as_typeOfP
 have mA:=as_methodAssignableTo
 have a25:=as_assignableP
 have v25:=as_valueOfP
 have f6:=as_valueOfPP
 have f7:=as_typePP
 have mK:=as_methodKind
 have mE:=as_methodElem
 have mI:=as_methodImplements
 have k27:=as_kindPP
 have k25:=as_kindP
 have e27:=as_elemPP
 have i25:=as_implementsP
 have n8:=as_isNil ⟨w.heap.size,0,none⟩ t ((w.alloc (.cells #[.pointer (some t)] 96)).alloc (.cells #[.pointer (some ⟨12,96,none⟩),.pointer (some ⟨w.heap.size,0,none⟩),.int .u64 150] 112)) (by simp)
 have hlt:8 < w.heap.size:=World.block_lt_of_cell? w _ hg
 have hg2:((w.alloc (.cells #[.pointer (some t)] 96)).alloc (.cells #[.pointer (some ⟨12,96,none⟩),.pointer (some ⟨w.heap.size,0,none⟩),.int .u64 150] 112)).cell? ⟨8,0,none⟩ = some (.iface 128 (.agg #[.pointer (some ⟨12,34,none⟩)])):=by
  rw [World.cell?_alloc_lt _ _ ⟨8,0,none⟩ (by simp;omega),World.cell?_alloc_lt _ _ ⟨8,0,none⟩ hlt];exact hg
 have htl:t.block < w.heap.size:=World.block_lt_of_cell? w _ ht0
 have el:=as_elemV ⟨w.heap.size,0,none⟩ t (((w.alloc (.cells #[.pointer (some t)] 96)).alloc (.cells #[.pointer (some ⟨12,96,none⟩),.pointer (some ⟨w.heap.size,0,none⟩),.int .u64 150] 112)).alloc (.cells #[.pointer (some ⟨12,96,none⟩),.pointer (some ⟨w.heap.size,0,none⟩),.int .u64 150] 112)) (by rw [World.cell?_alloc_lt _ _ ⟨w.heap.size,0,none⟩ (by simp;omega)];simp)
 have st:=as_set t ⟨w.heap.size + 1 + 1 + 1,0,none⟩ e old ((((w.alloc (.cells #[.pointer (some t)] 96)).alloc (.cells #[.pointer (some ⟨12,96,none⟩),.pointer (some ⟨w.heap.size,0,none⟩),.int .u64 150] 112)).alloc (.cells #[.pointer (some ⟨12,96,none⟩),.pointer (some ⟨w.heap.size,0,none⟩),.int .u64 150] 112)).alloc (.cells #[.pointer (some e)] 70))
  (by rw [World.cell?_alloc_at _ _ _ _ (by simp)];rfl)
  (by rw [World.cell?_alloc_lt _ _ t (by simp;omega),World.cell?_alloc_lt _ _ t (by simp;omega),World.cell?_alloc_lt _ _ t (by simp;omega),World.cell?_alloc_lt _ _ t htl];exact ht0)
  (by rw [World.frozen?_alloc_old _ _ t (by simp;omega),World.frozen?_alloc_old _ _ t (by simp;omega),World.frozen?_alloc_old _ _ t (by simp;omega),World.frozen?_alloc_old _ _ t (Nat.ne_of_lt htl)];exact hf0)
 go_enter Tryz.func41,Tryz.ntmps41
 go_wp2
 refine wp_loop_rounds 1 ?_
 rw [rounds_succ]
 go_wp2
 go_ret
 exact ⟨rfl,rfl⟩
theorem as_miss (a t:Addr) (old:Value) (w:World) (hg:w.cell? ⟨8,0,none⟩ = some (.iface 128 (.agg #[.pointer (some ⟨12,34,none⟩)]))) (_ht0:w.cell? t = some old) :
  Calls Tryz.prog 41 #[.iface 162 (.pointer (some a)),.iface 96 (.pointer (some t))] w fun ev w'=>ev = .returned (.bool false) ∧ Below w.heap.size w w':=by
 have h6:=@run_callFunc_extern Tryz.prog 57 _ (fun args=>ReflectliteValue.unpack (args.getD 0 (.tuple #[]))) Tryz.func57 (by kernel_rfl) (by kernel_rfl) (by kernel_rfl) (by kernel_rfl)
 have h7 := @run_callFunc_extern Tryz.prog 58 _ (ReflectliteValue.methodAny (ReflectliteValue.valueError "reflectlite.Value.Type" 0) (fun t _ _ _ => ReflectliteType.toType t)) Tryz.func58 (by kernel_rfl) (by kernel_rfl) (by kernel_rfl) (by kernel_rfl)
 have h8 := @run_callFunc_extern Tryz.prog 59 _ (ReflectliteValue.method (ReflectliteValue.valueError "reflectlite.Value.IsNil" 0) ReflectliteValue.isNil) Tryz.func59 (by kernel_rfl) (by kernel_rfl) (by kernel_rfl) (by kernel_rfl)
 have h27:=@run_callFunc_extern Tryz.prog 103 _ (ReflectliteType.abiMethod fun t=>do pure (.int .u8 (← Rtype.kind t))) Tryz.func103 (by kernel_rfl) (by kernel_rfl) (by kernel_rfl) (by kernel_rfl)
 have h37:=@run_callFunc_extern Tryz.prog 114 _ (ReflectliteType.method ReflectliteType.elem) Tryz.func114 (by kernel_rfl) (by kernel_rfl) (by kernel_rfl) (by kernel_rfl)
 have h38 := @run_callFunc_extern Tryz.prog 115 _ (ReflectliteType.relation "Implements" ReflectliteType.implements_) Tryz.func115 (by kernel_rfl) (by kernel_rfl) (by kernel_rfl) (by kernel_rfl)
 have h10:=@run_callFunc_extern Tryz.prog 61 _ ReflectliteType.typeOf Tryz.func61 (by kernel_rfl) (by kernel_rfl) (by kernel_rfl) (by kernel_rfl)
 have h35 := @run_callFunc_extern Tryz.prog 112 _ (ReflectliteType.relation "AssignableTo" ReflectliteType.assignableTo) Tryz.func112 (by kernel_rfl) (by kernel_rfl) (by kernel_rfl) (by kernel_rfl)
 have tO:=is_TypeOf
 have mA:=as_methodAssignableTo
 have a25:=as_assignableE
 have f6:=as_valueOfPP
 have f7:=as_typePP
 have mK:=as_methodKind
 have mE:=as_methodElem
 have mI:=as_methodImplements
 have k27:=as_kindPP
 have k25:=as_kindP
 have e27:=as_elemPP
 have i25:=as_implementsP
 have nA:=noAsE
 have uE:=noUnwrapE
 have vE:=noUnwrapsE
 have n8:=as_isNil ⟨w.heap.size,0,none⟩ t ((w.alloc (.cells #[.pointer (some t)] 96)).alloc (.cells #[.pointer (some ⟨12,96,none⟩),.pointer (some ⟨w.heap.size,0,none⟩),.int .u64 150] 112)) (by simp)
 have hlt:8 < w.heap.size:=World.block_lt_of_cell? w _ hg
 have hg2:((w.alloc (.cells #[.pointer (some t)] 96)).alloc (.cells #[.pointer (some ⟨12,96,none⟩),.pointer (some ⟨w.heap.size,0,none⟩),.int .u64 150] 112)).cell? ⟨8,0,none⟩ = some (.iface 128 (.agg #[.pointer (some ⟨12,34,none⟩)])):=by
  rw [World.cell?_alloc_lt _ _ ⟨8,0,none⟩ (by simp;omega),World.cell?_alloc_lt _ _ ⟨8,0,none⟩ hlt];exact hg
 go_enter Tryz.func41,Tryz.ntmps41
 go_wp2
 refine wp_loop_rounds 1 ?_
 rw [rounds_succ]
 go_wp2
 go_ret
 exact ⟨rfl,(((Below.refl _ _).alloc (Nat.le_refl _) _).alloc (by simp) _).alloc (by simp;omega) _⟩
end Go.Proofs.YtkmhmnffbgedgaaGreatDoor
/- plain.Code and the errors of package api: what stands for an error, and the number that Code tells of it. -/
namespace Go.Proofs.YtkmhmnffbgedgaaGreatDoor
set_option maxHeartbeats 1000000
open Go Go.RowKit Go.ChangeShapes
def gErr:Nat → Nat
 | 1=>1
 | 2=>0
 | 3=>2
 | 4=>3
 | 5=>4
 | 6=>5
 | 7=>6
 | _=>7
structure ErrEnv (w:World) (adr:Nat → Addr):Prop where
 cell:∀ k,1 ≤ k → k ≤ 8 → w.cell? ⟨gErr k,0,none⟩ = some (.iface 162 (.pointer (some (adr k))))
 blk:∀ k,1 ≤ k → k ≤ 8 → ∃ c t,w.heap[(adr k).block]? = some (.cells c t (0,0))
 inj:∀ j k,1 ≤ j → j ≤ 8 → 1 ≤ k → k ≤ 8 → adr j = adr k → j = k
 handle:w.cell? ⟨8,0,none⟩ = some (.iface 128 (.agg #[.pointer (some ⟨12,34,none⟩)]))
theorem ErrEnv.below {w w':World} {adr:Nat → Addr} (h:ErrEnv w adr) (hb:Below w.heap.size w w'):ErrEnv w' adr where
 cell k h1 h2:=(hb.cell (block_lt_of_cell (h.cell k h1 h2))).trans (h.cell k h1 h2)
 blk k h1 h2:=by
  obtain ⟨c,t,h3⟩:=h.blk k h1 h2
  exact ⟨c,t,(hb.block _ (Array.getElem?_eq_some_iff.1 h3).1).trans h3⟩
 inj:=h.inj
 handle:=(hb.cell (block_lt_of_cell h.handle)).trans h.handle
inductive GErr where
 | nil
 | sent (k:Nat)
 | fault (k:Nat) (at_:Int)
def IsErr (w:World) (adr:Nat → Addr):GErr → Value → Prop
 | .nil,v=>v = .nilIface
 | .sent k,v=>1 ≤ k ∧ k ≤ 8 ∧ v = .iface 162 (.pointer (some (adr k)))
 | .fault k p,v=>1 ≤ k ∧ k ≤ 8 ∧ ∃ b,v = .iface 70 (.pointer (some ⟨b,0,none⟩)) ∧ w.cell? ⟨b,0,none⟩ = some (.int .i64 p) ∧ w.cell? ⟨b,1,none⟩ = some (.iface 162 (.pointer (some (adr k))))
theorem IsErr.below {w w':World} {adr:Nat → Addr} {e:GErr} {v:Value} (h:IsErr w adr e v) (hb:Below w.heap.size w w'):IsErr w' adr e v:=by
 cases e with
 | nil=>exact h
 | sent k=>exact h
 | fault k p =>
  obtain ⟨h1,h2,b,h3,h4,h5⟩:=h
  exact ⟨h1,h2,b,h3,(hb.cell (block_lt_of_cell h4)).trans h4,(hb.cell (block_lt_of_cell h5)).trans h5⟩
def GErr.code:GErr → Int
 | .nil=>0
 | .sent k=>k
 | .fault k _=>k
def GErr.at':GErr → Int
 | .nil=>-1
 | .sent _=>-1
 | .fault _ p=>p
theorem is_any {w:World} {adr:Nat → Addr} {e:GErr} {v:Value} {j:Nat} (hE:ErrEnv w adr) (he:IsErr w adr e v) (hn:e ≠ .nil) (h1:1 ≤ j) (h8:j ≤ 8) :
  Calls Tryz.prog 42 #[v,.iface 162 (.pointer (some (adr j)))] w fun r w'=>r = .returned (.bool (decide (e.code = (j:Int)))) ∧ w' = w:=by
 cases e with
 | nil=>exact absurd rfl hn
 | sent k =>
  obtain ⟨k1,k8,rfl⟩:=he
  by_cases hjk:k = j
  ·subst hjk
   simpa [GErr.code] using is_same (adr k) w
  ·obtain ⟨ca,ta,ha⟩:=hE.blk k k1 k8
   obtain ⟨cb,tb,hb⟩:=hE.blk j h1 h8
   have hd:decide (GErr.code (.sent k) = (j:Int)) = false:=by rw [decide_eq_false_iff_not];simp only [GErr.code];omega
   rw [hd]
   exact is_other (adr k) (adr j) ca cb ta tb w (fun h=>hjk (hE.inj _ _ k1 k8 h1 h8 h)) ha hb
 | fault k p =>
  obtain ⟨k1,k8,b,rfl,h4,h5⟩:=he
  by_cases hjk:k = j
  ·subst hjk
   simpa [GErr.code] using is_fault_same b (adr k) w h5
  ·obtain ⟨ca,ta,ha⟩:=hE.blk k k1 k8
   obtain ⟨cb,tb,hb⟩:=hE.blk j h1 h8
   have hd:decide (GErr.code (.fault k p) = (j:Int)) = false:=by rw [decide_eq_false_iff_not];simp only [GErr.code];omega
   rw [hd]
   exact is_fault_other b (adr k) (adr j) ca cb ta tb w h5 (fun h=>hjk (hE.inj _ _ k1 k8 h1 h8 h)) ha hb
theorem code_nil (w:World):Calls Tryz.prog 27 #[.nilIface] w fun e w'=>e = .returned (.tuple #[.int .i64 0,.int .i64 (-1)]) ∧ Below w.heap.size w w':=by
 go_enter Tryz.func27,Tryz.ntmps27
 go_wp2
 go_ret2
 exact ⟨rfl,Below.refl _ _⟩
set_option maxRecDepth 100000 in
theorem code_sent (k:Nat) (w:World) (adr:Nat → Addr) (hE:ErrEnv w adr) (h1:1 ≤ k) (h8:k ≤ 8) :
  Calls Tryz.prog 27 #[.iface 162 (.pointer (some (adr k)))] w fun e w'=>e = .returned (.tuple #[.int .i64 (k:Int),.int .i64 (-1)]) ∧ Below w.heap.size w w':=by
 go_enter Tryz.func27,Tryz.ntmps27
 go_wp2_with fail
 refine (as_miss _ _ _ _ ((hE.below ((Below.refl _ _).alloc (Nat.le_refl _) _)).handle) (by simp [go_sem];rfl)).mono ?_
 rintro e w1 ⟨rfl,hb1⟩
 have hb:Below w.heap.size w w1:=((Below.refl w.heap.size w).alloc (Nat.le_refl _) _).trans (hb1.mono (by simp))
 clear hb1
 have hE1:=hE.below hb
 have e1:w1.cell? ⟨1,0,none⟩ = _:=hE1.cell 1 (by decide) (by decide)
 have e2:w1.cell? ⟨0,0,none⟩ = _:=hE1.cell 2 (by decide) (by decide)
 have e3:w1.cell? ⟨2,0,none⟩ = _:=hE1.cell 3 (by decide) (by decide)
 have e4:w1.cell? ⟨3,0,none⟩ = _:=hE1.cell 4 (by decide) (by decide)
 have e5:w1.cell? ⟨4,0,none⟩ = _:=hE1.cell 5 (by decide) (by decide)
 have e6:w1.cell? ⟨5,0,none⟩ = _:=hE1.cell 6 (by decide) (by decide)
 have e7:w1.cell? ⟨6,0,none⟩ = _:=hE1.cell 7 (by decide) (by decide)
 have e8:w1.cell? ⟨7,0,none⟩ = _:=hE1.cell 8 (by decide) (by decide)
 go_wp2_with fail
 clear e1 e2 e3 e4 e5 e6 e7 e8
 have hcells:∀ i:Nat,i < 8 → (w1.alloc (.cells #[.iface 162 (.pointer (some (adr 1))),.iface 162 (.pointer (some (adr 2))),.iface 162 (.pointer (some (adr 3))),.iface 162 (.pointer (some (adr 4))),.iface 162 (.pointer (some (adr 5))),.iface 162 (.pointer (some (adr 6))),.iface 162 (.pointer (some (adr 7))),.iface 162 (.pointer (some (adr 8)))] 34)).cell? ⟨w1.heap.size,i,none⟩ = some (.iface 162 (.pointer (some (adr (i + 1))))):=by
  intro i hi
  rw [World.cell?_alloc_at _ _ _ _ rfl]
  match i,hi with
  | 0,_=>rfl
  | 1,_=>rfl
  | 2,_=>rfl
  | 3,_=>rfl
  | 4,_=>rfl
  | 5,_=>rfl
  | 6,_=>rfl
  | 7,_=>rfl
 have hE2:=hE1.below ((Below.refl _ _).alloc (Nat.le_refl _) (.cells #[.iface 162 (.pointer (some (adr 1))),.iface 162 (.pointer (some (adr 2))),.iface 162 (.pointer (some (adr 3))),.iface 162 (.pointer (some (adr 4))),.iface 162 (.pointer (some (adr 5))),.iface 162 (.pointer (some (adr 6))),.iface 162 (.pointer (some (adr 7))),.iface 162 (.pointer (some (adr 8)))] 34))
 have hb2:=hb.alloc hb.size (.cells #[.iface 162 (.pointer (some (adr 1))),.iface 162 (.pointer (some (adr 2))),.iface 162 (.pointer (some (adr 3))),.iface 162 (.pointer (some (adr 4))),.iface 162 (.pointer (some (adr 5))),.iface 162 (.pointer (some (adr 6))),.iface 162 (.pointer (some (adr 7))),.iface 162 (.pointer (some (adr 8)))] 34)
 generalize (w1.alloc (.cells #[.iface 162 (.pointer (some (adr 1))),.iface 162 (.pointer (some (adr 2))),.iface 162 (.pointer (some (adr 3))),.iface 162 (.pointer (some (adr 4))),.iface 162 (.pointer (some (adr 5))),.iface 162 (.pointer (some (adr 6))),.iface 162 (.pointer (some (adr 7))),.iface 162 (.pointer (some (adr 8)))] 34)) = w3 at *
 have HC:=Lib.hid hcells;clear hcells
 have he:IsErr w3 adr (.sent k) (.iface 162 (.pointer (some (adr k)))):=⟨h1,h8,rfl⟩
 go_loop [3,26] (fun pv i=>∃ m:Nat,m ≤ 8 ∧ i = .int .i64 m ∧ m < k ∧ pv = .int .i64 (-1)) (fun _ i=>8 - (intOf i).toNat)
 case atStart=>exact ⟨0,by omega,rfl,by omega,rfl⟩
 case round =>
  obtain ⟨m,hm,rfl,hmk,rfl⟩:=hrel
  have hlt:m < 8:=by omega
  have hc:=HC.out m hlt
  by_cases hk:k = m + 1
  ·have hd:decide (GErr.code (.sent k) = ((m + 1:Nat):Int)) = true:=by rw [decide_eq_true_iff];simp only [GErr.code];omega
   have Hd:=Lib.hid hd;have Hk:=Lib.hid hk
   clear hd hk
   go_wp2_with fail
   refine (is_any (e:=(.sent k)) (j:=m + 1) hE2 he (by simp) (by omega) (by omega)).mono ?_
   rintro e w4 ⟨rfl,rfl⟩
   rw [Hd.out]
   go_wp2_with fail
   go_ret2
   exact ⟨by rw [Hk.out];rfl,hb2⟩
  ·have hd:decide (GErr.code (.sent k) = ((m + 1:Nat):Int)) = false:=by rw [decide_eq_false_iff_not];simp only [GErr.code];omega
   have Hd:=Lib.hid hd
   have hk2:m + 1 < k:=by omega
   clear hd hk
   go_wp2_with fail
   refine (is_any (e:=(.sent k)) (j:=m + 1) hE2 he (by simp) (by omega) (by omega)).mono ?_
   rintro e w4 ⟨rfl,rfl⟩
   rw [Hd.out]
   go_wp2_with fail
   go_round
   case rel=>exact ⟨m + 1,by omega,by go_num,by omega,rfl⟩
   case measure=>simp [intOf];omega
theorem as_hit (e t:Addr) (old:Value) (w:World) (hg:w.cell? ⟨8,0,none⟩ = some (.iface 128 (.agg #[.pointer (some ⟨12,34,none⟩)]))) (ht0:w.cell? t = some old) (hf0:w.frozen? t = false) :
  Calls Tryz.prog 41 #[.iface 70 (.pointer (some e)),.iface 96 (.pointer (some t))] w fun ev w'=>ev = .returned (.bool true) ∧ Below t.block w w' ∧ w'.cell? t = some (.pointer (some e)):=by
 refine (as_hit_world e t old w hg ht0 hf0).mono ?_
 have hlt:=block_lt_of_cell ht0
 rintro ev w' ⟨h1,h2⟩
 refine ⟨h1,?_,?_⟩
 ·rw [h2]
  exact (((((Below.refl _ _).alloc (by omega) _).alloc (by simp;omega) _).alloc (by simp;omega) _).alloc (by simp;omega) _).setCell (Nat.le_refl _) _
 ·rw [h2]
  refine World.cell?_setCell_same (u:=old) _ _ _ ?_
  rw [World.cell?_alloc_lt _ _ t (by simp;omega),World.cell?_alloc_lt _ _ t (by simp;omega),World.cell?_alloc_lt _ _ t (by simp;omega),World.cell?_alloc_lt _ _ t hlt];exact ht0
set_option maxRecDepth 100000 in
theorem code_fault (k:Nat) (p:Int) (b:Nat) (w:World) (adr:Nat → Addr) (hE:ErrEnv w adr) (h1:1 ≤ k) (h8:k ≤ 8)
  (hp:w.cell? ⟨b,0,none⟩ = some (.int .i64 p)) (hs:w.cell? ⟨b,1,none⟩ = some (.iface 162 (.pointer (some (adr k))))) :
  Calls Tryz.prog 27 #[.iface 70 (.pointer (some ⟨b,0,none⟩))] w fun e w'=>e = .returned (.tuple #[.int .i64 (k:Int),.int .i64 p]) ∧ Below w.heap.size w w':=by
 have hlt0:b < w.heap.size:=block_lt_of_cell hp
 have hF:IsErr w adr (.fault k p) (.iface 70 (.pointer (some ⟨b,0,none⟩))):=⟨h1,h8,b,rfl,hp,hs⟩
 have HP:=Lib.hid hp;have HS:=Lib.hid hs;clear hp hs
 go_enter Tryz.func27,Tryz.ntmps27
 go_wp2_with fail
 refine (as_hit _ ⟨w.heap.size,0,none⟩ _ _ ((hE.below ((Below.refl _ _).alloc (Nat.le_refl _) _)).handle) (World.cell?_alloc_at _ _ _ _ rfl) (World.frozen?_alloc_at _ _ _ _ rfl)).mono ?_
 rintro e w2 ⟨rfl,hb1,ht⟩
 have hb:Below w.heap.size w w2:=((Below.refl w.heap.size w).alloc (Nat.le_refl _) _).trans hb1
 have hF2:=hF.below hb
 have hp2:w2.cell? ⟨b,0,none⟩ = some (.int .i64 p):=(hb.cell hlt0).trans HP.out
 clear hb1
 have hE1:=hE.below hb
 have e1:w2.cell? ⟨1,0,none⟩ = _:=hE1.cell 1 (by decide) (by decide)
 have e2:w2.cell? ⟨0,0,none⟩ = _:=hE1.cell 2 (by decide) (by decide)
 have e3:w2.cell? ⟨2,0,none⟩ = _:=hE1.cell 3 (by decide) (by decide)
 have e4:w2.cell? ⟨3,0,none⟩ = _:=hE1.cell 4 (by decide) (by decide)
 have e5:w2.cell? ⟨4,0,none⟩ = _:=hE1.cell 5 (by decide) (by decide)
 have e6:w2.cell? ⟨5,0,none⟩ = _:=hE1.cell 6 (by decide) (by decide)
 have e7:w2.cell? ⟨6,0,none⟩ = _:=hE1.cell 7 (by decide) (by decide)
 have e8:w2.cell? ⟨7,0,none⟩ = _:=hE1.cell 8 (by decide) (by decide)
 go_wp2_with fail
 clear e1 e2 e3 e4 e5 e6 e7 e8
 have hcells:∀ i:Nat,i < 8 → (w2.alloc (.cells #[.iface 162 (.pointer (some (adr 1))),.iface 162 (.pointer (some (adr 2))),.iface 162 (.pointer (some (adr 3))),.iface 162 (.pointer (some (adr 4))),.iface 162 (.pointer (some (adr 5))),.iface 162 (.pointer (some (adr 6))),.iface 162 (.pointer (some (adr 7))),.iface 162 (.pointer (some (adr 8)))] 34)).cell? ⟨w2.heap.size,i,none⟩ = some (.iface 162 (.pointer (some (adr (i + 1))))):=by
  intro i hi
  rw [World.cell?_alloc_at _ _ _ _ rfl]
  match i,hi with
  | 0,_=>rfl
  | 1,_=>rfl
  | 2,_=>rfl
  | 3,_=>rfl
  | 4,_=>rfl
  | 5,_=>rfl
  | 6,_=>rfl
  | 7,_=>rfl
 have hE2:=hE1.below ((Below.refl _ _).alloc (Nat.le_refl _) (.cells #[.iface 162 (.pointer (some (adr 1))),.iface 162 (.pointer (some (adr 2))),.iface 162 (.pointer (some (adr 3))),.iface 162 (.pointer (some (adr 4))),.iface 162 (.pointer (some (adr 5))),.iface 162 (.pointer (some (adr 6))),.iface 162 (.pointer (some (adr 7))),.iface 162 (.pointer (some (adr 8)))] 34))
 have hb2:=hb.alloc hb.size (.cells #[.iface 162 (.pointer (some (adr 1))),.iface 162 (.pointer (some (adr 2))),.iface 162 (.pointer (some (adr 3))),.iface 162 (.pointer (some (adr 4))),.iface 162 (.pointer (some (adr 5))),.iface 162 (.pointer (some (adr 6))),.iface 162 (.pointer (some (adr 7))),.iface 162 (.pointer (some (adr 8)))] 34)
 have hFault:=hF2.below ((Below.refl _ _).alloc (Nat.le_refl _) (.cells #[.iface 162 (.pointer (some (adr 1))),.iface 162 (.pointer (some (adr 2))),.iface 162 (.pointer (some (adr 3))),.iface 162 (.pointer (some (adr 4))),.iface 162 (.pointer (some (adr 5))),.iface 162 (.pointer (some (adr 6))),.iface 162 (.pointer (some (adr 7))),.iface 162 (.pointer (some (adr 8)))] 34))
 generalize (w2.alloc (.cells #[.iface 162 (.pointer (some (adr 1))),.iface 162 (.pointer (some (adr 2))),.iface 162 (.pointer (some (adr 3))),.iface 162 (.pointer (some (adr 4))),.iface 162 (.pointer (some (adr 5))),.iface 162 (.pointer (some (adr 6))),.iface 162 (.pointer (some (adr 7))),.iface 162 (.pointer (some (adr 8)))] 34)) = w3 at *
 have HC:=Lib.hid hcells;clear hcells
 have he:IsErr w3 adr (.fault k p) (.iface 70 (.pointer (some ⟨b,0,none⟩))):=hFault
 go_loop [3,26] (fun pv i=>∃ m:Nat,m ≤ 8 ∧ i = .int .i64 m ∧ m < k ∧ pv = .int .i64 p) (fun _ i=>8 - (intOf i).toNat)
 case atStart=>exact ⟨0,by omega,rfl,by omega,rfl⟩
 case round =>
  obtain ⟨m,hm,rfl,hmk,rfl⟩:=hrel
  have hlt:m < 8:=by omega
  have hc:=HC.out m hlt
  by_cases hk:k = m + 1
  ·have hd:decide (GErr.code (.fault k p) = ((m + 1:Nat):Int)) = true:=by rw [decide_eq_true_iff];simp only [GErr.code];omega
   have Hd:=Lib.hid hd;have Hk:=Lib.hid hk
   clear hd hk
   go_wp2_with fail
   refine (is_any (e:=(.fault k p)) (j:=m + 1) hE2 he (by simp) (by omega) (by omega)).mono ?_
   rintro e w4 ⟨rfl,rfl⟩
   rw [Hd.out]
   go_wp2_with fail
   go_ret2
   exact ⟨by rw [Hk.out];rfl,hb2⟩
  ·have hd:decide (GErr.code (.fault k p) = ((m + 1:Nat):Int)) = false:=by rw [decide_eq_false_iff_not];simp only [GErr.code];omega
   have Hd:=Lib.hid hd
   have hk2:m + 1 < k:=by omega
   clear hd hk
   go_wp2_with fail
   refine (is_any (e:=(.fault k p)) (j:=m + 1) hE2 he (by simp) (by omega) (by omega)).mono ?_
   rintro e w4 ⟨rfl,rfl⟩
   rw [Hd.out]
   go_wp2_with fail
   go_round
   case rel=>exact ⟨m + 1,by omega,by go_num,by omega,rfl⟩
   case measure=>simp [intOf];omega
theorem code_any {w:World} {adr:Nat → Addr} {e:GErr} {v:Value} (hE:ErrEnv w adr) (he:IsErr w adr e v) :
  Calls Tryz.prog 27 #[v] w fun r w'=>r = .returned (.tuple #[.int .i64 e.code,.int .i64 e.at']) ∧ Below w.heap.size w w':=by
 cases e with
 | nil=>obtain rfl:=he;exact code_nil w
 | sent k=>obtain ⟨h1,h8,rfl⟩:=he;exact code_sent k w adr hE h1 h8
 | fault k p=>obtain ⟨h1,h8,b,rfl,h4,h5⟩:=he;exact code_fault k p b w adr hE h1 h8 h4 h5
end Go.Proofs.YtkmhmnffbgedgaaGreatDoor
/- From the row's list of variables to the errors' environment of the walks. -/
namespace Go.Proofs.YtkmhmnffbgedgaaGreatDoor
set_option maxHeartbeats 1000000
open Go Go.RowKit Go.ChangeShapes
def errText:Nat → List UInt8
 | 1=>[115,104,114,101,100,99,111,108,58,32,116,101,120,116]
 | 2=>[115,104,114,101,100,99,111,108,58,32,98,111,117,110,100]
 | 3=>[115,104,114,101,100,99,111,108,58,32,115,104,97,112,101]
 | 4=>[115,104,114,101,100,99,111,108,58,32,107,105,110,100]
 | 5=>[115,104,114,101,100,99,111,108,58,32,110,97,109,101]
 | 6=>[115,104,114,101,100,99,111,108,58,32,110,111,110,101]
 | 7=>[115,104,114,101,100,99,111,108,58,32,115,117,109]
 | _=>[115,104,114,101,100,99,111,108,58,32,115,112,97,99,101]
def errName:Nat → String
 | 1 => "shredcol/api.ErrText"
 | 2 => "shredcol/api.ErrBound"
 | 3 => "shredcol/api.ErrShape"
 | 4 => "shredcol/api.ErrKind"
 | 5 => "shredcol/api.ErrName"
 | 6 => "shredcol/api.ErrNone"
 | 7 => "shredcol/api.ErrSum"
 | _ => "shredcol/api.ErrSpace"
def errRow (k:Nat):String × List UInt8 × Nat:=(errName k,errText k,gErr k)
def errDatum (k : Nat) : String × DataW Unit := (errName k, .iface "*errors.errorString" (.ptr (.agg [.lit (.string (errText k))])))
def handleRow : String × DataW Unit := ("errors.errorType", .iface "internal/reflectlite.rtype" (.agg [.ptr (.lit (.string [101, 114, 114, 111, 114]))]))
def fullLaid:List (String × DataW Unit):=[handleRow,errDatum 1,errDatum 2,errDatum 3,errDatum 4,errDatum 5,errDatum 6,errDatum 7,errDatum 8]
theorem err_named:∀ x ∈ [errRow 1,errRow 2,errRow 3,errRow 4,errRow 5,errRow 6,errRow 7,errRow 8],Tryz.prog.globalNamed x.1 = some x.2.2 ∧ (Tryz.prog.globals[x.2.2]?).map (·.type) = some 34:=by
 intro x hx
 simp only [List.mem_cons,List.not_mem_nil,or_false] at hx
 rcases hx with rfl | rfl | rfl | rfl | rfl | rfl | rfl | rfl <;> exact ⟨by kernel_rfl,by kernel_rfl⟩
theorem e_et : Tryz.prog.globalNamed "errors.errorType" = some 8 := by kernel_rfl
theorem e_rt : (Tryz.prog.cutTypes.find? (·.1 == "internal/reflectlite.rtype")).map (·.2) = some 128 := by kernel_rfl
theorem e_size:Tryz.prog.types.size = 196:=by kernel_rfl
theorem e_oneRow:((List.range 196).filter fun t=>Tryz.prog.rowNamed t [101,114,114,111,114]) = [34]:=by kernel_rfl
theorem laid_split {W:World} (h:laidMetH Tryz.prog fullLaid W):laidMet Tryz.prog [errDatum 1,errDatum 2,errDatum 3,errDatum 4,errDatum 5,errDatum 6,errDatum 7,errDatum 8] W ∧ handlesMet Tryz.prog [handleRow] W:=h
theorem env_of_laid {W:World} (h:laidMetH Tryz.prog fullLaid W):∃ adr,ErrEnv W adr:=by
 obtain ⟨hl,hh⟩:=laid_split h
 obtain ⟨ads,hs,hnd⟩:=sents_of_laid [errRow 1,errRow 2,errRow 3,errRow 4,errRow 5,errRow 6,errRow 7,errRow 8] err_named hl
 match ads,hs,hnd with
 | [a1,a2,a3,a4,a5,a6,a7,a8],hs,hnd =>
  obtain ⟨c1,b1,c2,b2,c3,b3,c4,b4,c5,b5,c6,b6,c7,b7,c8,b8,_⟩:=hs
  refine ⟨fun k=>[a1,a2,a3,a4,a5,a6,a7,a8].getD (k - 1) a1,?_,?_,?_,?_⟩
  ·intro k h1 h8
   match k,h1,h8 with
   | 1,_,_=>exact c1
   | 2,_,_=>exact c2
   | 3,_,_=>exact c3
   | 4,_,_=>exact c4
   | 5,_,_=>exact c5
   | 6,_,_=>exact c6
   | 7,_,_=>exact c7
   | 8,_,_=>exact c8
  ·intro k h1 h8
   match k,h1,h8 with
   | 1,_,_=>exact b1
   | 2,_,_=>exact b2
   | 3,_,_=>exact b3
   | 4,_,_=>exact b4
   | 5,_,_=>exact b5
   | 6,_,_=>exact b6
   | 7,_,_=>exact b7
   | 8,_,_=>exact b8
  ·intro j k j1 j8 k1 k8 hjk
   have hj:j - 1 < [a1,a2,a3,a4,a5,a6,a7,a8].length:=by simp;omega
   have hk:k - 1 < [a1,a2,a3,a4,a5,a6,a7,a8].length:=by simp;omega
   have hjk:[a1,a2,a3,a4,a5,a6,a7,a8].getD (j - 1) a1 = [a1,a2,a3,a4,a5,a6,a7,a8].getD (k - 1) a1:=hjk
   rw [List.getD_eq_getElem?_getD,List.getD_eq_getElem?_getD,List.getElem?_eq_getElem hj,List.getElem?_eq_getElem hk,Option.getD_some,Option.getD_some] at hjk
   have:=(List.getElem?_inj (j:=k - 1) hj hnd).1 (by rw [List.getElem?_eq_getElem hj,List.getElem?_eq_getElem hk,hjk])
   omega
  ·obtain ⟨name,u,ty,e1,e2,e3,e4,e5⟩:=hh _ (List.mem_singleton.2 rfl)
   have en:name = [101,114,114,111,114]:=(Option.some.inj e1).symm
   subst en
   obtain rfl:=Option.some.inj (e_rt.symm.trans e2)
   have hm:ty ∈ (List.range 196).filter fun t=>Tryz.prog.rowNamed t [101,114,114,111,114]:=List.mem_filter.2 ⟨List.mem_range.2 (by rw [← e_size];exact e3),e4⟩
   rw [e_oneRow] at hm
   obtain rfl:=List.mem_singleton.1 hm
   have hh:typeHandle Tryz.prog 34 = .pointer (some ⟨12,34,none⟩):=by kernel_rfl
   rw [hh] at e5
   simpa using World.var?_cell e_et e5 0
end Go.Proofs.YtkmhmnffbgedgaaGreatDoor
/- Some of the errors of package api, where a statement's row lists some of them alone. -/
namespace Go.Proofs.YtkmhmnffbgedgaaGreatDoor
set_option maxHeartbeats 1000000
open Go Go.RowKit Go.ChangeShapes
def ErrsAt (w:World) (adr:Nat → Addr) (ks:List Nat):Prop:=∀ k ∈ ks,1 ≤ k ∧ k ≤ 8 ∧ w.cell? ⟨gErr k,0,none⟩ = some (.iface 162 (.pointer (some (adr k))))
theorem ErrsAt.below {w w':World} {adr:Nat → Addr} {ks:List Nat} (h:ErrsAt w adr ks) (hb:Below w.heap.size w w'):ErrsAt w' adr ks:=fun k hk =>
 ⟨(h k hk).1,(h k hk).2.1,(hb.cell (block_lt_of_cell (h k hk).2.2)).trans (h k hk).2.2⟩
theorem ErrsAt.sub {w:World} {adr:Nat → Addr} {ks ls:List Nat} (h:ErrsAt w adr ks) (hs:(ls.all fun k=>ks.contains k) = true):ErrsAt w adr ls:=fun k hk=>by
 have:=List.all_eq_true.1 hs k hk
 exact h k (by simpa using this)
theorem ErrEnv.errs {w:World} {adr:Nat → Addr} (h:ErrEnv w adr):ErrsAt w adr [1,2,3,4,5,6,7,8]:=fun k hk=>by
 simp only [List.mem_cons,List.not_mem_nil,or_false] at hk
 have h1:1 ≤ k ∧ k ≤ 8:=by omega
 exact ⟨h1.1,h1.2,h.cell k h1.1 h1.2⟩
theorem ErrsAt.cell {w:World} {adr:Nat → Addr} {ks:List Nat} (h:ErrsAt w adr ks) (k:Nat) (hk:k ∈ ks):w.cell? ⟨gErr k,0,none⟩ = some (.iface 162 (.pointer (some (adr k)))):=(h k hk).2.2
end Go.Proofs.YtkmhmnffbgedgaaGreatDoor
