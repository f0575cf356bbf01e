/- The row of ShredMakes: the walk (shredMakes_law) put into the form of the given statement: for every input it answers true and leaves its arguments as they were. -/
import Derived.Lay
import Derived.Test.YtkmhmnffbgedgaaGreatDoorShJ
import Derived.Test.YtkmhmnffbgedgaaGreatDoorCards
import Derived.Test.YtkmhmnffbgedgaaGreatDoorTie
import Derived.WalkKit
import Derived.ProofKit
import Derived.OpenShut
import Derived.ShutString
import Derived.ChangeOld
import Derived.Below
import Derived.LaidLaws
import Derived.LaidHandle
import Derived.LaidMore
import Derived.JoinedOf
import Derived.SevenTiedAt
namespace Go.Proofs.YtkmhmnffbgedgaaGreatDoor.shredMakes
open Go Go.ChangeShapes Go.WideShapes Go.ChangeAt Go.RowKit
open Go.ChangeMaps (open_string shut_string)
set_option linter.unusedVariables false
theorem own:ownKnob Tryz.prog.godebug = none:=by kernel_rfl
theorem laidOut:laidOutB Tryz.prog = true:=by kernel_rfl
theorem door_fits (os : Os) : (World.doorLaid Tryz.prog 178 os).layFits Tryz.prog ((Rows.shredMakesRow.laid.filter fun x => x.2.handleName?.isNone).filter fun x => (["unicode/utf8.first"] : List String).contains x.1) ((List.range (World.doorLaid Tryz.prog 178 os).heap.size).filter fun b => !([9].contains b)) = true := by kernel_rfl
theorem door_ifs (os : Os) : (World.doorLaid Tryz.prog 178 os).layIfaces Tryz.prog ((Rows.shredMakesRow.laid.filter fun x => x.2.handleName?.isNone).filter fun x => (["unicode/utf8.first"] : List String).contains x.1) ((World.doorLaid Tryz.prog 178 os).layVars Tryz.prog ((Rows.shredMakesRow.laid.filter fun x => x.2.handleName?.isNone).filter fun x => (["unicode/utf8.first"] : List String).contains x.1)) = true := by kernel_rfl
theorem door_in (os : Os) : LaidIn Tryz.prog ((World.doorLaid Tryz.prog 178 os).layVars Tryz.prog ((Rows.shredMakesRow.laid.filter fun x => x.2.handleName?.isNone).filter fun x => (["unicode/utf8.first"] : List String).contains x.1)) ((Rows.shredMakesRow.laid.filter fun x => x.2.handleName?.isNone).filter fun x => !(["unicode/utf8.first"] : List String).contains x.1) ((List.range (World.doorLaid Tryz.prog 178 os).heap.size).filter fun b => !([9].contains b)) :=
 LaidIn.of_run ((List.range (World.doorLaid Tryz.prog 178 os).heap.size).filter fun b=>!([9].contains b)) 8 (by kernel_rfl) (by kernel_rfl) (by kernel_rfl) (by kernel_rfl)
theorem door_laid (os : Os) : laidMet Tryz.prog (Rows.shredMakesRow.laid.filter fun x => x.2.handleName?.isNone) ((World.doorLaid Tryz.prog 178 os).layVars Tryz.prog ((Rows.shredMakesRow.laid.filter fun x => x.2.handleName?.isNone).filter fun x => (["unicode/utf8.first"] : List String).contains x.1)) :=
 laidMet_layVars (w0 := (World.doorLaid Tryz.prog 178 os)) (["unicode/utf8.first"] : List String) ((List.range (World.doorLaid Tryz.prog 178 os).heap.size).filter fun b => !([9].contains b)) rfl (door_fits os) (door_ifs os) (door_in os)
theorem door_met (os : Os) (args : Array Value) : laidMetH Tryz.prog Rows.shredMakesRow.laid (((World.doorLaid Tryz.prog 178 os).layVars Tryz.prog ((Rows.shredMakesRow.laid.filter fun x => x.2.handleName?.isNone).filter fun x => (["unicode/utf8.first"] : List String).contains x.1)).forCall (fun _ _ => 0) ⟨#[], args, []⟩).memory :=
 laidMetH_of_parts3 (fuel:=8) ((door_laid os).of_heap (by simp [World.memory,World.forCall,Input.heap])) (by kernel_rfl) (by kernel_rfl)
theorem door_os (os : Os) : ((World.doorLaid Tryz.prog 178 os).layVars Tryz.prog ((Rows.shredMakesRow.laid.filter fun x => x.2.handleName?.isNone).filter fun x => (["unicode/utf8.first"] : List String).contains x.1)).os = os := by kernel_rfl
theorem door_shape (os : Os) (args : Array Value) : (((World.doorLaid Tryz.prog 178 os).layVars Tryz.prog ((Rows.shredMakesRow.laid.filter fun x => x.2.handleName?.isNone).filter fun x => (["unicode/utf8.first"] : List String).contains x.1)).forCall (fun _ _ => 0) ⟨#[], args, []⟩).Shaped Tryz.checked.prog := World.shaped_of_RefB (by kernel_rfl) (by kernel_rfl)
set_option maxRecDepth 100000 in
theorem lifted (os:Os) (started:os.Started) (H:Type) (enc:TypeId × Value → H) :
  ReturnsInHanded {} Tryz.checked os 3 .any (fun w args=>(Rows.shredMakesSpec.pre enc Tryz.prog Tryz.f3 [] false w args ∧ laidMetH Tryz.prog Rows.shredMakesRow.laid w) ∧ sizedMet enc Tryz.prog Tryz.f3 (OpenSpec.ofChange Rows.shredMakesSpec) false w args)
   (Rows.shredMakesSpec.post enc Tryz.prog Tryz.f3 false true false false):=by
 refine returnsInHanded_of_change_and (C:=Tryz.checked) (X:=fun w _=>laidMetH Tryz.prog Rows.shredMakesRow.laid w) (fun _ _ _ hh h=>h.of_heap hh) own started (by kernel_rfl) Tryz.func3
  (ChangeSpec.witness_shaped (enc:=enc) (C:=Tryz.checked) (os:=os) (X:=fun w _=>laidMetH Tryz.prog Rows.shredMakesRow.laid w) false _ #[.agg #[.int .i64 0,.string ByteArray.empty,.int .i64 0,.int .i64 0,.slice none 0 0],.slice none 0 0] 8 (door_os os) (door_shape os #[.agg #[.int .i64 0,.string ByteArray.empty,.int .i64 0,.int .i64 0,.slice none 0 0],.slice none 0 0]) (by kernel_rfl) (by kernel_rfl) (by kernel_rfl) (door_met os #[.agg #[.int .i64 0,.string ByteArray.empty,.int .i64 0,.int .i64 0,.slice none 0 0],.slice none 0 0])) ?_
 intro W base args ds gs before hval0 hW _ hsz hL _
 have hval:∀ (j:Nat) t v,Tryz.f3.params[j]? = some t → args[j]? = some v → Value.okWide Tryz.prog W .any base t v:=hval0
 clear hval0
 have hW':=hW
 obtain ⟨p,q,hA0,hV,rfl,hfz,hnd⟩:=hW
 have hA:DataW.TrodAll enc Tryz.prog W 0 (fun _=>true) true Tryz.f3.params.toList args.toList ds p:=hA0
 rw [Tryz.params3] at hA hval
 obtain ⟨v0,vs0,d0,ds0,p0,q0,hargs,rfl,rfl,h0,r0⟩:=trodAll_cons hA
 obtain ⟨v1,vs1,d1,ds1,p1,q1,rfl,rfl,rfl,h1,r1⟩:=trodAll_cons r0
 obtain ⟨rfl,rfl,rfl⟩:=trodAll_nil r1
 obtain rfl:args = #[v0,v1]:=by cases args;simp_all
 obtain ⟨rfl,rfl⟩:=trodVars_none hV
 have k0:=h0
 have lt0:∀ x ∈ p0,x.block < W.heap.size:=by obtain ⟨m,hm⟩:=k0;exact DataW.trod_lt m _ _ _ hm
 have w0:∀ n ∈ d0.weights Tryz.prog 24,n ≤ reachBytes:=fun n hn=>of_decide_eq_true (List.all_eq_true.1 hsz n (DataW.weights_mem_each (j:=0) (t:=24) (d:=d0) (by rw [Tryz.params3];rfl) rfl n hn))
 obtain ⟨n0,u0,rfl,I0,O0⟩:=args_nd (hval 0 24 v0 rfl rfl) h0 w0
 have k1:=h1
 have lt1:∀ x ∈ p1,x.block < W.heap.size:=by obtain ⟨m,hm⟩:=k1;exact DataW.trod_lt m _ _ _ hm
 have w1:∀ n ∈ d1.weights Tryz.prog 25,n ≤ reachBytes:=fun n hn=>of_decide_eq_true (List.all_eq_true.1 hsz n (DataW.weights_mem_each (j:=1) (t:=25) (d:=d1) (by rw [Tryz.params3];rfl) rfl n hn))
 obtain ⟨l1,I1,B1,O1⟩:=args_dts (hval 1 25 v1 rfl rfl) h1 w1
 clear hA0
 refine (shredMakes_law n0 u0 I0 O0 v1 l1 I1 B1 O1 hL).mono fun e W' ⟨he,bel⟩=>?_
 subst he
 exact ⟨_,rfl,_,_,_,[],_,[],hW',trodAll_mk1 (shut_bool Tryz.underlying4 _),(trodAll_cons_mk (Below.trod laidOut (by kernel_rfl) (of_decide_eq_true (by kernel_rfl)) k0 bel lt0) (trodAll_cons_mk (Below.trod laidOut (by kernel_rfl) (of_decide_eq_true (by kernel_rfl)) k1 bel lt1) trodAll_mk0)),rfl,bel.frame _,fun h=>by cases h⟩
theorem said:Rows.ShredMakesSaid :=
 OpenClaim.holds_of_wide 3 Tryz.f3 rfl rfl rfl rfl rfl rfl rfl ⟨rfl,rfl,rfl,rfl,rfl⟩ rfl rfl rfl rfl rfl (by kernel_rfl) Tryz.func3 (by kernel_rfl)
  (of_decide_eq_true (by kernel_rfl)) (by unfold Func.isWrapper;first | (rw [if_pos (by decide +kernel)];kernel_rfl) | (rw [if_neg (by decide +kernel)];exact ⟨rfl,rfl⟩))
  (fun os started H enc _=>lifted os started H enc)
theorem plain (f : FuncId) (fn : Func) (hf : Tryz.pinned.checked.prog.funcNamed "shredcol/shredcollaw2.ShredMakes" = some f) (hfn : Tryz.pinned.checked.prog.funcs[f]? = some fn) :
  true = Tryz.pinned.checked.prog.looks [] ∧ ∀ (j:Nat) t,fn.params[j]? = some t → Tryz.pinned.checked.prog.wantsStandIn t = false:=by
 obtain rfl : f = 3 := Option.some.inj ((show Tryz.prog.funcNamed "shredcol/shredcollaw2.ShredMakes" = some 3 by kernel_rfl).symm.trans hf) |>.symm
 obtain rfl:fn = Tryz.f3:=(Option.some.inj (Tryz.func3.symm.trans hfn)).symm
 refine ⟨by kernel_rfl,fun j t ht=>?_⟩
 rw [Tryz.params3] at ht
 have hm:t ∈ [24,25]:=by simpa using Array.mem_of_getElem? ht
 have hall:([24,25].all fun u=>!Tryz.prog.wantsStandIn u) = true:=by kernel_rfl
 exact (show Tryz.prog.wantsStandIn t = false by simpa using List.all_eq_true.1 hall t hm)
theorem proved:Rows.ShredMakesCardSaid :=
 Claim7.holds_tied_plain_at .later [] _ _ _ _ said (fun _ h=>by cases h) (by kernel_rfl) (fun _ h=>by cases h) shredMakes_row_tie rfl ⟨rfl,rfl⟩ (by kernel_rfl) rfl plain (by kernel_rfl)
#print axioms proved
end Go.Proofs.YtkmhmnffbgedgaaGreatDoor.shredMakes
