/- The row of ShredSplits: the walk (shredSplits_law) put into the form of the given statement: for every input it answers true and leaves its arguments as they were. -/
import Derived.Lay
import Derived.Test.YtkmhmnffbgedgaaDoorSsC
import Derived.Test.YtkmhmnffbgedgaaDoorCards
import Derived.Test.YtkmhmnffbgedgaaDoorTie
import Derived.WalkKit
import Derived.ProofKit
import Derived.OpenShut
import Derived.ShutString
import Derived.ChangeOld
import Derived.Below
import Derived.LaidLaws
import Derived.LaidHandle
import Derived.LaidMore
import Derived.JoinedOf
import Derived.SevenTiedAt
namespace Go.Proofs.YtkmhmnffbgedgaaDoor.shredSplits
open Go Go.ChangeShapes Go.WideShapes Go.ChangeAt Go.RowKit
open Go.ChangeMaps (open_string shut_string)
set_option linter.unusedVariables false
theorem own:ownKnob Tryd.prog.godebug = none:=by kernel_rfl
theorem laidOut:laidOutB Tryd.prog = true:=by kernel_rfl
theorem door_fits (os : Os) : (World.doorLaid Tryd.prog 178 os).layFits Tryd.prog ((Rows.shredSplitsRow.laid.filter fun x => x.2.handleName?.isNone).filter fun x => (["unicode/utf8.first"] : List String).contains x.1) ((List.range (World.doorLaid Tryd.prog 178 os).heap.size).filter fun b => !([9].contains b)) = true := by kernel_rfl
theorem door_ifs (os : Os) : (World.doorLaid Tryd.prog 178 os).layIfaces Tryd.prog ((Rows.shredSplitsRow.laid.filter fun x => x.2.handleName?.isNone).filter fun x => (["unicode/utf8.first"] : List String).contains x.1) ((World.doorLaid Tryd.prog 178 os).layVars Tryd.prog ((Rows.shredSplitsRow.laid.filter fun x => x.2.handleName?.isNone).filter fun x => (["unicode/utf8.first"] : List String).contains x.1)) = true := by kernel_rfl
theorem door_in (os : Os) : LaidIn Tryd.prog ((World.doorLaid Tryd.prog 178 os).layVars Tryd.prog ((Rows.shredSplitsRow.laid.filter fun x => x.2.handleName?.isNone).filter fun x => (["unicode/utf8.first"] : List String).contains x.1)) ((Rows.shredSplitsRow.laid.filter fun x => x.2.handleName?.isNone).filter fun x => !(["unicode/utf8.first"] : List String).contains x.1) ((List.range (World.doorLaid Tryd.prog 178 os).heap.size).filter fun b => !([9].contains b)) :=
 LaidIn.of_run ((List.range (World.doorLaid Tryd.prog 178 os).heap.size).filter fun b=>!([9].contains b)) 8 (by kernel_rfl) (by kernel_rfl) (by kernel_rfl) (by kernel_rfl)
theorem door_laid (os : Os) : laidMet Tryd.prog (Rows.shredSplitsRow.laid.filter fun x => x.2.handleName?.isNone) ((World.doorLaid Tryd.prog 178 os).layVars Tryd.prog ((Rows.shredSplitsRow.laid.filter fun x => x.2.handleName?.isNone).filter fun x => (["unicode/utf8.first"] : List String).contains x.1)) :=
 laidMet_layVars (w0 := (World.doorLaid Tryd.prog 178 os)) (["unicode/utf8.first"] : List String) ((List.range (World.doorLaid Tryd.prog 178 os).heap.size).filter fun b => !([9].contains b)) rfl (door_fits os) (door_ifs os) (door_in os)
theorem door_met (os : Os) (args : Array Value) : laidMetH Tryd.prog Rows.shredSplitsRow.laid (((World.doorLaid Tryd.prog 178 os).layVars Tryd.prog ((Rows.shredSplitsRow.laid.filter fun x => x.2.handleName?.isNone).filter fun x => (["unicode/utf8.first"] : List String).contains x.1)).forCall (fun _ _ => 0) ⟨#[], args, []⟩).memory :=
 laidMetH_of_parts3 (fuel:=8) ((door_laid os).of_heap (by simp [World.memory,World.forCall,Input.heap])) (by kernel_rfl) (by kernel_rfl)
theorem door_os (os : Os) : ((World.doorLaid Tryd.prog 178 os).layVars Tryd.prog ((Rows.shredSplitsRow.laid.filter fun x => x.2.handleName?.isNone).filter fun x => (["unicode/utf8.first"] : List String).contains x.1)).os = os := by kernel_rfl
theorem door_shape (os : Os) (args : Array Value) : (((World.doorLaid Tryd.prog 178 os).layVars Tryd.prog ((Rows.shredSplitsRow.laid.filter fun x => x.2.handleName?.isNone).filter fun x => (["unicode/utf8.first"] : List String).contains x.1)).forCall (fun _ _ => 0) ⟨#[], args, []⟩).Shaped Tryd.checked.prog := World.shaped_of_RefB (by kernel_rfl) (by kernel_rfl)
set_option maxRecDepth 100000 in
theorem lifted (os:Os) (started:os.Started) (H:Type) (enc:TypeId × Value → H) :
  ReturnsInHanded {} Tryd.checked os 4 .any (fun w args=>(Rows.shredSplitsSpec.pre enc Tryd.prog Tryd.f4 [] false w args ∧ laidMetH Tryd.prog Rows.shredSplitsRow.laid w) ∧ sizedMet enc Tryd.prog Tryd.f4 (OpenSpec.ofChange Rows.shredSplitsSpec) false w args)
   (Rows.shredSplitsSpec.post enc Tryd.prog Tryd.f4 false true false false):=by
 refine returnsInHanded_of_change_and (C:=Tryd.checked) (X:=fun w _=>laidMetH Tryd.prog Rows.shredSplitsRow.laid w) (fun _ _ _ hh h=>h.of_heap hh) own started (by kernel_rfl) Tryd.func4
  (ChangeSpec.witness_shaped (enc:=enc) (C:=Tryd.checked) (os:=os) (X:=fun w _=>laidMetH Tryd.prog Rows.shredSplitsRow.laid w) false _ #[.agg #[.int .i64 0,.string ByteArray.empty,.int .i64 0,.int .i64 0,.slice none 0 0],.slice none 0 0,.slice none 0 0,.int .i64 0] 8 (door_os os) (door_shape os #[.agg #[.int .i64 0,.string ByteArray.empty,.int .i64 0,.int .i64 0,.slice none 0 0],.slice none 0 0,.slice none 0 0,.int .i64 0]) (by kernel_rfl) (by kernel_rfl) (by kernel_rfl) (door_met os #[.agg #[.int .i64 0,.string ByteArray.empty,.int .i64 0,.int .i64 0,.slice none 0 0],.slice none 0 0,.slice none 0 0,.int .i64 0])) ?_
 intro W base args ds gs before hval0 hW _ hsz hL _
 have hval:∀ (j:Nat) t v,Tryd.f4.params[j]? = some t → args[j]? = some v → Value.okWide Tryd.prog W .any base t v:=hval0
 clear hval0
 have hW':=hW
 obtain ⟨p,q,hA0,hV,rfl,hfz,hnd⟩:=hW
 have hA:DataW.TrodAll enc Tryd.prog W 0 (fun _=>true) true Tryd.f4.params.toList args.toList ds p:=hA0
 rw [Tryd.params4] at hA hval
 obtain ⟨v0,vs0,d0,ds0,p0,q0,hargs,rfl,rfl,h0,r0⟩:=trodAll_cons hA
 obtain ⟨v1,vs1,d1,ds1,p1,q1,rfl,rfl,rfl,h1,r1⟩:=trodAll_cons r0
 obtain ⟨v2,vs2,d2,ds2,p2,q2,rfl,rfl,rfl,h2,r2⟩:=trodAll_cons r1
 obtain ⟨v3,vs3,d3,ds3,p3,q3,rfl,rfl,rfl,h3,r3⟩:=trodAll_cons r2
 obtain ⟨rfl,rfl,rfl⟩:=trodAll_nil r3
 obtain rfl:args = #[v0,v1,v2,v3]:=by cases args;simp_all
 obtain ⟨rfl,rfl⟩:=trodVars_none hV
 have k0:=h0
 have lt0:∀ x ∈ p0,x.block < W.heap.size:=by obtain ⟨m,hm⟩:=k0;exact DataW.trod_lt m _ _ _ hm
 have w0:∀ n ∈ d0.weights Tryd.prog 47,n ≤ reachBytes:=fun n hn=>of_decide_eq_true (List.all_eq_true.1 hsz n (DataW.weights_mem_each (j:=0) (t:=47) (d:=d0) (by rw [Tryd.params4];rfl) rfl n hn))
 obtain ⟨n0,u0,rfl,I0,O0⟩:=args_nd (hval 0 47 v0 rfl rfl) h0 w0
 have k1:=h1
 have lt1:∀ x ∈ p1,x.block < W.heap.size:=by obtain ⟨m,hm⟩:=k1;exact DataW.trod_lt m _ _ _ hm
 have w1:∀ n ∈ d1.weights Tryd.prog 48,n ≤ reachBytes:=fun n hn=>of_decide_eq_true (List.all_eq_true.1 hsz n (DataW.weights_mem_each (j:=1) (t:=48) (d:=d1) (by rw [Tryd.params4];rfl) rfl n hn))
 obtain ⟨l1,I1,B1,O1⟩:=args_dts (hval 1 48 v1 rfl rfl) h1 w1
 have k2:=h2
 have lt2:∀ x ∈ p2,x.block < W.heap.size:=by obtain ⟨m,hm⟩:=k2;exact DataW.trod_lt m _ _ _ hm
 have w2:∀ n ∈ d2.weights Tryd.prog 48,n ≤ reachBytes:=fun n hn=>of_decide_eq_true (List.all_eq_true.1 hsz n (DataW.weights_mem_each (j:=2) (t:=48) (d:=d2) (by rw [Tryd.params4];rfl) rfl n hn))
 obtain ⟨l2,I2,B2,O2⟩:=args_dts (hval 2 48 v2 rfl rfl) h2 w2
 have k3:=h3
 have lt3:∀ x ∈ p3,x.block < W.heap.size:=by obtain ⟨m,hm⟩:=k3;exact DataW.trod_lt m _ _ _ hm
 obtain ⟨a3,rfl,e3,_,w3⟩:=open_int Tryd.underlying3 (hval 3 3 v3 rfl rfl) h3
 have b3:=bounds_i64 w3
 clear hA0
 refine (shredSplits_law n0 u0 I0 O0 v1 l1 I1 B1 O1 v2 l2 I2 B2 O2 a3 (by omega) (by omega) hL).mono fun e W' ⟨he,bel⟩=>?_
 subst he
 exact ⟨_,rfl,_,_,_,[],_,[],hW',trodAll_mk1 (shut_bool Tryd.underlying4 _),(trodAll_cons_mk (Below.trod laidOut (by kernel_rfl) (of_decide_eq_true (by kernel_rfl)) k0 bel lt0) (trodAll_cons_mk (Below.trod laidOut (by kernel_rfl) (of_decide_eq_true (by kernel_rfl)) k1 bel lt1) (trodAll_cons_mk (Below.trod laidOut (by kernel_rfl) (of_decide_eq_true (by kernel_rfl)) k2 bel lt2) (trodAll_cons_mk (Below.trod laidOut (by kernel_rfl) (of_decide_eq_true (by kernel_rfl)) k3 bel lt3) trodAll_mk0)))),rfl,bel.frame _,fun h=>by cases h⟩
theorem said:Rows.ShredSplitsSaid :=
 OpenClaim.holds_of_wide 4 Tryd.f4 rfl rfl rfl rfl rfl rfl rfl ⟨rfl,rfl,rfl,rfl,rfl⟩ rfl rfl rfl rfl rfl (by kernel_rfl) Tryd.func4 (by kernel_rfl)
  (of_decide_eq_true (by kernel_rfl)) (by unfold Func.isWrapper;first | (rw [if_pos (by decide +kernel)];kernel_rfl) | (rw [if_neg (by decide +kernel)];exact ⟨rfl,rfl⟩))
  (fun os started H enc _=>lifted os started H enc)
theorem plain (f : FuncId) (fn : Func) (hf : Tryd.pinned.checked.prog.funcNamed "shredcol/shredcollaw2.ShredSplits" = some f) (hfn : Tryd.pinned.checked.prog.funcs[f]? = some fn) :
  true = Tryd.pinned.checked.prog.looks [] ∧ ∀ (j:Nat) t,fn.params[j]? = some t → Tryd.pinned.checked.prog.wantsStandIn t = false:=by
 obtain rfl : f = 4 := Option.some.inj ((show Tryd.prog.funcNamed "shredcol/shredcollaw2.ShredSplits" = some 4 by kernel_rfl).symm.trans hf) |>.symm
 obtain rfl:fn = Tryd.f4:=(Option.some.inj (Tryd.func4.symm.trans hfn)).symm
 refine ⟨by kernel_rfl,fun j t ht=>?_⟩
 rw [Tryd.params4] at ht
 have hm:t ∈ [47,48,48,3]:=by simpa using Array.mem_of_getElem? ht
 have hall:([47,48,48,3].all fun u=>!Tryd.prog.wantsStandIn u) = true:=by kernel_rfl
 exact (show Tryd.prog.wantsStandIn t = false by simpa using List.all_eq_true.1 hall t hm)
theorem proved:Rows.ShredSplitsCardSaid :=
 Claim7.holds_tied_plain_at .later [] _ _ _ _ said (fun _ h=>by cases h) (by kernel_rfl) (fun _ h=>by cases h) shredSplits_row_tie rfl ⟨rfl,rfl⟩ (by kernel_rfl) rfl plain (by kernel_rfl)
#print axioms proved
end Go.Proofs.YtkmhmnffbgedgaaDoor.shredSplits
