/- Merged texts: Errs, Is, As, Code, Env, ErrsAt. -/
import Derived.Test.YtkmhmnffbgedgaaDoorMPlain
import Derived.Test.YtkmhmnffbgedgaaDoorRows
import Derived.LaidLaws
import Derived.LaidHandle
import Derived.Stop.LaidErr
import Derived.LaidEql
import Derived.Stop.Asserts
import Derived.RowKitTokens
import Derived.Deep.QuietTactic
import Derived.BigQuiet
/- What the listed package-level variables give a walk: each sentinel's variable holds a pointer of its own. -/
namespace Go.Proofs.YtkmhmnffbgedgaaDoor
open Go Go.RowKit Go.ChangeShapes
def SentsAt (T:TypeId) (W:World):List Nat → List Addr → Prop
 | [],[]=>True
 | g :: gs,a :: ads=>W.cell? ⟨g,0,none⟩ = some (.iface T (.pointer (some a))) ∧ (∃ c t,W.heap[a.block]? = some (.cells c t (0,0))) ∧ SentsAt T W gs ads
 | _,_=>False
theorem sents_of_vars {P:Program} {W:World} {nm:String} {ti tp te ts:TypeId} {ms:Array (String × TypeId)} {f:Field}
  (hi:P.underlying ti = some (.interface ms)) (hrow:∀ u,P.typeName? 3 u = some nm → u = tp)
  (hp:P.underlying tp = some (.pointer te)) (he:P.underlying te = some (.struct #[f])) (hft:f.type = ts) (hfo:f.offset = 0) (hs:P.underlying ts = some .string) (hc:P.cellsOf te = 1) (hcs:P.cellsOf ts = 1) :
  ∀ (l:List (String × List UInt8 × Nat)) (ps:List MemPlace),(∀ x ∈ l,P.globalNamed x.1 = some x.2.2 ∧ (P.globals[x.2.2]?).map (·.type) = some ti) →
   DataW.LaidVars P W (l.map fun x=>(x.1,.iface nm (.ptr (.agg [.lit (.string x.2.1)])))) ps →
   (∀ b off,MemPlace.cell b off ∈ ps → (∃ c t,W.heap[b]? = some (.cells c t (0,0))) ∧ ∀ u v,W.cell? ⟨b,off,none⟩ = some (.iface u v) → Value.okWide P W .any 0 u v) →
   ∃ ads,SentsAt tp W (l.map (·.2.2)) ads ∧ (∀ a ∈ ads,MemPlace.cell a.block a.off ∈ ps) ∧ (ps.Nodup → ads.Nodup):=by
 intro l
 induction l with
 | nil=>intro ps _ _ _;exact ⟨[],trivial,by simp,by simp⟩
 | cons x l ih =>
  intro ps hx hv hrows
  obtain ⟨n,text,g⟩:=x
  obtain ⟨hg,ht⟩:=hx _ (List.mem_cons_self ..)
  obtain ⟨g0,t0,cs0,f0,p0,q0,hg0,ht0,hv0,hd0,hq,e0⟩:=hv
  obtain rfl:=Option.some.inj (hg.symm.trans hg0)
  obtain rfl:=Option.some.inj (ht.symm.trans ht0)
  subst e0
  obtain ⟨l0⟩:=cs0
  have ok0:∀ u v,l0 = [.iface u v] → Value.okWide P W .any 0 u v:=fun u v e=>by
   subst e
   exact (hrows g 0 (by simp [MemPlace.row])).2 u v (by simpa using World.var?_cell hg0 hv0 0)
  obtain ⟨a0,s0,rfl,hc0,hs0,hz0,rfl⟩:=errorString_of_trod hi hrow hp he hft hfo hs hc hcs hd0 ok0
  obtain ⟨ads,h1,h2,h3⟩:=ih q0 (fun y hy=>hx y (List.mem_cons_of_mem _ hy)) hq (fun b off hm=>hrows b off (List.mem_append_right _ hm))
  refine ⟨a0 :: ads,⟨?_,?_,h1⟩,?_,?_⟩
  ·simpa using World.var?_cell hg0 hv0 0
  ·exact (hrows a0.block a0.off (by simp [MemPlace.row])).1
  ·intro a ha
   rcases List.mem_cons.1 ha with rfl | ha
   ·simp [MemPlace.row]
   ·exact List.mem_append_right _ (h2 a ha)
  ·intro hnd
   rw [List.nodup_append] at hnd
   refine List.nodup_cons.2 ⟨fun hm=>?_,h3 hnd.2.1⟩
   exact hnd.2.2 _ (by simp [MemPlace.row]) _ (h2 a0 hm) rfl
theorem SentsAt.below {T:TypeId} {w w':World} (hb:Below w.heap.size w w'):∀ {gs ads},SentsAt T w gs ads → SentsAt T w' gs ads
 | [],[],_=>trivial
 | _ :: _,_ :: _,⟨h1,⟨c,t,h2⟩,h3⟩=>⟨(hb.cell (block_lt_of_cell h1)).trans h1,⟨c,t,(hb.block _ (Array.getElem?_eq_some_iff.1 h2).1).trans h2⟩,h3.below hb⟩
 | [],_ :: _,h=>h.elim
 | _ :: _,[],h=>h.elim
theorem sentTypeRow : ∀ u, Tryd.prog.typeName? 3 u = some "*errors.errorString" → u = 174 := fun u h =>
 typeName_ptr_named (nm := "errors.errorString") (by rw [show "*" ++ "errors.errorString" = "*errors.errorString" by rfl]; kernel_rfl) (by kernel_rfl) (by decide) u (by rw [show "*" ++ "errors.errorString" = "*errors.errorString" by rfl]; exact h)
theorem cellsES:Tryd.prog.cellsOf 196 = 1:=by kernel_rfl
theorem cellsS:Tryd.prog.cellsOf 9 = 1:=by kernel_rfl
theorem sents_of_laid {W:World} (l:List (String × List UInt8 × Nat)) (hl:∀ x ∈ l,Tryd.prog.globalNamed x.1 = some x.2.2 ∧ (Tryd.prog.globals[x.2.2]?).map (·.type) = some 36)
  (h : laidMet Tryd.prog (l.map fun x => (x.1, .iface "*errors.errorString" (.ptr (.agg [.lit (.string x.2.1)])))) W) :
  ∃ ads,SentsAt 174 W (l.map (·.2.2)) ads ∧ ads.Nodup:=by
 obtain ⟨ps,hv,hnd,hrows⟩:=h
 obtain ⟨ads,h1,_,h3⟩:=sents_of_vars Tryd.underlying36 sentTypeRow Tryd.underlying174 Tryd.underlying196 rfl rfl Tryd.underlying9 cellsES cellsS l ps hl hv hrows
 exact ⟨ads,h1,h3 hnd⟩
end Go.Proofs.YtkmhmnffbgedgaaDoor
/- errors.As at a *api.Fault and errors.Is at a sentinel, by their contracts: Go's own text of both is walked. -/
namespace Go.Proofs.YtkmhmnffbgedgaaDoor
open Go Go.RowKit Go.Extern.Stop Go.Stop Go.Extern
/-! closed facts on the model's entries for internal/reflectlite at this program's types -/
end Go.Proofs.YtkmhmnffbgedgaaDoor
/- errors.As at a *api.Fault, by its contracts: Go's own text is walked. -/
namespace Go.Proofs.YtkmhmnffbgedgaaDoor
open Go Go.RowKit Go.Extern.Stop Go.Stop Go.Extern
end Go.Proofs.YtkmhmnffbgedgaaDoor
/- plain.Code and the errors of package api: what stands for an error, and the number that Code tells of it. -/
namespace Go.Proofs.YtkmhmnffbgedgaaDoor
open Go Go.RowKit Go.ChangeShapes
def gErr:Nat → Nat
 | 1=>4
 | 2=>0
 | 3=>2
 | 4=>3
 | 5=>5
 | 6=>1
 | 7=>6
 | _=>7
structure ErrEnv (w:World) (adr:Nat → Addr):Prop where
 cell:∀ k,1 ≤ k → k ≤ 8 → w.cell? ⟨gErr k,0,none⟩ = some (.iface 174 (.pointer (some (adr k))))
 blk:∀ k,1 ≤ k → k ≤ 8 → ∃ c t,w.heap[(adr k).block]? = some (.cells c t (0,0))
 inj:∀ j k,1 ≤ j → j ≤ 8 → 1 ≤ k → k ≤ 8 → adr j = adr k → j = k
 handle:w.cell? ⟨8,0,none⟩ = some (.iface 137 (.agg #[.pointer (some ⟨12,36,none⟩)]))
theorem ErrEnv.below {w w':World} {adr:Nat → Addr} (h:ErrEnv w adr) (hb:Below w.heap.size w w'):ErrEnv w' adr where
 cell k h1 h2:=(hb.cell (block_lt_of_cell (h.cell k h1 h2))).trans (h.cell k h1 h2)
 blk k h1 h2:=by
  obtain ⟨c,t,h3⟩:=h.blk k h1 h2
  exact ⟨c,t,(hb.block _ (Array.getElem?_eq_some_iff.1 h3).1).trans h3⟩
 inj:=h.inj
 handle:=(hb.cell (block_lt_of_cell h.handle)).trans h.handle
inductive GErr where
 | nil
 | sent (k:Nat)
 | fault (k:Nat) (at_:Int)
def IsErr (w:World) (adr:Nat → Addr):GErr → Value → Prop
 | .nil,v=>v = .nilIface
 | .sent k,v=>1 ≤ k ∧ k ≤ 8 ∧ v = .iface 174 (.pointer (some (adr k)))
 | .fault k p,v=>1 ≤ k ∧ k ≤ 8 ∧ ∃ b,v = .iface 89 (.pointer (some ⟨b,0,none⟩)) ∧ w.cell? ⟨b,0,none⟩ = some (.int .i64 p) ∧ w.cell? ⟨b,1,none⟩ = some (.iface 174 (.pointer (some (adr k))))
theorem IsErr.below {w w':World} {adr:Nat → Addr} {e:GErr} {v:Value} (h:IsErr w adr e v) (hb:Below w.heap.size w w'):IsErr w' adr e v:=by
 cases e with
 | nil=>exact h
 | sent k=>exact h
 | fault k p =>
  obtain ⟨h1,h2,b,h3,h4,h5⟩:=h
  exact ⟨h1,h2,b,h3,(hb.cell (block_lt_of_cell h4)).trans h4,(hb.cell (block_lt_of_cell h5)).trans h5⟩
end Go.Proofs.YtkmhmnffbgedgaaDoor
/- From the row's list of variables to the errors' environment of the walks. -/
namespace Go.Proofs.YtkmhmnffbgedgaaDoor
open Go Go.RowKit Go.ChangeShapes
def errText:Nat → List UInt8
 | 1=>[115,104,114,101,100,99,111,108,58,32,116,101,120,116]
 | 2=>[115,104,114,101,100,99,111,108,58,32,98,111,117,110,100]
 | 3=>[115,104,114,101,100,99,111,108,58,32,115,104,97,112,101]
 | 4=>[115,104,114,101,100,99,111,108,58,32,107,105,110,100]
 | 5=>[115,104,114,101,100,99,111,108,58,32,110,97,109,101]
 | 6=>[115,104,114,101,100,99,111,108,58,32,110,111,110,101]
 | 7=>[115,104,114,101,100,99,111,108,58,32,115,117,109]
 | _=>[115,104,114,101,100,99,111,108,58,32,115,112,97,99,101]
def errName:Nat → String
 | 1 => "shredcol/api.ErrText"
 | 2 => "shredcol/api.ErrBound"
 | 3 => "shredcol/api.ErrShape"
 | 4 => "shredcol/api.ErrKind"
 | 5 => "shredcol/api.ErrName"
 | 6 => "shredcol/api.ErrNone"
 | 7 => "shredcol/api.ErrSum"
 | _ => "shredcol/api.ErrSpace"
def errRow (k:Nat):String × List UInt8 × Nat:=(errName k,errText k,gErr k)
def errDatum (k : Nat) : String × DataW Unit := (errName k, .iface "*errors.errorString" (.ptr (.agg [.lit (.string (errText k))])))
def handleRow : String × DataW Unit := ("errors.errorType", .iface "internal/reflectlite.rtype" (.agg [.ptr (.lit (.string [101, 114, 114, 111, 114]))]))
def fullLaid:List (String × DataW Unit):=[handleRow,errDatum 1,errDatum 2,errDatum 3,errDatum 4,errDatum 5,errDatum 6,errDatum 7,errDatum 8]
theorem err_named:∀ x ∈ [errRow 1,errRow 2,errRow 3,errRow 4,errRow 5,errRow 6,errRow 7,errRow 8],Tryd.prog.globalNamed x.1 = some x.2.2 ∧ (Tryd.prog.globals[x.2.2]?).map (·.type) = some 36:=by
 intro x hx
 simp only [List.mem_cons,List.not_mem_nil,or_false] at hx
 rcases hx with rfl | rfl | rfl | rfl | rfl | rfl | rfl | rfl <;> exact ⟨by kernel_rfl,by kernel_rfl⟩
theorem e_et : Tryd.prog.globalNamed "errors.errorType" = some 8 := by kernel_rfl
theorem e_rt : (Tryd.prog.cutTypes.find? (·.1 == "internal/reflectlite.rtype")).map (·.2) = some 137 := by kernel_rfl
theorem e_size:Tryd.prog.types.size = 208:=by kernel_rfl
theorem e_oneRow:((List.range 208).filter fun t=>Tryd.prog.rowNamed t [101,114,114,111,114]) = [36]:=by kernel_rfl
theorem laid_split {W:World} (h:laidMetH Tryd.prog fullLaid W):laidMet Tryd.prog [errDatum 1,errDatum 2,errDatum 3,errDatum 4,errDatum 5,errDatum 6,errDatum 7,errDatum 8] W ∧ handlesMet Tryd.prog [handleRow] W:=h
theorem env_of_laid {W:World} (h:laidMetH Tryd.prog fullLaid W):∃ adr,ErrEnv W adr:=by
 obtain ⟨hl,hh⟩:=laid_split h
 obtain ⟨ads,hs,hnd⟩:=sents_of_laid [errRow 1,errRow 2,errRow 3,errRow 4,errRow 5,errRow 6,errRow 7,errRow 8] err_named hl
 match ads,hs,hnd with
 | [a1,a2,a3,a4,a5,a6,a7,a8],hs,hnd =>
  obtain ⟨c1,b1,c2,b2,c3,b3,c4,b4,c5,b5,c6,b6,c7,b7,c8,b8,_⟩:=hs
  refine ⟨fun k=>[a1,a2,a3,a4,a5,a6,a7,a8].getD (k - 1) a1,?_,?_,?_,?_⟩
  ·intro k h1 h8
   match k,h1,h8 with
   | 1,_,_=>exact c1
   | 2,_,_=>exact c2
   | 3,_,_=>exact c3
   | 4,_,_=>exact c4
   | 5,_,_=>exact c5
   | 6,_,_=>exact c6
   | 7,_,_=>exact c7
   | 8,_,_=>exact c8
  ·intro k h1 h8
   match k,h1,h8 with
   | 1,_,_=>exact b1
   | 2,_,_=>exact b2
   | 3,_,_=>exact b3
   | 4,_,_=>exact b4
   | 5,_,_=>exact b5
   | 6,_,_=>exact b6
   | 7,_,_=>exact b7
   | 8,_,_=>exact b8
  ·intro j k j1 j8 k1 k8 hjk
   have hj:j - 1 < [a1,a2,a3,a4,a5,a6,a7,a8].length:=by simp;omega
   have hk:k - 1 < [a1,a2,a3,a4,a5,a6,a7,a8].length:=by simp;omega
   have hjk:[a1,a2,a3,a4,a5,a6,a7,a8].getD (j - 1) a1 = [a1,a2,a3,a4,a5,a6,a7,a8].getD (k - 1) a1:=hjk
   rw [List.getD_eq_getElem?_getD,List.getD_eq_getElem?_getD,List.getElem?_eq_getElem hj,List.getElem?_eq_getElem hk,Option.getD_some,Option.getD_some] at hjk
   have:=(List.getElem?_inj (j:=k - 1) hj hnd).1 (by rw [List.getElem?_eq_getElem hj,List.getElem?_eq_getElem hk,hjk])
   omega
  ·obtain ⟨name,u,ty,e1,e2,e3,e4,e5⟩:=hh _ (List.mem_singleton.2 rfl)
   have en:name = [101,114,114,111,114]:=(Option.some.inj e1).symm
   subst en
   obtain rfl:=Option.some.inj (e_rt.symm.trans e2)
   have hm:ty ∈ (List.range 208).filter fun t=>Tryd.prog.rowNamed t [101,114,114,111,114]:=List.mem_filter.2 ⟨List.mem_range.2 (by rw [← e_size];exact e3),e4⟩
   rw [e_oneRow] at hm
   obtain rfl:=List.mem_singleton.1 hm
   have hh:typeHandle Tryd.prog 36 = .pointer (some ⟨12,36,none⟩):=by kernel_rfl
   rw [hh] at e5
   simpa using World.var?_cell e_et e5 0
end Go.Proofs.YtkmhmnffbgedgaaDoor
/- Some of the errors of package api, where a statement's row lists some of them alone. -/
namespace Go.Proofs.YtkmhmnffbgedgaaDoor
open Go Go.RowKit Go.ChangeShapes
def ErrsAt (w:World) (adr:Nat → Addr) (ks:List Nat):Prop:=∀ k ∈ ks,1 ≤ k ∧ k ≤ 8 ∧ w.cell? ⟨gErr k,0,none⟩ = some (.iface 174 (.pointer (some (adr k))))
theorem ErrsAt.below {w w':World} {adr:Nat → Addr} {ks:List Nat} (h:ErrsAt w adr ks) (hb:Below w.heap.size w w'):ErrsAt w' adr ks:=fun k hk =>
 ⟨(h k hk).1,(h k hk).2.1,(hb.cell (block_lt_of_cell (h k hk).2.2)).trans (h k hk).2.2⟩
theorem ErrsAt.sub {w:World} {adr:Nat → Addr} {ks ls:List Nat} (h:ErrsAt w adr ks) (hs:(ls.all fun k=>ks.contains k) = true):ErrsAt w adr ls:=fun k hk=>by
 have:=List.all_eq_true.1 hs k hk
 exact h k (by simpa using this)
theorem ErrEnv.errs {w:World} {adr:Nat → Addr} (h:ErrEnv w adr):ErrsAt w adr [1,2,3,4,5,6,7,8]:=fun k hk=>by
 simp only [List.mem_cons,List.not_mem_nil,or_false] at hk
 have h1:1 ≤ k ∧ k ≤ 8:=by omega
 exact ⟨h1.1,h1.2,h.cell k h1.1 h1.2⟩
theorem ErrsAt.cell {w:World} {adr:Nat → Addr} {ks:List Nat} (h:ErrsAt w adr ks) (k:Nat) (hk:k ∈ ks):w.cell? ⟨gErr k,0,none⟩ = some (.iface 174 (.pointer (some (adr k)))):=(h k hk).2.2
end Go.Proofs.YtkmhmnffbgedgaaDoor
