/- Trees of nodes that came in, opened. -/
import Derived.Test.YtkmhmnffbgedgaaDoorTw0
import Derived.SizedLaws
import Derived.Deep.Slices
namespace Go.Proofs.YtkmhmnffbgedgaaDoor
set_option linter.unusedVariables false
set_option linter.unusedSimpArgs false
open Go Go.RowKit Go.ChangeShapes Go.WideShapes Go.ChangeAt
theorem mem_nodesL {x:Nd}:∀ {l:List Nd},x ∈ nodesL l → ∃ y ∈ l,x ∈ nodes y
 | [],h=>by simp [nodesL] at h
 | a :: r,h=>by
  simp only [nodesL] at h
  rcases List.mem_append.1 h with h | h
  ·exact ⟨a,List.mem_cons_self ..,h⟩
  ·obtain ⟨y,hy,h2⟩:=mem_nodesL h
   exact ⟨y,List.mem_cons_of_mem _ hy,h2⟩
theorem weightsAll_mem {H:Type} {P:Program} {e:TypeId}:∀ (l:List (DataW H)) (d:DataW H),d ∈ l → ∀ n ∈ d.weights P e,n ∈ DataW.weightsAll P e l
 | [],_,h,_,_=>by cases h
 | a :: r,d,h,n,hn=>by
  simp only [DataW.weightsAll,List.mem_append]
  rcases List.mem_cons.1 h with rfl | h
  ·exact .inl hn
  ·exact .inr (weightsAll_mem r d h n hn)
theorem fieldN {H:Type} {enc:TypeId × Value → H} {P:Program} {W:World} {base n:Nat} {sp:Nat → Bool} {held:Bool} {fs:Array Field} {cs:List Value} {xs:List (DataW H × List MemPlace)}
  (hq:∀ (i:Nat) (f:Field),fs[i]? = some f → DataW.trod enc P W base sp held n f.type ((cs.drop f.offset).take (P.cellsOf f.type)) = xs[i]?)
  (i:Nat) (f:Field) (hf:fs[i]? = some f) (T o k:Nat) (hT:f.type = T) (ho:f.offset = o) (hk:P.cellsOf T = k):DataW.trod enc P W base sp held n T ((cs.drop o).take k) = xs[i]?:=by
 subst hT ho hk
 exact hq i f hf
theorem cellsN_int:Tryd.prog.cellsOf 3 = 1:=by kernel_rfl
theorem cellsN_str:Tryd.prog.cellsOf 9 = 1:=by kernel_rfl
theorem cellsN_nds:Tryd.prog.cellsOf 45 = 1:=by kernel_rfl
theorem cellsN_nd:Tryd.prog.cellsOf 47 = 5:=by kernel_rfl
theorem bytesN_nd:Tryd.prog.bytesOf 47 = 64:=by kernel_rfl
def ReadsNds {H:Type} (enc:TypeId × Value → H) (W:World) (fuel:Nat):Prop :=
 ∀ (v:Value) (z:DataW H × List MemPlace),DataW.trod enc Tryd.prog W 0 (fun _=>true) true fuel 45 [v] = some z → (∀ n ∈ z.1.weights Tryd.prog 45,n ≤ reachBytes) →
  ∃ l,IsNds (· < W.heap.size) W v l ∧ l.length * 64 ≤ 140737488355328 ∧ ∀ x ∈ nodesL l,x.Ok1
set_option maxRecDepth 100000 in
theorem nd_read {H:Type} {enc:TypeId × Value → H} {W:World} {n:Nat} {cs:List Value} {z:DataW H × List MemPlace} (IH:ReadsNds enc W n)
  (h:DataW.trod enc Tryd.prog W 0 (fun _=>true) true (n + 1) 47 cs = some z) (hw:∀ k ∈ z.1.weights Tryd.prog 47,k ≤ reachBytes) :
  ∃ x u,cs = (ndA x u).toList ∧ IsNds (· < W.heap.size) W u x.sub ∧ ∀ y ∈ nodes x,y.Ok1:=by
 obtain ⟨xs,n',hn,hd,hlen,hxl,hq⟩:=DataW.trod_struct Tryd.underlying47 h
 obtain rfl:n' = n:=by omega
 rw [cellsN_nd] at hlen
 match cs,hlen with
 | [c0,c1,c2,c3,c4],_ =>
  match xs,hxl with
  | [y0,y1,y2,y3,y4],_ =>
   have f0:DataW.trod enc Tryd.prog W 0 (fun _=>true) true n' 3 [c0] = some y0:=fieldN hq 0 _ rfl _ 0 1 rfl rfl cellsN_int
   have f1:DataW.trod enc Tryd.prog W 0 (fun _=>true) true n' 9 [c1] = some y1:=fieldN hq 1 _ rfl _ 1 1 rfl rfl cellsN_str
   have f2:DataW.trod enc Tryd.prog W 0 (fun _=>true) true n' 3 [c2] = some y2:=fieldN hq 2 _ rfl _ 2 1 rfl rfl cellsN_int
   have f3:DataW.trod enc Tryd.prog W 0 (fun _=>true) true n' 3 [c3] = some y3:=fieldN hq 3 _ rfl _ 3 1 rfl rfl cellsN_int
   have f4:DataW.trod enc Tryd.prog W 0 (fun _=>true) true n' 45 [c4] = some y4:=fieldN hq 4 _ rfl _ 4 1 rfl rfl cellsN_nds
   obtain ⟨a,ha,_,wa⟩:=DataW.trod_int Tryd.underlying3 f0
   obtain ⟨s,hs,_,ws⟩:=DataW.trod_string Tryd.underlying9 f1
   obtain ⟨b,hb,_,wb⟩:=DataW.trod_int Tryd.underlying3 f2
   obtain ⟨c,hc,_,wc⟩:=DataW.trod_int Tryd.underlying3 f3
   have hdd:=congrArg Prod.fst hd
   simp only [List.map_cons,List.map_nil] at hdd
   have k4:∀ n ∈ y4.1.weights Tryd.prog 45,n ≤ reachBytes:=by
    have e:z.1.weights Tryd.prog 47 = y0.1.weights Tryd.prog 3 ++ (y1.1.weights Tryd.prog 9 ++ (y2.1.weights Tryd.prog 3 ++ (y3.1.weights Tryd.prog 3 ++ (y4.1.weights Tryd.prog 45 ++ [])))):=by
     rw [hdd]
     conv=>lhs;unfold DataW.weights;rw [Tryd.underlying47]
     simp only [List.map_cons,List.map_nil,DataW.weightsEach]
    rw [e] at hw
    intro n hn
    exact hw n (by simp [hn])
   obtain ⟨l,hl,hl64,hlo⟩:=IH c4 y4 f4 k4
   simp only [List.cons.injEq,and_true] at ha hs hb hc
   subst ha hs hb hc
   have ba:=bounds_i64 wa
   have bb:=bounds_i64 wb
   have bc:=bounds_i64 wc
   refine ⟨.mk a s b c l,c4,rfl,hl,fun y hy=>?_⟩
   rw [nodes_eq] at hy
   rcases List.mem_cons.1 hy with rfl | hy
   ·exact ⟨ba.1,by show a < _;omega,bb.1,by show b < _;omega,bc.1,by show c < _;omega,by show s.size ≤ _;have:maxLen = 9223372036854775807:=rfl;omega,hl64⟩
   ·exact hlo y hy
set_option maxRecDepth 100000 in
theorem nds_trod {H:Type} (enc:TypeId × Value → H) (W:World):∀ fuel,ReadsNds enc W fuel:=by
 intro fuel
 induction fuel using Nat.strongRecOn with
 | _ fuel ih =>
 intro v z hf hw
 rcases DataW.trod_slice Tryd.underlying45 hf with ⟨hcs,hx⟩ | ⟨a,len,cap,elems,rest,n,rfl,hcs,rfl,hb,hl,hm,hlen,hel,-,-⟩
 ·obtain rfl:v = .slice none 0 0:=by simpa using hcs
  exact ⟨[],.nil _ _,by simp,by simp [nodesL]⟩
 ·obtain rfl:v = .slice (some a) len cap:=by simpa using hcs
  by_cases h0:len = 0
  ·subst h0
   exact ⟨[],.nil _ _,by simp,by simp [nodesL]⟩
  ·rw [cellsN_nd] at hel
   have hwe:(elems.length + rest.length) * 64 ≤ reachBytes ∧ ∀ d ∈ elems.map (·.1),∀ n ∈ d.weights Tryd.prog 47,n ≤ reachBytes:=by
    unfold DataW.weights at hw
    simp only [Tryd.underlying45,List.length_map,bytesN_nd] at hw
    exact ⟨hw _ (List.mem_cons_self ..),fun d hd n hn=>hw n (List.mem_cons_of_mem _ (List.mem_append_left _ (weightsAll_mem _ d hd n hn)))⟩
   have hex:∀ i,∃ q:Nd × Value,i < len → (∀ j u,(ndA q.1 q.2)[j]? = some u → W.cell? ((a.add (i * 5)).add j) = some u) ∧ IsNds (· < W.heap.size) W q.2 q.1.sub ∧ ∀ y ∈ nodes q.1,y.Ok1:=by
    intro i
    by_cases hil:i < len
    ·have h1:=hel i hil
     rw [List.getElem?_eq_getElem (by omega)] at h1
     obtain ⟨cs',hc,ht⟩:=Option.bind_eq_some_iff.1 h1
     obtain ⟨m,rfl⟩:∃ m,n = m + 1:=by
      cases n with
      | zero=>simp [DataW.trod] at ht
      | succ m=>exact ⟨m,rfl⟩
     obtain ⟨x,u,rfl,hu,ho⟩:=nd_read (ih m (by omega)) ht (hwe.2 _ (List.mem_map.2 ⟨_,List.getElem_mem (by omega),rfl⟩))
     obtain ⟨_,hcl,hat⟩:=World.cells?_some hc
     refine ⟨(x,u),fun _=>⟨fun j w hj=>?_,hu,ho⟩⟩
     have hj5:j < 5:=by have:=(Array.getElem?_eq_some_iff.1 hj).1;simpa [ndA] using this
     rw [hat j hj5,← hj];simp [ndA]
    ·exact ⟨(.mk 0 ByteArray.empty 0 0 [],.nilIface),fun h=>absurd h hil⟩
   obtain ⟨X,hX⟩:=Classical.axiomOfChoice hex
   have h00:=(hX 0 (by omega)).1 0 _ rfl
   obtain ⟨b,off,spot⟩:=a
   have hspot:spot = none:=by simpa [Addr.add] using World.cell?_spot h00
   subst hspot
   have hll:((List.range len).map fun i=>(X i).1).length = len:=by simp
   have hgj:∀ (j:Nat) (x:Nd),((List.range len).map fun i=>(X i).1)[j]? = some x → j < len ∧ (X j).1 = x:=by
    intro j x hj
    rw [List.getElem?_map] at hj
    have hjl:j < len:=by
     rcases Nat.lt_or_ge j len with h' | h'
     ·exact h'
     ·rw [List.getElem?_eq_none (by simpa using h')] at hj;cases hj
    rw [List.getElem?_range hjl] at hj
    exact ⟨hjl,Option.some.inj hj⟩
   have hrow:=IsNds.row (P:=(· < W.heap.size)) (w:=W) b off cap ((List.range len).map fun i=>(X i).1) (fun j=>(X j).2) (by
     rw [Go.WideShapes.add_plain,Go.WideShapes.add_plain] at h00
     exact block_lt_of_cell h00) (by
     rw [Go.WideShapes.add_plain,Go.WideShapes.add_plain] at h00
     exact block_lt_of_cell h00) (fun j x hj=>by
     obtain ⟨hjl,rfl⟩:=hgj j x hj
     intro k u hk
     have:=(hX j hjl).1 k u hk
     simpa only [Go.WideShapes.add_plain] using this) (fun j x hj=>by
     obtain ⟨hjl,rfl⟩:=hgj j x hj
     exact (hX j hjl).2.1)
   rw [hll] at hrow
   refine ⟨_,hrow,?_,fun x hx=>?_⟩
   ·rw [hll];have:=hwe.1;rw [hlen] at this;simp only [reachBytes] at this;omega
   ·obtain ⟨y,hy,hxy⟩:=mem_nodesL hx
    obtain ⟨j,hj,rfl⟩:=List.mem_map.1 hy
    exact (hX j (List.mem_range.1 hj)).2.2 x hxy
set_option maxRecDepth 100000 in
theorem args_nd {H:Type} {enc:TypeId × Value → H} {W:World} {v:Value} {d:DataW H} {p:List MemPlace} {base:Nat} (okv:Value.okWide Tryd.prog W .any base 47 v)
  (h:DataW.Trod enc Tryd.prog W 0 (fun _=>true) true 47 v d p) (hw:∀ n ∈ d.weights Tryd.prog 47,n ≤ reachBytes):∃ n u,v = .agg (ndA n u) ∧ IsNds (· < W.heap.size) W u n.sub ∧ ∀ x ∈ nodes n,x.Ok1:=by
 obtain ⟨cs,rfl,hsz⟩:=okWide_struct Tryd.underlying47 okv
 obtain ⟨fuel,hf⟩:=h
 obtain ⟨m,rfl⟩:∃ m,fuel = m + 1:=by
  cases fuel with
  | zero=>simp [DataW.trod] at hf
  | succ m=>exact ⟨m,rfl⟩
 obtain ⟨x,u,hcs,hu,ho⟩:=nd_read (nds_trod enc W m) hf hw
 refine ⟨x,u,?_,hu,ho⟩
 simp only [Value.cells] at hcs
 congr 1
 exact Array.toList_inj.1 hcs
end Go.Proofs.YtkmhmnffbgedgaaDoor
