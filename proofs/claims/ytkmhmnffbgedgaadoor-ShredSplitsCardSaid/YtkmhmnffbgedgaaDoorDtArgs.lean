/- Records that came in, opened. -/
import Derived.Test.YtkmhmnffbgedgaaDoorTr2
import Derived.Test.YtkmhmnffbgedgaaDoorNdArgs
import Derived.SizedLaws
import Derived.Deep.Slices
namespace Go.Proofs.YtkmhmnffbgedgaaDoor
set_option linter.unusedVariables false
set_option linter.unusedSimpArgs false
open Go Go.RowKit Go.ChangeShapes Go.WideShapes Go.ChangeAt
theorem cellsD_val:Tryd.prog.cellsOf 61 = 3:=by kernel_rfl
theorem cellsD_bool:Tryd.prog.cellsOf 4 = 1:=by kernel_rfl
theorem cellsD_dts:Tryd.prog.cellsOf 48 = 1:=by kernel_rfl
theorem cellsD_dt:Tryd.prog.cellsOf 63 = 6:=by kernel_rfl
theorem bytesD_dt:Tryd.prog.bytesOf 63 = 88:=by kernel_rfl
def ReadsDts {H:Type} (enc:TypeId × Value → H) (W:World) (fuel:Nat):Prop :=
 ∀ (v:Value) (z:DataW H × List MemPlace),DataW.trod enc Tryd.prog W 0 (fun _=>true) true fuel 48 [v] = some z → (∀ n ∈ z.1.weights Tryd.prog 48,n ≤ reachBytes) →
  ∃ l,IsDts (· < W.heap.size) W v l ∧ l.length * 88 ≤ 140737488355328 ∧ ∀ x ∈ dtsL l,x.Ok1
set_option maxRecDepth 100000 in
theorem valD_read {H:Type} {enc:TypeId × Value → H} {W:World} {n:Nat} {cs:List Value} {z:DataW H × List MemPlace}
  (h:DataW.trod enc Tryd.prog W 0 (fun _=>true) true n 61 cs = some z):∃ x:Val,cs = [.int .i64 x.k,.int .i64 x.n,.string x.s] ∧ x.Ok:=by
 obtain ⟨xs,n',hn,hd,hlen,hxl,hq⟩:=DataW.trod_struct Tryd.underlying61 h
 rw [cellsD_val] at hlen
 match cs,hlen with
 | [c0,c1,c2],_ =>
  match xs,hxl with
  | [y0,y1,y2],_ =>
   have f0:DataW.trod enc Tryd.prog W 0 (fun _=>true) true n' 3 [c0] = some y0:=fieldN hq 0 _ rfl _ 0 1 rfl rfl cellsN_int
   have f1:DataW.trod enc Tryd.prog W 0 (fun _=>true) true n' 2 [c1] = some y1:=fieldN hq 1 _ rfl _ 1 1 rfl rfl (by kernel_rfl)
   have f2:DataW.trod enc Tryd.prog W 0 (fun _=>true) true n' 9 [c2] = some y2:=fieldN hq 2 _ rfl _ 2 1 rfl rfl cellsN_str
   obtain ⟨a,ha,_,wa⟩:=DataW.trod_int Tryd.underlying3 f0
   obtain ⟨b,hb,_,wb⟩:=DataW.trod_int Tryd.underlying2 f1
   obtain ⟨s,hs,_,ws⟩:=DataW.trod_string Tryd.underlying9 f2
   simp only [List.cons.injEq,and_true] at ha hs hb
   subst ha hs hb
   have ba:=bounds_i64 wa
   have bb:=bounds_i64 wb
   exact ⟨⟨a,b,s⟩,rfl,⟨ba.1,by show a < _;omega,bb.1,by show b < _;omega,ws⟩⟩
set_option maxRecDepth 100000 in
theorem dt_read {H:Type} {enc:TypeId × Value → H} {W:World} {n:Nat} {cs:List Value} {z:DataW H × List MemPlace} (IH:ReadsDts enc W n)
  (h:DataW.trod enc Tryd.prog W 0 (fun _=>true) true (n + 1) 63 cs = some z) (hw:∀ k ∈ z.1.weights Tryd.prog 63,k ≤ reachBytes) :
  ∃ x u t,cs = (dtA x u t).toList ∧ IsDts (· < W.heap.size) W u x.l ∧ IsDts (· < W.heap.size) W t x.f ∧ ∀ y ∈ dts x,y.Ok1:=by
 obtain ⟨xs,n',hn,hd,hlen,hxl,hq⟩:=DataW.trod_struct Tryd.underlying63 h
 obtain rfl:n' = n:=by omega
 rw [cellsD_dt] at hlen
 match cs,hlen with
 | [c0,c1,c2,c3,c4,c5],_ =>
  match xs,hxl with
  | [y0,y1,y2,y3],_ =>
   have f0:DataW.trod enc Tryd.prog W 0 (fun _=>true) true n' 4 [c0] = some y0:=fieldN hq 0 _ rfl _ 0 1 rfl rfl cellsD_bool
   have f1:DataW.trod enc Tryd.prog W 0 (fun _=>true) true n' 61 [c1,c2,c3] = some y1:=fieldN hq 1 _ rfl _ 1 3 rfl rfl cellsD_val
   have f2:DataW.trod enc Tryd.prog W 0 (fun _=>true) true n' 48 [c4] = some y2:=fieldN hq 2 _ rfl _ 4 1 rfl rfl cellsD_dts
   have f3:DataW.trod enc Tryd.prog W 0 (fun _=>true) true n' 48 [c5] = some y3:=fieldN hq 3 _ rfl _ 5 1 rfl rfl cellsD_dts
   obtain ⟨a,ha,_⟩:=DataW.trod_bool Tryd.underlying4 f0
   obtain ⟨x,hx,xo⟩:=valD_read f1
   have hdd:=congrArg Prod.fst hd
   simp only [List.map_cons,List.map_nil] at hdd
   have e:z.1.weights Tryd.prog 63 = y0.1.weights Tryd.prog 4 ++ (y1.1.weights Tryd.prog 61 ++ (y2.1.weights Tryd.prog 48 ++ (y3.1.weights Tryd.prog 48 ++ []))):=by
    rw [hdd]
    conv=>lhs;unfold DataW.weights;rw [Tryd.underlying63]
    simp only [List.map_cons,List.map_nil,DataW.weightsEach]
   rw [e] at hw
   obtain ⟨l,hl,hl88,hlo⟩:=IH c4 y2 f2 fun n hn=>hw n (by simp [hn])
   obtain ⟨l2,hl2,hl288,hlo2⟩:=IH c5 y3 f3 fun n hn=>hw n (by simp [hn])
   simp only [List.cons.injEq,and_true] at ha hx
   obtain ⟨rfl,rfl,rfl⟩:=hx
   subst ha
   refine ⟨.mk a x l l2,c4,c5,rfl,hl,hl2,fun y hy=>?_⟩
   rw [dts_eq] at hy
   rcases List.mem_cons.1 hy with rfl | hy
   ·exact ⟨xo,hl88,hl288⟩
   ·rcases List.mem_append.1 hy with hy | hy
    ·exact hlo y hy
    ·exact hlo2 y hy
set_option maxRecDepth 100000 in
theorem dts_trod {H:Type} (enc:TypeId × Value → H) (W:World):∀ fuel,ReadsDts enc W fuel:=by
 intro fuel
 induction fuel using Nat.strongRecOn with
 | _ fuel ih =>
 intro v z hf hw
 rcases DataW.trod_slice Tryd.underlying48 hf with ⟨hcs,hx⟩ | ⟨a,len,cap,elems,rest,n,rfl,hcs,rfl,hb,hl,hm,hlen,hel,-,-⟩
 ·obtain rfl:v = .slice none 0 0:=by simpa using hcs
  exact ⟨[],.nil _ _,by simp,by simp [dtsL]⟩
 ·obtain rfl:v = .slice (some a) len cap:=by simpa using hcs
  by_cases h0:len = 0
  ·subst h0
   exact ⟨[],.nil _ _,by simp,by simp [dtsL]⟩
  ·rw [cellsD_dt] at hel
   have hwe:(elems.length + rest.length) * 88 ≤ reachBytes ∧ ∀ d ∈ elems.map (·.1),∀ n ∈ d.weights Tryd.prog 63,n ≤ reachBytes:=by
    unfold DataW.weights at hw
    simp only [Tryd.underlying48,List.length_map,bytesD_dt] at hw
    exact ⟨hw _ (List.mem_cons_self ..),fun d hd n hn=>hw n (List.mem_cons_of_mem _ (List.mem_append_left _ (weightsAll_mem _ d hd n hn)))⟩
   have hex:∀ i,∃ q:Dt × Value × Value,i < len → (∀ j u,(dtA q.1 q.2.1 q.2.2)[j]? = some u → W.cell? ((a.add (i * 6)).add j) = some u) ∧ IsDts (· < W.heap.size) W q.2.1 q.1.l ∧ IsDts (· < W.heap.size) W q.2.2 q.1.f ∧ ∀ y ∈ dts q.1,y.Ok1:=by
    intro i
    by_cases hil:i < len
    ·have h1:=hel i hil
     rw [List.getElem?_eq_getElem (by omega)] at h1
     obtain ⟨cs',hc,ht⟩:=Option.bind_eq_some_iff.1 h1
     obtain ⟨m,rfl⟩:∃ m,n = m + 1:=by
      cases n with
      | zero=>simp [DataW.trod] at ht
      | succ m=>exact ⟨m,rfl⟩
     obtain ⟨x,u,t,rfl,hu,htt,ho⟩:=dt_read (ih m (by omega)) ht (hwe.2 _ (List.mem_map.2 ⟨_,List.getElem_mem (by omega),rfl⟩))
     obtain ⟨_,hcl,hat⟩:=World.cells?_some hc
     refine ⟨(x,u,t),fun _=>⟨fun j w hj=>?_,hu,htt,ho⟩⟩
     have hj5:j < 6:=by have:=(Array.getElem?_eq_some_iff.1 hj).1;simpa [dtA] using this
     rw [hat j hj5,← hj];simp [dtA]
    ·exact ⟨(.mk false zeroV [] [],.nilIface,.nilIface),fun h=>absurd h hil⟩
   obtain ⟨X,hX⟩:=Classical.axiomOfChoice hex
   have h00:=(hX 0 (by omega)).1 0 _ rfl
   obtain ⟨b,off,spot⟩:=a
   have hspot:spot = none:=by simpa [Addr.add] using World.cell?_spot h00
   subst hspot
   have hll:((List.range len).map fun i=>(X i).1).length = len:=by simp
   have hgj:∀ (j:Nat) (x:Dt),((List.range len).map fun i=>(X i).1)[j]? = some x → j < len ∧ (X j).1 = x:=by
    intro j x hj
    rw [List.getElem?_map] at hj
    have hjl:j < len:=by
     rcases Nat.lt_or_ge j len with h' | h'
     ·exact h'
     ·rw [List.getElem?_eq_none (by simpa using h')] at hj;cases hj
    rw [List.getElem?_range hjl] at hj
    exact ⟨hjl,Option.some.inj hj⟩
   have hbs:b < W.heap.size:=by
    rw [Go.WideShapes.add_plain,Go.WideShapes.add_plain] at h00
    exact block_lt_of_cell h00
   have hrow:=IsDts.row (P:=(· < W.heap.size)) (w:=W) b off cap ((List.range len).map fun i=>(X i).1) (fun j=>(X j).2.1) (fun j=>(X j).2.2) hbs hbs (fun j x hj=>by
     obtain ⟨hjl,rfl⟩:=hgj j x hj
     intro k u hk
     have:=(hX j hjl).1 k u hk
     simpa only [Go.WideShapes.add_plain] using this) (fun j x hj=>by
     obtain ⟨hjl,rfl⟩:=hgj j x hj
     exact (hX j hjl).2.1) (fun j x hj=>by
     obtain ⟨hjl,rfl⟩:=hgj j x hj
     exact (hX j hjl).2.2.1)
   rw [hll] at hrow
   refine ⟨_,hrow,?_,fun x hx=>?_⟩
   ·rw [hll];have:=hwe.1;rw [hlen] at this;simp only [reachBytes] at this;omega
   ·obtain ⟨y,hy,hxy⟩:=mem_dtsL hx
    obtain ⟨j,hj,rfl⟩:=List.mem_map.1 hy
    exact (hX j (List.mem_range.1 hj)).2.2.2 x hxy
set_option maxRecDepth 100000 in
theorem args_dts {H:Type} {enc:TypeId × Value → H} {W:World} {v:Value} {d:DataW H} {p:List MemPlace} {base:Nat} (okv:Value.okWide Tryd.prog W .any base 48 v)
  (h:DataW.Trod enc Tryd.prog W 0 (fun _=>true) true 48 v d p) (hw:∀ n ∈ d.weights Tryd.prog 48,n ≤ reachBytes):∃ l,IsDts (· < W.heap.size) W v l ∧ l.length * 88 ≤ 140737488355328 ∧ ∀ x ∈ dtsL l,x.Ok1:=by
 obtain ⟨ad,len,cap,rfl⟩:=okWide_slice Tryd.underlying48 okv
 obtain ⟨fuel,hf⟩:=h
 exact dts_trod enc W fuel _ _ (by simpa [Value.cells] using hf) hw
end Go.Proofs.YtkmhmnffbgedgaaDoor
