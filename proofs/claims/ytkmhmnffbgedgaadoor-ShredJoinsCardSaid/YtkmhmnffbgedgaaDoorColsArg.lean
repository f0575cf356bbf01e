/- An argument that is a slice of columns, opened, with the reach. -/
import Derived.Test.YtkmhmnffbgedgaaDoorMCa
import Derived.Test.YtkmhmnffbgedgaaDoorColC
import Derived.SizedLaws
import Derived.Deep.Slices
namespace Go.Proofs.YtkmhmnffbgedgaaDoor
set_option linter.unusedVariables false
open Go Go.RowKit Go.ChangeShapes Go.WideShapes Go.ChangeAt
theorem weightsAll_memC {H:Type} {P:Program} {e:TypeId}:∀ (l:List (DataW H)) (d:DataW H),d ∈ l → ∀ n ∈ d.weights P e,n ∈ DataW.weightsAll P e l
 | [],_,h,_,_=>by cases h
 | a :: r,d,h,n,hn=>by
  simp only [DataW.weightsAll,List.mem_append]
  rcases List.mem_cons.1 h with rfl | h
  ·exact .inl hn
  ·exact .inr (weightsAll_memC r d h n hn)
set_option maxRecDepth 100000 in
theorem col_read {H:Type} {enc:TypeId × Value → H} {W:World} {fuel:Nat} {L:List Value} {z:DataW H × List MemPlace} (hf:DataW.trod enc Tryd.prog W 0 (fun _=>true) true fuel 32 L = some z)
  (hw:∀ n ∈ z.1.weights Tryd.prog 32,n ≤ reachBytes):∃ (c:Col) (p q d:Value),L = (colA c p q d).toList ∧ IsInts W p c.rep ∧ IsInts W q c.df ∧ IsVals W d c.vals ∧ c.Ok ∧ c.Reach:=by
 obtain ⟨xs,n,_,hd,hlen,hxl,hq⟩:=DataW.trod_struct Tryd.underlying32 hf
 rw [cells_col] at hlen
 have hl9:L.length = 4:=by simpa using hlen
 match L,hl9 with
 | [c0,c1,c2,c3],_ =>
  match xs,hxl with
  | [y0,y1,y2,y3],_ =>
   have f0:DataW.trod enc Tryd.prog W 0 (fun _=>true) true n 3 [c0] = some y0:=field_of hq 0 _ rfl _ 0 1 rfl rfl cells_int1
   have f1:DataW.trod enc Tryd.prog W 0 (fun _=>true) true n 22 [c1] = some y1:=field_of hq 1 _ rfl _ 1 1 rfl rfl cells_ints
   have f2:DataW.trod enc Tryd.prog W 0 (fun _=>true) true n 22 [c2] = some y2:=field_of hq 2 _ rfl _ 2 1 rfl rfl cells_ints
   have f3:DataW.trod enc Tryd.prog W 0 (fun _=>true) true n 30 [c3] = some y3:=field_of hq 3 _ rfl _ 3 1 rfl rfl cells_vals
   obtain ⟨a,ha,_,wa⟩:=DataW.trod_int Tryd.underlying3 f0
   have hdd:=congrArg Prod.fst hd
   simp only [List.map_cons,List.map_nil] at hdd
   obtain ⟨k1,k2,k3⟩:(∀ n ∈ y1.1.weights Tryd.prog 22,n ≤ reachBytes) ∧ (∀ n ∈ y2.1.weights Tryd.prog 22,n ≤ reachBytes) ∧ (∀ n ∈ y3.1.weights Tryd.prog 30,n ≤ reachBytes):=by
    have e:z.1.weights Tryd.prog 32 = y0.1.weights Tryd.prog 3 ++ (y1.1.weights Tryd.prog 22 ++ (y2.1.weights Tryd.prog 22 ++ (y3.1.weights Tryd.prog 30 ++ []))):=by
     rw [hdd]
     conv=>lhs;unfold DataW.weights;rw [Tryd.underlying32]
     simp only [List.map_cons,List.map_nil,DataW.weightsEach]
    rw [e] at hw
    refine ⟨fun n hn=>hw n ?_,fun n hn=>hw n ?_,fun n hn=>hw n ?_⟩ <;> simp [hn]
   obtain ⟨l1,h1,g1⟩:=ints_trod f1
   obtain ⟨l2,h2,g2⟩:=ints_trod f2
   obtain ⟨l3,h3,g3⟩:=vals_trod f3
   simp only [List.cons.injEq,and_true] at ha
   subst ha
   have ba:=bounds_i64 wa
   exact ⟨⟨a,l1,l2,l3⟩,c1,c2,c3,rfl,h1,h2,h3,⟨ba.1,by show a < _;omega,g1,g2,g3⟩,⟨ints_reach f1 h1 k1,ints_reach f2 h2 k2,vals_reach f3 h3 k3⟩⟩
set_option maxRecDepth 100000 in
theorem args_cols {H:Type} {enc:TypeId × Value → H} {W:World} {v:Value} {d:DataW H} {p:List MemPlace} {base:Nat} (okv:Value.okWide Tryd.prog W .any base 25 v)
  (h:DataW.Trod enc Tryd.prog W 0 (fun _=>true) true 25 v d p) (hw:∀ n ∈ d.weights Tryd.prog 25,n ≤ reachBytes):∃ l,IsCols W v l ∧ (∀ c ∈ l,c.Ok) ∧ ∀ c ∈ l,c.Reach:=by
 obtain ⟨ad,len0,cap0,rfl⟩:=okWide_slice Tryd.underlying25 okv
 obtain ⟨fuel,hf⟩:=h
 obtain ⟨z,hz⟩:∃ z,z = (d,p):=⟨_,rfl⟩
 rw [← hz] at hf
 have hd:d = z.1:=by rw [hz]
 rw [hd] at hw
 clear hd hz
 rcases DataW.trod_slice Tryd.underlying25 hf with ⟨hcs,hx⟩ | ⟨a,len,cap,elems,rest,n,rfl,hcs,rfl,hb,hl,hm,hlen,hel,-,-⟩
 ·obtain ⟨rfl,rfl,rfl⟩:ad = none ∧ len0 = 0 ∧ cap0 = 0:=by simpa [Value.cells] using hcs
  exact ⟨[],.inl ⟨rfl,_,_,rfl⟩,by simp,by simp⟩
 ·obtain ⟨rfl,rfl,rfl⟩:ad = some a ∧ len0 = len ∧ cap0 = cap:=by simpa [Value.cells] using hcs
  by_cases h0:len0 = 0
  ·subst h0
   exact ⟨[],.inl ⟨rfl,_,_,rfl⟩,by simp,by simp⟩
  ·rw [cells_col] at hel
   have hwe:∀ d ∈ elems.map (·.1),∀ n ∈ d.weights Tryd.prog 32,n ≤ reachBytes:=by
    unfold DataW.weights at hw
    simp only [Tryd.underlying25,List.length_map] at hw
    exact fun d hd n hn=>hw n (List.mem_cons_of_mem _ (List.mem_append_left _ (weightsAll_memC _ d hd n hn)))
   have hex:∀ i,∃ c:Col,i < len0 → ∃ p q d,IsInts W p c.rep ∧ IsInts W q c.df ∧ IsVals W d c.vals ∧ c.Ok ∧ c.Reach ∧ ∀ j u,(colA c p q d)[j]? = some u → W.cell? ((a.add (i * 4)).add j) = some u:=by
    intro i
    by_cases hil:i < len0
    ·have h1:=hel i hil
     rw [List.getElem?_eq_getElem (by omega)] at h1
     obtain ⟨cs',hc,ht⟩:=Option.bind_eq_some_iff.1 h1
     obtain ⟨x,p,q,d,rfl,i1,i2,i3,o1,o2⟩:=col_read ht (hwe _ (List.mem_map.2 ⟨_,List.getElem_mem (by omega),rfl⟩))
     obtain ⟨_,hcl,hat⟩:=World.cells?_some hc
     refine ⟨x,fun _=>⟨p,q,d,i1,i2,i3,o1,o2,fun j w hj=>?_⟩⟩
     have hj4:j < 4:=by have:=(Array.getElem?_eq_some_iff.1 hj).1;simpa [colA] using this
     rw [hat j hj4,← hj];simp [colA]
    ·exact ⟨⟨0,[],[],[]⟩,fun h=>absurd h hil⟩
   obtain ⟨X,hX⟩:=Classical.axiomOfChoice hex
   obtain ⟨_,_,_,_,_,_,_,_,h00'⟩:=hX 0 (by omega)
   have h00:=h00' 0 _ rfl
   obtain ⟨b,off,spot⟩:=a
   have hspot:spot = none:=by simpa [Addr.add] using World.cell?_spot h00
   subst hspot
   have hll:((List.range len0).map X).length = len0:=by simp
   have hgj:∀ (j:Nat) (x:Col),((List.range len0).map X)[j]? = some x → j < len0 ∧ X j = x:=by
    intro j x hj
    rw [List.getElem?_map] at hj
    have hjl:j < len0:=by
     rcases Nat.lt_or_ge j len0 with h' | h'
     ·exact h'
     ·rw [List.getElem?_eq_none (by simpa using h')] at hj;cases hj
    rw [List.getElem?_range hjl] at hj
    exact ⟨hjl,Option.some.inj hj⟩
   have hbs:b < W.heap.size:=by
    rw [Go.WideShapes.add_plain,Go.WideShapes.add_plain] at h00
    exact block_lt_of_cell h00
   refine ⟨(List.range len0).map X,.inr ⟨b,off,cap0,by rw [hll],hbs,fun j c hj=>?_⟩,fun c hc=>?_,fun c hc=>?_⟩
   ·obtain ⟨hjl,rfl⟩:=hgj j c hj
    obtain ⟨p,q,d,i1,i2,i3,_,_,hk⟩:=hX j hjl
    exact ⟨p,q,d,i1,i2,i3,fun k u hu=>by have:=hk k u hu;simpa only [Go.WideShapes.add_plain] using this⟩
   ·obtain ⟨j,hj,rfl⟩:=List.mem_map.1 hc
    obtain ⟨p,q,d,_,_,_,o,_,_⟩:=hX j (List.mem_range.1 hj)
    exact o
   ·obtain ⟨j,hj,rfl⟩:=List.mem_map.1 hc
    obtain ⟨p,q,d,_,_,_,_,o,_⟩:=hX j (List.mem_range.1 hj)
    exact o
end Go.Proofs.YtkmhmnffbgedgaaDoor
