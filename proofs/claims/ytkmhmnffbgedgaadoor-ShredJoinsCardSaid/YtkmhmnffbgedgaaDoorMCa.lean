/- Merged texts: ColArgs, ColArg2. -/
import Derived.Test.YtkmhmnffbgedgaaDoorMRef
import Derived.Test.YtkmhmnffbgedgaaDoorMCol
import Derived.Test.YtkmhmnffbgedgaaDoorMOw
import Derived.SizedLaws
import Derived.Deep.Slices
/- Arguments that are leaves and columns, opened. -/
namespace Go.Proofs.YtkmhmnffbgedgaaDoor
set_option linter.unusedVariables false
open Go Go.RowKit Go.ChangeShapes Go.WideShapes Go.ChangeAt
set_option maxRecDepth 100000 in
theorem ints_trod {H:Type} {enc:TypeId × Value → H} {W:World} {v:Value} {fuel:Nat} {z:DataW H × List MemPlace} (hf:DataW.trod enc Tryd.prog W 0 (fun _=>true) true fuel 22 [v] = some z):∃ l,IsInts W v l ∧ Fits l:=by
 rcases open_ints Tryd.underlying22 Tryd.underlying3 cells_int1 hf with ⟨hcs,hx⟩ | ⟨a,len',cap',zs,hcs,hb,hl,hm,hz,hx,hcell,hwz⟩
 ·obtain rfl:v = .slice none 0 0:=by simpa using hcs
  exact ⟨[],.inl ⟨rfl,none,0,rfl⟩,by simp [Fits]⟩
 ·obtain rfl:v = .slice (some a) len' cap':=by simpa using hcs
  rw [if_pos rfl] at hz
  by_cases h0:len' = 0
  ·subst h0
   exact ⟨[],.inl ⟨rfl,_,_,rfl⟩,by simp [Fits]⟩
  ·obtain ⟨b,off,rfl,hc⟩:=ints_at hcell (by omega)
   have hlen:(zs.take len').length = len':=by simp;omega
   refine ⟨zs.take len',.inr ⟨b,off,cap',by rw [hlen],?_,?_⟩,by rw [hlen];omega,?_⟩
   ·have:=hc 0 (by omega)
    exact block_lt_of_cell this
   ·intro j x hj
    rw [List.getElem?_take] at hj
    split at hj
    ·have:=hc j (by omega)
     rw [this,List.getD_eq_getElem?_getD,hj];rfl
    ·cases hj
   ·intro x hx
    have:=bounds_i64 (hwz x (List.mem_of_mem_take hx))
    omega
set_option maxRecDepth 100000 in
theorem vals_trod {H:Type} {enc:TypeId × Value → H} {W:World} {v:Value} {fuel:Nat} {z:DataW H × List MemPlace} (hf:DataW.trod enc Tryd.prog W 0 (fun _=>true) true fuel 30 [v] = some z):∃ l,IsVals W v l ∧ FitsV l:=by
 rcases Go.Deep.open_slice Tryd.underlying30 hf with ⟨hcs,hx⟩ | ⟨a,len,cap,m,n,D,Pl,hcs,hb,hl,hm,hmm,hx,hi⟩
 ·obtain rfl:v = .slice none 0 0:=by simpa using hcs
  exact ⟨[],.inl ⟨rfl,none,0,rfl⟩,by simp [FitsV]⟩
 ·obtain rfl:v = .slice (some a) len cap:=by simpa using hcs
  rw [if_pos rfl] at hmm
  by_cases h0:len = 0
  ·subst h0
   exact ⟨[],.inl ⟨rfl,_,_,rfl⟩,by simp [FitsV]⟩
  ·have hex:∀ i,∃ x:Val,i < len → x.Ok ∧ ∀ j u,(valCells x)[j]? = some u → W.cell? ((a.add (i * 3)).add j) = some u:=by
    intro i
    by_cases hil:i < len
    ·obtain ⟨cs',hc,ht⟩:=hi i (by omega)
     rw [cells_val] at hc
     obtain ⟨x,rfl,hok⟩:=val_fields ht
     obtain ⟨_,hcl,hat⟩:=World.cells?_some hc
     refine ⟨x,fun _=>⟨hok,fun j u hj=>?_⟩⟩
     rw [hat j (by have:=(List.getElem?_eq_some_iff.1 hj).1;simpa [valCells] using this),hj]
    ·exact ⟨⟨0,0,⟨#[]⟩⟩,fun h=>absurd h hil⟩
   obtain ⟨X,hX⟩:=Classical.axiomOfChoice hex
   have h00:=(hX 0 (by omega)).2 0 _ rfl
   obtain ⟨b,off,spot⟩:=a
   have hspot:spot = none:=by simpa [Addr.add] using World.cell?_spot h00
   subst hspot
   have hlen:((List.range len).map X).length = len:=by simp
   refine ⟨(List.range len).map X,.inr ⟨b,off,cap,by rw [hlen],?_,?_⟩,by rw [hlen];omega,?_⟩
   ·rw [Go.WideShapes.add_plain,Go.WideShapes.add_plain] at h00
    exact block_lt_of_cell h00
   ·intro j x hj
    rw [List.getElem?_map] at hj
    have hjl:j < len:=by
     rcases Nat.lt_or_ge j len with h' | h'
     ·exact h'
     ·rw [List.getElem?_eq_none (by simpa using h')] at hj;cases hj
    rw [List.getElem?_range hjl] at hj
    obtain rfl:=Option.some.inj hj
    have:=(hX j hjl).2
    simp only [Go.WideShapes.add_plain] at this
    refine ⟨this 0 _ rfl,this 1 _ rfl,this 2 _ rfl⟩
   ·intro x hx
    obtain ⟨j,hj,rfl⟩:=List.mem_map.1 hx
    exact (hX j (List.mem_range.1 hj)).1
theorem cells_ints:Tryd.prog.cellsOf 22 = 1:=by kernel_rfl
theorem cells_vals:Tryd.prog.cellsOf 30 = 1:=by kernel_rfl
theorem cells_lf:Tryd.prog.cellsOf 24 = 5:=by kernel_rfl
theorem cells_col:Tryd.prog.cellsOf 32 = 4:=by kernel_rfl
set_option maxRecDepth 100000 in
theorem args_lf {H:Type} {enc:TypeId × Value → H} {W:World} {v:Value} {d:DataW H} {p:List MemPlace} {base:Nat} (okv:Value.okWide Tryd.prog W .any base 24 v)
  (h:DataW.Trod enc Tryd.prog W 0 (fun _=>true) true 24 v d p):∃ f:Lf,IsLf W v f ∧ f.Ok:=by
 obtain ⟨cs,rfl,hsz⟩:=okWide_struct Tryd.underlying24 okv
 obtain ⟨fuel,hf⟩:=h
 obtain ⟨xs,n,_,_,hlen,hxl,hq⟩:=DataW.trod_struct Tryd.underlying24 hf
 rw [cells_lf] at hlen
 have hl9:cs.toList.length = 5:=by simpa [Value.cells] using hlen
 obtain ⟨L⟩:=cs
 simp only [Value.cells] at hq
 match L,hl9 with
 | [c0,c1,c2,c3,c4],_ =>
  match xs,hxl with
  | [y0,y1,y2,y3,y4],_ =>
   have f0:DataW.trod enc Tryd.prog W 0 (fun _=>true) true n 3 [c0] = some y0:=field_of hq 0 _ rfl _ 0 1 rfl rfl cells_int1
   have f1:DataW.trod enc Tryd.prog W 0 (fun _=>true) true n 3 [c1] = some y1:=field_of hq 1 _ rfl _ 1 1 rfl rfl cells_int1
   have f2:DataW.trod enc Tryd.prog W 0 (fun _=>true) true n 3 [c2] = some y2:=field_of hq 2 _ rfl _ 2 1 rfl rfl cells_int1
   have f3:DataW.trod enc Tryd.prog W 0 (fun _=>true) true n 3 [c3] = some y3:=field_of hq 3 _ rfl _ 3 1 rfl rfl cells_int1
   have f4:DataW.trod enc Tryd.prog W 0 (fun _=>true) true n 22 [c4] = some y4:=field_of hq 4 _ rfl _ 4 1 rfl rfl cells_ints
   obtain ⟨a,ha,_,wa⟩:=DataW.trod_int Tryd.underlying3 f0
   obtain ⟨b,hb,_,wb⟩:=DataW.trod_int Tryd.underlying3 f1
   obtain ⟨c,hc,_,wc⟩:=DataW.trod_int Tryd.underlying3 f2
   obtain ⟨e,he,_,we⟩:=DataW.trod_int Tryd.underlying3 f3
   obtain ⟨l,hl,fl⟩:=ints_trod f4
   simp only [List.cons.injEq,and_true] at ha hb hc he
   subst ha hb hc he
   have ba:=bounds_i64 wa
   have bb:=bounds_i64 wb
   have bc:=bounds_i64 wc
   have be:=bounds_i64 we
   exact ⟨⟨a,b,c,e,l⟩,⟨c4,rfl,hl⟩,⟨ba.1,by show a < _;omega,bb.1,by show b < _;omega,bc.1,by show c < _;omega,be.1,by show e < _;omega,fl⟩⟩
end Go.Proofs.YtkmhmnffbgedgaaDoor
/- A column that came in, opened, with the reach. -/
namespace Go.Proofs.YtkmhmnffbgedgaaDoor
set_option linter.unusedVariables false
open Go Go.RowKit Go.ChangeShapes Go.WideShapes Go.ChangeAt
theorem bytes_int:Tryd.prog.bytesOf 3 = 8:=by kernel_rfl
theorem bytes_val:Tryd.prog.bytesOf 61 = 32:=by kernel_rfl
theorem ints_reach {H:Type} {enc:TypeId × Value → H} {W:World} {v:Value} {fuel:Nat} {z:DataW H × List MemPlace} (hf:DataW.trod enc Tryd.prog W 0 (fun _=>true) true fuel 22 [v] = some z) {l:List Int} (hI:IsInts W v l)
  (hw:∀ n ∈ z.1.weights Tryd.prog 22,n ≤ reachBytes):l.length * 8 ≤ 140737488355328:=by
 obtain ⟨ad,cp,rfl⟩:=hI.form
 rcases Go.Deep.open_slice Tryd.underlying22 hf with ⟨hcs,hx⟩ | ⟨a,len,cap,m,n,D,Pl,hcs,hb,hl,hm,hmm,rfl,hi⟩
 ·simp at hcs
  rw [hcs.2.1];simp
 ·simp at hcs
  rw [if_pos rfl] at hmm
  have:=hw ((((List.range len).map D).length + ((List.range (m - len)).map fun j=>D (len + j)).length) * Tryd.prog.bytesOf 3) (by unfold DataW.weights;rw [Tryd.underlying22];simp)
  rw [bytes_int] at this
  simp [reachBytes] at this
  omega
theorem vals_reach {H:Type} {enc:TypeId × Value → H} {W:World} {v:Value} {fuel:Nat} {z:DataW H × List MemPlace} (hf:DataW.trod enc Tryd.prog W 0 (fun _=>true) true fuel 30 [v] = some z) {l:List Val} (hI:IsVals W v l)
  (hw:∀ n ∈ z.1.weights Tryd.prog 30,n ≤ reachBytes):l.length * 32 ≤ 140737488355328:=by
 obtain ⟨ad,cp,rfl⟩:=hI.form
 rcases Go.Deep.open_slice Tryd.underlying30 hf with ⟨hcs,hx⟩ | ⟨a,len,cap,m,n,D,Pl,hcs,hb,hl,hm,hmm,rfl,hi⟩
 ·simp at hcs
  rw [hcs.2.1];simp
 ·simp at hcs
  rw [if_pos rfl] at hmm
  have:=hw ((((List.range len).map D).length + ((List.range (m - len)).map fun j=>D (len + j)).length) * Tryd.prog.bytesOf 61) (by unfold DataW.weights;rw [Tryd.underlying30];simp)
  rw [bytes_val] at this
  simp [reachBytes] at this
  omega
end Go.Proofs.YtkmhmnffbgedgaaDoor
